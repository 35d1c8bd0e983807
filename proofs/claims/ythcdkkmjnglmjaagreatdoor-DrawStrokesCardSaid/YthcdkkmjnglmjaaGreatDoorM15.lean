/- Merged texts: Of Pmap Wop WithS. -/
import Derived.Test.YthcdkkmjnglmjaaGreatDoorM14
import Derived.Test.YthcdkkmjnglmjaaGreatDoorM1
import Derived.Maps.OwnIn
import Derived.Test.YthcdkkmjnglmjaaGreatDoorM12
set_option linter.unusedSimpArgs false
set_option linter.unusedVariables false
/- Layer 5: Of, Show, New. -/
namespace Go.Proofs.YthcdkkmjnglmjaaGreatDoor
open Go.RowKit Go.Shelf
attribute [local go_sem] Oper.semAt_some
/-- A row of tiles that is read; it lies at lo or above. -/
def RowGot (lo : Nat) (w : World) (v : Value) (ts : List TileT) : Prop := ∃ a cap, v = .slice a ts.length cap ∧ ts.length ≤ cap ∧ (∀ ad, a = some ad → lo ≤ ad.block) ∧ Elems w (.slice a ts.length cap) ts.length 256 (rowC encT ts)
theorem RowGot.below {lo : Nat} {w w' : World} {v : Value} {ts : List TileT} (h : RowGot lo w v ts) (hb : Below w.heap.size w w') : RowGot lo w' v ts := by
 obtain ⟨a, cap, rfl, h1, h2, h3⟩ := h
 exact ⟨a, cap, rfl, h1, h2, h3.below hb⟩
theorem RowGot.of {lo : Nat} {w : World} {base : Nat} {v : Value} {ts : List TileT} {e : TypeId} (h : w.ownsRow base e 256 v ts.length (ts.flatMap encT)) (hl : lo ≤ base) : RowGot lo w v ts := by
 have he := ownsRow_rows encT_len h
 rcases h.2 with ⟨rfl, h0⟩ | ⟨g, cap, cur, rfl, hg, _, h1, _⟩
 · exact ⟨none, 0, by rw [h0], by omega, fun _ e => (by cases e), by rw [h0] at he ⊢; exact he⟩
 · exact ⟨_, cap, rfl, h1, fun ad e => (by cases e; exact Nat.le_trans hl hg), he⟩
theorem Elems.other {w : World} {a : Option Addr} {n cap k m : Nat} {c : Nat → Value} (h : Elems w (.slice a n cap) m k c) {p : Nat} (hp : ∀ ad, a = some ad → p ≠ ad.block) (j : Nat) (u : Value) : Elems (w.setCell ⟨p, j, none⟩ u) (.slice a n cap) m k c := by
 rcases h with h | ⟨b, off, cap', e, hlt, hc⟩
 · exact .inl h
 · cases e
   refine .inr ⟨b, off, cap, rfl, by rw [World.size_setCell]; exact hlt, fun i hi => ?_⟩
   rw [← hc i hi]
   exact World.cell?_of_block (Below.heap_setCell w ⟨p, j, none⟩ u b (fun e => hp _ rfl e.symm))
/-- The pointers of a canvas. -/
theorem row_ptrs {w : World} {base : Nat} {v : Value} {qs : List Nat} (h : w.ownsRow base 76 1 v qs.length (qs.flatMap encQ)) (h0 : 0 < qs.length) :
 ∃ b cap, v = .slice (some ⟨b, 0, none⟩) qs.length cap ∧ qs.length ≤ cap ∧ base ≤ b ∧ b < w.heap.size ∧ ∀ (i q : Nat), qs[i]? = some q → w.cell? ⟨b, i, none⟩ = some (.pointer (some ⟨q, 0, none⟩)) := by
 have h' := h
 rcases h.2 with ⟨_, h0'⟩ | ⟨g, cap, cur, rfl, hb, hg, h1, _⟩
 · omega
 · refine ⟨g, cap, rfl, h1, hb, b7t hg, fun i q hq => ownsRow_cell h' ?_⟩
   have := flat_get encQ_len qs i 0 (by decide)
   simp only [Nat.mul_one, Nat.add_zero] at this
   rw [this, hq]
   rfl
/-- A canvas that is made. -/
def GivesCan (C : CanT) (w : World) (e : Ending) (w' : World) : Prop := ∃ p, e = .returned (.tuple #[.pointer (some ⟨p, 0, none⟩), .int .i64 0]) ∧ CanAt w' p C ∧ w.heap.size ≤ p ∧ Below w.heap.size w w'
set_option maxRecDepth 100000 in
set_option maxHeartbeats 1000000 in
theorem of_good (C : CanT) (hC : okCan C) (a : Option Addr) (cap : Nat) (w : World) (he : Elems w (.slice a C.tiles.length cap) C.tiles.length 256 (rowC encT C.tiles)) :
 Calls Tryz.prog 10 #[.agg #[.int .i64 C.wide, .int .i64 C.high, .slice a C.tiles.length cap]] w (GivesCan C w) := by
 have HS := H7 (St.start w)
 have HM := H7 (fun w' (hb : Below w.heap.size w w') => madeOf_any a C.tiles.length cap C.tiles rfl (by have := hC.len; omega) w' (he.below hb))
 have hok : okE C.wide C.high C.tiles.length = true := by
  unfold okE
  rw [mayB_iff.2 ⟨by have := hC.wide; omega, by have := hC.high; omega⟩, Bool.true_and]
  refine decide_eq_true ?_
  rw [hC.many]; simp
 have HCK := H7 (fun w' => canCheck_any C.wide C.high a C.tiles.length cap w')
 rw [hok] at HCK
 have HOK := H7 hC
 have h0 : 0 < C.tiles.length := by
  rw [hC.many]
  exact Nat.mul_pos hC.wide.1 hC.high.1
 have H0 := H7 h0
 obtain ⟨wide, hwide⟩ : ∃ wide, C.wide = wide := ⟨_, rfl⟩
 obtain ⟨high, hhigh⟩ : ∃ high, C.high = high := ⟨_, rfl⟩
 obtain ⟨n, hn⟩ : ∃ n, C.tiles.length = n := ⟨_, rfl⟩
 have HWH := H7 (And.intro hwide (And.intro hhigh hn))
 rw [hwide, hhigh, hn] at HCK ⊢
 rw [hn] at HM
 clear hok h0 hwide hhigh hn he hC
 go_enter Tryz.func10, Tryz.ntmps10
 repeat ((fail_if_success (with_reducible refine stop_at (id := 1) ?_)); (first | go_values | go_skip | go_guarded | go_step | go_upon | go_back | (simp only [Int.not_lt, Int.not_le] at *; go_simp) | (go_values <;> (try go_simp)) | (go_ite <;> go_prune <;> (try go_simp)) | (split <;> (first | (rename_i hx; exact (hx _ rfl).elim) | go_prune))))
 have hs_ := (HS.out.alloc (.cells #[.int .i64 wide, .int .i64 high, .slice a n cap] 24))
 obtain ⟨w1, hw_⟩ : ∃ w1 : World, (w.alloc (.cells #[.int .i64 wide, .int .i64 high, .slice a n cap] 24)) = w1 := ⟨_, rfl⟩
 rw [hw_] at hs_
 try simp only [World.size_alloc] at hs_
 have HS := H7 hs_
 rw [hw_]
 clear hw_ hs_
 have q0 := h7c HS 0 0 rfl rfl
 have q1 := h7c HS 0 1 rfl rfl
 have q2 := h7c HS 0 2 rfl rfl
 go_wp2_with fail
 clear q0 q1 q2
 refine (HCK.out _).mono ?_
 rintro e w2 ⟨rfl, hb_⟩
 have HS := H7 (HS.out.below hb_)
 clear hb_
 have q2 := h7c HS 0 2 rfl rfl
 go_wp2_with fail
 clear q2
 refine (HM.out _ HS.out.low).mono ?_
 rintro e w3 ⟨v, qs, rfl, hr, htp, hb⟩
 have hlq : qs.length = n := by rw [htp.len]; exact HWH.out.2.2
 obtain ⟨b, cap2, rfl, hcap, hbb, hblt, hcell⟩ := row_ptrs hr (by rw [hlq, ← HWH.out.2.2]; exact H0.out)
 rw [hlq] at hcap
 have HS := H7 (HS.out.below hb)
 have HR := H7 (And.intro hlq (And.intro hcap (And.intro hblt (And.intro hcell htp))))
 rw [hlq]
 clear hr htp hb hlq hcap hbb hblt hcell HM HCK
 have q0 := h7c HS 0 0 rfl rfl
 have q1 := h7c HS 0 1 rfl rfl
 go_wp2_with fail
 clear q0 q1
 have hb4 := (B7 w3.heap.size w3).alloc (Nat.le_refl _) (.cells #[.int .i64 wide, .int .i64 high, .slice (some ⟨b, 0, none⟩) n cap2] 81)
 refine bodyPost_ret (v := .tuple #[.pointer (some ⟨w3.heap.size, 0, none⟩), .int .i64 0]) (by simp [results, Tryz.results10, go_sem]) rfl ⟨_, rfl, ⟨HOK.out, b, cap2, qs, ?_, ?_, ?_, ?_, ?_⟩, HS.out.size, HS.out.low.trans (hb4.mono HS.out.size)⟩
 · rw [HWH.out.1, HWH.out.2.1, HWH.out.2.2]
   exact World.alloc_heap_new _ _
 · rw [HWH.out.2.2]; exact HR.out.2.1
 · rw [HWH.out.2.2]; exact HR.out.1
 · exact fun i q hq => (hb4.cell (p := ⟨b, i, none⟩) HR.out.2.2.1).trans (HR.out.2.2.2.1 i q hq)
 · exact (HR.out.2.2.2.2.below hb4).at_
set_option maxRecDepth 100000 in
set_option maxHeartbeats 1000000 in
theorem of_bad (wide high : Int) (a : Option Addr) (n cap : Nat) (hok : okE wide high n = false) (w : World) :
 Calls Tryz.prog 10 #[.agg #[.int .i64 wide, .int .i64 high, .slice a n cap]] w (Gives (.tuple #[.pointer none, .int .i64 150]) w) := by
 have HS := H7 (St.start w)
 have HCK := H7 (fun w' => canCheck_any wide high a n cap w')
 rw [hok] at HCK
 clear hok
 go_enter Tryz.func10, Tryz.ntmps10
 repeat ((fail_if_success (with_reducible refine stop_at (id := 1) ?_)); (first | go_values | go_skip | go_guarded | go_step | go_upon | go_back | (simp only [Int.not_lt, Int.not_le] at *; go_simp) | (go_values <;> (try go_simp)) | (go_ite <;> go_prune <;> (try go_simp)) | (split <;> (first | (rename_i hx; exact (hx _ rfl).elim) | go_prune))))
 have hs_ := (HS.out.alloc (.cells #[.int .i64 wide, .int .i64 high, .slice a n cap] 24))
 obtain ⟨w1, hw_⟩ : ∃ w1 : World, (w.alloc (.cells #[.int .i64 wide, .int .i64 high, .slice a n cap] 24)) = w1 := ⟨_, rfl⟩
 rw [hw_] at hs_
 try simp only [World.size_alloc] at hs_
 have HS := H7 hs_
 rw [hw_]
 clear hw_ hs_
 have q0 := h7c HS 0 0 rfl rfl
 have q1 := h7c HS 0 1 rfl rfl
 have q2 := h7c HS 0 2 rfl rfl
 go_wp2_with fail
 clear q0 q1 q2
 refine (HCK.out _).mono ?_
 rintro e w2 ⟨rfl, hb_⟩
 have HS := H7 (HS.out.below hb_)
 clear hb_
 rw [errOf_false]
 go_wp2_with fail
 refine bodyPost_ret (v := .tuple #[.pointer none, .int .i64 150]) (by simp [results, Tryz.results10, go_sem]) rfl ⟨rfl, HS.out.low⟩
/-- What a canvas shows, as an argument. -/
def GivesV (C : CanT) (w : World) (e : Ending) (w' : World) : Prop := ∃ v, e = .returned v ∧ CanV w' C v ∧ Below w.heap.size w w'
set_option maxRecDepth 100000 in
set_option maxHeartbeats 1000000 in
theorem show_any (C : CanT) (p : Nat) (w : World) (hC : CanAt w p C) : Calls Tryz.prog 26 #[.pointer (some ⟨p, 0, none⟩)] w (GivesV C w) := by
 obtain ⟨ok, b, cap, qs, h1, h2, h3, h4, h5⟩ := hC
 have hlen := ok.len
 have hb : b < w.heap.size := by
  have h0 : 0 < qs.length := by
   rw [h3, ok.many]
   exact Nat.mul_pos ok.wide.1 ok.high.1
  exact cell_lt (h4 0 _ (List.getElem?_eq_getElem h0))
 have HM := H7 (fun w' (hw : Below w.heap.size w w') => madeShow_any b C.tiles.length cap qs C.tiles h3 (by omega) w' (fun i q hq => (hw.cell (p := ⟨b, i, none⟩) hb).trans (h4 i q hq)) (Nat.lt_of_lt_of_le hb hw.size) (TP.below ⟨h3, h5⟩ hw))
 have HH := H7 h1
 have HS := H7 (St.start w)
 obtain ⟨wide, high, ts⟩ := C
 simp only at HM HH ⊢
 obtain ⟨n, hn⟩ : ∃ n, ts.length = n := ⟨_, rfl⟩
 have HNN := H7 hn
 rw [hn] at HM HH
 clear ok hlen hb h1 h2 h3 h4 h5 hn
 go_enter Tryz.func26, Tryz.ntmps26
 repeat ((fail_if_success (with_reducible refine stop_at (id := 3) ?_)); (first | go_values | go_skip | go_guarded | go_step | go_upon | go_back | (simp only [Int.not_lt, Int.not_le] at *; go_simp) | (go_values <;> (try go_simp)) | (go_ite <;> go_prune <;> (try go_simp)) | (split <;> (first | (rename_i hx; exact (hx _ rfl).elim) | go_prune))))
 have hs_ := (HS.out.alloc (.cells #[.int .i64 0, .int .i64 0, .slice none 0 0] 24))
 obtain ⟨w1, hw_⟩ : ∃ w1 : World, (w.alloc (.cells #[.int .i64 0, .int .i64 0, .slice none 0 0] 24)) = w1 := ⟨_, rfl⟩
 rw [hw_] at hs_
 try simp only [World.size_alloc] at hs_
 have HS := H7 hs_
 rw [hw_]
 clear hw_ hs_
 refine (wpIn_wide (n := 0)).1 ?_
 apply w7v 15 (Rl := [(eqv _), (eqv _), (eqv _), (eqv _), (eqv _), (eqv _), (eqv _), (eqv _), (eqv _), (eqv _), (eqv _), (eqv _), (eqv _), (eqv _), (fun v_ w_ => RowGot (w.heap.size + 1) w_ v_ ts)]) (C := (fun x y => Below x.heap.size x y))
 case hm => kernel_rfl
 case hk => rfl
 case hCr => exact (fun _ => B7 _ _)
 case hCt => intro _ _ _; exact (fun h k => g7t h k)
 case hst => exact ⟨fun _ _ _ _ h => h, fun _ _ _ _ h => h, fun _ _ _ _ h => h, fun _ _ _ _ h => h, fun _ _ _ _ h => h, fun _ _ _ _ h => h, fun _ _ _ _ h => h, fun _ _ _ _ h => h, fun _ _ _ _ h => h, fun _ _ _ _ h => h, fun _ _ _ _ h => h, fun _ _ _ _ h => h, fun _ _ _ _ h => h, fun _ _ _ _ h => h, fun _ _ _ hC h => h.below hC, trivial⟩
 case hfo => kernel_rfl
 case ht => kernel_rfl
 case hC0 => exact (g7d _)
 case hsteps =>
  refine ⟨?_, ?_, ?_, ?_, ?_, ?_, ?_, ?_, ?_, ?_, ?_, ?_, ?_, ?_, ?_, trivial⟩
  · intro a' w' hA hC hD; have s0 := hA.to 0 (by kernel_rfl) rfl; clear hA hD; refine o7p rfl ?_; intro K hK; gi_wp2; exact hK _ _ rfl (B7 _ _)
  · intro a' w' hA hC hD; obtain ⟨u6, s6, rfl⟩ := hD ⟨0, .data⟩ (by simp) rfl _ rfl; clear hA hD; refine o7p rfl ?_; intro K hK; gi_wp2; exact hK _ _ rfl (B7 _ _)
  · intro a' w' hA hC hD; obtain ⟨u7, s7, rfl⟩ := hD ⟨1, .data⟩ (by simp) rfl _ rfl; clear hA hD; refine o7p rfl ?_; intro K hK; gi_wp2; exact hK _ _ rfl (B7 _ _)
  · intro a' w' hA hC hD; obtain ⟨u8, s8, rfl⟩ := hD ⟨2, .data⟩ (by simp) rfl _ rfl; clear hA hD; refine o7p rfl ?_; intro K hK; gi_wp2; exact hK _ _ rfl (B7 _ _)
  · intro a' w' hA hC hD; obtain ⟨u9, s9, rfl⟩ := hD ⟨3, .data⟩ (by simp) rfl _ rfl
    have hb1 := ((HS.out.below hC).low.block _ (b7t HH.out)).trans HH.out; have s0 := c7b (k := 0) hb1 rfl; clear hb1
    clear hA hD; refine o7p rfl ?_; intro K hK; gi_wp2; exact hK _ _ rfl (B7 _ _)
  · intro a' w' hA hC hD; have s0 := hA.to 0 (by kernel_rfl) rfl; clear hA hD; refine o7p rfl ?_; intro K hK; gi_wp2; exact hK _ _ rfl (B7 _ _)
  · intro a' w' hA hC hD; obtain ⟨u11, s11, rfl⟩ := hD ⟨5, .data⟩ (by simp) rfl _ rfl; clear hA hD; refine o7p rfl ?_; intro K hK; gi_wp2; exact hK _ _ rfl (B7 _ _)
  · intro a' w' hA hC hD; obtain ⟨u12, s12, rfl⟩ := hD ⟨6, .data⟩ (by simp) rfl _ rfl; clear hA hD; refine o7p rfl ?_; intro K hK; gi_wp2; exact hK _ _ rfl (B7 _ _)
  · intro a' w' hA hC hD; obtain ⟨u13, s13, rfl⟩ := hD ⟨7, .data⟩ (by simp) rfl _ rfl; clear hA hD; refine o7p rfl ?_; intro K hK; gi_wp2; exact hK _ _ rfl (B7 _ _)
  · intro a' w' hA hC hD; obtain ⟨u14, s14, rfl⟩ := hD ⟨8, .data⟩ (by simp) rfl _ rfl
    have hb1 := ((HS.out.below hC).low.block _ (b7t HH.out)).trans HH.out; have s0 := c7b (k := 1) hb1 rfl; clear hb1
    clear hA hD; refine o7p rfl ?_; intro K hK; gi_wp2; exact hK _ _ rfl (B7 _ _)
  · intro a' w' hA hC hD; have s0 := hA.to 0 (by kernel_rfl) rfl; clear hA hD; refine o7p rfl ?_; intro K hK; gi_wp2; exact hK _ _ rfl (B7 _ _)
  · intro a' w' hA hC hD; obtain ⟨u16, s16, rfl⟩ := hD ⟨10, .data⟩ (by simp) rfl _ rfl; clear hA hD; refine o7p rfl ?_; intro K hK; gi_wp2; exact hK _ _ rfl (B7 _ _)
  · intro a' w' hA hC hD; obtain ⟨u17, s17, rfl⟩ := hD ⟨11, .data⟩ (by simp) rfl _ rfl; clear hA hD; refine o7p rfl ?_; intro K hK; gi_wp2; exact hK _ _ rfl (B7 _ _)
  · intro a' w' hA hC hD; obtain ⟨u18, s18, rfl⟩ := hD ⟨12, .data⟩ (by simp) rfl _ rfl
    have hb1 := ((HS.out.below hC).low.block _ (b7t HH.out)).trans HH.out; have s0 := c7b (k := 2) hb1 rfl; clear hb1
    clear hA hD; refine o7p rfl ?_; intro K hK; gi_wp2; exact hK _ _ rfl (B7 _ _)
  · intro a' w' hA hC hD; obtain ⟨u19, s19, rfl⟩ := hD ⟨13, .data⟩ (by simp) rfl _ rfl; clear hA hD; refine o7p rfl ?_; intro K hK
    gi_wp2_with fail; refine (callsIn_wide.2 (HM.out _ (HS.out.below hC).low)).mono ?_; rintro e w5 ⟨v5, rfl, hr5, hb5⟩
    exact hK _ _ (RowGot.of (HNN.out.symm ▸ hr5) (Nat.le_trans (show w.heap.size + 1 ≤ w1.heap.size from HS.out.lt 0 rfl) hC.size)) hb5
 case hend =>
  intro w3 hC
  simp only [EndFrom, eqv, forall_eq, Act.put, List.length_cons, List.length_nil, List.drop_succ_cons, List.drop_zero, Nat.reduceAdd, List.setIfInBounds_toArray, List.set_cons_succ, List.set_cons_zero]
  rintro v14 ⟨a3, c3, rfl, hc3, hlo3, he3⟩
  rw [HNN.out] at hc3 he3 ⊢
  have HS := H7 (HS.out.below hC)
  have HE3 := H7 (And.intro hc3 (And.intro he3 hlo3))
  clear hC hc3 he3 hlo3
  have k0 := h7c HS 0 0 rfl rfl
  have k1 := h7c HS 0 1 rfl rfl
  have k2 := h7c HS 0 2 rfl rfl
  have f0 := f7b (HS.out.blockAt 0 rfl)
  gi_wp2
  go_wp2_with fail
  have h0 := HS.out.low
  have hs : ∀ {z : World} (k : Nat) (v : Value), Below w.heap.size w z → Below w.heap.size w (z.setCell ⟨w.heap.size, k, none⟩ v) := fun k v h => h.setCell (Nat.le_refl _) v
  refine bodyPost_ret (v := .agg #[.int .i64 wide, .int .i64 high, .slice a3 n c3]) (by simp [results, Tryz.results26, go_sem, k0, k1, k2]) rfl ⟨_, rfl, ⟨a3, c3, ?_, ?_, ?_⟩, hs _ _ (hs _ _ (hs _ _ h0))⟩
  · simp only [HNN.out]
  · simp only [HNN.out]; exact HE3.out.1
  · simp only [HNN.out]
    have ho : ∀ ad, a3 = some ad → w.heap.size ≠ ad.block := fun ad e => by have := HE3.out.2.2 ad e; omega
    exact ((HE3.out.2.1.other ho _ _).other ho _ _).other ho _ _
theorem St.addC {w0 x : World} {its : List It} (h : St w0 its x) {q : Nat} {o : Obj} (hq : x.heap[q]? = some o) (hl : ∀ i ∈ its, i.top ≤ q) (h0 : w0.heap.size ≤ q) : St w0 (.blk q o :: its) x := by
 refine ⟨h.low, fun i hi => ?_, ⟨h0, hl, h.ord⟩, fun i hi => ?_⟩
 · rcases List.mem_cons.1 hi with rfl | hi
   · exact hq
   · exact h.ok i hi
 · rcases List.mem_cons.1 hi with rfl | hi
   · exact b7t hq
   · exact h.top i hi
/-- The empty canvas of one tile. -/
def zeroT : TileT := ⟨List.replicate 64 zeroC, by simp⟩
def canE : CanT := ⟨1, 1, [zeroT]⟩
theorem canE_ok : okCan canE := ⟨by decide, by decide, rfl, fun t ht c hc => by
 simp only [canE, List.mem_singleton] at ht
 subst ht
 simp only [zeroT, List.mem_replicate] at hc
 rw [hc.2]
 unfold okC zeroC
 decide⟩
theorem zeroT_cells : (encT zeroT).toArray = Tryz.zeroCells75 := by kernel_rfl
set_option maxRecDepth 100000 in
set_option maxHeartbeats 1000000 in
theorem new_any (w : World) : Calls Tryz.prog 41 #[.int .i64 1, .int .i64 1] w (GivesCan canE w) := by
 have HS := H7 (St.start w)
 have HM := H7 (may_any 1 1)
 rw [show mayB 1 1 = true by decide] at HM
 go_enter Tryz.func41, Tryz.ntmps41
 repeat ((fail_if_success (with_reducible refine stop_at (id := 2) ?_)); (first | go_values | go_skip | go_guarded | go_step | go_upon | go_back | (simp only [Int.not_lt, Int.not_le] at *; go_simp) | (go_values <;> (try go_simp)) | (go_ite <;> go_prune <;> (try go_simp)) | (split <;> (first | (rename_i hx; exact (hx _ rfl).elim) | go_prune))))
 have hs_ := (HS.out.alloc (.cells #[.int .i64 1, .int .i64 1] 79))
 obtain ⟨w1, hw_⟩ : ∃ w1 : World, (w.alloc (.cells #[.int .i64 1, .int .i64 1] 79)) = w1 := ⟨_, rfl⟩
 rw [hw_] at hs_
 try simp only [World.size_alloc] at hs_
 have HS := H7 hs_
 rw [hw_]
 clear hw_ hs_
 have p0 := h7c HS 0 0 rfl rfl
 have p1 := h7c HS 0 1 rfl rfl
 go_wp2_with fail
 clear p0 p1
 refine (HM.out _).mono ?_
 rintro e w2 ⟨rfl, hb_⟩
 have HS := H7 (HS.out.below hb_)
 clear hb_
 repeat ((fail_if_success (with_reducible refine stop_at (id := 4) ?_)); (first | go_values | go_skip | go_guarded | go_step | go_upon | go_back | (simp only [Int.not_lt, Int.not_le] at *; go_simp) | (go_values <;> (try go_simp)) | (go_ite <;> go_prune <;> (try go_simp)) | (split <;> (first | (rename_i hx; exact (hx _ rfl).elim) | go_prune))))
 have p0 := h7c HS 0 0 rfl rfl
 have p1 := h7c HS 0 1 rfl rfl
 clear p0 p1
 refine (wpIn_wide (n := 0)).1 ?_
 apply w7v 5 (Rl := [(eqv _), (eqv _), (eqv _), (eqv _), (fun v_ w_ => ∃ b, v_ = .slice (some ⟨b, 0, none⟩) 1 1 ∧ w2.heap.size ≤ b ∧ w_.heap[b]? = some (.cells #[.pointer none] 76 (0, 0)))]) (C := (fun x y => Below x.heap.size x y))
 case hm => kernel_rfl
 case hk => rfl
 case hCr => exact (fun _ => B7 _ _)
 case hCt => intro _ _ _; exact (fun h k => g7t h k)
 case hst => exact ⟨fun _ _ _ _ h => h, fun _ _ _ _ h => h, fun _ _ _ _ h => h, fun _ _ _ _ h => h, fun _ _ _ hC ⟨b, e, h1, h2⟩ => ⟨b, e, h1, (hC.block _ (b7t h2)).trans h2⟩, trivial⟩
 case hfo => kernel_rfl
 case ht => kernel_rfl
 case hC0 => exact (g7d _)
 case hsteps =>
  refine ⟨?_, ?_, ?_, ?_, ?_, trivial⟩
  · intro a' w' hA hC hD; have s6 := hA.to 6 (by kernel_rfl) rfl
    have h1_ := (HS.out.below hC).blockAt 0 rfl; have c1_0 := c7b (k := 0) h1_ rfl; have c1_1 := c7b (k := 1) h1_ rfl; clear h1_
    clear hA hD; refine o7p rfl ?_; intro K hK; gi_wp2; exact hK _ _ rfl (B7 _ _)
  · intro a' w' hA hC hD; have s0 := hA.to 0 (by kernel_rfl) rfl; clear hA hD; refine o7p rfl ?_; intro K hK; gi_wp2; exact hK _ _ rfl (B7 _ _)
  · intro a' w' hA hC hD; have s1 := hA.to 1 (by kernel_rfl) rfl; clear hA hD; refine o7p rfl ?_; intro K hK; gi_wp2; exact hK _ _ rfl (B7 _ _)
  · intro a' w' hA hC hD; obtain ⟨u17, s17, rfl⟩ := hD ⟨1, .data⟩ (by simp) rfl _ rfl; obtain ⟨u18, s18, rfl⟩ := hD ⟨2, .data⟩ (by simp) rfl _ rfl; clear hA hD; refine o7p rfl ?_; intro K hK; gi_wp2; exact hK _ _ rfl (B7 _ _)
  · intro a' w' hA hC hD; obtain ⟨u19, s19, rfl⟩ := hD ⟨3, .data⟩ (by simp) rfl _ rfl; clear hA hD; refine o7p rfl ?_; intro K hK; gi_wp2; exact hK (.slice (some ⟨w'.heap.size, 0, none⟩) 1 1) _ ⟨w'.heap.size, rfl, hC.size, Array.getElem?_push_size.trans (by kernel_rfl)⟩ ((B7 _ _).alloc (Nat.le_refl _) _)
 case hend =>
  intro w3 hC
  simp only [EndFrom, eqv, forall_eq, Act.put, List.length_cons, List.length_nil, List.drop_succ_cons, List.drop_zero, Nat.reduceAdd, List.setIfInBounds_toArray, List.set_cons_succ, List.set_cons_zero]
  rintro v4 ⟨b, rfl, hb1, hb2⟩
  have hs3 := (HS.out.below hC).addC hb2 (fun i hi => by rcases List.mem_singleton.1 hi with rfl; have := HS.out.lt 0 rfl; simp only [It.top]; omega) (Nat.le_trans HS.out.size hb1)
  have HS := H7 hs3
  have HS0 := H7 hs3.size
  clear hC hb1 hb2 hs3
  gi_wp2
  repeat ((fail_if_success (with_reducible refine stop_at (id := 6) ?_)); (first | go_values | go_skip | go_guarded | go_step | go_upon | go_back | (simp only [Int.not_lt, Int.not_le] at *; go_simp) | (go_values <;> (try go_simp)) | (go_ite <;> go_prune <;> (try go_simp)) | (split <;> (first | (rename_i hx; exact (hx _ rfl).elim) | go_prune))))
  have hs_ := ((HS.out.alloc (.cells #[.int .i64 1, .int .i64 1, .slice (some ⟨b, 0, none⟩) 1 1] 81)).alloc (.cells Tryz.zeroCells75 75))
  obtain ⟨w4, hw_⟩ : ∃ w4 : World, ((w3.alloc (.cells #[.int .i64 1, .int .i64 1, .slice (some ⟨b, 0, none⟩) 1 1] 81)).alloc (.cells Tryz.zeroCells75 75)) = w4 := ⟨_, rfl⟩
  rw [hw_] at hs_
  try simp only [World.size_alloc] at hs_
  have HS := H7 hs_
  rw [hw_]
  clear hw_ hs_
  have c2 := h7c HS 1 2 rfl rfl
  have b0 := h7c HS 2 0 rfl rfl
  have f0 := f7b (HS.out.blockAt 2 rfl)
  go_wp2_with fail
  refine wp_loop_rounds 2 ?_
  rw [rounds_succ]
  go_wp2_with fail
  rw [rounds_succ]
  go_wp2_with fail
  clear c2 b0 f0
  have hs5 := HS.out.putAt (pre := [.blk (w3.heap.size + 1) (.cells Tryz.zeroCells75 75 (0, 0)), .blk w3.heap.size (.cells #[.int .i64 1, .int .i64 1, .slice (some ⟨b, 0, none⟩) 1 1] 81 (0, 0))]) (by simp) 0 (.pointer (some ⟨w3.heap.size + 1, 0, none⟩)) rfl
  simp only [List.cons_append, List.nil_append] at hs5
  refine bodyPost_ret (v := .tuple #[.pointer (some ⟨w3.heap.size, 0, none⟩), .int .i64 0]) (by simp [results, Tryz.results41, go_sem]) rfl ⟨_, rfl, ⟨canE_ok, b, 1, [w3.heap.size + 1], hs5.blockAt 1 rfl, by decide, rfl, fun i q hq => ?_, fun i q t hq ht => ?_⟩, HS0.out, hs5.low⟩
  · rcases i with _ | i
    · simp only [List.getElem?_cons_zero, Option.some.injEq] at hq
      subst hq
      exact c7b (hs5.blockAt 2 rfl) rfl
    · simp at hq
  · rcases i with _ | i
    · simp only [canE, List.getElem?_cons_zero, Option.some.injEq] at hq ht
      subst hq ht
      rw [zeroT_cells]
      exact hs5.blockAt 0 rfl
    · simp at hq
end Go.Proofs.YthcdkkmjnglmjaaGreatDoor
/- Maps of numbers to pointers: which pointer is where. -/
namespace Go.Proofs.YthcdkkmjnglmjaaGreatDoor
open Go.RowKit Go.Shelf
open Go.Maps (Keyed)
/-- How a pointer reads. -/
def pR : Value → Option (DataW Unit × List MemPlace)
 | .pointer none => some (.lit (.int .i64 (-1)), [])
 | .pointer (some ⟨q, 0, none⟩) => some (.lit (.int .i64 q), [])
 | _ => none
theorem pR_inv {v : Value} {y : DataW Unit × List MemPlace} (h : pR v = some y) : (v = .pointer none ∧ y = (.lit (.int .i64 (-1)), [])) ∨ ∃ q : Nat, v = .pointer (some ⟨q, 0, none⟩) ∧ y = (.lit (.int .i64 q), []) := by
 unfold pR at h
 split at h
 · cases h; exact .inl ⟨rfl, rfl⟩
 · cases h; exact .inr ⟨_, rfl, rfl⟩
 · cases h
/-- What pointer a map of the call's own holds at a number. -/
structure PtrM (P : Program) (k : TypeId) (w : World) (b n : Nat) (f : Nat → Option Nat) (D : DataW Unit) : Prop where
 own : w.ownsMap P k pR b n D
 get : ∀ (i q : Nat), f i = some q → ∀ z, D.atKey (.int .i64 i) z = .lit (.int .i64 q)
 non : ∀ (i : Nat), f i = none → Maps.has D (.int .i64 i) = false
 key : ∀ kl, Maps.has D kl = true → ∃ i q : Nat, kl = .int .i64 i ∧ f i = some q
def PtrMap (P : Program) (k : TypeId) (w : World) (b n : Nat) (f : Nat → Option Nat) : Prop := ∃ D, PtrM P k w b n f D
section
variable {P : Program} {k : TypeId} {w w' : World} {b n : Nat} {f : Nat → Option Nat}
theorem PtrMap.lt (h : PtrMap P k w b n f) : b < w.heap.size := by obtain ⟨D, h⟩ := h; exact h.own.lt
theorem PtrMap.kept {row : Option Nat} (h : PtrMap P k w b n f) (hg : w.grownBy w' row) (hne : some b ≠ row) : PtrMap P k w' b n f := by
 obtain ⟨D, h⟩ := h
 exact ⟨D, h.own.kept hg hne, h.get, h.non, h.key⟩
theorem PtrMap.below (h : PtrMap P k w b n f) (hb : Below w.heap.size w w') : PtrMap P k w' b n f := h.kept (below_grown hb) (by simp)
theorem PtrMap.mono {m : Nat} (h : PtrMap P k w b n f) (hm : n ≤ m) : PtrMap P k w b m f := by
 obtain ⟨D, h⟩ := h
 exact ⟨D, h.own.mono hm, h.get, h.non, h.key⟩
theorem PtrMap.made (w : World) (P : Program) (k : TypeId) : PtrMap P k (w.alloc (.map #[] 0)) w.heap.size 0 (fun _ => none) :=
 ⟨.map [], ⟨World.ownsMap_made w P k pR, fun _ _ h => (by cases h), fun _ _ => rfl, fun _ h => (by cases h)⟩⟩
theorem wf_nat {i : Nat} (h : i < 1000000000) : (Lit.int .i64 (i : Int)).wf = true := WalkArith.wf_i64 (by omega)
theorem PtrM.has {D : DataW Unit} (h : PtrM P k w b n f D) {i q : Nat} (hi : f i = some q) : Maps.has D (.int .i64 i) = true :=
 Maps.has_true_of_atKey (h.get i q hi)
/-- 'm[k]' -/
theorem PtrMap.look {t e : TypeId} (h : PtrMap P k w b n f) (hk : P.underlying k = some (.int .i64)) (ht : P.underlying t = some (.map k e)) (hz : (zeroValue e).run P w = .ok (.pointer none) w) {i : Nat} (hi : i < 1000000000) :
 (Instr.lookup t (.map (some b)) (.int .i64 i) false).run P w = .ok (match f i with | some q => .pointer (some ⟨q, 0, none⟩) | none => .pointer none) w := by
 obtain ⟨D, h⟩ := h
 obtain ⟨v, ps, hr, hv⟩ := h.own.lookup (Go.Maps.int_keyed hk) ht hz (zd := .lit (.int .i64 (-1))) (zp := []) rfl (Maps.keyOf_int_mk hk (wf_nat hi))
 rw [hr]
 cases hf : f i with
 | some q =>
  rw [h.get i q hf] at hv
  rcases pR_inv hv with ⟨rfl, e⟩ | ⟨q', rfl, e⟩
  · simp only [Prod.mk.injEq, DataW.lit.injEq, Lit.int.injEq] at e
    omega
  · simp only [Prod.mk.injEq, DataW.lit.injEq, Lit.int.injEq] at e
    obtain rfl : q = q' := by omega
    rfl
 | none =>
  rw [Maps.atKey_of_not_has (h.non i hf)] at hv
  rcases pR_inv hv with ⟨rfl, e⟩ | ⟨q', rfl, e⟩
  · rfl
  · simp only [Prod.mk.injEq, DataW.lit.injEq, Lit.int.injEq] at e
    omega
theorem isKey_nat (i : Nat) (h : i < 1000000000) (hk : P.underlying k = some (.int .i64)) : WideAt.IsKeyLit (.int .i64 (i : Int)) := (Go.Maps.int_keyed hk).key (Maps.keyOf_int_mk hk (wf_nat h))
/-- 'm[k] = p' -/
theorem PtrMap.store {t e : TypeId} (h : PtrMap P k w b n f) (hk : P.underlying k = some (.int .i64)) (ht : P.underlying t = some (.map k e)) (hn : n < 1000000000) {i : Nat} (hi : i < 1000000000) (q : Nat) :
 ∃ w', (Instr.mapUpdate t (.map (some b)) (.int .i64 i) (.pointer (some ⟨q, 0, none⟩))).run P w = .ok () w' ∧ PtrMap P k w' b (n + 1) (fun j => if j = i then some q else f j) ∧ w.grownBy w' (some b) := by
 obtain ⟨D, h⟩ := h
 obtain ⟨w', hr, ho, hg⟩ := h.own.update (Go.Maps.int_keyed hk) ht (by unfold maxLen; omega) (Maps.keyOf_int_mk hk (wf_nat hi)) (val := .pointer (some ⟨q, 0, none⟩)) (d := .lit (.int .i64 q)) (ps := []) rfl
 have hD := (h.own.tidy (Go.Maps.int_keyed hk)).isMap
 have hne : ∀ {j : Nat}, j ≠ i → (Lit.int .i64 (j : Int)) ≠ .int .i64 (i : Int) := fun {j} hj e => by
  simp only [Lit.int.injEq, true_and] at e
  omega
 refine ⟨w', hr, ⟨_, ho, fun j q' hq z => ?_, fun j hj => ?_, fun kl hkl => ?_⟩, hg⟩
 · by_cases e : j = i
   · subst e
     simp only [if_true, Option.some.injEq] at hq
     subst hq
     exact Maps.atKey_put_same hD (isKey_nat j hi hk) _ _
   · simp only [if_neg e] at hq
     rw [Maps.atKey_put_other (hne e)]
     exact h.get j q' hq z
 · by_cases e : j = i
   · simp [e] at hj
   · simp only [if_neg e] at hj
     rw [Maps.has_put_other (hne e)]
     exact h.non j hj
 · by_cases e : kl = .int .i64 (i : Int)
   · exact ⟨i, q, e, by simp⟩
   · rw [Maps.has_put_other e] at hkl
     obtain ⟨j, q', rfl, hj⟩ := h.key kl hkl
     refine ⟨j, q', rfl, ?_⟩
     have : j ≠ i := fun e' => e (by rw [e'])
     simp only [if_neg this]
     exact hj
/-- A range over it: which are still to come. -/
def PtrRg (P : Program) (k : TypeId) (w : World) (b r n : Nat) (f : Nat → Option Nat) (left : Nat → Bool) (cnt : Nat) : Prop :=
 ∃ D lf, PtrM P k w b n f D ∧ w.ranges P k pR b r n D lf cnt ∧ (∀ i : Nat, left i = lf (.int .i64 i)) ∧ ∀ kl, lf kl = true → Maps.has D kl = true
theorem PtrRg.kept {r : Nat} {left : Nat → Bool} {cnt : Nat} {row : Option Nat} (h : PtrRg P k w b r n f left cnt) (hg : w.grownBy w' row) (hb : some b ≠ row) (hr : some r ≠ row) : PtrRg P k w' b r n f left cnt := by
 obtain ⟨D, lf, h1, h2, h3, h4⟩ := h
 exact ⟨D, lf, ⟨h1.own.kept hg hb, h1.get, h1.non, h1.key⟩, h2.kept hg hb hr, h3, h4⟩
theorem PtrRg.left_eq {r : Nat} {left : Nat → Bool} {cnt : Nat} (h : PtrRg P k w b r n f left cnt) : w.rangeLeft b r = cnt := by
 obtain ⟨D, lf, h1, h2, -⟩ := h
 exact h2.left_eq
theorem PtrRg.lt {r : Nat} {left : Nat → Bool} {cnt : Nat} (h : PtrRg P k w b r n f left cnt) : r < w.heap.size ∧ r ≠ b := by
 obtain ⟨D, lf, h1, h2, -⟩ := h
 exact ⟨h2.lt, h2.ne⟩
/-- 'range m' -/
theorem PtrMap.range {t e : TypeId} (h : PtrMap P k w b n f) (hk : P.underlying k = some (.int .i64)) (ht : P.underlying t = some (.map k e)) :
 ∃ w' left cnt, (Instr.range t (.map (some b))).run P w = .ok (.pointer (some ⟨w.heap.size, 0, none⟩)) w' ∧ PtrRg P k w' b w.heap.size n f left cnt ∧ (∀ i q, f i = some q → left i = true) ∧ w.grownBy w' none ∧ w'.heap.size = w.heap.size + 1 := by
 obtain ⟨D, h⟩ := h
 obtain ⟨w', hr, h1, hg, hs⟩ := h.own.range (Go.Maps.int_keyed hk) ht
 exact ⟨w', fun i => Maps.has D (.int .i64 i), Maps.size D, hr, ⟨D, Maps.has D, ⟨h.own.kept hg (by simp), h.get, h.non, h.key⟩, h1, fun _ => rfl, fun _ h => h⟩, fun i q hi => h.has hi, hg, hs⟩
/-- The step. -/
theorem PtrRg.next {r : Nat} {left : Nat → Bool} {cnt : Nat} (h : PtrRg P k w b r n f left cnt) (hk : P.underlying k = some (.int .i64)) (ty : TypeId) :
 (cnt = 0 ∧ (∀ i, left i = false) ∧ (Instr.next (.pointer (some ⟨r, 0, none⟩)) false ty).run P w = .ok (.tuple #[.bool false]) w) ∨
 ∃ (i q : Nat) (w' : World) (cnt' : Nat), f i = some q ∧ left i = true ∧ (Instr.next (.pointer (some ⟨r, 0, none⟩)) false ty).run P w = .ok (.tuple #[.bool true, .int .i64 i, .pointer (some ⟨q, 0, none⟩)]) w' ∧
  PtrRg P k w' b r n f (fun j => left j && decide (j ≠ i)) cnt' ∧ cnt' < cnt ∧ w.grownBy w' (some r) ∧ w'.heap.size = w.heap.size ∧ (Instr.entry (.pointer (some ⟨r, 0, none⟩))).run P w' = .ok (.tuple #[.int .i64 i, .pointer (some ⟨q, 0, none⟩)]) w' := by
 obtain ⟨D, lf, h1, h2, h3, h4⟩ := h
 rcases h2.next (Go.Maps.int_keyed hk) ty with ⟨h0, hl, hr⟩ | ⟨key, v, kl, y, w', cnt', hkey, hlk, hv, hat, hrun, hrg, hlt, hgr, hsz, hen⟩
 · exact .inl ⟨h0, fun i => (h3 i).trans (hl _), hr⟩
 · obtain ⟨i, q, rfl, hi⟩ := h1.key kl (h4 kl hlk)
   obtain ⟨x, rfl, e, -⟩ := Maps.keyOf_int_inv hk hkey
   simp only [Lit.int.injEq, true_and] at e
   subst e
   have hy := (hat (.lit (.int .i64 0))).symm.trans (h1.get i q hi _)
   have hv' : v = .pointer (some ⟨q, 0, none⟩) := by
    rcases pR_inv hv with ⟨rfl, rfl⟩ | ⟨q', rfl, rfl⟩
    · simp only [DataW.lit.injEq, Lit.int.injEq] at hy
      omega
    · simp only [DataW.lit.injEq, Lit.int.injEq] at hy
      obtain rfl : q' = q := by omega
      rfl
   subst hv'
   refine .inr ⟨i, q, w', cnt', hi, (h3 i).trans hlk, hrun, ⟨D, _, ⟨h1.own.kept hgr (by have := h2.ne; simp; omega), h1.get, h1.non, h1.key⟩, hrg, fun j => ?_, fun kl hkl => ?_⟩, hlt, hgr, hsz, hen⟩
   · show (left j && decide (j ≠ i)) = (lf (.int .i64 j) && !(Lit.int .i64 (j : Int)).sameKey (.int .i64 (i : Int)))
     rw [h3 j]
     by_cases e : j = i
     · subst e
       rw [WideAt.sameKey_self ((Go.Maps.int_keyed hk).key hkey)]
       simp
     · rw [Maps.sameKey_ne (fun e' => e (by simp only [Lit.int.injEq, true_and] at e'; omega))]
       simp [e]
   · simp only [Bool.and_eq_true] at hkl
     exact h4 kl hkl.1
end
end Go.Proofs.YthcdkkmjnglmjaaGreatDoor
/- Operations on maps of pointers, copies, and whether tiles are the same. -/
namespace Go.Proofs.YthcdkkmjnglmjaaGreatDoor
open Go.RowKit Go.Shelf
section
variable {F : Fence} {n : Nat} {P : Program} {w w' : World} {o : Oper} {a : Act} {K : Act → World → Prop} {Q : Exit → Act → World → Prop}
theorem opIn_make (t : TypeId) (l c : Operand) (ho : o.op = .makeSlice t l c) {lv cv v : Value} (hl : a.eval l = lv) (hc : a.eval c = cv) (hr : (Instr.makeSlice t lv cv).run P w = .ok v w') (hK : K (a.put o.dst v) w') : o.wpIn F n P a w K Q := by
 unfold Oper.wpIn
 refine ⟨by simp [Oper.about, ho], ?_⟩
 rw [Oper.semAt_plain F _ _ (by rw [ho]; intro c hc; cases hc)]
 simp [execOp, ho, hl, hc, hr, Result.andThen]
 exact hK
theorem opIn_bin (b : BinOp) (t t' : TypeId) (x y : Operand) (ho : o.op = .binOp b t x y t') {xv yv v : Value} (hx : a.eval x = xv) (hy : a.eval y = yv) (hg : (eqGuard b t x y xv yv).run P w = .ok () w) (hr : (binOp b t xv yv).run P w = .ok v w) (hK : K (a.put o.dst v) w) : o.wpIn F n P a w K Q := by
 unfold Oper.wpIn
 refine ⟨by simp [Oper.about, ho], ?_⟩
 rw [Oper.semAt_plain F _ _ (by rw [ho]; intro c hc; cases hc)]
 simp [execOp, ho, hx, hy, hg, hr, Result.andThen]
 exact hK
end
theorem run_equalIn_rows {α : Type} [DecidableEq α] {P : Program} (w : World) (m t e n K : Nat) (i0 : TypeInfo) (h : P.underlying t = some (.array n e)) (hi : P.info? e = some i0) (hs : i0.size = K)
 (xs ys : Array Value) (f g : Nat → α) (val : α → Value) (hx : ∀ i, i < n → (part e xs (i * K)).run P w = .ok (val (f i)) w) (hy : ∀ i, i < n → (part e ys (i * K)).run P w = .ok (val (g i)) w)
 (he : ∀ a b, (Op.equalIn m e (val a) (val b)).run P w = .ok (decide (a = b)) w) :
 (Op.equalIn (m + 1) t (.agg xs) (.agg ys)).run P w = .ok ((List.range n).all fun k => decide (f k = g k)) w := by
 subst hs
 simp only [Op.equalIn, Sem.run_bind, run_underlying h, Result.andThen_ok, sizeOf, typeInfo, run_program, hi, Sem.run_pure]
 rw [Std.Legacy.Range.forIn_eq_forIn_range']
 simp only [Std.Legacy.Range.size, Nat.sub_zero, Nat.add_sub_cancel, Nat.div_one]
 rw [← List.range_eq_range']
 have key : ∀ l : List Nat, (∀ i ∈ l, i < n) → (forIn l ((none, ()) : Option Bool × Unit) fun i __s => do
  let a ← part e xs (i * i0.size)
  let b ← part e ys (i * i0.size)
  let r ← Op.equalIn m e a b
  if (!r) = true then pure (ForInStep.done (some false, ())) else pure (ForInStep.yield (none, ()))).run P w = .ok (if (l.all fun k => decide (f k = g k)) = true then (none, ()) else (some false, ())) w := by
  intro l
  induction l with
  | nil => intro _; rfl
  | cons i l ih =>
   intro hl
   simp only [List.forIn_cons, Sem.run_bind, hx i (hl i (by simp)), hy i (hl i (by simp)), Result.andThen_ok, he]
   cases hfg : decide (f i = g i)
   · simp [hfg]
   · simp only [Bool.not_true, Bool.false_eq_true, if_false, Sem.run_pure, Result.andThen_ok]
     rw [ih (fun j hj => hl j (by simp [hj]))]
     simp [hfg]
 rw [key (List.range n) (fun i hi => List.mem_range.1 hi)]
 cases (List.range n).all fun k => decide (f k = g k) <;> simp
theorem part_color (T : TileT) (i : Nat) (h : i < 64) (w : World) : (part 34 (encT T).toArray (i * 4)).run Tryz.prog w = .ok ((T.1[i]'(by rw [T.2]; exact h)).val) w := by
 obtain ⟨c, hc⟩ : ∃ c, T.1[i]'(by rw [T.2]; exact h) = c := ⟨_, rfl⟩
 have hc' : T.1[i]? = some c := by rw [← hc]; exact List.getElem?_eq_getElem _
 rw [hc]
 have cell : ∀ r v, r < 4 → (encC c)[r]? = some v → (encT T)[i * 4 + r]? = some v := fun r v hr hv => by rw [encT_get T i r hr, hc']; exact hv
 have e : ((encT T).toArray.extract (i * 4) (i * 4 + 4)) = #[.int .u8 c.r, .int .u8 c.g, .int .u8 c.b, .int .u8 c.a] := by
  refine Array.ext_getElem? fun j => ?_
  have hl := encT_len T
  rw [Array.getElem?_extract]
  by_cases hj : j < 4
  · rw [if_pos (by simp; omega), List.getElem?_toArray]
    rcases (by omega : j = 0 ∨ j = 1 ∨ j = 2 ∨ j = 3) with rfl | rfl | rfl | rfl
    · exact cell 0 _ (by decide) rfl
    · exact cell 1 _ (by decide) rfl
    · exact cell 2 _ (by decide) rfl
    · exact cell 3 _ (by decide) rfl
  · rw [if_neg (by simp; omega), Array.getElem?_eq_none (by simp; omega)]
 unfold ColT.val
 simp [part, go_sem]
 have := congrArg Array.toList e
 simpa using this
theorem colE_deep (a b : ColT) (w : World) : (Op.equalIn 9999 34 a.val b.val).run Tryz.prog w = .ok (decide (a = b)) w := by
 obtain ⟨r, g, b', a'⟩ := a
 obtain ⟨s, h, c, d⟩ := b
 unfold ColT.val
 simp [go_sem]
 by_cases h1 : r = s <;> by_cases h2 : g = h <;> by_cases h3 : b' = c <;> by_cases h4 : a' = d <;> simp [h1, h2, h3, h4]
theorem tile_all (T U : TileT) : ((List.range 64).all fun k => decide (T.1.getD k zeroC = U.1.getD k zeroC)) = decide (T = U) := by
 rw [Bool.eq_iff_iff, List.all_eq_true, decide_eq_true_iff]
 constructor
 · intro h
   refine Subtype.ext (List.ext_getElem (by rw [T.2, U.2]) fun k h1 h2 => ?_)
   have := of_decide_eq_true (h k (List.mem_range.2 (by rw [T.2] at h1; exact h1)))
   rw [List.getD_eq_getElem?_getD, List.getD_eq_getElem?_getD, List.getElem?_eq_getElem h1, List.getElem?_eq_getElem h2] at this
   exact this
 · rintro rfl k _
   simp
theorem infoCol : ∃ i0, Tryz.prog.info? 34 = some i0 ∧ i0.size = 4 := by
 have h : (Tryz.prog.info? 34).map (·.size) = some 4 := by kernel_rfl
 cases hi : Tryz.prog.info? 34 with
 | none => simp [hi] at h
 | some i0 => exact ⟨i0, rfl, by simpa [hi] using h⟩
theorem tileE_run (T U : TileT) (w : World) : (Op.equal 75 (.agg (encT T).toArray) (.agg (encT U).toArray)).run Tryz.prog w = .ok (decide (T = U)) w := by
 obtain ⟨i0, hi, hs⟩ := infoCol
 have hd : ∀ (V : TileT) (k : Nat) (h : k < 64), V.1.getD k zeroC = V.1[k]'(by rw [V.2]; exact h) := fun V k h => by
  rw [List.getD_eq_getElem?_getD, List.getElem?_eq_getElem (by rw [V.2]; exact h)]; rfl
 have := run_equalIn_rows w 9999 75 34 64 4 i0 Tryz.underlying75 hi hs (encT T).toArray (encT U).toArray (fun k => T.1.getD k zeroC) (fun k => U.1.getD k zeroC) ColT.val
  (fun k hk => by rw [hd T k hk]; exact part_color T k hk w) (fun k hk => by rw [hd U k hk]; exact part_color U k hk w) (fun a b => colE_deep a b w)
 rw [tile_all] at this
 exact this
theorem tileNe_run (T U : TileT) (w : World) : (binOp .neq 75 (.agg (encT T).toArray) (.agg (encT U).toArray)).run Tryz.prog w = .ok (.bool (!decide (T = U))) w := by
 simp [binOp, tileE_run T U w]
theorem tileG_run (x y : Operand) (a b : Array Value) (w : World) : (eqGuard .neq 75 x y (.agg a) (.agg b)).run Tryz.prog w = .ok () w := by
 have h : Tryz.prog.eqGuardType Tryz.prog.depth 75 = false := by kernel_rfl
 simp [eqGuard, h]
end Go.Proofs.YthcdkkmjnglmjaaGreatDoor
/- Layer 5: With: what it keeps between dots. -/
namespace Go.Proofs.YthcdkkmjnglmjaaGreatDoor
open Go.RowKit Go.Shelf
/-- These are blocks, and none is like that. -/
def Buts (oB : Obj) : List It → Prop
 | [] => True
 | .blk _ o :: r => o ≠ oB ∧ Buts oB r
 | .row _ _ _ _ _ :: _ => False
theorem Buts.get {oB : Obj} : ∀ {its : List It}, Buts oB its → ∀ i ∈ its, ∃ b o, i = .blk b o ∧ o ≠ oB
 | .blk b o :: r, h, i, hi => by
  rcases List.mem_cons.1 hi with rfl | hi
  · exact ⟨b, o, rfl, h.1⟩
  · exact Buts.get h.2 i hi
/-- One block turns that is none of these. -/
theorem St.butObj {w0 x y : World} {its : List It} {B : Nat} {oB : Obj} (h : St w0 its x) (hq : x.heap[B]? = some oB) (hbt : Buts oB its) (hB : w0.heap.size ≤ B) (hg : x.grownBy y (some B)) : St w0 its y := by
 have hb := hbt.get
 refine ⟨h.low.grown hg h.low.size (fun j e => by cases e; exact hB), fun i hi => ?_, h.ord, fun i hi => Nat.le_trans (h.top i hi) hg.size⟩
 obtain ⟨b, o, rfl, hne⟩ := hb i hi
 have hok : x.heap[b]? = some o := h.ok _ hi
 exact (hg.block b (b7t hok) (fun e => by cases e; rw [hok] at hq; exact hne (Option.some.inj hq))).trans hok
theorem PtrMap.obj {P : Program} {k : TypeId} {w : World} {b n : Nat} {f : Nat → Option Nat} (h : PtrMap P k w b n f) : ∃ es c, w.heap[b]? = some (.map es c) := by
 obtain ⟨D, h⟩ := h
 obtain ⟨es, c, hb, -⟩ := h.own
 exact ⟨es, c, hb⟩
theorem obj_typ {cs cs' : Array Value} {t t' : TypeId} {f f' : Nat × Nat} (h : t ≠ t') : Obj.cells cs t f ≠ Obj.cells cs' t' f' := by
 intro e
 injection e with _ e2
 exact h e2
theorem obj_map {cs : Array Value} {t : TypeId} {f : Nat × Nat} {es : Array MapEntry} {c : Nat} : Obj.cells cs t f ≠ Obj.map es c := by intro e; cases e
theorem modify_ne {α : Type} {l : List α} {g : α → α} {i j : Nat} (h : j ≠ i) : (l.modify i g)[j]? = l[j]? := by
 have h' : ¬ i = j := fun e => h e.symm
 rw [List.getElem?_modify]
 simp [h']
theorem belowRow {B g : Nat} {w0 w : World} (hb : Below B w0 w) (hBg : B ≤ g) (cs : Array Value) : Below B w0 (w.setRow g cs) :=
 hb.trans ⟨rfl, rfl, rfl, by simp [World.setRow], fun k hk => setRow_other w g k cs (by omega)⟩
theorem grownBy_setRow (w : World) (q : Nat) (c : Array Value) : w.grownBy (w.setRow q c) (some q) :=
 ⟨rfl, rfl, rfl, by simp [World.setRow], fun j _ hj => setRow_other w q j c (fun e => hj (by rw [e]))⟩
theorem obj_iter {cs : Array Value} {t : TypeId} {f : Nat × Nat} {b : Option Nat} {s : Nat} {v : Array Nat} {c : Nat} : Obj.cells cs t f ≠ Obj.mapIter b s v c := by intro e; cases e
/-- Own tiles, by their places. -/
structure OwnM (Bm n : Nat) (ts : List TileT) (D : CanT) (m : Nat) (f : Nat → Option Nat) (x : World) : Prop where
 pm : PtrMap Tryz.prog 3 x Bm m f
 own : ∀ i q, f i = some q → Bm < q ∧ i < n ∧ ∃ t, D.tiles[i]? = some t ∧ x.heap[q]? = some (.cells (encT t).toArray 75 (0, 0))
 non : ∀ i, f i = none → D.tiles[i]? = ts[i]?
 inj : ∀ i j q, f i = some q → f j = some q → i = j
section
variable {Bm n m : Nat} {ts : List TileT} {D : CanT} {f : Nat → Option Nat} {x y : World}
theorem OwnM.below (h : OwnM Bm n ts D m f x) (hb : Below x.heap.size x y) : OwnM Bm n ts D m f y :=
 ⟨h.pm.below hb, fun i q hi => by
  obtain ⟨h1, h2, t, h3, h4⟩ := h.own i q hi
  exact ⟨h1, h2, t, h3, (hb.block q (b7t h4)).trans h4⟩, h.non, h.inj⟩
theorem OwnM.start (w : World) (C : CanT) (n : Nat) : OwnM w.heap.size n C.tiles C 0 (fun _ => none) (w.alloc (.map #[] 0)) :=
 ⟨PtrMap.made w Tryz.prog 3, fun _ _ h => (by cases h), fun _ _ => rfl, fun _ _ _ h => (by cases h)⟩
/-- A tile of its own for a place. -/
theorem OwnM.add (h : OwnM Bm n ts D m f x) {i q : Nat} {t : TileT} (hi : i < n) (hn : f i = none) (ht : ts[i]? = some t) (hq : x.heap[q]? = some (.cells (encT t).toArray 75 (0, 0))) (hB : Bm < q) (hfr : ∀ j p, f j = some p → p ≠ q)
 (hp : PtrMap Tryz.prog 3 y Bm (m + 1) (fun j => if j = i then some q else f j)) (hg : x.grownBy y (some Bm)) : OwnM Bm n ts D (m + 1) (fun j => if j = i then some q else f j) y := by
 have key : ∀ p t', Bm < p → x.heap[p]? = some (.cells (encT t').toArray 75 (0, 0)) → y.heap[p]? = some (.cells (encT t').toArray 75 (0, 0)) := fun p t' hp' hh =>
  (hg.block p (b7t hh) (fun e => by cases e; omega)).trans hh
 refine ⟨hp, fun j p hj => ?_, fun j hj => ?_, fun j k p hj hk => ?_⟩
 · by_cases e : j = i
   · subst e
     simp only [if_true, Option.some.injEq] at hj
     subst hj
     exact ⟨hB, hi, t, (h.non j hn).trans ht, key _ _ hB hq⟩
   · simp only [if_neg e] at hj
     obtain ⟨h1, h2, t', h3, h4⟩ := h.own j p hj
     exact ⟨h1, h2, t', h3, key _ _ h1 h4⟩
 · by_cases e : j = i
   · simp [e] at hj
   · simp only [if_neg e] at hj
     exact h.non j hj
 · by_cases e : j = i
   · subst e
     simp only [if_true, Option.some.injEq] at hj
     subst hj
     by_cases e2 : k = j
     · exact e2.symm
     · simp only [if_neg e2] at hk
       exact absurd rfl (hfr k _ hk)
   · simp only [if_neg e] at hj
     by_cases e2 : k = i
     · subst e2
       simp only [if_true, Option.some.injEq] at hk
       subst hk
       exact absurd rfl (hfr j _ hj)
     · simp only [if_neg e2] at hk
       exact h.inj j k p hj hk
/-- A pixel of a tile of its own. -/
theorem OwnM.paint (h : OwnM Bm n ts D m f x) {i q k : Nat} {t : TileT} {c : ColT} (hi : f i = some q) (ht : D.tiles[i]? = some t) {D' : CanT} (hD : D'.tiles = D.tiles.modify i fun t => setT t k c)
 (hq : y.heap[q]? = some (.cells (encT (setT t k c)).toArray 75 (0, 0))) (hg : x.grownBy y (some q)) : OwnM Bm n ts D' m f y := by
 have h0 := h.own i q hi
 refine ⟨h.pm.kept hg (fun e => by cases e; omega), fun j p hj => ?_, fun j hj => ?_, h.inj⟩
 · obtain ⟨h1, h2, t', h3, h4⟩ := h.own j p hj
   by_cases e : j = i
   · subst e
     rw [hi] at hj
     cases hj
     refine ⟨h1, h2, setT t k c, ?_, hq⟩
     rw [hD, List.getElem?_modify_eq, ht]
     rfl
   · refine ⟨h1, h2, t', ?_, (hg.block p (b7t h4) (fun e2 => by cases e2; exact e (h.inj j i _ hj hi))).trans h4⟩
     rw [hD, modify_ne e]
     exact h3
 · have e : j ≠ i := fun e => by rw [e, hi] at hj; cases hj
   rw [hD, modify_ne e]
   exact h.non j hj
/-- A block turns that is none of these. -/
theorem OwnM.kept (h : OwnM Bm n ts D m f x) {B : Nat} {oB : Obj} (hq : x.heap[B]? = some oB) (hB : B ≠ Bm) (ht : ∀ (t : TileT), Obj.cells (encT t).toArray 75 (0, 0) ≠ oB) (hg : x.grownBy y (some B)) : OwnM Bm n ts D m f y :=
 ⟨h.pm.kept hg (fun e => hB (Option.some.inj e).symm), fun i q hi => by
  obtain ⟨h1, h2, t, h3, h4⟩ := h.own i q hi
  exact ⟨h1, h2, t, h3, (hg.block q (b7t h4) (fun e => by have e := Option.some.inj e; rw [e, hq] at h4; exact ht t (Option.some.inj h4).symm)).trans h4⟩, h.non, h.inj⟩
end
theorem PtrRg.obj {P : Program} {k : TypeId} {w : World} {b r n : Nat} {f : Nat → Option Nat} {left : Nat → Bool} {cnt : Nat} (h : PtrRg P k w b r n f left cnt) : ∃ b' s v c, w.heap[r]? = some (.mapIter b' s v c) := by
 obtain ⟨D, lf, h1, h2, -⟩ := h
 obtain ⟨es, clock, since, seen, c0, -, -, -, -, hr, -⟩ := h2
 exact ⟨_, _, _, _, hr⟩
/-- While the own tiles are looked at: what is where in the new row of pointers. -/
structure RowM (n : Nat) (qs rp : List Nat) (D : CanT) (f : Nat → Option Nat) (left : Nat → Bool) (x : World) : Prop where
 len : rp.length = n
 old : ∀ i, left i = true → rp[i]? = qs[i]?
 good : ∀ i, i < n → left i = false → ∃ r t, rp[i]? = some r ∧ D.tiles[i]? = some t ∧ x.heap[r]? = some (.cells (encT t).toArray 75 (0, 0))
theorem RowM.kept {n : Nat} {qs rp : List Nat} {D : CanT} {f : Nat → Option Nat} {left : Nat → Bool} {x y : World} (h : RowM n qs rp D f left x) {B : Nat} {oB : Obj} (hq : x.heap[B]? = some oB) (ht : ∀ (t : TileT), Obj.cells (encT t).toArray 75 (0, 0) ≠ oB) (hg : x.grownBy y (some B)) : RowM n qs rp D f left y :=
 ⟨h.len, h.old, fun i hi hl => by
  obtain ⟨r, t, h1, h2, h3⟩ := h.good i hi hl
  exact ⟨r, t, h1, h2, (hg.block r (b7t h3) (fun e => by have e := Option.some.inj e; rw [e, hq] at h3; exact ht t (Option.some.inj h3).symm)).trans h3⟩⟩
theorem RowM.below {n : Nat} {qs rp : List Nat} {D : CanT} {f : Nat → Option Nat} {left : Nat → Bool} {x y : World} (h : RowM n qs rp D f left x) (hb : Below x.heap.size x y) : RowM n qs rp D f left y :=
 ⟨h.len, h.old, fun i hi hl => by
  obtain ⟨r, t, h1, h2, h3⟩ := h.good i hi hl
  exact ⟨r, t, h1, h2, (hb.block r (b7t h3)).trans h3⟩⟩
/-- A place is done with. -/
theorem RowM.done {n : Nat} {qs rp : List Nat} {D : CanT} {f : Nat → Option Nat} {left : Nat → Bool} {x : World} (h : RowM n qs rp D f left x) {i r : Nat} {t : TileT} {rp' : List Nat} (hi : rp'[i]? = some r) (ht : D.tiles[i]? = some t) (hx : x.heap[r]? = some (.cells (encT t).toArray 75 (0, 0)))
 (hl : rp'.length = rp.length) (ho : ∀ j, j ≠ i → rp'[j]? = rp[j]?) : RowM n qs rp' D f (fun j => left j && decide (j ≠ i)) x := by
 refine ⟨hl.trans h.len, fun j hj => ?_, fun j hj hlj => ?_⟩
 · simp only [Bool.and_eq_true, decide_eq_true_eq] at hj
   rw [ho j hj.2]
   exact h.old j hj.1
 · by_cases e : j = i
   · subst e
     exact ⟨r, t, hi, ht, hx⟩
   · rw [ho j e]
     refine h.good j hj ?_
     simpa [e] using hlj
theorem RowM.start {n : Nat} {qs : List Nat} {ts : List TileT} {D : CanT} {f : Nat → Option Nat} {left : Nat → Bool} {x : World} (hq : TP x qs ts) (hn : qs.length = n) (hf : ∀ i, f i = none → D.tiles[i]? = ts[i]?) (hl : ∀ i q, f i = some q → left i = true) : RowM n qs qs D f left x := by
 refine ⟨hn, fun _ _ => rfl, fun i hi hli => ?_⟩
 have hfi : f i = none := by
  cases e : f i with
  | none => rfl
  | some q => rw [hl i q e] at hli; cases hli
 obtain ⟨r, hr⟩ : ∃ r, qs[i]? = some r := ⟨_, List.getElem?_eq_getElem (by omega)⟩
 obtain ⟨t, ht, hx⟩ := hq.get hr
 exact ⟨r, t, hr, (hf i hfi).trans ht, hx⟩
end Go.Proofs.YthcdkkmjnglmjaaGreatDoor
