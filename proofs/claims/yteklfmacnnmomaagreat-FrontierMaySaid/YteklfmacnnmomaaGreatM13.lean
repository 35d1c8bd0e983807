/- Merged texts: FrL FrM. -/
import Derived.Test.YteklfmacnnmomaaGreatM11
import Derived.Test.YteklfmacnnmomaaGreatM2
import Derived.Test.YteklfmacnnmomaaGreatM12
set_option linter.unusedSimpArgs false
set_option linter.unusedVariables false
/- Layer 18: hear. -/
namespace Go.Proofs.YteklfmacnnmomaaGreat
open Go.RowKit Go.Shelf
attribute [local go_sem] Oper.semAt_some
def hearE (f : Frt) (n : Int) (p : Plg) : Int := if (siteB n && pledgeOk p) = false then 2 else if (f.site n.toNat).inn = false then 4 else 0
def hearP (q p : Plg) : Plg := ⟨q.inn, if q.floor < p.floor then p.floor else q.floor, if q.floor < p.floor then p.seq else q.seq, fun s => max (q.has s) (p.has s)⟩
def hearF (f : Frt) (n : Int) (p : Plg) : Frt := f.put n.toNat (hearP (f.site n.toNat) p)
theorem okB_has {f : Frt} (h : f.okB = true) {k : Nat} (hk : k < 9) (hi : (f.site k).inn = true) : pledgeOk (f.site k) = true ∧ f.folded ≤ (f.site k).floor := by
 unfold Frt.okB at h
 rw [Bool.and_eq_true] at h
 have h2 := List.all_eq_true.1 h.2 k (List.mem_range.2 hk)
 unfold sitOk at h2
 have h3 : plEq (f.site k) plZ = false := by
  unfold plEq
  rw [hi]; rfl
 rw [h3, Bool.false_or, Bool.and_eq_true, Bool.and_eq_true, decide_eq_true_eq] at h2
 exact ⟨h2.1.2, h2.2⟩
theorem pledgeOk_has {p : Plg} (h : pledgeOk p = true) : vecOk p.has = true := by
 unfold pledgeOk at h
 rw [Bool.and_eq_true] at h
 exact h.2
theorem elems_one {w : World} {g : Nat} {u : Nat → Int} {t : TypeId} {f : Nat × Nat} (h : w.heap[g]? = some (.cells (lit9 u) t f)) : Elems w (.slice (some ⟨g, 0, none⟩) 1 1) 1 9 (vecCells fun _ => u) :=
 .inr ⟨g, 0, 1, rfl, b7t h, fun j hj => by
  rw [Nat.zero_add]
  refine c7b h ?_
  rw [lit9_get u j (by omega)]
  unfold vecCells
  rw [Nat.mod_eq_of_lt (by omega)]⟩
theorem mergeN_max (v u : Nat → Int) : mergeN max v (fun _ => u) 1 = fun s => max (v s) (u s) := rfl
theorem others9 {w : World} {p : Nat} (J : Nat → Int) (k : Nat) (hk : k ≠ p) : (World.setCell (World.setCell (World.setCell (World.setCell (World.setCell (World.setCell (World.setCell (World.setCell (World.setCell w ⟨p, 0, none⟩ (.int .u64 (J 0))) ⟨p, 1, none⟩ (.int .u64 (J 1))) ⟨p, 2, none⟩ (.int .u64 (J 2))) ⟨p, 3, none⟩ (.int .u64 (J 3))) ⟨p, 4, none⟩ (.int .u64 (J 4))) ⟨p, 5, none⟩ (.int .u64 (J 5))) ⟨p, 6, none⟩ (.int .u64 (J 6))) ⟨p, 7, none⟩ (.int .u64 (J 7))) ⟨p, 8, none⟩ (.int .u64 (J 8))).heap[k]? = w.heap[k]? := by
 iterate 9 refine (Below.heap_setCell _ _ _ k hk).trans ?_
 rfl
theorem fill9J {n₀ : Nat} {w : World} {p : Nat} (J : Nat → Int) (hn : n₀ ≤ p) (h : w.heap[p]? = some (.cells (lit9 fun _ => 0) 24 (0, 0))) :
 FillC n₀ (.cells (lit9 fun _ => 0) 24 (0, 0)) (.cells (lit9 J) 24 (0, 0)) w (World.setCell (World.setCell (World.setCell (World.setCell (World.setCell (World.setCell (World.setCell (World.setCell (World.setCell w ⟨p, 0, none⟩ (.int .u64 (J 0))) ⟨p, 1, none⟩ (.int .u64 (J 1))) ⟨p, 2, none⟩ (.int .u64 (J 2))) ⟨p, 3, none⟩ (.int .u64 (J 3))) ⟨p, 4, none⟩ (.int .u64 (J 4))) ⟨p, 5, none⟩ (.int .u64 (J 5))) ⟨p, 6, none⟩ (.int .u64 (J 6))) ⟨p, 7, none⟩ (.int .u64 (J 7))) ⟨p, 8, none⟩ (.int .u64 (J 8))) := by
 have hy := heap_set9 (o := fun _ => 0) J h
 have hb := below_set9 J (B7 n₀ w) hn
 have ho := fun (j : Nat) (hne : j ≠ p) => others9 (w := w) J j hne
 revert hy hb ho
 generalize (World.setCell (World.setCell (World.setCell (World.setCell (World.setCell (World.setCell (World.setCell (World.setCell (World.setCell w ⟨p, 0, none⟩ (.int .u64 (J 0))) ⟨p, 1, none⟩ (.int .u64 (J 1))) ⟨p, 2, none⟩ (.int .u64 (J 2))) ⟨p, 3, none⟩ (.int .u64 (J 3))) ⟨p, 4, none⟩ (.int .u64 (J 4))) ⟨p, 5, none⟩ (.int .u64 (J 5))) ⟨p, 6, none⟩ (.int .u64 (J 6))) ⟨p, 7, none⟩ (.int .u64 (J 7))) ⟨p, 8, none⟩ (.int .u64 (J 8))) = y
 intro hy hb ho
 exact FillC.fill hb (.inl h) hy fun j ob hj hne => (ho j hne).trans hj
theorem Frt.put_put (f : Frt) (k : Nat) (p q : Plg) : (f.put k p).put k q = f.put k q := by
 unfold Frt.put
 congr 1
 funext j
 dsimp only
 split <;> rfl
theorem frt_floor2 {f : Frt} {k : Nat} (hk : k < 9) (q : Plg) (x : Int) : (f.put k q).cells.setIfInBounds (11 + k * 12 + 1) (.int .u64 x) = (f.put k { q with floor := x }).cells := by
 rw [frt_setFloor hk, Frt.put_put, Frt.put_at]
theorem frt_seq2 {f : Frt} {k : Nat} (hk : k < 9) (q : Plg) (x : Int) : (f.put k q).cells.setIfInBounds (11 + k * 12 + 2) (.int .u64 x) = (f.put k { q with seq := x }).cells := by
 rw [frt_setSeq hk, Frt.put_put, Frt.put_at]
theorem Turned.one {b o : Nat} {w : World} {v : Value} : Turned (fun j => j = b) w (w.setCell ⟨b, o, none⟩ v) := ⟨rfl, rfl, rfl, by simp, fun k _ hk => Below.heap_setCell _ _ _ k hk⟩
theorem Turned.two {b : Nat} {x y z : World} (h : Turned (fun j => j = b) x y) (k : Turned (fun j => j = b) y z) : Turned (fun j => j = b) x z := (h.trans k).mono fun _ _ h => h.elim id id
theorem putCell {f : Frt} {k : Nat} (hk : k < 9) (q : Plg) {b r : Nat} {w : World} {t : TypeId} {fr : Nat × Nat} (h : w.heap[b]? = some (.cells (f.put k q).cells t fr)) {v : Value} (hv : q.l[r]? = some v) : w.cell? ⟨b, 11 + k * 12 + r, none⟩ = some v :=
 Frt.cell h hk (by rw [Frt.put_at]; exact hv)
theorem vecOk_max {u v : Nat → Int} (hu : vecOk u = true) (hv : vecOk v = true) : vecOk (fun s => max (u s) (v s)) = true := by
 unfold vecOk at *
 rw [Bool.and_eq_true, decide_eq_true_eq, sitesOk_iff] at *
 refine ⟨by dsimp only; rw [hu.1, hv.1]; rfl, fun k h1 h2 => ?_⟩
 have := hu.2 k h1 h2
 have := hv.2 k h1 h2
 omega
theorem hearSt {own J : Nat → Int} {N : Nat} (hJ : vecOk J = true ∧ ∀ s, s < 9 → max (own s) (J s) = J s) (v : Value) (x y : World) (hC : FillC N (.cells (lit9 fun _ => 0) 24 (0, 0)) (.cells (lit9 J) 24 (0, 0)) x y)
 (h : ∃ g u, v = .slice (some ⟨g, 0, none⟩) 1 1 ∧ x.heap[g]? = some (.cells (lit9 u) 24 (0, 0)) ∧ vecOk u = true ∧ ∀ s, s < 9 → max (own s) (u s) = J s) :
 ∃ g u, v = .slice (some ⟨g, 0, none⟩) 1 1 ∧ y.heap[g]? = some (.cells (lit9 u) 24 (0, 0)) ∧ vecOk u = true ∧ ∀ s, s < 9 → max (own s) (u s) = J s := by
 obtain ⟨g, u, h1, h2, h3, h4⟩ := h
 rcases hC.2 g _ h2 with h5 | ⟨-, h5⟩
 · exact ⟨g, u, h1, h5, h3, h4⟩
 · exact ⟨g, J, h1, h5, hJ.1, hJ.2⟩
set_option maxRecDepth 100000 in
set_option maxHeartbeats 1000000 in
theorem hear_any (f : Frt) (hok : f.okB = true) (n : Int) (p : Plg) (b : Nat) (w : World) (hb : w.heap[b]? = some (.cells f.cells 85 (0, 0))) :
 Calls Tryz.prog 44 #[.pointer (some ⟨b, 0, none⟩), .int .i64 n, .agg p.cells] w (EndsF b (hearF f n p) (hearE f n p) w) := by
 have HS := H7 (St.start w)
 have HB := H7 (BlkA.mk hb)
 have HB0 := H7 hb
 obtain ⟨E, hE⟩ : ∃ E, hearE f n p = E := ⟨_, rfl⟩
 obtain ⟨f2, hf2⟩ : ∃ f2, hearF f n p = f2 := ⟨_, rfl⟩
 rw [hE, hf2]
 unfold hearE at hE
 clear hb
 go_enter Tryz.func44, Tryz.ntmps44
 repeat ((fail_if_success (with_reducible refine stop_at (id := 1) ?_)); (first | go_values | go_skip | go_guarded | go_step | go_upon | go_back | (simp only [Int.not_lt, Int.not_le] at *; go_simp) | (go_values <;> (try go_simp)) | (go_ite <;> go_prune <;> (try go_simp)) | (split <;> (first | (rename_i hx; exact (hx _ rfl).elim) | go_prune))))
 have hs_ := (HS.out.alloc (.cells p.cells 26))
 have hk_HB := HB.out.below ((B7 _ _).alloc (by exact Nat.le_refl _) (.cells p.cells 26))
 obtain ⟨w1, hw_⟩ : ∃ w1 : World, (w.alloc (.cells p.cells 26)) = w1 := ⟨_, rfl⟩
 rw [hw_] at hs_ hk_HB
 try simp only [World.size_alloc] at hs_
 have HS := H7 hs_
 have HB := H7 hk_HB
 rw [hw_]
 clear hw_ hs_ hk_HB
 refine (wpIn_wide (n := 0)).1 ?_
 gi_wp2_with (exfalso; exact undefB (by assumption))
 refine (callsIn_wide.2 (frSite_any _ _)).mono ?_
 rintro e w2 ⟨rfl, rfl⟩
 cases hs : siteB n with
 | false =>
  rw [hs] at hE
  subst hE
  gi_wp2_with (exfalso; exact undefB (by assumption))
  refine (callsIn_wide.2 (frNeed_no _ _)).mono ?_
  rintro e w' ⟨rfl, rfl⟩
  exact ⟨rfl, Turned.ofBelow _ HS.out.low, fun h => absurd h (by decide), fun _ => rfl⟩
 | true =>
  rw [hs, Bool.true_and] at hE
  obtain ⟨k, rfl, h1, h9⟩ := siteB_nat hs
  rw [Int.toNat_natCast] at hE
  unfold hearF at hf2
  rw [Int.toNat_natCast] at hf2
  have HK := H7 h9
  have HF2 := H7 hf2
  clear hs h1 h9 hf2
  simp only []; go_at_K
  repeat (first | (refine ldP _ rfl rfl (HS.out.blockAt 0 rfl) ?_; simp only [Act.put, List.setIfInBounds_toArray, List.set_cons_succ, List.set_cons_zero]) | gi_step)
  refine (callsIn_wide.2 (frPledge_any _ _)).mono ?_
  rintro e w2 ⟨rfl, hb_⟩
  have HS := H7 (HS.out.below hb_)
  have HB := H7 (HB.out.below hb_)
  clear hb_
  cases hp : pledgeOk p with
  | false =>
   rw [if_pos hp] at hE
   subst hE
   gi_wp2_with (exfalso; exact undefB (by assumption))
   refine (callsIn_wide.2 (frNeed_no _ _)).mono ?_
   rintro e w' ⟨rfl, rfl⟩
   exact ⟨rfl, Turned.ofBelow _ HS.out.low, fun h => absurd h (by decide), fun _ => rfl⟩
  | true =>
   rw [if_neg (by rw [hp]; decide)] at hE
   have HP := H7 (pledgeOk_has hp)
   clear hp
   gi_wp2_with (exfalso; exact undefB (by assumption))
   refine (callsIn_wide.2 (frNeed_ok _ _)).mono ?_
   rintro e w' ⟨rfl, rfl⟩
   have hk9 := HK.out
   gi_wp2_with fail
   cases hi : (f.site k).inn with
   | false =>
    rw [if_pos hi] at hE
    subst hE
    have c7 := Frt.cell0 HB.out.at_ HK.out (show (f.site k).l[0]? = some (.bool false) from by rw [← hi]; rfl)
    clear hi
    go_wp2_with (go_at_call 41; refine (frNeed_no _ _).mono ?_; rintro e w' ⟨rfl, rfl⟩)
    exact ⟨rfl, Turned.ofBelow _ HS.out.low, fun h => absurd h (by decide), fun _ => rfl⟩
   | true =>
    rw [if_neg (by rw [hi]; decide)] at hE
    subst hE
    have c7 := Frt.cell0 HB.out.at_ HK.out (show (f.site k).l[0]? = some (.bool true) from by rw [← hi]; rfl)
    have HV := H7 (pledgeOk_has (okB_has hok HK.out hi).1)
    obtain ⟨J, hJ⟩ : ∃ J : Nat → Int, (fun s => max ((f.site k).has s) (p.has s)) = J := ⟨_, rfl⟩
    have HJO := H7 (show vecOk J = true ∧ ∀ s, s < 9 → max ((f.site k).has s) (J s) = J s from by
     rw [← hJ]
     exact ⟨vecOk_max HV.out HP.out, fun s _ => by dsimp only; omega⟩)
    have HJ := H7 (fun (g : Nat) (u : Nat → Int) (w' : World) (h : w'.heap[g]? = some (.cells (lit9 u) 24 (0, 0))) (h2 : vecOk u = true) (h3 : ∀ s, s < 9 → max ((f.site k).has s) (u s) = J s) => show Calls Tryz.prog 65 #[vecV (f.site k).has, .slice (some ⟨g, 0, none⟩) 1 1] w' (Gives (.tuple #[.agg #[.int .u64 (J 0), .int .u64 (J 1), .int .u64 (J 2), .int .u64 (J 3), .int .u64 (J 4), .int .u64 (J 5), .int .u64 (J 6), .int .u64 (J 7), .int .u64 (J 8)], .int .i64 0]) w') from by
     have := join_ok (f.site k).has (.slice (some ⟨g, 0, none⟩) 1 1) 1 (fun _ => u) w' (by decide) (elems_one h) HV.out (fun _ _ => h2)
     rw [mergeN_max] at this
     rw [show (#[.int .u64 (J 0), .int .u64 (J 1), .int .u64 (J 2), .int .u64 (J 3), .int .u64 (J 4), .int .u64 (J 5), .int .u64 (J 6), .int .u64 (J 7), .int .u64 (J 8)] : Array Value) = lit9 J from rfl, ← lit9_ext (v := fun s => max ((f.site k).has s) (u s)) (u := J) h3]
     exact this)
    have HJJ := H7 hJ
    clear hi hJ
    go_wp2_with (go_at_call 41; refine (frNeed_ok _ _).mono ?_; rintro e w' ⟨rfl, rfl⟩)
    clear c7 hk9
    refine (wpIn_wide (n := 0)).1 ?_
    apply wp_region_slotsC 13 [⟨11, 12, 7, .cells #[.int .u64 0, .int .u64 0, .int .u64 0, .int .u64 0, .int .u64 0, .int .u64 0, .int .u64 0, .int .u64 0, .int .u64 0] 24 (0, 0), .cells #[.int .u64 (J 0), .int .u64 (J 1), .int .u64 (J 2), .int .u64 (J 3), .int .u64 (J 4), .int .u64 (J 5), .int .u64 (J 6), .int .u64 (J 7), .int .u64 (J 8)] 24 (0, 0)⟩] _ (Rl := [(eqv _), (eqv _), (eqv _), (eqv _), (eqv _), (eqv _), (fun v_ w_ => ∃ g u, v_ = .slice (some ⟨g, 0, none⟩) 1 1 ∧ w_.heap[g]? = some (.cells (lit9 u) 24 (0, 0)) ∧ vecOk u = true ∧ ∀ s, s < 9 → max ((f.site k).has s) (u s) = J s), (eqv _), (eqv _), (eqv _), (eqv _), (fun _ _ => True), (fun _ _ => True)]) (C := FillC _ (.cells #[.int .u64 0, .int .u64 0, .int .u64 0, .int .u64 0, .int .u64 0, .int .u64 0, .int .u64 0, .int .u64 0, .int .u64 0] 24 (0, 0)) (.cells #[.int .u64 (J 0), .int .u64 (J 1), .int .u64 (J 2), .int .u64 (J 3), .int .u64 (J 4), .int .u64 (J 5), .int .u64 (J 6), .int .u64 (J 7), .int .u64 (J 8)] 24 (0, 0)))
    case hN => exact Nat.le_refl _
    case hCr => exact fun x => FillC.refl _ _ _ x
    case hCt => exact fun h k => FillC.trans h k
    case hCz => exact fun h => FillC.size h
    case hC0 => exact FillC.grow (g7d _) (Nat.le_refl _)
    case hm => kernel_rfl
    case hk => rfl
    case hst => exact ⟨fun _ _ _ _ h => h, fun _ _ _ _ h => h, fun _ _ _ _ h => h, fun _ _ _ _ h => h, fun _ _ _ _ h => h, fun _ _ _ _ h => h, hearSt HJO.out, fun _ _ _ _ h => h, fun _ _ _ _ h => h, fun _ _ _ _ h => h, fun _ _ _ _ h => h, fun _ _ _ _ h => h, fun _ _ _ _ h => h, trivial⟩
    case hfo => kernel_rfl
    case ht => kernel_rfl
    case hok => kernel_rfl
    case hsk => intro s hs; simp only [List.mem_cons, List.not_mem_nil, or_false] at hs; rcases hs with rfl <;> exact ⟨Nat.le_of_ble_eq_true rfl, Nat.le_of_ble_eq_true rfl⟩
    case hsteps =>
     refine ⟨?_, ?_, ?_, ?_, ?_, ?_, ?_, ?_, ?_, ?_, ?_, ?_, ?_, trivial⟩
     · intro l_ a' w' hA hC hJ hN hB hD; have s6 := hA.to 6 (by kernel_rfl) rfl; clear hA hD; refine o7t rfl ?_; intro K hK; gi_wp2; exact hK _ _ rfl (FillC.refl _ _ _ _) (SlT.plainB rfl (B7 _ _))
     · intro l_ a' w' hA hC hJ hN hB hD; obtain ⟨u28, s28, rfl⟩ := hD ⟨0, .data⟩ (by simp) rfl _ rfl; clear hA hD; refine o7t rfl ?_; intro K hK; gi_wp2; exact hK _ _ rfl (FillC.refl _ _ _ _) (SlT.plainB rfl (B7 _ _))
     · intro l_ a' w' hA hC hJ hN hB hD; obtain ⟨u29, s29, rfl⟩ := hD ⟨1, .data⟩ (by simp) rfl _ rfl; clear hA hD; refine o7t rfl ?_; intro K hK; gi_wp2; exact hK _ _ rfl (FillC.refl _ _ _ _) (SlT.plainB rfl (B7 _ _))
     · intro l_ a' w' hA hC hJ hN hB hD; obtain ⟨u30, s30, rfl⟩ := hD ⟨2, .data⟩ (by simp) rfl _ rfl; clear hA hD; refine o7t rfl ?_; intro K hK
       refine ldSiteHas _ rfl (by simp [Act.eval, s30]) (HB.out.below hC.1).at_ HK.out ?_; exact hK _ _ rfl (FillC.refl _ _ _ _) (SlT.plainB rfl (B7 _ _))
     · intro l_ a' w' hA hC hJ hN hB hD; have s5 := hA.to 5 (by kernel_rfl) rfl; clear hA hD; refine o7t rfl ?_; intro K hK; gi_wp2; exact hK _ _ rfl (FillC.refl _ _ _ _) (SlT.plainB rfl (B7 _ _))
     · intro l_ a' w' hA hC hJ hN hB hD; obtain ⟨u32, s32, rfl⟩ := hD ⟨4, .data⟩ (by simp) rfl _ rfl; clear hA hD; refine o7t rfl ?_; intro K hK
       refine ldHas _ rfl (by simp [Act.eval, s32]) ((HS.out.below hC.1).blockAt 0 rfl) ?_; exact hK _ _ rfl (FillC.refl _ _ _ _) (SlT.plainB rfl (B7 _ _))
     · intro l_ a' w' hA hC hJ hN hB hD; obtain ⟨u33, s33, rfl⟩ := hD ⟨5, .data⟩ (by simp) rfl _ rfl; clear hA hD; refine o7t rfl ?_; intro K hK
       refine opIn_buildSlice_one _ _ rfl (e := 24) (m := 9) (lit9 p.has) (by simp [Act.eval, s33]) Tryz.underlying61 (by kernel_rfl) (by decide) (by decide) rfl ?_; exact hK _ _ ⟨w'.heap.size, p.has, rfl, newBlock _ _ _ rfl, HP.out, fun s _ => by rw [← HJJ.out]⟩ (FillC.grow ((B7 _ _).alloc (Nat.le_refl _) _) hC.1.size) (SlT.plainB rfl ((B7 _ _).alloc (Nat.le_refl _) _))
     · intro l_ a' w' hA hC hJ hN hB hD; obtain ⟨u31, s31, rfl⟩ := hD ⟨3, .data⟩ (by simp) rfl _ rfl; obtain ⟨u34, s34, r34⟩ := hD ⟨6, .data⟩ (by simp) rfl _ rfl; replace r34 : (fun v_ w_ => ∃ g u, v_ = .slice (some ⟨g, 0, none⟩) 1 1 ∧ w_.heap[g]? = some (.cells (lit9 u) 24 (0, 0)) ∧ vecOk u = true ∧ ∀ s, s < 9 → max ((f.site k).has s) (u s) = J s) u34 w' := r34; clear hA hD; refine o7t rfl ?_; intro K hK
       obtain ⟨g7, u7, rfl, h7, hq7o, h7j⟩ := r34; gi_wp2_with fail; refine (callsIn_wide.2 (HJ.out g7 u7 _ h7 hq7o h7j)).mono ?_; rintro e w5 ⟨rfl, hb5⟩; exact hK _ _ rfl (FillC.grow hb5 hC.1.size) (SlT.plainB rfl hb5)
     · intro l_ a' w' hA hC hJ hN hB hD; obtain ⟨u35, s35, rfl⟩ := hD ⟨7, .data⟩ (by simp) rfl _ rfl; clear hA hD; refine o7t rfl ?_; intro K hK; gi_wp2; exact hK _ _ rfl (FillC.refl _ _ _ _) (SlT.plainB rfl (B7 _ _))
     · intro l_ a' w' hA hC hJ hN hB hD; obtain ⟨u27, s27, rfl⟩ := hD ⟨8, .data⟩ (by simp) rfl _ rfl; clear hA hD; refine o7t rfl ?_; intro K hK; gi_wp2; exact hK _ _ rfl (FillC.refl _ _ _ _) (SlT.plainB rfl (B7 _ _))
     · intro l_ a' w' hA hC hJ hN hB hD; obtain ⟨u27, s27, rfl⟩ := hD ⟨8, .data⟩ (by simp) rfl _ rfl; clear hA hD; refine o7t rfl ?_; intro K hK; gi_wp2; exact hK _ _ rfl (FillC.refl _ _ _ _) (SlT.plainB rfl (B7 _ _))
     · intro l_ a' w' hA hC hJ hN hB hD; clear hA hD; refine o7t rfl ?_; intro K hK; gi_wp2; exact hK _ _ trivial (FillC.grow ((B7 _ _).alloc (Nat.le_refl _) _) hC.1.size) (SlT.alloc (by intro t ht e; simp only [List.mem_cons, List.not_mem_nil, or_false] at ht; rcases ht with rfl <;> first | rfl | (exact absurd e (Nat.ne_of_beq_eq_false rfl))) (by intro t ht; simp only [List.mem_cons, List.not_mem_nil, or_false] at ht; rcases ht with rfl <;> exact Nat.ne_of_beq_eq_false rfl))
     · intro l_ a' w' hA hC hJ hN hB hD; obtain ⟨u7, s7, r7⟩ := hD ⟨11, .data⟩ (by simp) rfl _ rfl; replace r7 : (fun _ _ => True) u7 w' := r7; obtain ⟨u36, s36, rfl⟩ := hD ⟨9, .data⟩ (by simp) rfl _ rfl
       obtain ⟨b7, n7, t7, o7⟩ := hJ.at_ _ (List.mem_of_getElem? (i := 0) rfl) (hB ⟨11, .data⟩ (by simp) rfl)
       rw [show l_.getD 12 false = false from hN] at o7
       replace o7 : w'.heap[b7]? = some (.cells #[.int .u64 0, .int .u64 0, .int .u64 0, .int .u64 0, .int .u64 0, .int .u64 0, .int .u64 0, .int .u64 0, .int .u64 0] 24 (0, 0)) := o7
       obtain rfl : u7 = ptrB b7 := Option.some.inj (s7.symm.trans t7)
       clear r7
       clear hA hD; refine o7t rfl ?_; intro K hK
       have f7 := f7b o7
       have c7_0 := c7b (k := 0) o7 rfl
       have c7_1 := c7b (k := 1) o7 rfl
       have c7_2 := c7b (k := 2) o7 rfl
       have c7_3 := c7b (k := 3) o7 rfl
       have c7_4 := c7b (k := 4) o7 rfl
       have c7_5 := c7b (k := 5) o7 rfl
       have c7_6 := c7b (k := 6) o7 rfl
       have c7_7 := c7b (k := 7) o7 rfl
       have c7_8 := c7b (k := 8) o7 rfl
       have f7_0 := f7 0
       have f7_1 := f7 1
       have f7_2 := f7 2
       have f7_3 := f7 3
       have f7_4 := f7 4
       have f7_5 := f7 5
       have f7_6 := f7 6
       have f7_7 := f7 7
       have f7_8 := f7 8
       clear f7; unfold ptrB at s7 t7; gi_wp2; exact hK undef _ trivial (fill9J J n7 o7) (SlT.store _ (by intro t ht e; simp only [List.mem_cons, List.not_mem_nil, or_false] at ht; rcases ht with rfl <;> first | rfl | (exact absurd e (Nat.ne_of_beq_eq_false rfl))) (by intro t ht; simp only [List.mem_cons, List.not_mem_nil, or_false] at ht; rcases ht with rfl <;> exact Nat.ne_of_beq_eq_false rfl) (List.mem_of_getElem? (i := 0) rfl) rfl b7 (by unfold envOf; rw [t7]; rfl) (heap_set9 (o := fun _ => 0) J o7) (others9 J))
    case hend =>
     intro w3 hC
     simp only [EndFrom, eqv, forall_eq, Act.put, List.length_cons, List.length_nil, List.drop_succ_cons, List.drop_zero, Nat.reduceAdd, List.setIfInBounds_toArray, List.set_cons_succ, List.set_cons_zero]
     rintro v6 - v11 - v12 - hE
     obtain ⟨q, hqN, hq1, hq2⟩ := hE.1 _ (List.mem_of_getElem? (i := 0) rfl)
     obtain rfl : v11 = ptrB q := Option.some.inj hq1
     have HQ := H7 (BlkA.mk (show w3.heap[q]? = some (.cells (lit9 J) 24 (0, 0)) from hq2))
     have HL := H7 (show Below w.heap.size w w3 from HS.out.low.trans (hC.1.mono HS.out.low.size))
     have hB3 := H7 hC.1
     have hc_ := hC.1
     have HS := H7 (HS.out.below hc_)
     have HB := H7 (HB.out.below hc_)
     clear hc_
     clear hE hq1 hq2 hC
     unfold ptrB
     gi_wp2_with fail
     repeat ((fail_if_success (with_reducible refine stop_at (id := 6) ?_)); (first | go_values | go_skip | go_guarded | go_step | go_upon | go_back | (simp only [Int.not_lt, Int.not_le] at *; go_simp) | (go_values <;> (try go_simp)) | (go_ite <;> go_prune <;> (try go_simp)) | (split <;> (first | (rename_i hx; exact (hx _ rfl).elim) | go_prune))))
     refine (frNeed_ok _ _).mono ?_
     rintro e w' ⟨rfl, rfl⟩
     repeat ((fail_if_success (with_reducible refine stop_at (id := 6) ?_)); (first | go_values | go_skip | go_guarded | go_step | go_upon | go_back | (simp only [Int.not_lt, Int.not_le] at *; go_simp) | (go_values <;> (try go_simp)) | (go_ite <;> go_prune <;> (try go_simp)) | (split <;> (first | (rename_i hx; exact (hx _ rfl).elim) | go_prune))))
     refine (wpIn_wide (n := 0)).1 ?_
     repeat (first | (refine ldV _ rfl rfl HQ.out.at_ ?_; simp only [Act.put, List.setIfInBounds_toArray, List.set_cons_succ, List.set_cons_zero]) | (refine stSiteHas _ _ rfl rfl HB.out.at_ HK.out rfl ?_; simp only [Act.put, List.setIfInBounds_toArray, List.set_cons_succ, List.set_cons_zero]) | gi_step)
     gi_wp2_with fail
     have hb6 := heap_putAt (lit9 J).toList (11 + k * 12 + 3) HB.out.at_
     rw [frt_putHas HK.out J] at hb6
     have hT6 := turned_cells (b := b) HL.out (11 + k * 12 + 3) (lit9 J).toList
     have hp6 := (heap_putAt_other (w := w3) (lit9 J).toList (11 + k * 12 + 3) (j := w.heap.size) (b := b) (by have := b7t HB0.out; omega)).trans (HS.out.blockAt 0 rfl)
     revert hb6 hT6 hp6
     generalize w3.setCells b (11 + k * 12 + 3) (lit9 J).toList = w6
     intro hb6 hT6 hp6
     have HB6 := H7 (BlkA.mk hb6)
     have HT6 := H7 hT6
     have HP6 := H7 (BlkA.mk hp6)
     clear hb6 hT6 hp6 HS HB HQ HL hB3
     repeat ((fail_if_success (with_reducible refine stop_at (id := 7) ?_)); (first | go_values | go_skip | go_guarded | go_step | go_upon | go_back | (simp only [Int.not_lt, Int.not_le] at *; go_simp) | (go_values <;> (try go_simp)) | (go_ite <;> go_prune <;> (try go_simp)) | (split <;> (first | (rename_i hx; exact (hx _ rfl).elim) | go_prune))))
     obtain ⟨x, hx⟩ : ∃ x, decide (p.floor > (f.site k).floor) = x := ⟨_, rfl⟩
     have HX := H7 hx
     clear hx
     refine (wpIn_wide (n := 0)).1 ?_
     apply w7v 7 (Rl := [(eqv _), (eqv _), (eqv _), (eqv _), (eqv _), (eqv _), (eqv _)]) (C := (fun x y => Below x.heap.size x y))
     case hm => kernel_rfl
     case hk => rfl
     case hCr => exact (fun _ => B7 _ _)
     case hCt => intro _ _ _; exact (fun h k => g7t h k)
     case hst => repeat (first | exact trivial | refine ⟨fun _ _ _ _ h => h, ?_⟩)
     case hfo => kernel_rfl
     case ht => kernel_rfl
     case hC0 => exact (g7d _)
     case hsteps =>
      refine ⟨?_, ?_, ?_, ?_, ?_, ?_, ?_, trivial⟩
      · intro a' w' hA hC hD; have s5 := hA.to 5 (by kernel_rfl) rfl; clear hA hD; refine o7p rfl ?_; intro K hK; gi_wp2; exact hK _ _ rfl (B7 _ _)
      · intro a' w' hA hC hD; obtain ⟨u45, s45, rfl⟩ := hD ⟨0, .data⟩ (by simp) rfl _ rfl
        have c1 := (plgCells (HP6.out.below hC).at_).2.1
        clear hA hD; refine o7p rfl ?_; intro K hK; gi_wp2; exact hK _ _ rfl (B7 _ _)
      · intro a' w' hA hC hD; have s6 := hA.to 6 (by kernel_rfl) rfl; clear hA hD; refine o7p rfl ?_; intro K hK; gi_wp2; exact hK _ _ rfl (B7 _ _)
      · intro a' w' hA hC hD; obtain ⟨u47, s47, rfl⟩ := hD ⟨2, .data⟩ (by simp) rfl _ rfl; clear hA hD; refine o7p rfl ?_; intro K hK; gi_wp2; exact hK _ _ rfl (B7 _ _)
      · intro a' w' hA hC hD; obtain ⟨u48, s48, rfl⟩ := hD ⟨3, .data⟩ (by simp) rfl _ rfl; clear hA hD; refine o7p rfl ?_; intro K hK; gi_wp2; exact hK _ _ rfl (B7 _ _)
      · intro a' w' hA hC hD; obtain ⟨u49, s49, rfl⟩ := hD ⟨4, .data⟩ (by simp) rfl _ rfl
        have c5 := Frt.cell (r := 1) (v := .int .u64 (f.site k).floor) (HB6.out.below hC).at_ HK.out (by rw [Frt.put_at]; rfl)
        clear hA hD; refine o7p rfl ?_; intro K hK; gi_wp2; exact hK _ _ rfl (B7 _ _)
      · intro a' w' hA hC hD; obtain ⟨u46, s46, rfl⟩ := hD ⟨1, .data⟩ (by simp) rfl _ rfl; obtain ⟨u50, s50, rfl⟩ := hD ⟨5, .data⟩ (by simp) rfl _ rfl; clear hA hD; refine o7p rfl ?_; intro K hK; gi_wp2; rw [HX.out]; exact hK _ _ rfl (B7 _ _)
     case hend =>
      intro w7 hC
      simp only [EndFrom, eqv, forall_eq, Act.put, List.length_cons, List.length_nil, List.drop_succ_cons, List.drop_zero, Nat.reduceAdd, List.setIfInBounds_toArray, List.set_cons_succ, List.set_cons_zero]
      have HT7 := H7 (HT6.out.two (Turned.ofBelow _ hC))
      have HP7 := H7 (HP6.out.below hC)
      have HB7 := H7 (HB6.out.below hC)
      have HG := H7 (show w.heap.size < w7.heap.size ∧ w.heap.size ≠ b from ⟨b7t HP7.out.at_, by have := b7t HB0.out; omega⟩)
      clear hC HT6 HP6 HB6
      cases x with
      | false =>
       gi_wp2_with fail
       go_wp2_with fail
       go_end0
       have hx := of_decide_eq_false HX.out
       refine ⟨HT7.out, fun _ => ⟨rfl, ?_⟩, fun h => absurd rfl h⟩
       rw [← HF2.out]
       unfold hearP
       rw [if_neg (by omega), if_neg (by omega), HJJ.out]
       exact HB7.out.at_
      | true =>
       gi_wp2_with fail
       repeat ((fail_if_success (with_reducible refine stop_at (id := 8) ?_)); (first | go_values | go_skip | go_guarded | go_step | go_upon | go_back | (simp only [Int.not_lt, Int.not_le] at *; go_simp) | (go_values <;> (try go_simp)) | (go_ite <;> go_prune <;> (try go_simp)) | (split <;> (first | (rename_i hx; exact (hx _ rfl).elim) | go_prune))))
       refine (wpIn_wide (n := 0)).1 ?_
       apply wp_region_store 9 8 (fun b_ w_ => w_.heap[b]? = some (.cells (f.put k { f.site k with has := J, floor := cond b_ p.floor (f.site k).floor }).cells 85 (0, 0))) (Rl := [(eqv _), (eqv _), (eqv _), (eqv _), (eqv _), (eqv _), (eqv _), (eqv _), (fun v_ w_ => True)]) (C := (fun x y => Turned (fun j => j = b) x y)) (C0 := (fun x y => Below x.heap.size x y))
       case hm => kernel_rfl
       case hk => rfl
       case hCr => exact (fun x => Turned.refl _ x)
       case hCt => intro _ _ _; exact (fun h k => h.two k)
       case h00 => exact (fun x => B7 _ x)
       case h0C => intro _ _; exact fun h => Turned.ofBelow _ h
       case hst => repeat (first | exact trivial | refine ⟨fun _ _ _ _ h => h, ?_⟩)
       case hfo => kernel_rfl
       case ht => kernel_rfl
       case hC0 => exact (⟨rfl, rfl, rfl, Nat.le_refl _, fun _ _ _ => rfl⟩)
       case hsk => decide
       case hso => decide
       case hsg => rfl
       case hsteps =>
        refine ⟨?_, ?_, ?_, ?_, ?_, ?_, ?_, ?_, ?_, trivial⟩
        · intro a' w' b_ hA hC hJ hB1 hB2 hD
          obtain rfl := hB1 (by kernel_rfl)
          clear hB1 hB2
          have s6 := hA.to 6 (by kernel_rfl) rfl; clear hA hD; refine o7p rfl ?_; intro K hK; gi_wp2; exact hK _ _ rfl ⟨(fun x => B7 _ x) _, hJ⟩
        · intro a' w' b_ hA hC hJ hB1 hB2 hD
          skip
          clear hB1 hB2
          have s6 := hA.to 6 (by kernel_rfl) rfl; clear hA hD; refine o7p rfl ?_; intro K hK; gi_wp2; exact hK _ _ rfl ⟨(fun x => B7 _ x) _, hJ⟩
        · intro a' w' b_ hA hC hJ hB1 hB2 hD
          obtain rfl := hB1 (by kernel_rfl)
          clear hB1 hB2
          have s5 := hA.to 5 (by kernel_rfl) rfl; clear hA hD; refine o7p rfl ?_; intro K hK; gi_wp2; exact hK _ _ rfl ⟨(fun x => B7 _ x) _, hJ⟩
        · intro a' w' b_ hA hC hJ hB1 hB2 hD
          obtain rfl := hB1 (by kernel_rfl)
          clear hB1 hB2
          obtain ⟨u54, s54, rfl⟩ := hD ⟨2, .data⟩ (by simp) rfl _ rfl
          have c3 := (plgCells ((hC.block _ HG.out.1 HG.out.2).trans HP7.out.at_)).2.1
          clear hA hD; refine o7p rfl ?_; intro K hK; gi_wp2; exact hK _ _ rfl ⟨(fun x => B7 _ x) _, hJ⟩
        · intro a' w' b_ hA hC hJ hB1 hB2 hD
          skip
          clear hB1 hB2
          have s5 := hA.to 5 (by kernel_rfl) rfl; clear hA hD; refine o7p rfl ?_; intro K hK; gi_wp2; exact hK _ _ rfl ⟨(fun x => B7 _ x) _, hJ⟩
        · intro a' w' b_ hA hC hJ hB1 hB2 hD
          skip
          clear hB1 hB2
          obtain ⟨u56, s56, rfl⟩ := hD ⟨4, .data⟩ (by simp) rfl _ rfl
          have c5 := (plgCells ((hC.block _ HG.out.1 HG.out.2).trans HP7.out.at_)).2.2
          clear hA hD; refine o7p rfl ?_; intro K hK; gi_wp2; exact hK _ _ rfl ⟨(fun x => B7 _ x) _, hJ⟩
        · intro a' w' b_ hA hC hJ hB1 hB2 hD
          obtain rfl := hB1 (by kernel_rfl)
          clear hB1 hB2
          obtain ⟨u52, s52, rfl⟩ := hD ⟨0, .data⟩ (by simp) rfl _ rfl; clear hA hD; refine o7p rfl ?_; intro K hK; gi_wp2; exact hK _ _ rfl ⟨(fun x => B7 _ x) _, hJ⟩
        · intro a' w' b_ hA hC hJ hB1 hB2 hD
          obtain rfl := hB1 (by kernel_rfl)
          clear hB1 hB2
          obtain ⟨u58, s58, rfl⟩ := hD ⟨6, .data⟩ (by simp) rfl _ rfl; clear hA hD; refine o7p rfl ?_; intro K hK; gi_wp2; exact hK _ _ rfl ⟨(fun x => B7 _ x) _, hJ⟩
        · intro a' w' b_ hA hC hJ hB1 hB2 hD
          obtain rfl := hB2 rfl
          clear hB1 hB2
          obtain ⟨u59, s59, rfl⟩ := hD ⟨7, .data⟩ (by simp) rfl _ rfl; obtain ⟨u55, s55, rfl⟩ := hD ⟨3, .data⟩ (by simp) rfl _ rfl
          have c8 := putCell (r := 1) HK.out _ hJ rfl; have f8 := f7b hJ (11 + k * 12 + 1)
          clear hA hD; refine o7p rfl ?_; intro K hK; gi_wp2; exact hK undef _ trivial ⟨Turned.one, by have h := h7s (k := 11 + k * 12 + 1) hJ (.int .u64 p.floor); rw [frt_floor2 HK.out] at h; exact h⟩
       case hJ0 => exact HB7.out.at_
       case hend =>
        intro w8 hC hJ
        simp only [EndFrom, eqv, forall_eq, Act.put, List.length_cons, List.length_nil, List.drop_succ_cons, List.drop_zero, Nat.reduceAdd, List.setIfInBounds_toArray, List.set_cons_succ, List.set_cons_zero]
        intro v8 _
        have c8 := putCell (r := 2) HK.out _ hJ rfl
        have f8 := f7b hJ (11 + k * 12 + 2)
        have h := h7s (k := 11 + k * 12 + 2) hJ (.int .u64 p.seq)
        rw [frt_seq2 HK.out] at h
        have H8 := H7 h
        have HT8 := H7 (HT7.out.two (hC.two (Turned.one (o := 11 + k * 12 + 2) (v := .int .u64 p.seq))))
        clear h hC hJ
        gi_wp2_with fail
        clear c8 f8
        go_wp2_with fail
        go_end0
        have hx := of_decide_eq_true HX.out
        refine ⟨HT8.out, fun _ => ⟨rfl, ?_⟩, fun h => absurd rfl h⟩
        rw [← HF2.out]
        unfold hearP
        rw [if_pos (by omega), if_pos (by omega), HJJ.out]
        exact H8.out
/- Layer 18: Hear, Rise. -/
set_option maxRecDepth 100000 in
set_option maxHeartbeats 1000000 in
theorem hear1_any (f : Frt) (hok : f.okB = true) (n : Int) (p : Plg) (b c d : Nat) (w : World) (hb : w.heap[b]? = some (.cells f.cells 85 (0, 0))) (hc : w.heap[c]? = some (.cells #[.int .i64 n] 3 (0, 0))) (hd : w.heap[d]? = some (.cells p.cells 26 (0, 0))) :
 Calls Tryz.prog 43 #[.pointer (some ⟨b, 0, none⟩), .pointer (some ⟨c, 0, none⟩), .pointer (some ⟨d, 0, none⟩)] w (EndsF b (hearF f n p) (hearE f n p) w) := by
 have hmf : ∀ (fn : Fn) (first cap : Array Value) (w : World), (Instr.makeFunc fn first cap).run Tryz.prog w = .ok (.func fn first cap) w := fun _ _ _ _ => rfl
 have heg := enters_of Tryz.func44 (by kernel_rfl) rfl
 have HH := H7 (hear_any f hok n p b w hb)
 generalize hearF f n p = f2 at HH ⊢
 generalize hearE f n p = E at HH ⊢
 have HD := H7 hd
 have c0 := c7b (k := 0) hc rfl
 clear hb hc hd
 go_enter Tryz.func43, Tryz.ntmps43
 repeat ((fail_if_success (with_reducible refine stop_at (id := 1) ?_)); (first | go_values | go_skip | go_guarded | go_step | go_upon | go_back | (simp only [Int.not_lt, Int.not_le] at *; go_simp) | (go_values <;> (try go_simp)) | (go_ite <;> go_prune <;> (try go_simp)) | (split <;> (first | (rename_i hx; exact (hx _ rfl).elim) | go_prune))))
 refine (wpIn_wide (n := 0)).1 ?_
 repeat (first | (refine ldP _ rfl rfl HD.out ?_; simp only [Act.put, List.setIfInBounds_toArray, List.set_cons_succ, List.set_cons_zero]) | gi_step)
 gi_wp2_with fail
 refine (callsIn_wide.2 HH.out).mono ?_
 rintro e w2 ⟨ht, hy, hn⟩
 have HT := H7 ht
 by_cases her : E = 0
 · obtain ⟨rfl, hb2⟩ := hy her
   have HB2 := H7 hb2
   have HER := H7 her
   clear ht hy hn hb2 her c0
   gi_wp2_with fail
   go_wp2_with fail
   go_end0
   exact ⟨HT.out, fun _ => ⟨rfl, HB2.out⟩, fun h => absurd HER.out h⟩
 · have h2 := hn her
   unfold PanicF at h2
   subst h2
   exact ⟨rfl, HT.out, fun h => absurd h her, fun _ => rfl⟩
theorem hear_tries (f : Frt) (n : Int) (p : Plg) (c d : Nat) (w : World) (hc : w.heap[c]? = some (.cells #[.int .i64 n] 3 (0, 0))) (hd : w.heap[d]? = some (.cells p.cells 26 (0, 0))) :
 Calls Tryz.prog 39 #[.agg f.cells, .func (.func 43) #[] #[.pointer (some ⟨c, 0, none⟩), .pointer (some ⟨d, 0, none⟩)]] w (Gives (.tuple #[.agg (trF f (hearF f n p) (hearE f n p)).cells, .int .i64 (trE f (hearE f n p))]) w) :=
 frTries_any 43 _ f (hearF f n p) (hearE f n p) w (enters_of Tryz.func43 (by kernel_rfl) rfl) (fun hok w2 b hb hge hbk => hear1_any f hok n p b c d w2 hbk ((hb.block _ (b7t hc)).trans hc) ((hb.block _ (b7t hd)).trans hd))
set_option maxRecDepth 100000 in
set_option maxHeartbeats 2000000 in
theorem hear0_any (f : Frt) (n : Int) (p : Plg) (w : World) : Calls Tryz.prog 11 #[.agg f.cells, .int .i64 n, .agg p.cells] w (Gives (.tuple #[.agg (trF f (hearF f n p) (hearE f n p)).cells, .int .i64 (trE f (hearE f n p))]) w) := by
 have hmf : ∀ (fn : Fn) (first cap : Array Value) (w : World), (Instr.makeFunc fn first cap).run Tryz.prog w = .ok (.func fn first cap) w := fun _ _ _ _ => rfl
 have HS := H7 (St.start w)
 have HT := H7 (hear_tries f n p (w.heap.size + 1) (w.heap.size + 1 + 1))
 generalize trF f (hearF f n p) (hearE f n p) = f2 at HT ⊢
 generalize trE f (hearE f n p) = E at HT ⊢
 go_enter Tryz.func11, Tryz.ntmps11
 repeat ((fail_if_success (with_reducible refine stop_at (id := 1) ?_)); (first | go_values | go_skip | go_guarded | go_step | go_upon | go_back | (simp only [Int.not_lt, Int.not_le] at *; go_simp) | (go_values <;> (try go_simp)) | (go_ite <;> go_prune <;> (try go_simp)) | (split <;> (first | (rename_i hx; exact (hx _ rfl).elim) | go_prune))))
 rw [zeroF]
 have hs_ := ((((HS.out.alloc (.cells f.cells 29)).alloc (.cells #[.int .i64 n] 3)).alloc (.cells p.cells 26)).alloc (.cells frZ.cells 29))
 obtain ⟨w1, hw_⟩ : ∃ w1 : World, ((((w.alloc (.cells f.cells 29)).alloc (.cells #[.int .i64 n] 3)).alloc (.cells p.cells 26)).alloc (.cells frZ.cells 29)) = w1 := ⟨_, rfl⟩
 rw [hw_] at hs_
 try simp only [World.size_alloc] at hs_
 have HS := H7 hs_
 rw [hw_]
 clear hw_ hs_
 refine (wpIn_wide (n := 0)).1 ?_
 repeat (first | (refine ldF _ rfl rfl (HS.out.blockAt 3 rfl) ?_; simp only [Act.put, List.setIfInBounds_toArray, List.set_cons_succ, List.set_cons_zero]) | gi_step)
 refine (callsIn_wide.2 (HT.out _ (HS.out.blockAt 2 rfl) (HS.out.blockAt 1 rfl))).mono ?_
 rintro e w2 ⟨rfl, hb_⟩
 have HS := H7 (HS.out.below hb_)
 clear hb_ HT
 simp only []; go_at_K
 repeat (first | (refine stF _ _ rfl rfl (HS.out.blockAt 0 rfl) rfl rfl ?_; simp only [Act.put, List.setIfInBounds_toArray, List.set_cons_succ, List.set_cons_zero]) | gi_step)
 gi_wp2_with fail
 go_wp2_with fail
 have hs := HS.out.putRow (c' := f2.cells) (pre := []) (by intro i hi; cases hi)
 simp only [List.nil_append] at hs
 refine bodyPost_ret (resFt rfl rfl rfl (hs.blockAt 0 rfl)) rfl ⟨rfl, hs.low⟩
theorem rowKeep {w0 w2 : World} {l : List Int} {sv : Value} {b : Nat} (h : w2.ownsRow w0.heap.size 3 1 sv l.length (l.flatMap encZ)) (hb : b < w0.heap.size) :
 ∃ a c, sv = .slice a l.length c ∧ ∀ wr, Turned (fun x => x = b) w2 wr → Elems wr (.slice a l.length c) l.length 1 (rowC encZ l) := by
 have hel := ownsRow_rows encZ_len h
 rcases h.2 with ⟨rfl, h0⟩ | ⟨g, cap, cur, rfl, h1, h2, -⟩
 · exact ⟨none, 0, by rw [h0], fun wr _ => .inl ⟨by rw [h0], h0⟩⟩
 · refine ⟨_, cap, rfl, fun wr ht => ?_⟩
   rcases hel with ⟨e, _⟩ | ⟨b0, off, cap', e, hlt, hcs⟩
   · cases e
   · cases e
     have hbk := ht.block _ hlt (by omega)
     refine .inr ⟨_, _, _, rfl, Nat.lt_of_lt_of_le hlt ht.size, fun j hj => ?_⟩
     have := hcs j hj
     simp only [World.cell?, hbk] at this ⊢
     exact this
def riseK (f : Frt) (L : List Nat) : Frt := { f with prop := 0, site := fun j => if j ∈ L then plIn f.folded else f.site j }
def riseF (f : Frt) : Frt := riseK f (regL f)
theorem riseK_nil (f : Frt) : riseK f [] = { f with prop := 0 } := by unfold riseK; simp
theorem riseK_snoc (f : Frt) (L : List Nat) (k : Nat) : (riseK f L).put k (plIn f.folded) = riseK f (L ++ [k]) := by
 unfold riseK Frt.put
 congr 1
 funext j
 dsimp only
 by_cases h : j = k
 · subst h; simp
 · simp [h]
set_option maxRecDepth 100000 in
set_option maxHeartbeats 2000000 in
theorem rise1_any (f : Frt) (b : Nat) (w : World) (hb : w.heap[b]? = some (.cells f.cells 85 (0, 0))) :
 Calls Tryz.prog 62 #[.pointer (some ⟨b, 0, none⟩)] w (EndsF b (riseF f) 0 w) := by
 have HB := H7 (BlkA.mk hb)
 have c0 := Frt.propC hb
 have f0 := f7b hb
 have h1 := h7s (k := 10) hb (.int .u64 0)
 rw [frt_setProp] at h1
 have HT := H7 (Turned.one (b := b) (o := 10) (w := w) (v := .int .u64 0))
 have HB1 := H7 (BlkA.mk h1)
 have HLB := H7 (b7t hb)
 clear hb h1
 go_enter Tryz.func62, Tryz.ntmps62
 repeat ((fail_if_success (with_reducible refine stop_at (id := 1) ?_)); (first | go_values | go_skip | go_guarded | go_step | go_upon | go_back | (simp only [Int.not_lt, Int.not_le] at *; go_simp) | (go_values <;> (try go_simp)) | (go_ite <;> go_prune <;> (try go_simp)) | (split <;> (first | (rename_i hx; exact (hx _ rfl).elim) | go_prune))))
 clear c0 f0
 revert HT HB1
 generalize w.setCell ⟨b, 10, none⟩ (.int .u64 0) = w1
 intro HT HB1
 refine (wpIn_wide (n := 0)).1 ?_
 repeat (first | (refine ldF _ rfl rfl HB1.out.at_ ?_; simp only [Act.put, List.setIfInBounds_toArray, List.set_cons_succ, List.set_cons_zero]) | gi_step)
 refine (callsIn_wide.2 (frAll_any _ _)).mono ?_
 rintro e w2 ⟨sv, rfl, hrow, hb2⟩
 have hrg : regL { f with prop := 0 } = regL f := rfl
 rw [hrg] at hrow
 rw [← natI_len] at hrow
 obtain ⟨a, c, rfl, hkeep⟩ := rowKeep hrow (show b < w1.heap.size from b7t HB1.out.at_)
 rw [natI_len] at hkeep ⊢
 have HEL := H7 hkeep
 have HB2 := H7 (HB1.out.below hb2)
 have HT2 := H7 (HT.out.two (Turned.ofBelow _ hb2))
 clear hb2 hrow hrg hkeep
 gi_wp2_with fail
 go_wp2_with fail
 obtain ⟨n, hn⟩ : ∃ n, (regL f).length = n := ⟨_, rfl⟩
 rw [hn]
 have HN := H7 hn
 rw [hn] at HEL
 have hn9 : n ≤ 9 := hn ▸ regL_len f
 clear hn
 go_loopw [14] (fun i wr => ∃ j : Nat, j ≤ n ∧ i = .int .i64 (j : Int) ∧ Turned (fun x => x = b) w2 wr ∧ wr.heap[b]? = some (.cells (riseK f ((regL f).take j)).cells 85 (0, 0))) (fun i _ => n - (intOf i).toNat)
 case atStart => exact ⟨0, by omega, rfl, Turned.refl _ _, by rw [List.take_zero, riseK_nil]; exact HB2.out.at_⟩
 case round =>
  obtain ⟨j, hj, rfl, ht, hbk⟩ := hrel
  have HTR := H7 ht
  have HBR := H7 (BlkA.mk hbk)
  clear ht hbk
  by_cases hlt : j < n
  · obtain ⟨k, hk⟩ : ∃ k, (regL f)[j]? = some k := ⟨_, List.getElem?_eq_getElem (by rw [HN.out]; exact hlt)⟩
    have hk9 := (regL_mem.1 (List.mem_of_getElem? hk)).1
    have HK := H7 hk9
    obtain ⟨b1, o1, rfl, hb1, hc1⟩ := zCells (by rw [natI_len]; exact HN.out) (HEL.out wr HTR.out) j (k : Int) (by unfold natI; rw [List.getElem?_map, hk]; rfl)
    have hsn : (riseK f ((regL f).take j)).put k (plIn f.folded) = riseK f ((regL f).take (j + 1)) := by rw [riseK_snoc, List.take_add_one, hk]; rfl
    have HSN := H7 hsn
    have HLT := H7 hlt
    clear hsn hk hb1
    repeat ((fail_if_success (with_reducible refine stop_at (id := 3) ?_)); (first | go_values | go_skip | go_guarded | go_step | go_upon | go_back | (simp only [Int.not_lt, Int.not_le] at *; go_simp) | (go_values <;> (try go_simp)) | (go_ite <;> go_prune <;> (try go_simp)) | (split <;> (first | (rename_i hx; exact (hx _ rfl).elim) | go_prune))))
    go_wp2_with fail
    repeat ((fail_if_success (with_reducible refine stop_at (id := 4) ?_)); (first | go_values | go_skip | go_guarded | go_step | go_upon | go_back | (simp only [Int.not_lt, Int.not_le] at *; go_simp) | (go_values <;> (try go_simp)) | (go_ite <;> go_prune <;> (try go_simp)) | (split <;> (first | (rename_i hx; exact (hx _ rfl).elim) | go_prune))))
    clear hc1
    refine (wpIn_wide (n := 0)).1 ?_
    apply w7v 12 (Rl := [(eqv _), (eqv _), (eqv _), (eqv _), (eqv _), (eqv _), (eqv _), (eqv _), (eqv _), (eqv _), (eqv _), (eqv _)]) (C := (fun x y => Below x.heap.size x y))
    case hm => kernel_rfl
    case hk => rfl
    case hCr => exact (fun _ => B7 _ _)
    case hCt => intro _ _ _; exact (fun h k => g7t h k)
    case hst => repeat (first | exact trivial | refine ⟨fun _ _ _ _ h => h, ?_⟩)
    case hfo => kernel_rfl
    case ht => kernel_rfl
    case hC0 => exact (g7d _)
    case hsteps =>
     refine ⟨?_, ?_, ?_, ?_, ?_, ?_, ?_, ?_, ?_, ?_, ?_, ?_, trivial⟩
     · intro a' w' hA hC hD; have s0 := hA.to 0 (by kernel_rfl) rfl; clear hA hD; refine o7p rfl ?_; intro K hK; gi_wp2; exact hK _ _ rfl (B7 _ _)
     · intro a' w' hA hC hD; have s3 := hA.to 3 (by kernel_rfl) rfl; clear hA hD; refine o7p rfl ?_; intro K hK; gi_wp2; exact hK _ _ rfl (B7 _ _)
     · intro a' w' hA hC hD; have s0 := hA.to 0 (by kernel_rfl) rfl; clear hA hD; refine o7p rfl ?_; intro K hK; gi_wp2; exact hK _ _ rfl (B7 _ _)
     · intro a' w' hA hC hD; obtain ⟨u20, s20, rfl⟩ := hD ⟨2, .data⟩ (by simp) rfl _ rfl; clear hA hD; refine o7p rfl ?_; intro K hK; gi_wp2; exact hK _ _ rfl (B7 _ _)
     · intro a' w' hA hC hD; obtain ⟨u21, s21, rfl⟩ := hD ⟨3, .data⟩ (by simp) rfl _ rfl; clear hA hD; refine o7p rfl ?_; intro K hK; gi_wp2; exact hK _ _ rfl (B7 _ _)
     · intro a' w' hA hC hD; obtain ⟨u22, s22, rfl⟩ := hD ⟨4, .data⟩ (by simp) rfl _ rfl; clear hA hD; refine o7p rfl ?_; intro K hK; gi_wp2; exact hK _ _ rfl (B7 _ _)
     · intro a' w' hA hC hD; obtain ⟨u23, s23, rfl⟩ := hD ⟨5, .data⟩ (by simp) rfl _ rfl
       have c6 : w'.cell? ⟨b, 0, none⟩ = some (.int .u64 f.folded) := Frt.foldedC (f := riseK f ((regL f).take j)) (HBR.out.below hC).at_
       clear hA hD; refine o7p rfl ?_; intro K hK; gi_wp2; exact hK _ _ rfl (B7 _ _)
     · intro a' w' hA hC hD; obtain ⟨u24, s24, rfl⟩ := hD ⟨6, .data⟩ (by simp) rfl _ rfl; clear hA hD; refine o7p rfl ?_; intro K hK
       refine bdI _ rfl (x := f.folded) (by simp [Act.eval, s24]) ?_; exact hK _ _ rfl (B7 _ _)
     · intro a' w' hA hC hD; obtain ⟨u18, s18, rfl⟩ := hD ⟨0, .data⟩ (by simp) rfl _ rfl; clear hA hD; refine o7p rfl ?_; intro K hK; gi_wp2; exact hK _ _ rfl (B7 _ _)
     · intro a' w' hA hC hD; obtain ⟨u26, s26, rfl⟩ := hD ⟨8, .data⟩ (by simp) rfl _ rfl; clear hA hD; refine o7p rfl ?_; intro K hK; gi_wp2; exact hK _ _ rfl (B7 _ _)
     · intro a' w' hA hC hD; obtain ⟨u27, s27, rfl⟩ := hD ⟨9, .data⟩ (by simp) rfl _ rfl; clear hA hD; refine o7p rfl ?_; intro K hK; gi_wp2; exact hK _ _ rfl (B7 _ _)
     · intro a' w' hA hC hD; obtain ⟨u28, s28, rfl⟩ := hD ⟨10, .data⟩ (by simp) rfl _ rfl; obtain ⟨u19, s19, rfl⟩ := hD ⟨1, .data⟩ (by simp) rfl _ rfl
       have hk9 := HK.out
       clear hA hD; refine o7p rfl ?_; intro K hK; gi_wp2; exact hK _ _ rfl (B7 _ _)
    case hend =>
     intro w6 hC
     simp only [EndFrom, eqv, forall_eq, Act.put, List.length_cons, List.length_nil, List.drop_succ_cons, List.drop_zero, Nat.reduceAdd, List.setIfInBounds_toArray, List.set_cons_succ, List.set_cons_zero]
     have hb6 := (HBR.out.below hC).at_
     have HT6 := H7 (HTR.out.two (turned_cells (b := b) hC (11 + k * 12) (plIn f.folded).l))
     repeat (first | (refine stSite _ _ rfl rfl hb6 HK.out rfl ?_; simp only [Act.put, List.setIfInBounds_toArray, List.set_cons_succ, List.set_cons_zero]) | gi_step)
     gi_wp2_with fail
     have h2 := frtPut_at hb6 HK.out (plIn f.folded)
     rw [HSN.out] at h2
     have H2 := H7 h2
     clear hb6 h2
     have hlt := HLT.out
     go_wp2_with fail
     go_roundw
     case rel => exact ⟨j + 1, hlt, by simp, HT6.out, H2.out⟩
     case measure => simp [intOf]; omega
  · obtain rfl : j = n := by omega
    go_wp2_with fail
    go_end0
    refine ⟨HT2.out.two HTR.out, fun _ => ⟨rfl, ?_⟩, fun h => absurd rfl h⟩
    have := HBR.out.at_
    rw [List.take_of_length_le (Nat.le_of_eq HN.out)] at this
    exact this
theorem rise_tries (f : Frt) (w : World) : Calls Tryz.prog 39 #[.agg f.cells, .func (.func 62) #[] #[]] w (Gives (.tuple #[.agg (trF f (riseF f) 0).cells, .int .i64 (trE f 0)]) w) :=
 frTries_any 62 _ f (riseF f) 0 w (enters_of Tryz.func62 (by kernel_rfl) rfl) (fun hok w2 b hb hge hbk => rise1_any f b w2 hbk)
set_option maxRecDepth 100000 in
set_option maxHeartbeats 2000000 in
theorem rise_any (f : Frt) (w : World) : Calls Tryz.prog 34 #[.agg f.cells] w (Gives (.tuple #[.agg (trF f (riseF f) (0)).cells, .int .i64 (trE f (0))]) w) := by
 have hmf : ∀ (fn : Fn) (first cap : Array Value) (w : World), (Instr.makeFunc fn first cap).run Tryz.prog w = .ok (.func fn first cap) w := fun _ _ _ _ => rfl
 have HS := H7 (St.start w)
 have HT := H7 (rise_tries f)
 generalize trF f (riseF f) (0) = f2 at HT ⊢
 generalize trE f (0) = E at HT ⊢
 go_enter Tryz.func34, Tryz.ntmps34
 repeat ((fail_if_success (with_reducible refine stop_at (id := 1) ?_)); (first | go_values | go_skip | go_guarded | go_step | go_upon | go_back | (simp only [Int.not_lt, Int.not_le] at *; go_simp) | (go_values <;> (try go_simp)) | (go_ite <;> go_prune <;> (try go_simp)) | (split <;> (first | (rename_i hx; exact (hx _ rfl).elim) | go_prune))))
 rw [zeroF]
 have hs_ := ((HS.out.alloc (.cells f.cells 29)).alloc (.cells frZ.cells 29))
 obtain ⟨w1, hw_⟩ : ∃ w1 : World, ((w.alloc (.cells f.cells 29)).alloc (.cells frZ.cells 29)) = w1 := ⟨_, rfl⟩
 rw [hw_] at hs_
 try simp only [World.size_alloc] at hs_
 have HS := H7 hs_
 rw [hw_]
 clear hw_ hs_
 refine (wpIn_wide (n := 0)).1 ?_
 repeat (first | (refine ldF _ rfl rfl (HS.out.blockAt 1 rfl) ?_; simp only [Act.put, List.setIfInBounds_toArray, List.set_cons_succ, List.set_cons_zero]) | gi_step)
 refine (callsIn_wide.2 (HT.out _)).mono ?_
 rintro e w2 ⟨rfl, hb_⟩
 have HS := H7 (HS.out.below hb_)
 clear hb_ HT
 simp only []; go_at_K
 repeat (first | (refine stF _ _ rfl rfl (HS.out.blockAt 0 rfl) rfl rfl ?_; simp only [Act.put, List.setIfInBounds_toArray, List.set_cons_succ, List.set_cons_zero]) | gi_step)
 gi_wp2_with fail
 go_wp2_with fail
 have hs := HS.out.putRow (c' := f2.cells) (pre := []) (by intro i hi; cases hi)
 simp only [List.nil_append] at hs
 refine bodyPost_ret (resFt rfl rfl rfl (hs.blockAt 0 rfl)) rfl ⟨rfl, hs.low⟩
end Go.Proofs.YteklfmacnnmomaaGreat
