/- Merged texts: Made BoxS Pxl PxlB MadeB New. -/
import Derived.Test.YthcdkkmjnglmjaaGreatDoorM13
import Derived.Maps.OwnIn
import Derived.Test.YthcdkkmjnglmjaaGreatDoorM1
import Derived.Test.YthcdkkmjnglmjaaGreatDoorM12
set_option linter.unusedSimpArgs false
set_option linter.unusedVariables false
/- Layer 5: what tiles come to: pointers; what pointers come to: tiles. -/
namespace Go.Proofs.YthcdkkmjnglmjaaGreatDoor
open Go.RowKit Go.Shelf
attribute [local go_sem] Oper.semAt_some
section
variable {α : Type} {w0 x y : World} {its : List It} {base : Nat} {e : TypeId} {k : Nat} {enc : α → List Value} {v : Value} {L : List α} {P : Program} {t : TypeId} {bytes : Nat}
/-- An element's cells. -/
theorem elem_range (hk : ∀ q, (enc q).length = k) {b off n cap : Nat} (h : Elems x (.slice (some ⟨b, off, none⟩) n cap) n k (rowC enc L)) {i : Nat} {q : α} (hq : L[i]? = some q) (hn : L.length = n) : x.rangeAt b (off + i * k) (enc q) := by
 intro r u hu
 have hr : r < k := by rw [← hk q]; exact (List.getElem?_eq_some_iff.1 hu).1
 have hi : i < n := by rw [← hn]; exact (List.getElem?_eq_some_iff.1 hq).1
 rcases h with ⟨e, h⟩ | ⟨b', off', cap', e, -, hcs⟩
 · cases e
 · cases e
   have hlt : i * k + r < n * k := by
    calc i * k + r < i * k + k := by omega
     _ = (i + 1) * k := by rw [Nat.add_mul, Nat.one_mul]
     _ ≤ n * k := Nat.mul_le_mul_right _ hi
   have h1 := hcs (i * k + r) hlt
   unfold rowC at h1
   rw [flat_get hk L _ _ hr, hq] at h1
   simp only [Option.bind_some, hu] at h1
   rw [Nat.add_assoc]
   exact h1
/-- append(row, q) in a fence; where the row lies then. -/
theorem wpListIn_app1l {F : Fence} {N : Nat} {ops : Array Oper} {rest : List Oper} {o : Oper} {a : Act} {Q : Exit → Act → World → Prop} (R : RowT P t e k bytes) (hk : ∀ q, (enc q).length = k) (h1 : ∀ q, ∀ u ∈ enc q, u.oneCell' = true)
 (HO : StO w0 its base e k enc v L x) (hb : Below x.heap.size x y) (q : α) (n : Nat) (hn : L.length = n) (hmax : n < 1000000000) (hby : bytes ≤ 1000)
 (s u : Operand) (hgd : o.guard = none) (ho : o.op = .call { callee := .builtin .append, args := #[s, u], argTypes := #[t, t] })
 (hs : a.eval s = v) (g : Nat) (hu : a.eval u = .slice (some ⟨g, 0, none⟩) 1 1) (hg : y.heap.size = g)
 (h : ∀ v' w', StO w0 its base e k enc v' (L ++ [q]) w' → (∃ ad cap, v' = .slice (some ad) (n + 1) cap) → y.grownBy w' v.ownBlock → (v'.ownBlock = v.ownBlock ∨ ∃ b, v'.ownBlock = some b ∧ y.heap.size < b) → wpListIn F N P ops Q rest (a.put o.dst v') w') :
 wpListIn F N P ops Q (o :: rest) a (y.alloc (.cells (enc q).toArray e (0, 0))) := by
 obtain ⟨i, z, hi, hz0, hz1, hz2, hz3⟩ := R.info
 subst hn
 subst hg
 have HY := HO.below hb
 have hbytes : (L.length + 1) * bytes ≤ 140737488355328 := Nat.le_trans (Nat.mul_le_mul (show L.length + 1 ≤ 1000000000 by omega) hby) (by omega)
 refine wpListIn_append_own_at _ hgd s u t ho base e i z k bytes R.un hi hz0 hz1 hz2 hz3 R.pos v L.length _ hs (HY.row.alloc _) ⟨y.heap.size, 0, none⟩ 1 1 (enc q) hu (by rw [hk, Nat.one_mul])
  (fun j x hx => cells_of_block (newBlock y (.cells (enc q).toArray e (0, 0)) _ rfl) j x (by simpa using hx)) (h1 q) (by unfold maxLen; omega) hbytes (by have := HY.hi; simp; omega) ?_
 intro v' w' hown hgrow _ hloc
 refine h v' w' ⟨(HY.st.below ((B7 _ _).alloc (Nat.le_refl _) _)).grown (fun j e => (HY.row.lt j e).1) HY.low HY.top hgrow, ?_, HY.low, HY.top, ?_⟩ ?_ (grownTrans (World.grownBy_alloc y _ _) hgrow) ?_
 · rw [List.length_append, List.flatMap_append]; simpa using hown
 · have := hgrow.size; have := HY.hi; simp at *; omega
 · rcases hown.2 with ⟨_, h0⟩ | ⟨g, cap, cur, rfl, _⟩
   · omega
   · exact ⟨_, cap, rfl⟩
 · rcases hloc with h | h
   · exact .inl h
   · exact .inr ⟨_, h, by simp⟩
/-- A new block whose cells are written at once. -/
theorem St.allocRow (h : St w0 its x) (z c : Array Value) (t : TypeId) : St w0 (.blk x.heap.size (.cells c t (0, 0)) :: its) ((x.alloc (.cells z t (0, 0))).setRow x.heap.size c) := by
 have h1 := (h.alloc (.cells z t (0, 0))).putRow (c' := c) (pre := []) (by simp)
 exact h1
end
def encQ (q : Nat) : List Value := [.pointer (some ⟨q, 0, none⟩)]
theorem encQ_len (q : Nat) : (encQ q).length = 1 := rfl
theorem encQ_one (q : Nat) : ∀ u ∈ encQ q, u.oneCell' = true := by intro u hu; simp [encQ] at hu; subst hu; rfl
theorem encT_one (t : TileT) : ∀ u ∈ encT t, u.oneCell' = true := by
 intro u hu
 unfold encT at hu
 obtain ⟨d, -, hd⟩ := List.mem_flatMap.1 hu
 simp only [encC, List.mem_cons, List.not_mem_nil, or_false] at hd
 rcases hd with rfl | rfl | rfl | rfl <;> rfl
theorem encT_all (t : TileT) : (encT t).toArray.all (·.oneCell') = true := by
 rw [List.all_toArray, List.all_eq_true]
 exact encT_one t
theorem rowQ : RowT Tryz.prog 72 76 1 8 := .of (z := .pointer none) Tryz.underlying72 (by kernel_rfl) rfl (by decide)
/-- Pointers to tiles. -/
structure TP (w : World) (qs : List Nat) (ts : List TileT) : Prop where
 len : qs.length = ts.length
 at_ : ∀ (i q : Nat) (t : TileT), qs[i]? = some q → ts[i]? = some t → w.heap[q]? = some (Obj.cells (encT t).toArray 75 (0, 0))
theorem TP.get {w : World} {qs : List Nat} {ts : List TileT} (h : TP w qs ts) {i q : Nat} (hq : qs[i]? = some q) : ∃ t, ts[i]? = some t ∧ w.heap[q]? = some (Obj.cells (encT t).toArray 75 (0, 0)) := by
 have hi := (List.getElem?_eq_some_iff.1 hq).1
 have : i < ts.length := by rw [← h.len]; exact hi
 exact ⟨_, List.getElem?_eq_getElem this, h.at_ i q _ hq (List.getElem?_eq_getElem this)⟩
theorem TP.nil (w : World) : TP w [] [] := ⟨rfl, fun i q t h => by simp at h⟩
theorem TP.kept {w w' : World} {qs : List Nat} {ts : List TileT} {row : Option Nat} (h : TP w qs ts) (hg : w.grownBy w' row) (hr : ∀ b, row = some b → ∃ cs f, w.heap[b]? = some (.cells cs 76 f)) : TP w' qs ts := by
 refine ⟨h.len, fun i q t hq ht => ?_⟩
 have h1 := h.at_ i q t hq ht
 refine (hg.block q (b7t h1) fun e => ?_).trans h1
 obtain ⟨cs, f, h2⟩ := hr q e.symm
 rw [h2] at h1
 simp at h1
theorem TP.below {w w' : World} {qs : List Nat} {ts : List TileT} (h : TP w qs ts) (hb : Below w.heap.size w w') : TP w' qs ts := h.kept (below_grown hb) (fun _ e => by cases e)
theorem TP.snoc {w : World} {qs : List Nat} {ts : List TileT} {q : Nat} {t : TileT} (h : TP w qs ts) (hq : w.heap[q]? = some (Obj.cells (encT t).toArray 75 (0, 0))) : TP w (qs ++ [q]) (ts ++ [t]) := by
 refine ⟨by simp [h.len], fun i p u hp hu => ?_⟩
 rcases Nat.lt_or_ge i qs.length with hi | hi
 · rw [List.getElem?_append_left hi] at hp
   rw [List.getElem?_append_left (by rw [← h.len]; exact hi)] at hu
   exact h.at_ i p u hp hu
 · rw [List.getElem?_append_right hi] at hp
   rw [List.getElem?_append_right (by rw [← h.len]; exact hi)] at hu
   have e1 : i - qs.length = 0 := by have := (List.getElem?_eq_some_iff.1 hp).1; simp at this; omega
   have e2 : i - ts.length = 0 := by rw [← h.len]; exact e1
   rw [e1] at hp
   rw [e2] at hu
   simp at hp hu
   subst hp hu
   exact hq
theorem ownsRow_typed {w : World} {base : Nat} {e : TypeId} {k n : Nat} {v : Value} {xs : List Value} (h : w.ownsRow base e k v n xs) : ∀ b, v.ownBlock = some b → ∃ cs f, w.heap[b]? = some (.cells cs e f) := by
 intro b hb
 rcases h.2 with ⟨rfl, _⟩ | ⟨g, cap, cur, rfl, _, hg, _⟩
 · simp [Value.ownBlock] at hb
 · simp only [Value.ownBlock, Option.some.injEq] at hb
   subst hb
   exact ⟨cur, _, hg⟩
set_option maxRecDepth 100000 in
set_option maxHeartbeats 1000000 in
theorem ofCl_any (cs : Array Value) (w : World) : Calls Tryz.prog 44 #[.agg cs] w fun e w' => e = .returned (.pointer (some ⟨w.heap.size, 0, none⟩)) ∧ w.alloc (.cells cs 75) = w' := by
 go_enter Tryz.func44, Tryz.ntmps44
 go_wp2_with fail
 go_ret
 exact ⟨rfl, rfl⟩
/-- Pointers to tiles, as a row. -/
def GivesQ (ts : List TileT) (w : World) (e : Ending) (w' : World) : Prop := ∃ v qs, e = .returned v ∧ w'.ownsRow w.heap.size 76 1 v qs.length (qs.flatMap encQ) ∧ TP w' qs ts ∧ Below w.heap.size w w'
set_option maxRecDepth 100000 in
set_option maxHeartbeats 1000000 in
theorem madeOf_any (a : Option Addr) (n cap : Nat) (ts : List TileT) (hl : ts.length = n) (hn : n ≤ 1000) (w : World) (he : Elems w (.slice a n cap) n 256 (rowC encT ts)) :
 Calls Tryz.prog 43 #[.slice a n cap, .func (.func 44) #[] #[]] w (GivesQ ts w) := by
 have HS := H7 (St.start w)
 have HE := H7 he
 have HL := H7 hl
 have HN := H7 hn
 have HO := H7 (StO.start HS.out 76 1 encQ)
 clear he hl
 go_enter Tryz.func43, Tryz.ntmps43
 go_wp2_with fail
 go_loopw [5, 10] (fun v i wr => ∃ (k : Nat) (qs : List Nat), k ≤ n ∧ i = .int .i64 (k : Int) ∧ StO w [] w.heap.size 76 1 encQ v qs wr ∧ TP wr qs (ts.take k)) (fun _ i _ => n - (intOf i).toNat)
 case atStart => exact ⟨0, [], by omega, rfl, HO.out, TP.nil _⟩
 case round =>
  obtain ⟨k, qs, hk, rfl, ho, htp⟩ := hrel
  clear HO HS
  have HO := H7 ho
  have HTP := H7 htp
  have HLQ := H7 (show qs.length = k by have h1 := htp.len; rw [List.length_take, HL.out] at h1; omega)
  clear ho htp
  by_cases hlt : k < n
  · obtain ⟨t, ht⟩ : ∃ t, ts[k]? = some t := ⟨_, List.getElem?_eq_getElem (by rw [HL.out]; exact hlt)⟩
    obtain ⟨b, off, rfl⟩ : ∃ b off, a = some ⟨b, off, none⟩ := by
     rcases HE.out with ⟨e, h⟩ | ⟨b, off, cap', e, -, -⟩
     · omega
     · cases e; exact ⟨b, off, rfl⟩
    have HR := H7 (elem_range encT_len (HE.out.below HO.out.st.low) ht HL.out)
    have HT := H7 ht
    have HSZ := H7 (size_T t)
    have HZ := H7 (encT_all t)
    have HS := H7 (St.start wr)
    clear ht
    repeat ((fail_if_success (with_reducible refine stop_at (id := 4) ?_)); (first | go_values | go_skip | go_guarded | go_step | go_upon | go_back | (simp only [Int.not_lt, Int.not_le] at *; go_simp) | (go_values <;> (try go_simp)) | (go_ite <;> go_prune <;> (try go_simp)) | (split <;> (first | (rename_i hx; exact (hx _ rfl).elim) | go_prune))))
    refine (wpIn_wide (n := 0)).1 ?_
    gi_wp2_with fail
    refine opIn_load_mid 75 _ rfl b (off + k * 256) rfl (encT t) _ HR.out Tryz.underlying75 rfl (HSZ.out.trans (by rw [List.size_toArray])) ?_
    simp only [Act.put, List.setIfInBounds_toArray, List.set_cons_succ, List.set_cons_zero]
    gi_step
    gi_step
    gi_step
    gi_step
    refine opIn_store 75 _ _ rfl wr.heap.size 75 Tryz.zeroCells75 (encT t).toArray rfl rfl (World.alloc_heap_new _ _) HSZ.out (Eq.trans (b := 256) (by kernel_rfl) (by rw [List.size_toArray, encT_len])) HZ.out ?_
    simp only [Act.put, List.setIfInBounds_toArray, List.set_cons_succ, List.set_cons_zero]
    have hs5 := HS.out.allocRow Tryz.zeroCells75 (encT t).toArray 75
    obtain ⟨w5, hw5⟩ : ∃ w5, (wr.alloc (.cells Tryz.zeroCells75 75)).setRow wr.heap.size (encT t).toArray = w5 := ⟨_, rfl⟩
    rw [hw5] at hs5
    rw [hw5]
    have HS := H7 hs5
    clear hs5 hw5
    gi_wp2_with fail
    repeat ((fail_if_success (with_reducible refine stop_at (id := 5) ?_)); (first | go_values | go_skip | go_guarded | go_step | go_upon | go_back | (simp only [Int.not_lt, Int.not_le] at *; go_simp) | (go_values <;> (try go_simp)) | (go_ite <;> go_prune <;> (try go_simp)) | (split <;> (first | (rename_i hx; exact (hx _ rfl).elim) | go_prune))))
    refine (wpIn_wide (n := 0)).1 ?_
    gi_wp2_with fail
    refine opIn_load 75 _ rfl wr.heap.size rfl 75 (encT t).toArray (0, 0) _ (HS.out.blockAt 0 rfl) Tryz.underlying75 rfl HSZ.out ?_
    simp only [Act.put, List.setIfInBounds_toArray, List.set_cons_succ, List.set_cons_zero]
    gi_wp2_with fail
    refine (callsIn_wide.2 (ofCl_any _ _)).mono ?_
    rintro e w6 ⟨rfl, hw6⟩
    have hs6 := HS.out.alloc (.cells (encT t).toArray 75)
    rw [hw6] at hs6
    have HS := H7 hs6
    clear hs6 hw6
    gi_wp2_with (gi_at_builtin; refine wpListIn_app1l rowQ encQ_len encQ_one HO.out HS.out.low w5.heap.size k HLQ.out (by have := HN.out; omega) (by decide) _ _ rfl rfl rfl _ rfl (by simp) ?_; intro v' w7 ho7 hsh hg7 hl7; clear hl7)
    have HO7 := H7 ho7
    have HTP7 := H7 (((HTP.out.below HS.out.low).snoc (HS.out.blockAt 0 rfl)).kept hg7 (fun b hb => ownsRow_typed (ownsRow_below HO.out.row HS.out.low) b hb))
    clear ho7 hg7
    go_wp2_with fail
    go_roundw
    case rel =>
     refine ⟨k + 1, qs ++ [w5.heap.size], hlt, by simp, HO7.out, ?_⟩
     rw [List.take_add_one, HT.out]
     exact HTP7.out
    case measure => simp [intOf]; omega
  · obtain rfl : k = n := by omega
    go_wp2_with fail
    go_ret
    have htp := HTP.out
    rw [List.take_of_length_le (Nat.le_of_eq HL.out)] at htp
    exact ⟨_, qs, rfl, HO.out.row, htp, HO.out.st.low⟩
end Go.Proofs.YthcdkkmjnglmjaaGreatDoor
/- A row of the call's own that is held in a box: what rounds of an iterator do with it. -/
namespace Go.Proofs.YthcdkkmjnglmjaaGreatDoor
open Go.RowKit Go.Shelf
section
variable {α : Type}
structure BoxS (w0 : World) (its : List It) (N B : Nat) (tS e : TypeId) (k : Nat) (enc : α → List Value) (v : Value) (L : List α) (x : World) : Prop where
 o : StO w0 its N e k enc v L x
 at_ : x.heap[B]? = some (.cells #[v] tS (0, 0))
 lo : ∀ i ∈ its, i.top ≤ B
 hb : w0.heap.size ≤ B ∧ B < N
variable {w0 x y z : World} {its : List It} {N B : Nat} {tS e : TypeId} {k : Nat} {enc : α → List Value} {v v' : Value} {L L' : List α}
theorem StO.otherT {base : Nat} {M : List α} (h : StO w0 its base e k enc v M x) {T : Nat} (hT : w0.heap.size ≤ T) (ht : ∀ i ∈ its, i.top ≤ T) (hn : v.ownBlock ≠ some T) (hg : x.grownBy y (some T)) : StO w0 its base e k enc v M y :=
 ⟨h.st.grown (base := T) (row := some T) (fun j e => by cases e; exact Nat.le_refl _) hT ht hg, h.row.kept hg (.inr hn), h.low, h.top, Nat.le_trans h.hi hg.size⟩
theorem BoxS.below (h : BoxS w0 its N B tS e k enc v L x) (hb : Below x.heap.size x y) : BoxS w0 its N B tS e k enc v L y :=
 ⟨h.o.below hb, (hb.block B (b7t h.at_)).trans h.at_, h.lo, h.hb⟩
theorem BoxS.nb (h : BoxS w0 its N B tS e k enc v L x) : v.ownBlock ≠ some B := fun e => by
 have := (h.o.row.lt B e).1
 have := h.hb.2
 omega
theorem BoxS.push (h : BoxS w0 its N B tS e k enc v L x) (hy : Below x.heap.size x y) (ho : StO w0 its N e k enc v' L' z) (hg : y.grownBy z v.ownBlock) : BoxS w0 its N B tS e k enc v' L' (z.setCell ⟨B, 0, none⟩ v') := by
 have h2 := h.below hy
 have hz := (hg.block B (b7t h2.at_) (fun e => h.nb e.symm)).trans h2.at_
 refine ⟨ho.otherT h.hb.1 h.lo (fun e => ?_) (g7c z B 0 v'), h7s hz v', h.lo, h.hb⟩
 have := (ho.row.lt B e).1
 have := h.hb.2
 omega
/-- Which block the box's row lies in. -/
def ownBox (B : Nat) (tS : TypeId) (W : World) (q : Nat) : Prop := ∃ v : Value, W.heap[B]? = some (.cells #[v] tS (0, 0)) ∧ v.ownBlock = some q
theorem ownSt_box {N0 : Nat} (h : B < N0) : OwnSt (ownBox B tS) N0 := fun A C hk q => by
 unfold ownBox
 rw [hk B h]
theorem BoxS.own (h : BoxS w0 its N B tS e k enc v L x) (q : Nat) : ownBox B tS x q ↔ v.ownBlock = some q := by
 constructor
 · rintro ⟨u, hu, hq⟩
   rw [h.at_] at hu
   simp only [Option.some.injEq, Obj.cells.injEq, Array.mk.injEq, List.cons.injEq, and_true] at hu
   rw [hu]; exact hq
 · intro hq; exact ⟨v, h.at_, hq⟩
theorem BoxS.wf (h : BoxS w0 its N B tS e k enc v L x) : ∀ q, ownBox B tS x q → q < x.heap.size := fun q hq => (h.o.row.lt q ((h.own q).1 hq)).2
/-- What a round that appends keeps. -/
theorem BoxS.ko {bs : List Nat} {N0 : Nat} (h : BoxS w0 its N B tS e k enc v L x) (hy : Below x.heap.size x y) (ho : StO w0 its N e k enc v' L' z) (hg : y.grownBy z v.ownBlock) (hl : v'.ownBlock = v.ownBlock ∨ ∃ b, v'.ownBlock = some b ∧ y.heap.size ≤ b) (hB : B < N0) (hN : N0 ≤ N) (hx : N0 ≤ x.heap.size) (hbs : ∀ b ∈ bs, b < N0 ∧ b ≠ B) : KO (ownBox B tS) bs N0 x (z.setCell ⟨B, 0, none⟩ v') := by
 have hp := h.push hy ho hg
 have hne : ∀ q, q < x.heap.size → v.ownBlock ≠ some q → q ≠ B → (z.setCell ⟨B, 0, none⟩ v').heap[q]? = x.heap[q]? := fun q hq hn hqB =>
  (Below.heap_setCell z ⟨B, 0, none⟩ v' q (by simpa using hqB)).trans ((hg.block q (Nat.lt_of_lt_of_le hq hy.size) (fun e => hn e.symm)).trans (hy.block q hq))
 refine ⟨?_, fun b hb => ?_, fun _ => hp.wf, fun q o hq hqo _ hn => ?_⟩
 · rw [World.size_setCell]
   exact Nat.le_trans hy.size hg.size
 · refine hne b (Nat.lt_of_lt_of_le (hbs b hb).1 hx) (fun e => ?_) (hbs b hb).2
   have := (h.o.row.lt b e).1
   have := (hbs b hb).1
   omega
 · rw [h.own q] at hn
   refine ⟨?_, (hne q (b7t hqo) hn (by omega)).trans hqo⟩
   rw [hp.own q]
   rcases hl with e | ⟨b, e, hb⟩
   · rw [e]; exact hn
   · rw [e]
     intro h2
     cases h2
     have := b7t hqo
     have := hy.size
     omega
theorem BoxS.keepsFrom {N0 : Nat} (h : BoxS w0 its N B tS e k enc v L x) (hy : Below x.heap.size x y) (hg : y.grownBy z v.ownBlock) : KeepsFrom N0 x (z.setCell ⟨B, 0, none⟩ v') := by
 refine ((KeepsFrom.of_grownBy (row := none) (below_grown hy) (fun _ e => by cases e)).trans ((KeepsOthers.of_grownBy hg fun j o hj ho => ?_).from N0)).trans ((KeepsOthers.setCell z _ _).from N0)
 obtain ⟨cs, f, hc⟩ := ownsRow_typed (ownsRow_below h.o.row hy) j hj
 rw [hc] at ho
 cases ho
 rfl
theorem ownFrom_StO {β : Type} {N0 : Nat} (v : β → Value) (L : β → List α) (hB : w0.heap.size ≤ N0) (hc : ∀ b o, .blk b o ∈ its → o.isCells = true) : OwnFrom N0 (fun s W => StO w0 its N e k enc (v s) (L s) W) := by
 intro s W W' row h hg hr
 refine ⟨ownFrom_St (fun _ : β => its) hB (fun _ => hc) s W W' row h.st hg hr, h.row.kept hg ?_, h.low, h.top, Nat.le_trans h.hi hg.size⟩
 cases hv : (v s).ownBlock with
 | none => exact .inl rfl
 | some b =>
  refine .inr fun e => ?_
  obtain ⟨o, ho, hoc⟩ := (hr b e.symm).2
  obtain ⟨cs, f, hc⟩ := ownsRow_typed h.row b hv
  rw [hc] at ho
  cases ho
  cases hoc
theorem ownFrom_BoxS {β : Type} {N0 : Nat} (L : β → List α) (hB : w0.heap.size ≤ N0) (hc : ∀ b o, .blk b o ∈ its → o.isCells = true) : OwnFrom N0 (fun s W => ∃ v, BoxS w0 its N B tS e k enc v (L s) W) := by
 rintro s W W' row ⟨v, h⟩ hg hr
 refine ⟨v, ownFrom_StO (fun _ : β => v) L hB hc s W W' row h.o hg hr, (grownBy_keeps_cells hg (fun r e => (hr r e).2) h.at_ rfl).trans h.at_, h.lo, h.hb⟩
end
/-- A block that lies there. -/
structure BlkA (b : Nat) (o : Obj) (w : World) : Prop where
 at_ : w.heap[b]? = some o
theorem BlkA.below {b : Nat} {o : Obj} {w w' : World} (h : BlkA b o w) (hb : Below w.heap.size w w') : BlkA b o w' := ⟨(hb.block b (b7t h.at_)).trans h.at_⟩
end Go.Proofs.YthcdkkmjnglmjaaGreatDoor
/- Package draw: pixels, told one by one. -/
namespace Go.Proofs.YthcdkkmjnglmjaaGreatDoor
open Go.RowKit Go.Shelf
attribute [local go_sem] Oper.semAt_some
/-- A canvas stays while the blocks that were there stay. -/
theorem CanAt.agree {w y : World} {d : Nat} {D : CanT} (h : CanAt w d D) (ha : ∀ k, k < w.heap.size → y.heap[k]? = w.heap[k]?) : CanAt y d D := by
 obtain ⟨ok, b, cap, qs, h1, h2, h3, h4, h5⟩ := h
 refine ⟨ok, b, cap, qs, (ha _ (b7t h1)).trans h1, h2, h3, fun i q hq => ?_, fun i q T hq hT => (ha _ (b7t (h5 i q T hq hT))).trans (h5 i q T hq hT)⟩
 have h6 := h4 i q hq
 have hlt := cell_lt h6
 unfold World.cell? at h6 ⊢
 rw [show y.heap[b]? = w.heap[b]? from ha b hlt]
 exact h6
/-- What a round keeps, for an iterator that began later. -/
theorem KO.raise {own : World → Nat → Prop} {bs bs' : List Nat} {N0 N1 : Nat} {A B : World} (h : KO own bs N0 A B) (hN : N0 ≤ N1) (hb : ∀ b ∈ bs', N0 ≤ b ∧ ∃ o, A.heap[b]? = some o ∧ o.isCells = true ∧ ¬ own A b) : KO own bs' N1 A B :=
 ⟨h.size, fun b hm => by obtain ⟨h1, o, h2, h3, h4⟩ := hb b hm; exact (h.rest b o h1 h2 h3 h4).2.trans h2.symm, h.wf, fun q o hq => h.rest q o (Nat.le_trans hN hq)⟩
theorem OwnSt.mono {own : World → Nat → Prop} {N0 N1 : Nat} (h : OwnSt own N0) (hN : N0 ≤ N1) : OwnSt own N1 := fun A B hk q => h A B (fun k h1 => hk k (by omega)) q
theorem ownFrom_KO {β : Type} {own : World → Nat → Prop} {bs : List Nat} {N0 B : Nat} {w : World} (ho : OwnSt own N0) (hb : ∀ b ∈ bs, b < N0) (hN : N0 ≤ w.heap.size) (hB : w.heap.size ≤ B) : OwnFrom B (fun (_ : β) W => KO own bs N0 w W) := by
 intro s X Y row h hg hr
 have hlow : ∀ k, k < B → k < X.heap.size → Y.heap[k]? = X.heap[k]? := fun k hk hx => hg.block k hx (fun e => by have := (hr k e.symm).1; omega)
 have hX : w.heap.size ≤ X.heap.size := h.size
 have e := ho X Y (fun k hk => hlow k (by omega) (by omega))
 refine ⟨Nat.le_trans h.size hg.size, fun b hm => (hlow b (by have := hb b hm; omega) (by have := hb b hm; omega)).trans (h.at_ b hm), fun hw q hq => Nat.lt_of_lt_of_le (h.wf hw q ((e q).1 hq)) hg.size, fun q o hq hqo hc hn => ?_⟩
 obtain ⟨h1, h2⟩ := h.rest q o hq hqo hc hn
 exact ⟨fun h3 => h1 ((e q).1 h3), (hlow q (by have := b7t hqo; omega) (b7t h2)).trans h2⟩
theorem at_onCan (C : CanT) (p : Nat) (q : PtT) (h : onCan C q = true) (w : World) (hC : CanAt w p C) : Calls Tryz.prog 78 #[.pointer (some ⟨p, 0, none⟩), .int .i64 q.x, .int .i64 q.y] w (Gives (.tuple #[(colP C q).val, .bool true]) w) := by
 have h1 := onCan_iff.1 h
 obtain ⟨px, py⟩ := q
 simp only at h1
 obtain ⟨x, rfl⟩ : ∃ x : Nat, px = x := ⟨px.toNat, by omega⟩
 obtain ⟨y, rfl⟩ : ∃ y : Nat, py = y := ⟨py.toNat, by omega⟩
 exact at_on C p x y (by omega) (by omega) w hC
structure LowAt (w0 w : World) : Prop where
 low : Below w0.heap.size w0 w
theorem LowAt.below {w0 w w' : World} (h : LowAt w0 w) (hb : Below w.heap.size w w') : LowAt w0 w' := ⟨h.low.trans (hb.mono h.low.size)⟩
set_option maxRecDepth 100000 in
set_option maxHeartbeats 4000000 in
theorem pixels1_any (n : Nat) (hn : 3 ≤ n) (own : World → Nat → Prop) (N0 : Nat) (ho : OwnSt own N0) (l X Lb E p : Nat) (C : CanT) (a : Option Addr) (m cap : Nat) (L : List SpT) (hlen : L.length = m) (hm : m ≤ 1000000) (hr : rightB L = true)
 (w0 : World) (hn0 : w0.heap.size ≤ N0) (hE : w0.heap[E]? = some (.cells #[.pointer (some ⟨p, 0, none⟩)] 127 (0, 0))) (hC : CanAt w0 p C) (bs : List Nat) (hbs0 : ∀ k, k < w0.heap.size → k ∈ bs) (hXb : X ∈ bs) (hbsN : ∀ b ∈ bs, b < N0)
 (W : World) (hN : N0 + 2 ≤ W.heap.size) (hlow : ∀ k, k < w0.heap.size → W.heap[k]? = w0.heap[k]?) (hX : W.heap[X]? = some (.cells #[.pointer (some ⟨E, 0, none⟩)] 83 (0, 0))) (hL : W.heap[Lb]? = some (.cells #[.slice a m cap] 57 (0, 0))) (he : Elems W (.slice a m cap) m 3 (rowC encS L)) (hwf : ∀ q, own W q → q < W.heap.size)
 (A : List PtT) (hA : ptsC C L = A)
 (J : List (Fin A.length) → World → Prop) (hJ : OwnFrom W.heap.size J)
 (hY : ∀ pre x W1, J pre W1 → pre.length < A.length → YieldAt Fence.wide (n - 1) Tryz.prog l #[(A[x.1]).val, (colP C (A[x.1])).val] W1 fun e W' => e = .returned (.bool true) ∧ J (pre ++ [x]) W' ∧ KO own bs N0 W1 W' ∧ NonKept (N0 + 2) W1 W')
 (h0 : J [] W) :
 CallsIn Fence.wide n Tryz.prog 121 #[.func (.yield l) #[] #[], .pointer (some ⟨X, 0, none⟩), .pointer (some ⟨Lb, 0, none⟩)] W fun e W' => (∃ v, e = .returned v) ∧ J (List.finRange A.length) W' := by
 have HS := H7 (St.start W)
 have HX := H7 (BlkA.mk hX)
 have HLb := H7 (BlkA.mk hL)
 have HCC := H7 (hC.agree hlow)
 have HE := H7 (BlkA.mk ((hlow E (b7t hE)).trans hE))
 have HW := H7 (And.intro hC.ok.wide hC.ok.high)
 have HEL := H7 he
 have hmf : ∀ (fn : Fn) (first cap : Array Value) (w : World), (Instr.makeFunc fn first cap).run Tryz.prog w = .ok (.func fn first cap) w := fun _ _ _ _ => rfl
 refine callsIn_of_wp_marks Tryz.func121 rfl trivial ?_ rfl
 simp only [Tryz.ntmps121, List.size_toArray, List.length_cons, List.length_nil, Nat.reduceAdd, Nat.reduceSub, Array.replicate_succ, Array.replicate_zero, List.push_toArray, List.append_toArray, List.nil_append, List.cons_append]
 repeat ((fail_if_success (with_reducible refine stop_atI (id := 1) ?_)); (first | go_values | gi_guarded | gi_step | gi_upon | gi_back | (simp only [Int.not_lt, Int.not_le] at *; go_simp) | (go_values <;> (try go_simp)) | (go_ite <;> go_prune <;> (try go_simp)) | (split <;> (first | (rename_i hx; exact (hx _ rfl).elim) | go_prune))))
 apply wpIn_scope
 have hs_ := (HS.out.alloc (.cells #[.func (.yield l) #[] #[]] 167))
 have hk_HX := HX.out.below ((B7 _ _).alloc (by exact Nat.le_refl _) (.cells #[.func (.yield l) #[] #[]] 167))
 have hk_HLb := HLb.out.below ((B7 _ _).alloc (by exact Nat.le_refl _) (.cells #[.func (.yield l) #[] #[]] 167))
 have hk_HCC := HCC.out.below ((B7 _ _).alloc (by exact Nat.le_refl _) (.cells #[.func (.yield l) #[] #[]] 167))
 have hk_HE := HE.out.below ((B7 _ _).alloc (by exact Nat.le_refl _) (.cells #[.func (.yield l) #[] #[]] 167))
 have hk_HEL := HEL.out.below ((B7 _ _).alloc (by exact Nat.le_refl _) (.cells #[.func (.yield l) #[] #[]] 167))
 obtain ⟨W1, hw_⟩ : ∃ W1 : World, (W.alloc (.cells #[.func (.yield l) #[] #[]] 167)) = W1 := ⟨_, rfl⟩
 rw [hw_] at hs_ hk_HX hk_HLb hk_HCC hk_HE hk_HEL
 try simp only [World.size_alloc] at hs_
 have HS := H7 hs_
 have HX := H7 hk_HX
 have HLb := H7 hk_HLb
 have HCC := H7 hk_HCC
 have HE := H7 hk_HE
 have HEL := H7 hk_HEL
 rw [hw_]
 clear hw_ hs_ hk_HX hk_HLb hk_HCC hk_HE hk_HEL
 have x0 := c7b (k := 0) HX.out.at_ rfl
 have x1 := c7b (k := 0) HE.out.at_ rfl
 gi_wp2_with fail
 clear x0 x1
 refine (callsIn_wide.2 (size_any C p _ HCC.out)).mono ?_
 rintro e W2 ⟨rfl, hb_⟩
 have HS := H7 (HS.out.below hb_)
 have HX := H7 (HX.out.below hb_)
 have HLb := H7 (HLb.out.below hb_)
 have HCC := H7 (HCC.out.below hb_)
 have HE := H7 (HE.out.below hb_)
 have HEL := H7 (HEL.out.below hb_)
 clear hb_
 have x0 := c7b (k := 0) HLb.out.at_ rfl
 gi_wp2_with fail
 clear x0
 have e1 : wrap64 (8 * (C.wide : Int) - 1) = 8 * (C.wide : Int) - 1 := by have := HW.out; unfold wrap64; omega
 have e2 : wrap64 (8 * (C.high : Int) - 1) = 8 * (C.high : Int) - 1 := by have := HW.out; unfold wrap64; omega
 try rw [e1, e2]
 refine (callsIn_wide.2 (shClip_any a m cap L hlen (by omega) (canBox C) W2 HEL.out)).mono ?_
 rintro e W3 ⟨v, rfl, hrow, hb⟩
 have hlt2 : W.heap.size < W2.heap.size := HS.out.lt 0 rfl
 rw [clipR_right hr (canBox C)] at hrow
 rw [hr]
 simp only [errOf]
 have he2 := ownsRow_rows encS_len hrow
 obtain ⟨a2, c2, rfl, -⟩ := he2.shape
 have hfr : ∀ b ∈ aBlk a2, W2.heap.size ≤ b ∧ ∃ o, W3.heap[b]? = some o ∧ o.isCells = true := by
  intro b hb'
  obtain ⟨-, ⟨h1, -⟩ | ⟨g, cp, cur, h1, h2, h3, -⟩⟩ := hrow
  · simp only [Value.slice.injEq] at h1; rw [h1.1] at hb'; simp [aBlk] at hb'
  · simp only [Value.slice.injEq] at h1; rw [h1.1] at hb'; simp [aBlk] at hb'; subst hb'; exact ⟨h2, _, h3, rfl⟩
 have hA2 : allL (clipL (canBox C) L) = A := by rw [← hA]; exact allL_right (rightB_clip hr _)
 have hn2 : (clipL (canBox C) L).length ≤ 1000000 := by
  have : (clipL (canBox C) L).length ≤ L.length := List.length_filterMap_le _ _
  omega
 obtain ⟨L2, hL2⟩ : ∃ L2, clipL (canBox C) L = L2 := ⟨_, rfl⟩
 rw [hL2] at he2 hA2 hn2 hrow ⊢
 obtain ⟨n2, hn2'⟩ : ∃ n2, L2.length = n2 := ⟨_, rfl⟩
 rw [hn2'] at he2 hn2 hrow ⊢
 have HS := H7 (HS.out.below hb)
 have HX := H7 (HX.out.below hb)
 have HCC := H7 (HCC.out.below hb)
 have HE := H7 (HE.out.below hb)
 have HE2 := H7 he2
 have HFR := H7 hfr
 have HL2 := H7 (And.intro hn2' (And.intro hn2 hA2))
 have HW3 := H7 (show W2.heap.size ≤ W3.heap.size ∧ W.heap.size < W2.heap.size from ⟨hb.size, hlt2⟩)
 clear hb hrow he2 hfr e1 e2 hA2 hn2 hn2' HLb HEL hL2
 gi_wp2_with fail
 refine (callsIn_wide.2 (sureS_ok _ _)).mono ?_
 rintro e w' ⟨rfl, rfl⟩
 gi_wp2_with fail
 apply wpIn_label
 gi_wp2_with fail
 refine (callsIn_wide.2 (all_any a2 n2 c2 W3)).mono ?_
 rintro e w' ⟨rfl, rfl⟩
 have HGR := H7 (LowAt.mk (B7 W3.heap.size W3))
 have hs_ := (HS.out.alloc (.cells #[.slice a2 n2 c2] 57))
 have hk_HX := HX.out.below ((B7 _ _).alloc (by exact Nat.le_refl _) (.cells #[.slice a2 n2 c2] 57))
 have hk_HCC := HCC.out.below ((B7 _ _).alloc (by exact Nat.le_refl _) (.cells #[.slice a2 n2 c2] 57))
 have hk_HE := HE.out.below ((B7 _ _).alloc (by exact Nat.le_refl _) (.cells #[.slice a2 n2 c2] 57))
 have hk_HE2 := HE2.out.below ((B7 _ _).alloc (by exact Nat.le_refl _) (.cells #[.slice a2 n2 c2] 57))
 have hk_HGR := HGR.out.below ((B7 _ _).alloc (by exact Nat.le_refl _) (.cells #[.slice a2 n2 c2] 57))
 obtain ⟨W4, hw_⟩ : ∃ W4 : World, (W3.alloc (.cells #[.slice a2 n2 c2] 57)) = W4 := ⟨_, rfl⟩
 rw [hw_] at hs_ hk_HX hk_HCC hk_HE hk_HE2 hk_HGR
 try simp only [World.size_alloc] at hs_
 have HS := H7 hs_
 have HX := H7 hk_HX
 have HCC := H7 hk_HCC
 have HE := H7 hk_HE
 have HE2 := H7 hk_HE2
 have HGR := H7 hk_HGR
 rw [hw_]
 clear hw_ hs_ hk_HX hk_HCC hk_HE hk_HE2 hk_HGR
 gi_wp2_with fail
 have hz4 : W3.heap.size < W4.heap.size := HS.out.lt 0 rfl
 have hlow4 := HS.out.low
 have hWW : W.heap.size ≤ W4.heap.size := hlow4.size
 have how4 : ∀ q, own W4 q ↔ own W q := ho W W4 (fun k hk => hlow4.block k (by omega))
 have hwf4 : ∀ q, own W4 q → q < W4.heap.size := fun q hq => Nat.lt_of_lt_of_le (hwf q ((how4 q).1 hq)) hWW
 have hbs : ∀ c ∈ W3.heap.size :: aBlk a2, c < W4.heap.size := by
  intro c hc
  rcases List.mem_cons.1 hc with rfl | hc
  · exact hz4
  · obtain ⟨-, o, h1, -⟩ := HFR.out c hc
    have := b7t h1
    omega
 have hbo : ∀ b ∈ W3.heap.size :: aBlk a2, N0 ≤ b ∧ ∃ o, W4.heap[b]? = some o ∧ o.isCells = true ∧ ¬ own W4 b := by
  intro b hb
  have h3 := HW3.out
  have hn : W.heap.size ≤ b → ¬ own W4 b := fun h h' => by have := hwf b ((how4 b).1 h'); omega
  rcases List.mem_cons.1 hb with rfl | hb
  · exact ⟨by omega, _, HS.out.blockAt 0 rfl, rfl, hn (by omega)⟩
  · obtain ⟨h1, o, h2, h4⟩ := HFR.out b hb
    exact ⟨by omega, o, (HGR.out.low.block b (b7t h2)).trans h2, h4, hn (by omega)⟩
 have hq3 : W4.heap[W.heap.size]? = some (.cells #[.func (.yield l) #[] #[]] 167 (0, 0)) := HS.out.blockAt 1 rfl
 have hnq3 : ¬ own W4 W.heap.size := fun h' => by have := hwf _ ((how4 _).1 h'); omega
 have hit := all_iter own W4 (ho.mono (by omega)) hwf4 W3.heap.size (W3.heap.size :: aBlk a2) a2 n2 c2 L2 HL2.out.1 (by have := HL2.out.2.1; omega) A HL2.out.2.2 hbs (by simp) (fun b off e => List.mem_cons_of_mem _ (aBlk_mem e)) (c7b (HS.out.blockAt 0 rfl) rfl) HE2.out
 have hX4 := HX.out.at_
 have hE4 := HE.out.at_
 have hC4 := HCC.out
 have hN4 : N0 + 2 ≤ W4.heap.size := by omega
 have h04 : J [] W4 := hJ _ _ _ none h0 (below_grown hlow4) (by simp)
 have hlw4 : ∀ k, k < w0.heap.size → W4.heap[k]? = w0.heap[k]? := fun k hk => (hlow4.block k (by omega)).trans (hlow k hk)
 clear HS HX HE HCC HE2 HFR HL2 HW3 HGR
 apply with_actIn
 intro a0 ha0
 refine range_iterO hit (by omega) (ho.mono (by omega)) (by rw [ha0]; rfl) (enters_of Tryz.func108 (by kernel_rfl) rfl) hbs (fun _ => rfl) (fun x => [(30, (A[x.1]).val)]) (fun _ => by simp)
  (fun pre V => J pre V ∧ KO own bs N0 W4 V) (fun _ _ _ => False) (OwnFrom.and (fun s X Y row h hg hr => hJ s X Y row h hg (fun r e => ⟨Nat.le_trans hWW (hr r e).1, (hr r e).2⟩)) (ownFrom_KO ho hbsN (by omega) (Nat.le_refl _))) (fun _ => ownFrom_pure _ _) ⟨h04, KO.refl _ _ _ _⟩
  (fun x a' V => ∃ p', a' = loopAct a0 [(30, (A[x.1]).val), (7, .pointer (some ⟨p', 0, none⟩))] ∧ W4.heap.size ≤ p' ∧ V.heap[p']? = some (.cells #[.int .i64 (A[x.1]).x, .int .i64 (A[x.1]).y] 26 (0, 0))) ?hAx ?assign ?body ?done ?stop
 case hAx =>
  rintro x a' s P Y row ⟨p', e, hge, hp⟩ hg hr
  exact ⟨p', e, hge, (grownBy_keeps_cells hg (fun r e => (hr r e).2) hp rfl).trans hp⟩
 case assign =>
  rintro ly pre x V K ⟨hI, hI2⟩ hK
  have HK := H7 hK
  clear hK
  have hlt5 : W4.heap.size ≤ V.heap.size := hI2.size
  rw [ha0] at HK ⊢
  unfold loopAct at HK ⊢
  simp only [PtT.val, List.foldl, List.setIfInBounds_toArray, List.set_cons_succ, List.set_cons_zero] at HK ⊢
  gi_wp2
  have hb := (B7 V.heap.size V).alloc (Nat.le_refl _) (.cells #[.int .i64 (A[x.1]).x, .int .i64 (A[x.1]).y] 26)
  exact HK.out _ _ (keepsFrom_below hb) (KO.of_below (ho.mono (by omega)) hb hlt5 (fun c hc => Nat.lt_of_lt_of_le (hbs c hc) hlt5)) ⟨hJ _ _ _ none hI (below_grown hb) (by simp), hI2.trans (KO.of_below ho hb (by omega) (fun b hb' => by have := hbsN b hb'; omega))⟩ ⟨V.heap.size, rfl, hlt5, World.alloc_heap_new V _⟩
 case body =>
  rintro ly pre x a' V ⟨hI, hI2⟩ ⟨p', rfl, hpp, hp⟩ hlen
  have hlt5 : W4.heap.size ≤ V.heap.size := hI2.size
  have hy0 := hY pre x
  have hon : onCan C (A[x.1]) = true := ((mem_ptsC (C := C) (L := L)).1 (by rw [hA]; exact List.getElem_mem _)).2
  obtain ⟨q, hq⟩ : ∃ q, A[x.1] = q := ⟨_, rfl⟩
  rw [hq] at hy0 hp hon ⊢
  have HAT := H7 (fun w' h => at_onCan C p q hon w' h)
  obtain ⟨cl, hcl⟩ : ∃ cl, colP C q = cl := ⟨_, rfl⟩
  rw [hcl] at HAT hy0
  obtain ⟨cr, cg, cb, ca⟩ := cl
  obtain ⟨qx, qy⟩ := q
  unfold ColT.val at HAT hy0
  simp only [PtT.val] at hp hy0 HAT ⊢
  have HY0 := H7 hy0
  have HX := H7 (BlkA.mk ((hI2.at_ X hXb).trans hX4))
  have HE := H7 (BlkA.mk ((hI2.at_ E (hbs0 E (b7t hE))).trans hE4))
  have HCC := H7 (hC.agree (fun k hk => (hI2.at_ k (hbs0 k hk)).trans (hlw4 k hk)))
  have HQ3 := H7 (BlkA.mk (hI2.rest W.heap.size _ (by omega) hq3 rfl hnq3).2)
  have HP := H7 (BlkA.mk hp)
  have HI := H7 (And.intro hI hI2)
  have HLV := H7 (LowAt.mk (B7 V.heap.size V))
  rw [ha0]
  unfold loopAct
  simp only [List.foldl, List.setIfInBounds_toArray, List.set_cons_succ, List.set_cons_zero]
  clear hy0 hp hon hq hcl hI hI2
  repeat ((fail_if_success (with_reducible refine stop_atI (id := 5) ?_)); (first | go_values | gi_guarded | gi_step | gi_upon | gi_back | (simp only [Int.not_lt, Int.not_le] at *; go_simp) | (go_values <;> (try go_simp)) | (go_ite <;> go_prune <;> (try go_simp)) | (split <;> (first | (rename_i hx; exact (hx _ rfl).elim) | go_prune))))
  apply wp_region_slots 14 [⟨12, 13, 8, .cells #[.int .u8 0, .int .u8 0, .int .u8 0, .int .u8 0] 34 (0, 0), .cells #[.int .u8 cr, .int .u8 cg, .int .u8 cb, .int .u8 ca] 34 (0, 0)⟩] _ (Rl := [(eqv _), (eqv _), (eqv _), (eqv _), (eqv _), (eqv _), (eqv _), (eqv _), (eqv _), (eqv _), (eqv _), (eqv _), (fun _ _ => True), (fun _ _ => True)])
  case hm => kernel_rfl
  case hk => rfl
  case hst => repeat (first | exact trivial | refine ⟨fun _ _ _ _ h => h, ?_⟩)
  case hfo => kernel_rfl
  case ht => kernel_rfl
  case hN => exact Nat.le_refl _
  case hok => kernel_rfl
  case hsk => intro s hs; simp only [List.mem_cons, List.not_mem_nil, or_false] at hs; rcases hs with rfl <;> exact ⟨Nat.le_of_ble_eq_true rfl, Nat.le_of_ble_eq_true rfl⟩
  case hsteps =>
   refine ⟨?_, ?_, ?_, ?_, ?_, ?_, ?_, ?_, ?_, ?_, ?_, ?_, ?_, ?_, trivial⟩
   · intro l_ a' w' hA hC hJ hN hB hD; have s1 := hA.to 1 (by kernel_rfl) rfl
     have z0 := c7b (k := 0) (HX.out.below hC).at_ rfl
     clear hA hD; refine o7t rfl ?_; intro K hK; gi_wp2; exact hK _ _ rfl (B7 _ _) (SlT.plainB rfl (B7 _ _))
   · intro l_ a' w' hA hC hJ hN hB hD; obtain ⟨u32, s32, rfl⟩ := hD ⟨0, .data⟩ (by simp) rfl _ rfl; clear hA hD; refine o7t rfl ?_; intro K hK; gi_wp2; exact hK _ _ rfl (B7 _ _) (SlT.plainB rfl (B7 _ _))
   · intro l_ a' w' hA hC hJ hN hB hD; obtain ⟨u33, s33, rfl⟩ := hD ⟨1, .data⟩ (by simp) rfl _ rfl; clear hA hD; refine o7t rfl ?_; intro K hK; gi_wp2; exact hK _ _ rfl (B7 _ _) (SlT.plainB rfl (B7 _ _))
   · intro l_ a' w' hA hC hJ hN hB hD; obtain ⟨u34, s34, rfl⟩ := hD ⟨2, .data⟩ (by simp) rfl _ rfl
     have z0 := c7b (k := 0) (HE.out.below hC).at_ rfl
     clear hA hD; refine o7t rfl ?_; intro K hK; gi_wp2; exact hK _ _ rfl (B7 _ _) (SlT.plainB rfl (B7 _ _))
   · intro l_ a' w' hA hC hJ hN hB hD; have s7 := hA.to 7 (by kernel_rfl) rfl; clear hA hD; refine o7t rfl ?_; intro K hK; gi_wp2; exact hK _ _ rfl (B7 _ _) (SlT.plainB rfl (B7 _ _))
   · intro l_ a' w' hA hC hJ hN hB hD; obtain ⟨u36, s36, rfl⟩ := hD ⟨4, .data⟩ (by simp) rfl _ rfl
     have z0 := c7b (k := 0) (HP.out.below hC).at_ rfl
     clear hA hD; refine o7t rfl ?_; intro K hK; gi_wp2; exact hK _ _ rfl (B7 _ _) (SlT.plainB rfl (B7 _ _))
   · intro l_ a' w' hA hC hJ hN hB hD; have s7 := hA.to 7 (by kernel_rfl) rfl; clear hA hD; refine o7t rfl ?_; intro K hK; gi_wp2; exact hK _ _ rfl (B7 _ _) (SlT.plainB rfl (B7 _ _))
   · intro l_ a' w' hA hC hJ hN hB hD; obtain ⟨u38, s38, rfl⟩ := hD ⟨6, .data⟩ (by simp) rfl _ rfl
     have z0 := c7b (k := 1) (HP.out.below hC).at_ rfl
     clear hA hD; refine o7t rfl ?_; intro K hK; gi_wp2; exact hK _ _ rfl (B7 _ _) (SlT.plainB rfl (B7 _ _))
   · intro l_ a' w' hA hC hJ hN hB hD; obtain ⟨u35, s35, rfl⟩ := hD ⟨3, .data⟩ (by simp) rfl _ rfl; obtain ⟨u37, s37, rfl⟩ := hD ⟨5, .data⟩ (by simp) rfl _ rfl; obtain ⟨u39, s39, rfl⟩ := hD ⟨7, .data⟩ (by simp) rfl _ rfl; clear hA hD; refine o7t rfl ?_; intro K hK
     gi_wp2_with fail; refine (callsIn_wide.2 (HAT.out _ (HCC.out.below hC))).mono ?_; rintro e w2 ⟨rfl, hb⟩
     exact hK _ _ rfl (hb.mono hC.size) (SlT.plainB rfl hb)
   · intro l_ a' w' hA hC hJ hN hB hD; obtain ⟨u40, s40, rfl⟩ := hD ⟨8, .data⟩ (by simp) rfl _ rfl; clear hA hD; refine o7t rfl ?_; intro K hK; gi_wp2; exact hK _ _ rfl (B7 _ _) (SlT.plainB rfl (B7 _ _))
   · intro l_ a' w' hA hC hJ hN hB hD; obtain ⟨u31, s31, rfl⟩ := hD ⟨9, .data⟩ (by simp) rfl _ rfl; clear hA hD; refine o7t rfl ?_; intro K hK; gi_wp2; exact hK _ _ rfl (B7 _ _) (SlT.plainB rfl (B7 _ _))
   · intro l_ a' w' hA hC hJ hN hB hD; obtain ⟨u31, s31, rfl⟩ := hD ⟨9, .data⟩ (by simp) rfl _ rfl; clear hA hD; refine o7t rfl ?_; intro K hK; gi_wp2; exact hK _ _ rfl (B7 _ _) (SlT.plainB rfl (B7 _ _))
   · intro l_ a' w' hA hC hJ hN hB hD; clear hA hD; refine o7t rfl ?_; intro K hK; gi_wp2; exact hK _ _ trivial ((B7 _ _).alloc hC.size _) (SlT.alloc (by intro t ht e; simp only [List.mem_cons, List.not_mem_nil, or_false] at ht; rcases ht with rfl <;> first | rfl | (exact absurd e (Nat.ne_of_beq_eq_false rfl))) (by intro t ht; simp only [List.mem_cons, List.not_mem_nil, or_false] at ht; rcases ht with rfl <;> exact Nat.ne_of_beq_eq_false rfl))
   · intro l_ a' w' hA hC hJ hN hB hD; obtain ⟨u8, s8, r8⟩ := hD ⟨12, .data⟩ (by simp) rfl _ rfl; replace r8 : (fun _ _ => True) u8 w' := r8; obtain ⟨u41, s41, rfl⟩ := hD ⟨10, .data⟩ (by simp) rfl _ rfl
     obtain ⟨b8, n8, t8, o8⟩ := hJ.at_ _ (List.mem_of_getElem? (i := 0) rfl) (hB ⟨12, .data⟩ (by simp) rfl)
     rw [show l_.getD 13 false = false from hN] at o8
     replace o8 : w'.heap[b8]? = some (.cells #[.int .u8 0, .int .u8 0, .int .u8 0, .int .u8 0] 34 (0, 0)) := o8
     obtain rfl : u8 = ptrB b8 := Option.some.inj (s8.symm.trans t8)
     clear r8
     clear hA hD; refine o7t rfl ?_; intro K hK
     have f8 := f7b o8
     have c8_0 := c7b (k := 0) o8 rfl
     have c8_1 := c7b (k := 1) o8 rfl
     have c8_2 := c7b (k := 2) o8 rfl
     have c8_3 := c7b (k := 3) o8 rfl
     have f8_0 := f8 0
     have f8_1 := f8 1
     have f8_2 := f8 2
     have f8_3 := f8 3
     clear f8; unfold ptrB at s8 t8; gi_wp2; exact hK undef _ trivial (by repeat (first | exact B7 _ _ | refine Below.setCell ?_ (by omega) _)) (SlT.store _ (by intro t ht e; simp only [List.mem_cons, List.not_mem_nil, or_false] at ht; rcases ht with rfl <;> first | rfl | (exact absurd e (Nat.ne_of_beq_eq_false rfl))) (by intro t ht; simp only [List.mem_cons, List.not_mem_nil, or_false] at ht; rcases ht with rfl <;> exact Nat.ne_of_beq_eq_false rfl) (List.mem_of_getElem? (i := 0) rfl) rfl b8 (by unfold envOf; rw [t8]; rfl) (h7s (h7s (h7s (h7s o8 _) _) _) _) (by intro k hk; repeat (first | rfl | refine (Below.heap_setCell _ _ _ k (by simpa using hk)).trans ?_)))
  case hend =>
   intro V2 hC
   simp only [EndFrom, eqv, forall_eq, Act.put, List.length_cons, List.length_nil, List.drop_succ_cons, List.drop_zero, Nat.reduceAdd, List.setIfInBounds_toArray, List.set_cons_succ, List.set_cons_zero]
   intro p12 _ p13 _ hE
   obtain ⟨b12, -, hb12, ho12⟩ := hE.1 _ (List.mem_of_getElem? (i := 0) rfl)
   obtain rfl : p12 = ptrB b12 := Option.some.inj hb12
   have HB := H7 (BlkA.mk ho12)
   clear hE hb12 ho12
   unfold ptrB
   have HQ3 := H7 (HQ3.out.below hC)
   have HP := H7 (HP.out.below hC)
   have HLV := H7 (HLV.out.below hC)
   obtain ⟨fn, tmps, assign, body, hy, hR⟩ := YieldAt.inside (k := ly) (m := n - 1 - 1 - 1) (HY0.out V2 (hJ _ _ _ none HI.out.1 (below_grown hC) (by simp)) hlen)
   clear hC HX HE HCC HY0 HAT
   have q0 := c7b (k := 0) HQ3.out.at_ rfl
   have r0 := c7b (k := 0) HP.out.at_ rfl
   have r1 := c7b (k := 1) HP.out.at_ rfl
   have d0 := c7b (k := 0) HB.out.at_ rfl
   have d1 := c7b (k := 1) HB.out.at_ rfl
   have d2 := c7b (k := 2) HB.out.at_ rfl
   have d3 := c7b (k := 3) HB.out.at_ rfl
   gi_wp2_with fail
   clear q0 r0 r1 d0 d1 d2 d3
   refine hR.mono ?_
   rintro e V3 ⟨rfl, hJ3, hk3, hn3⟩
   have HR3 := H7 (And.intro hJ3 (And.intro hk3 hn3))
   clear hR hy hJ3 hk3 hn3
   gi_wp2_with fail
   have hVs : W4.heap.size ≤ V.heap.size := HI.out.2.size
   have hK : KO own bs N0 V V3 := (KO.of_below ho HLV.out.low (by omega) (fun b hb => by have := hbsN b hb; omega)).trans HR3.out.2.1
   refine ⟨⟨hK.size, fun k o hk ho hc => HR3.out.2.2 k o (by omega) ((HLV.out.low.block k (b7t ho)).trans ho) hc⟩, hK.raise (by omega) (fun b hb => ?_), HR3.out.1, HI.out.2.trans hK⟩
   obtain ⟨h1, o, h2, h3, h4⟩ := hbo b hb
   obtain ⟨h5, h6⟩ := HI.out.2.rest b o h1 h2 h3 h4
   exact ⟨h1, o, h6, h3, h5⟩
 case done =>
  rintro D V hD ⟨hI, -⟩ hK
  rw [ha0]
  change bodyPostM Fence.wide n _ _ _ .ret _ _
  exact ret_marked (v := .tuple #[]) rfl hK (results_none rfl _ _ _) ⟨⟨_, rfl⟩, hJ _ _ _ (some D) hI (grownBy_putObj' V D _) (fun r e => by cases e; exact ⟨by omega, _, hK, rfl⟩)⟩
 case stop =>
  intro D c pre V _ _ h
  exact h.elim
/- Package draw: pixels of a wrong row; the iterator itself. -/
theorem pixels_cl (E : Addr) (a : Option Addr) (n cap : Nat) (w : World) :
 Calls Tryz.prog 109 #[.pointer (some E), .slice a n cap] w fun e w' => e = .returned (.func (.func 121) #[] #[.pointer (some ⟨w.heap.size, 0, none⟩), .pointer (some ⟨w.heap.size + 1, 0, none⟩)]) ∧ (w.alloc (.cells #[.pointer (some E)] 83)).alloc (.cells #[.slice a n cap] 57) = w' := by
 have hmf : ∀ (fn : Fn) (first cap : Array Value) (w : World), (Instr.makeFunc fn first cap).run Tryz.prog w = .ok (.func fn first cap) w := fun _ _ _ _ => rfl
 go_enter Tryz.func109, Tryz.ntmps109
 go_wp2
 go_ret
 exact ⟨rfl, rfl⟩
set_option maxRecDepth 100000 in
set_option maxHeartbeats 2000000 in
theorem pixels1_bad (n : Nat) (l X Lb E p : Nat) (C : CanT) (a : Option Addr) (m cap : Nat) (L : List SpT) (hlen : L.length = m) (hm : m ≤ 1000000) (hr : rightB L = false)
 (W : World) (hX : W.heap[X]? = some (.cells #[.pointer (some ⟨E, 0, none⟩)] 83 (0, 0))) (hE : W.heap[E]? = some (.cells #[.pointer (some ⟨p, 0, none⟩)] 127 (0, 0))) (hC : CanAt W p C) (hL : W.heap[Lb]? = some (.cells #[.slice a m cap] 57 (0, 0))) (he : Elems W (.slice a m cap) m 3 (rowC encS L)) :
 CallsIn Fence.wide n Tryz.prog 121 #[.func (.yield l) #[] #[], .pointer (some ⟨X, 0, none⟩), .pointer (some ⟨Lb, 0, none⟩)] W fun e W' => e = .panicked [{ v := .iface 29 (.int .i64 160), recovered := false }] ∧ Below W.heap.size W W' := by
 have HS := H7 (St.start W)
 have HX := H7 (BlkA.mk hX)
 have HLb := H7 (BlkA.mk hL)
 have HCC := H7 hC
 have HE := H7 (BlkA.mk hE)
 have HW := H7 (And.intro hC.ok.wide hC.ok.high)
 have HEL := H7 he
 clear hX hL hC hE he
 refine callsIn_of_wp_marks Tryz.func121 rfl trivial ?_ rfl
 simp only [Tryz.ntmps121, List.size_toArray, List.length_cons, List.length_nil, Nat.reduceAdd, Nat.reduceSub, Array.replicate_succ, Array.replicate_zero, List.push_toArray, List.append_toArray, List.nil_append, List.cons_append]
 repeat ((fail_if_success (with_reducible refine stop_atI (id := 1) ?_)); (first | go_values | gi_guarded | gi_step | gi_upon | gi_back | (simp only [Int.not_lt, Int.not_le] at *; go_simp) | (go_values <;> (try go_simp)) | (go_ite <;> go_prune <;> (try go_simp)) | (split <;> (first | (rename_i hx; exact (hx _ rfl).elim) | go_prune))))
 apply wpIn_scope
 have hs_ := (HS.out.alloc (.cells #[.func (.yield l) #[] #[]] 167))
 have hk_HX := HX.out.below ((B7 _ _).alloc (by exact Nat.le_refl _) (.cells #[.func (.yield l) #[] #[]] 167))
 have hk_HLb := HLb.out.below ((B7 _ _).alloc (by exact Nat.le_refl _) (.cells #[.func (.yield l) #[] #[]] 167))
 have hk_HCC := HCC.out.below ((B7 _ _).alloc (by exact Nat.le_refl _) (.cells #[.func (.yield l) #[] #[]] 167))
 have hk_HE := HE.out.below ((B7 _ _).alloc (by exact Nat.le_refl _) (.cells #[.func (.yield l) #[] #[]] 167))
 have hk_HEL := HEL.out.below ((B7 _ _).alloc (by exact Nat.le_refl _) (.cells #[.func (.yield l) #[] #[]] 167))
 obtain ⟨W1, hw_⟩ : ∃ W1 : World, (W.alloc (.cells #[.func (.yield l) #[] #[]] 167)) = W1 := ⟨_, rfl⟩
 rw [hw_] at hs_ hk_HX hk_HLb hk_HCC hk_HE hk_HEL
 try simp only [World.size_alloc] at hs_
 have HS := H7 hs_
 have HX := H7 hk_HX
 have HLb := H7 hk_HLb
 have HCC := H7 hk_HCC
 have HE := H7 hk_HE
 have HEL := H7 hk_HEL
 rw [hw_]
 clear hw_ hs_ hk_HX hk_HLb hk_HCC hk_HE hk_HEL
 have x0 := c7b (k := 0) HX.out.at_ rfl
 have x1 := c7b (k := 0) HE.out.at_ rfl
 gi_wp2_with fail
 clear x0 x1
 refine (callsIn_wide.2 (size_any C p _ HCC.out)).mono ?_
 rintro e W2 ⟨rfl, hb_⟩
 have HS := H7 (HS.out.below hb_)
 have HX := H7 (HX.out.below hb_)
 have HLb := H7 (HLb.out.below hb_)
 have HCC := H7 (HCC.out.below hb_)
 have HE := H7 (HE.out.below hb_)
 have HEL := H7 (HEL.out.below hb_)
 clear hb_
 have x0 := c7b (k := 0) HLb.out.at_ rfl
 gi_wp2_with fail
 clear x0
 have e1 : wrap64 (8 * (C.wide : Int) - 1) = 8 * (C.wide : Int) - 1 := by have := HW.out; unfold wrap64; omega
 have e2 : wrap64 (8 * (C.high : Int) - 1) = 8 * (C.high : Int) - 1 := by have := HW.out; unfold wrap64; omega
 try rw [e1, e2]
 refine (callsIn_wide.2 (shClip_any a m cap L hlen (by omega) (canBox C) W2 HEL.out)).mono ?_
 rintro e W3 ⟨v, rfl, hrow, hb⟩
 have HS := H7 (HS.out.below hb)
 rw [hr]
 simp only [errOf]
 clear hrow hb e1 e2
 gi_wp2_with fail
 refine (callsIn_wide.2 (sureS_no v 160 (by omega) _)).mono ?_
 rintro e w' ⟨rfl, rfl⟩
 exact ⟨rfl, HS.out.low⟩
/- Layer 5: what pointers come to: tiles; what places come to: dots. -/
theorem rowTl : RowT Tryz.prog 22 75 256 256 := .of (z := .agg Tryz.zeroCells75) Tryz.underlying22 (by kernel_rfl) (by kernel_rfl) (by decide)
theorem infoT : (Tryz.prog.info? 75).map (fun i => (i.size, i.zero.map fun z => z.cells.size)) = some (256, some 256) := by kernel_rfl
theorem sizeT (T : TileT) : (encT T).toArray.size = 256 := by rw [List.size_toArray, encT_len]
theorem sizeZ : (Tryz.zeroCells75 : Array Value).size = 256 := by kernel_rfl
set_option maxRecDepth 100000 in
set_option maxHeartbeats 1000000 in
theorem showCl_any (q : Nat) (T : TileT) (w : World) (hq : w.heap[q]? = some (.cells (encT T).toArray 75 (0, 0))) : Calls Tryz.prog 67 #[.pointer (some ⟨q, 0, none⟩)] w (Gives (.agg (encT T).toArray) w) := by
 have HQ := H7 hq
 have HS := H7 (St.start w)
 have HSZ := H7 (size_T T)
 have HN := H7 (sizeT T)
 have HZ := H7 (encT_all T)
 obtain ⟨t1, ht1⟩ : ∃ t1, (encT T).toArray = t1 := ⟨_, rfl⟩
 rw [ht1] at HQ HSZ HN HZ ⊢
 clear hq ht1
 go_enter Tryz.func67, Tryz.ntmps67
 repeat ((fail_if_success (with_reducible refine stop_at (id := 1) ?_)); (first | go_values | go_skip | go_guarded | go_step | go_upon | go_back | (simp only [Int.not_lt, Int.not_le] at *; go_simp) | (go_values <;> (try go_simp)) | (go_ite <;> go_prune <;> (try go_simp)) | (split <;> (first | (rename_i hx; exact (hx _ rfl).elim) | go_prune))))
 have hs_ := (HS.out.alloc (.cells Tryz.zeroCells75 75))
 obtain ⟨w1, hw_⟩ : ∃ w1 : World, (w.alloc (.cells Tryz.zeroCells75 75)) = w1 := ⟨_, rfl⟩
 rw [hw_] at hs_
 try simp only [World.size_alloc] at hs_
 have HS := H7 hs_
 rw [hw_]
 clear hw_ hs_
 refine (wpIn_wide (n := 0)).1 ?_
 gi_wp2_with fail
 refine opIn_load 75 _ rfl q rfl 75 t1 (0, 0) _ ((HS.out.low.block q (b7t HQ.out)).trans HQ.out) Tryz.underlying75 rfl HSZ.out ?_
 simp only [Act.put, List.setIfInBounds_toArray, List.set_cons_succ, List.set_cons_zero]
 gi_step
 refine opIn_store 75 _ _ rfl w.heap.size 75 Tryz.zeroCells75 t1 rfl rfl (HS.out.blockAt 0 rfl) HSZ.out (sizeZ.trans HN.out.symm) HZ.out ?_
 simp only [Act.put, List.setIfInBounds_toArray, List.set_cons_succ, List.set_cons_zero]
 have hs5 := HS.out.putRow (c' := t1) (pre := []) (by simp)
 simp only [List.nil_append] at hs5
 obtain ⟨w5, hw5⟩ : ∃ w5, w1.setRow w.heap.size t1 = w5 := ⟨_, rfl⟩
 rw [hw5] at hs5
 rw [hw5]
 have HS := H7 hs5
 clear hs5 hw5
 gi_wp2_with fail
 go_wp2_with fail
 have hl := run_loadVar_row (P := Tryz.prog) w5 w.heap.size 75 75 t1 (0, 0) _ (HS.out.blockAt 0 rfl) Tryz.underlying75 rfl HSZ.out
 refine bodyPost_ret (v := .agg t1) (results_cell1 Tryz.results67 rfl hl) rfl ⟨rfl, HS.out.low⟩
set_option maxRecDepth 100000 in
set_option maxHeartbeats 1000000 in
theorem madeShow_any (b n cap : Nat) (qs : List Nat) (ts : List TileT) (hl : qs.length = n) (hn : n ≤ 1000) (w : World) (hc : ∀ (i q : Nat), qs[i]? = some q → w.cell? ⟨b, i, none⟩ = some (.pointer (some ⟨q, 0, none⟩))) (hb : b < w.heap.size) (ht : TP w qs ts) :
 Calls Tryz.prog 66 #[.slice (some ⟨b, 0, none⟩) n cap, .func (.func 67) #[] #[]] w (GivesRow 75 256 ts.length (ts.flatMap encT) w) := by
 have HS := H7 (St.start w)
 have HL := H7 hl
 have HN := H7 hn
 have HC := H7 hc
 have HB := H7 hb
 have HT := H7 ht
 have HO := H7 (StO.start HS.out 75 256 encT)
 clear hl hc hb ht
 go_enter Tryz.func66, Tryz.ntmps66
 go_wp2_with fail
 go_loopw [5, 10] (fun v i wr => ∃ (k : Nat), k ≤ n ∧ i = .int .i64 (k : Int) ∧ StO w [] w.heap.size 75 256 encT v (ts.take k) wr) (fun _ i _ => n - (intOf i).toNat)
 case atStart => exact ⟨0, by omega, rfl, HO.out⟩
 case round =>
  obtain ⟨k, hk, rfl, ho⟩ := hrel
  clear HO HS
  have HO := H7 ho
  clear ho
  by_cases hlt : k < n
  · obtain ⟨q, hq⟩ : ∃ q, qs[k]? = some q := ⟨_, List.getElem?_eq_getElem (by rw [HL.out]; exact hlt)⟩
    obtain ⟨t, ht, hqt⟩ := HT.out.get hq
    have c0 := (HO.out.st.low.cell (p := ⟨b, k, none⟩) HB.out).trans (HC.out k q hq)
    have HQ := H7 ((HO.out.st.low.block q (b7t hqt)).trans hqt)
    have HTT := H7 ht
    have HNT := H7 (sizeT t)
    have HLK := H7 (show (ts.take k).length = k by rw [List.length_take, ← HT.out.len, HL.out]; omega)
    have HS := H7 (St.start wr)
    clear ht hqt hq
    repeat ((fail_if_success (with_reducible refine stop_at (id := 5) ?_)); (first | go_values | go_skip | go_guarded | go_step | go_upon | go_back | (simp only [Int.not_lt, Int.not_le] at *; go_simp) | (go_values <;> (try go_simp)) | (go_ite <;> go_prune <;> (try go_simp)) | (split <;> (first | (rename_i hx; exact (hx _ rfl).elim) | go_prune))))
    clear c0
    refine (wpIn_wide (n := 0)).1 ?_
    gi_wp2_with fail
    refine (callsIn_wide.2 (showCl_any q t _ ((HS.out.low.block q (b7t HQ.out)).trans HQ.out))).mono ?_
    rintro e w6 ⟨rfl, hb6⟩
    have HS := H7 (HS.out.below hb6)
    clear hb6
    simp only [Act.put, List.setIfInBounds_toArray, List.set_cons_succ, List.set_cons_zero]
    gi_step
    refine opIn_buildSlice_one _ _ rfl (encT t).toArray (by rfl) Tryz.underlying22 infoT (by decide) (by decide) HNT.out ?_
    simp only [Act.put, List.setIfInBounds_toArray, List.set_cons_succ, List.set_cons_zero]
    gi_wp2_with (gi_at_builtin; refine wpListIn_app1 rowTl encT_len encT_one HO.out HS.out.low t k HLK.out (by have := HN.out; omega) (by decide) _ _ rfl rfl rfl _ rfl (by simp) ?_; intro v' w7 ho7 hsh)
    have HO7 := H7 ho7
    clear ho7
    go_wp2_with fail
    go_roundw
    case rel =>
     refine ⟨k + 1, hlt, by simp, ?_⟩
     rw [List.take_add_one, HTT.out]
     exact HO7.out
    case measure => simp [intOf]; omega
  · obtain rfl : k = n := by omega
    go_wp2_with fail
    go_ret
    have ho := HO.out.row
    rw [List.take_of_length_le (by rw [← HT.out.len, HL.out]; exact Nat.le_refl _)] at ho
    exact ⟨_, rfl, ho, HO.out.st.low⟩
theorem encD_one : ∀ (d : DotT), ∀ u ∈ encD d, u.oneCell' = true := by
 intro d u hu
 simp only [encD, List.mem_cons, List.not_mem_nil, or_false] at hu
 rcases hu with rfl | rfl | rfl | rfl | rfl | rfl <;> rfl
theorem rowD : RowT Tryz.prog 151 101 6 24 := .of (z := .agg #[.int .i64 0, .int .i64 0, .int .u8 0, .int .u8 0, .int .u8 0, .int .u8 0]) Tryz.underlying151 (by kernel_rfl) rfl (by decide)
/- Layer 5: may, Check. -/
def mayB (wide high : Int) : Bool := decide ((1 ≤ wide ∧ wide ≤ 4) ∧ (1 ≤ high ∧ high ≤ 4))
theorem mayB_iff {wide high : Int} : mayB wide high = true ↔ ((1 ≤ wide ∧ wide ≤ 4) ∧ (1 ≤ high ∧ high ≤ 4)) := by unfold mayB; exact decide_eq_true_iff
set_option maxRecDepth 100000 in
set_option maxHeartbeats 1000000 in
theorem may_any (wide high : Int) (w : World) : Calls Tryz.prog 83 #[.agg #[.int .i64 wide, .int .i64 high]] w (Gives (.bool (mayB wide high)) w) := by
 have HS := H7 (St.start w)
 unfold mayB
 by_cases h1 : 1 ≤ wide <;> by_cases h2 : wide ≤ 4 <;> by_cases h3 : 1 ≤ high <;> by_cases h4 : high ≤ 4 <;> first | (exfalso; omega) | (
  go_enter Tryz.func83, Tryz.ntmps83
  repeat ((fail_if_success (with_reducible refine stop_at (id := 1) ?_)); (first | go_values | go_skip | go_guarded | go_step | go_upon | go_back | (simp only [Int.not_lt, Int.not_le] at *; go_simp) | (go_values <;> (try go_simp)) | (go_ite <;> go_prune <;> (try go_simp)) | (split <;> (first | (rename_i hx; exact (hx _ rfl).elim) | go_prune))))
  have hs_ := (HS.out.alloc (.cells #[.int .i64 wide, .int .i64 high] 79))
  obtain ⟨w1, hw_⟩ : ∃ w1 : World, (w.alloc (.cells #[.int .i64 wide, .int .i64 high] 79)) = w1 := ⟨_, rfl⟩
  rw [hw_] at hs_
  try simp only [World.size_alloc] at hs_
  have HS := H7 hs_
  rw [hw_]
  clear hw_ hs_
  have q0 := h7c HS 0 0 rfl rfl
  have q1 := h7c HS 0 1 rfl rfl
  go_wp2_with fail
  go_ret
  exact ⟨ret_bool (by symm; simp [h1, h2, h3, h4]), HS.out.low⟩)
def okE (wide high : Int) (n : Nat) : Bool := mayB wide high && decide ((n : Int) = wide * high)
set_option maxRecDepth 100000 in
set_option maxHeartbeats 1000000 in
theorem canCheck_any (wide high : Int) (a : Option Addr) (n cap : Nat) (w : World) : Calls Tryz.prog 42 #[.agg #[.int .i64 wide, .int .i64 high, .slice a n cap]] w (Gives (.int .i64 (errOf (okE wide high n) 150)) w) := by
 have HS := H7 (St.start w)
 have HM := H7 (may_any wide high)
 obtain ⟨mb, hmb⟩ : ∃ mb, mayB wide high = mb := ⟨_, rfl⟩
 unfold okE
 rw [hmb] at HM ⊢
 have HB := H7 hmb
 clear hmb
 cases mb
 · rw [Bool.false_and, errOf_false]
   go_enter Tryz.func42, Tryz.ntmps42
   repeat ((fail_if_success (with_reducible refine stop_at (id := 1) ?_)); (first | go_values | go_skip | go_guarded | go_step | go_upon | go_back | (simp only [Int.not_lt, Int.not_le] at *; go_simp) | (go_values <;> (try go_simp)) | (go_ite <;> go_prune <;> (try go_simp)) | (split <;> (first | (rename_i hx; exact (hx _ rfl).elim) | go_prune))))
   have hs_ := (HS.out.alloc (.cells #[.int .i64 wide, .int .i64 high, .slice a n cap] 24))
   obtain ⟨w1, hw_⟩ : ∃ w1 : World, (w.alloc (.cells #[.int .i64 wide, .int .i64 high, .slice a n cap] 24)) = w1 := ⟨_, rfl⟩
   rw [hw_] at hs_
   try simp only [World.size_alloc] at hs_
   have HS := H7 hs_
   rw [hw_]
   clear hw_ hs_
   have q0 := h7c HS 0 0 rfl rfl
   have q1 := h7c HS 0 1 rfl rfl
   repeat ((fail_if_success (with_reducible refine stop_at (id := 2) ?_)); (first | go_values | go_skip | go_guarded | go_step | go_upon | go_back | (simp only [Int.not_lt, Int.not_le] at *; go_simp) | (go_values <;> (try go_simp)) | (go_ite <;> go_prune <;> (try go_simp)) | (split <;> (first | (rename_i hx; exact (hx _ rfl).elim) | go_prune))))
   have hs_ := (HS.out.alloc (.cells #[.int .i64 wide, .int .i64 high] 79))
   obtain ⟨w2, hw_⟩ : ∃ w2 : World, (w1.alloc (.cells #[.int .i64 wide, .int .i64 high] 79)) = w2 := ⟨_, rfl⟩
   rw [hw_] at hs_
   try simp only [World.size_alloc] at hs_
   have HS := H7 hs_
   rw [hw_]
   clear hw_ hs_
   have p0 := h7c HS 0 0 rfl rfl
   have p1 := h7c HS 0 1 rfl rfl
   clear q0 q1
   go_wp2_with fail
   refine (HM.out _).mono ?_
   rintro e w3 ⟨rfl, hb_⟩
   have HS := H7 (HS.out.below hb_)
   clear hb_
   go_wp2_with fail
   go_ret
   exact ⟨rfl, HS.out.low⟩
 · have h4 := mayB_iff.1 HB.out
   have e1 : wrap64 (wide * high) = wide * high := by
    rcases (by omega : wide = 1 ∨ wide = 2 ∨ wide = 3 ∨ wide = 4) with rfl | rfl | rfl | rfl <;> (unfold wrap64; omega)
   obtain ⟨m, hm⟩ : ∃ m, wide * high = m := ⟨_, rfl⟩
   rw [hm] at e1 ⊢
   have HMM := H7 hm
   obtain ⟨nb, hnb⟩ : ∃ nb, decide ((n : Int) = m) = nb := ⟨_, rfl⟩
   rw [hnb, Bool.true_and]
   have HNB := H7 (show ((n : Int) != m) = !nb by rw [← hnb]; rfl)
   clear h4 hnb
   go_enter Tryz.func42, Tryz.ntmps42
   repeat ((fail_if_success (with_reducible refine stop_at (id := 1) ?_)); (first | go_values | go_skip | go_guarded | go_step | go_upon | go_back | (simp only [Int.not_lt, Int.not_le] at *; go_simp) | (go_values <;> (try go_simp)) | (go_ite <;> go_prune <;> (try go_simp)) | (split <;> (first | (rename_i hx; exact (hx _ rfl).elim) | go_prune))))
   have hs_ := (HS.out.alloc (.cells #[.int .i64 wide, .int .i64 high, .slice a n cap] 24))
   obtain ⟨w1, hw_⟩ : ∃ w1 : World, (w.alloc (.cells #[.int .i64 wide, .int .i64 high, .slice a n cap] 24)) = w1 := ⟨_, rfl⟩
   rw [hw_] at hs_
   try simp only [World.size_alloc] at hs_
   have HS := H7 hs_
   rw [hw_]
   clear hw_ hs_
   have q0 := h7c HS 0 0 rfl rfl
   have q1 := h7c HS 0 1 rfl rfl
   repeat ((fail_if_success (with_reducible refine stop_at (id := 2) ?_)); (first | go_values | go_skip | go_guarded | go_step | go_upon | go_back | (simp only [Int.not_lt, Int.not_le] at *; go_simp) | (go_values <;> (try go_simp)) | (go_ite <;> go_prune <;> (try go_simp)) | (split <;> (first | (rename_i hx; exact (hx _ rfl).elim) | go_prune))))
   have hs_ := (HS.out.alloc (.cells #[.int .i64 wide, .int .i64 high] 79))
   obtain ⟨w2, hw_⟩ : ∃ w2 : World, (w1.alloc (.cells #[.int .i64 wide, .int .i64 high] 79)) = w2 := ⟨_, rfl⟩
   rw [hw_] at hs_
   try simp only [World.size_alloc] at hs_
   have HS := H7 hs_
   rw [hw_]
   clear hw_ hs_
   have p0 := h7c HS 0 0 rfl rfl
   have p1 := h7c HS 0 1 rfl rfl
   clear q0 q1
   go_wp2_with fail
   clear p0 p1
   refine (HM.out _).mono ?_
   rintro e w3 ⟨rfl, hb_⟩
   have HS := H7 (HS.out.below hb_)
   clear hb_
   have p0 := h7c HS 0 0 rfl rfl
   have p1 := h7c HS 0 1 rfl rfl
   have q2 := h7c HS 1 2 rfl rfl
   have hw := HMM.out
   have hx := HNB.out
   cases nb
   · go_wp2_with fail
     go_ret
     exact ⟨rfl, HS.out.low⟩
   · go_wp2_with fail
     go_ret
     exact ⟨rfl, HS.out.low⟩
end Go.Proofs.YthcdkkmjnglmjaaGreatDoor
