/- The statements' first lines: the layer does something. -/
import Derived.Test.YtppaheekpmgifaaVecN
namespace Go.Proofs.Ytppaheekpmgifaa
set_option linter.unusedSimpArgs false
set_option linter.unusedVariables false
open Go.RowKit Go.Shelf

def wkV : Nat → Int | 1 => 2 | 2 => 3 | _ => 0
def wkF : Nat → Int | 1 => 5 | _ => 0
def wkB : Nat → Int | 1 => 5 | 2 => 3 | 8 => 1 | _ => 0
def wkU : Nat → Int | 1 => 3 | 2 => 4 | _ => 0
def wkJ : Nat → Int | 1 => 5 | 2 => 3 | _ => 0
def wkM : Nat → Int | 1 => 2 | _ => 0
def wkC : Nat → Int | 2 => 1 | _ => 0
def wkI : Nat → IdT | 0 => ⟨9, 1, 3⟩ | _ => ⟨9, 2, 4⟩
def wkG : Nat → IdT := fun _ => ⟨9, 1, 4⟩
def wkL : List StrT := [⟨1, 3, 5⟩, ⟨8, 1, 1⟩]
theorem wkV_nn (k : Nat) : 0 ≤ wkV k := by unfold wkV; split <;> omega
theorem wk_with : (match withB wkV wkI 2 with | .ok u => (List.range 9).all fun k => u k == wkU k | .error _ => false) = true := by kernel_rfl
theorem wk_withU : ∃ u, withB wkV wkI 2 = .ok u ∧ lit9 u = lit9 wkU := by
  have h := wk_with
  cases hw : withB wkV wkI 2 with
  | error e => rw [hw] at h; cases h
  | ok u =>
    rw [hw] at h
    refine ⟨u, rfl, lit9_ext fun k hk => ?_⟩
    have := List.all_eq_true.1 h k (List.mem_range.2 hk)
    simpa using this
theorem wk_gap : withB wkV wkG 1 = .error 231 := by kernel_rfl
theorem wk_join : lit9 (mergeN max wkV (fun _ => wkF) 1) = lit9 wkJ := by kernel_rfl
theorem wk_meet : lit9 (mergeN min wkV (fun _ => wkF) 1) = lit9 wkM := by kernel_rfl
theorem wk_ok : vecOk wkV = true ∧ vecOk wkF = true := ⟨by kernel_rfl, by kernel_rfl⟩
theorem wk_has : hasB wkV ⟨9, 1, 2⟩ = true := by kernel_rfl
theorem wk_next : nextB wkV ⟨9, 1, 3⟩ = true := by kernel_rfl
theorem wk_covers : covers wkV wkC = true := by kernel_rfl
theorem wk_lacks : lacks wkV wkB = wkL := by kernel_rfl
theorem wk_many : manyOf (lacks wkV wkB) = 4 := by kernel_rfl

theorem elems_of_block {w : World} {q n size cap : Nat} {c : Array Value} {t : TypeId} {f : Nat × Nat} {g : Nat → Value} (h : w.heap[q]? = some (.cells c t f)) (hc : ∀ j, j < n * size → c[j]? = some (g j)) : Elems w (.slice (some ⟨q, 0, none⟩) n cap) n size g :=
  .inr ⟨q, 0, cap, rfl, block_lt h, fun j hj => by rw [Nat.zero_add]; exact cell_of_block h (hc j hj)⟩
theorem elems_vec1 {w : World} {q cap : Nat} {b : Nat → Int} {t : TypeId} {f : Nat × Nat} (h : w.heap[q]? = some (.cells (lit9 b) t f)) : Elems w (.slice (some ⟨q, 0, none⟩) 1 cap) 1 9 (vecCells fun _ => b) :=
  elems_of_block h fun j hj => by
    unfold vecCells
    rw [show j % 9 = j from by omega]
    exact lit9_get b j (by omega)

theorem fill9 {n₀ : Nat} {w : World} {p : Nat} {t : TypeId} {f : Nat × Nat} {z : Nat → Int} (x : Nat → Int) (hn : n₀ ≤ p) (hx : w.heap[p]? = some (.cells (lit9 z) t f) ∨ w.heap[p]? = some (.cells (lit9 x) t f)) :
    FillC n₀ (.cells (lit9 z) t f) (.cells (lit9 x) t f) w (((((((((w.setCell ⟨p, 0, none⟩ (.int .u64 (x 0))).setCell ⟨p, 1, none⟩ (.int .u64 (x 1))).setCell ⟨p, 2, none⟩ (.int .u64 (x 2))).setCell ⟨p, 3, none⟩ (.int .u64 (x 3))).setCell ⟨p, 4, none⟩ (.int .u64 (x 4))).setCell ⟨p, 5, none⟩ (.int .u64 (x 5))).setCell ⟨p, 6, none⟩ (.int .u64 (x 6))).setCell ⟨p, 7, none⟩ (.int .u64 (x 7))).setCell ⟨p, 8, none⟩ (.int .u64 (x 8))) ∧
    (((((((((w.setCell ⟨p, 0, none⟩ (.int .u64 (x 0))).setCell ⟨p, 1, none⟩ (.int .u64 (x 1))).setCell ⟨p, 2, none⟩ (.int .u64 (x 2))).setCell ⟨p, 3, none⟩ (.int .u64 (x 3))).setCell ⟨p, 4, none⟩ (.int .u64 (x 4))).setCell ⟨p, 5, none⟩ (.int .u64 (x 5))).setCell ⟨p, 6, none⟩ (.int .u64 (x 6))).setCell ⟨p, 7, none⟩ (.int .u64 (x 7))).setCell ⟨p, 8, none⟩ (.int .u64 (x 8))).heap[p]? = some (.cells (lit9 x) t f) := by
  have hs : (((((((((w.setCell ⟨p, 0, none⟩ (.int .u64 (x 0))).setCell ⟨p, 1, none⟩ (.int .u64 (x 1))).setCell ⟨p, 2, none⟩ (.int .u64 (x 2))).setCell ⟨p, 3, none⟩ (.int .u64 (x 3))).setCell ⟨p, 4, none⟩ (.int .u64 (x 4))).setCell ⟨p, 5, none⟩ (.int .u64 (x 5))).setCell ⟨p, 6, none⟩ (.int .u64 (x 6))).setCell ⟨p, 7, none⟩ (.int .u64 (x 7))).setCell ⟨p, 8, none⟩ (.int .u64 (x 8))).heap[p]? = some (.cells (lit9 x) t f) := by
    rcases hx with hx | hx
    · exact heap_set9 x hx
    · exact heap_set9 x hx
  exact ⟨FillC.fill (below_set9 x (Below.refl _ _) hn) hx hs (fun j ob hj hne => heap_set9_other x hj (fun e => hne e.symm)), hs⟩
theorem heap9_either {w : World} {p : Nat} {t : TypeId} {f : Nat × Nat} {z x : Nat → Int} (hx : w.heap[p]? = some (.cells (lit9 z) t f) ∨ w.heap[p]? = some (.cells (lit9 x) t f)) : ∃ y, w.heap[p]? = some (.cells (lit9 y) t f) := by
  rcases hx with hx | hx
  · exact ⟨_, hx⟩
  · exact ⟨_, hx⟩
theorem wk_ne : lit9 wkV ≠ lit9 (fun _ => 0) := fun h => by
  have := congrArg (fun a : Array Value => a[1]?) h
  simp [lit9] at this
  exact absurd this (by decide)
theorem wk_neV : Obj.cells (lit9 wkV) 24 (0, 0) ≠ Obj.cells (lit9 (fun _ => 0)) 24 (0, 0) := fun h => by cases h
theorem wk_neU : Obj.cells (lit9 wkU) 24 (0, 0) ≠ Obj.cells (lit9 (fun _ => 0)) 24 (0, 0) := fun h => by cases h
theorem wk_neF : Obj.cells (lit9 fun k => wkF k) 24 (0, 0) ≠ Obj.cells (lit9 (fun _ => 0)) 24 (0, 0) := fun h => by cases h
theorem wk_neI : Obj.cells #[.int .u64 9, .int .i64 1, .int .u64 3, .int .u64 9, .int .i64 2, .int .u64 4] 38 (0, 0) ≠ Obj.cells (lit9 (fun _ => 0)) 24 (0, 0) := fun h => by cases h

set_option maxRecDepth 100000 in
set_option maxHeartbeats 1000000 in
theorem wakes_any (w : World) : Calls Try.prog 7 #[] w (Gives (.bool true) w) := by
  go_enter Try.func7, Try.ntmps7
  go_wp2_with fail
  have hv := heap_alloc_keeps (World.alloc_heap_new w (.cells (lit9 wkV) 24)) (.cells (lit9 wkF) 24)
  have hf := newBlock (w.alloc (.cells (lit9 wkV) 24)) (.cells (lit9 wkF) 24) (w.heap.size + 1) (by simp)
  have hB := ((Below.refl w.heap.size w).alloc (Nat.le_refl _) (.cells (lit9 wkV) 24)).alloc (by simp) (.cells (lit9 wkF) 24)
  obtain ⟨W0, hW0⟩ : ∃ W0, (w.alloc (.cells (lit9 wkV) 24)).alloc (.cells (lit9 wkF) 24) = W0 := ⟨_, rfl⟩
  rw [hW0] at hv hf hB
  have HV := Lib.hid hv
  have HF := Lib.hid hf
  have HB := Lib.hid hB
  clear hv hf hB
  refine (wpIn_wide (n := 0)).1 ?_
  rw [show (w.alloc (Obj.cells #[Value.int IntKind.u64 0, Value.int IntKind.u64 2, Value.int IntKind.u64 3, Value.int IntKind.u64 0, Value.int IntKind.u64 0, Value.int IntKind.u64 0, Value.int IntKind.u64 0, Value.int IntKind.u64 0, Value.int IntKind.u64 0] 24)).alloc (Obj.cells #[Value.int IntKind.u64 0, Value.int IntKind.u64 5, Value.int IntKind.u64 0, Value.int IntKind.u64 0, Value.int IntKind.u64 0, Value.int IntKind.u64 0, Value.int IntKind.u64 0, Value.int IntKind.u64 0, Value.int IntKind.u64 0] 24) = W0 from hW0]
  clear hW0
  have hU : resV (withB wkV wkI 2) = .tuple #[vecV wkU, .int .i64 0] := by
    obtain ⟨u, hu, hue⟩ := wk_withU
    rw [hu]
    simp only [resV, vecV, hue]
  have hG : resV (withB wkV wkG 1) = .tuple #[vecV (fun _ => 0), .int .i64 231] := by
    rw [wk_gap]
    rfl
  have HU := Lib.hid hU
  have HG := Lib.hid hG
  clear hU hG
  refine wp_region_factsE (by kernel_rfl) [(fun v_ _ _ => v_ = (vecV wkV : Value)), (fun v_ _ _ => v_ = (IdT.val ⟨9, 1, 3⟩ : Value)), (fun v_ _ _ => v_ = (IdT.val ⟨9, 2, 4⟩ : Value)), (fun v_ e_ w_ => ∃ q, v_ = .slice (some ⟨q, 0, none⟩) 2 2 ∧ w_.heap[q]? = some (.cells #[.int .u64 9, .int .i64 1, .int .u64 3, .int .u64 9, .int .i64 2, .int .u64 4] 38 (0, 0))), (fun v_ _ _ => v_ = (.tuple #[vecV wkU, .int .i64 0] : Value)), (fun v_ _ _ => v_ = (.tuple #[vecV wkU, .int .i64 0] : Value)), (fun v_ _ _ => v_ = (vecV wkU : Value)), (fun v_ _ _ => v_ = (.int .i64 0 : Value)), (fun v_ e_ w_ => ∃ q, v_ = .pointer (some ⟨q, 0, none⟩) ∧ W0.heap.size ≤ q ∧ (w_.heap[q]? = some (.cells (lit9 fun _ => 0) 24 (0, 0)) ∨ w_.heap[q]? = some (.cells (lit9 wkU) 24 (0, 0)))), (fun v_ e_ w_ => ∀ q, e_ 3 = .pointer (some ⟨q, 0, none⟩) → w_.heap[q]? = some (.cells (lit9 wkU) 24 (0, 0)))] (fun x y => FillC W0.heap.size (.cells (lit9 fun _ => 0) 24 (0, 0)) (.cells (lit9 wkU) 24 (0, 0)) x y) (fun x => FillC.refl _ _ _ x) (fun h k => FillC.trans h k) ⟨fun _ _ _ _ _ h => h, fun _ _ _ _ _ h => h, fun _ _ _ _ _ h => h, fun _ _ _ _ hC ⟨q, e, h⟩ => ⟨q, e, FillC.keep hC h wk_neI⟩, fun _ _ _ _ _ h => h, fun _ _ _ _ _ h => h, fun _ _ _ _ _ h => h, fun _ _ _ _ _ h => h, fun _ _ _ _ hC ⟨q, e, h, h2⟩ => ⟨q, e, h, FillC.either hC h2⟩, fun _ _ _ _ hC h q e => FillC.filled hC (h q e), trivial⟩ (by kernel_rfl) (by kernel_rfl) (FillC.grow (grows_drew _) (Nat.le_refl _)) ⟨fun _ _ _ _ _ h => h, fun _ _ _ _ _ h => h, fun _ _ _ _ _ h => h, fun _ _ _ _ _ h => h, fun _ _ _ _ _ h => h, fun _ _ _ _ _ h => h, fun _ _ _ _ _ h => h, fun _ _ _ _ _ h => h, fun _ _ _ _ _ h => h, fun v env env' x he h q e => h q ((he ⟨8, .data⟩ (by simp) rfl _ _ rfl rfl).trans e), trivial⟩ ?steps ?fin
  case steps =>
    refine ⟨?_, ?_, ?_, ?_, ?_, ?_, ?_, ?_, ?_, ?_, trivial⟩
    · -- 0
      intro a' w' hA hC hD
      have s1 : a'.tmps[1]? = some (.pointer (some ⟨w.heap.size, 0, none⟩)) := (hA.at 1 (by kernel_rfl)).trans rfl
      have hCz := FillC.size hC
      obtain ⟨c0, c1, c2, c3, c4, c5, c6, c7, c8⟩ := vec9 (FillC.keep hC HV.out wk_neV)
      clear hA hD
      refine stepOk_plain rfl ?_
      intro K hK
      gi_wp2
      exact hK (vecV wkV) _ rfl ((fun x => FillC.refl _ _ _ x) _)
    · -- 1
      intro a' w' hA hC hD
      have hCz := FillC.size hC
      clear hA hD
      refine stepOk_plain rfl ?_
      intro K hK
      gi_wp2_with fail; refine (callsIn_wide.2 (id_any _ _ _)).mono ?_; rintro e w2 ⟨rfl, hb⟩; exact hK _ _ rfl (FillC.grow hb hCz)
    · -- 2
      intro a' w' hA hC hD
      have hCz := FillC.size hC
      clear hA hD
      refine stepOk_plain rfl ?_
      intro K hK
      gi_wp2_with fail; refine (callsIn_wide.2 (id_any _ _ _)).mono ?_; rintro e w2 ⟨rfl, hb⟩; exact hK _ _ rfl (FillC.grow hb hCz)
    · -- 3
      intro a' w' hA hC hD
      obtain ⟨u16, s16, r16⟩ := hD ⟨1, .data⟩ (by simp) rfl _ rfl
      replace r16 : u16 = IdT.val ⟨9, 1, 3⟩ := r16
      subst r16
      obtain ⟨u17, s17, r17⟩ := hD ⟨2, .data⟩ (by simp) rfl _ rfl
      replace r17 : u17 = IdT.val ⟨9, 2, 4⟩ := r17
      subst r17
      have hCz := FillC.size hC
      clear hA hD
      refine stepOk_plain rfl ?_
      intro K hK
      unfold IdT.val at s16 s17; gi_wp2
      exact hK (.slice (some ⟨w'.heap.size, 0, none⟩) 2 2) _ ⟨w'.heap.size, rfl, World.alloc_heap_new _ _⟩ (FillC.grow ((Below.refl _ _).alloc (Nat.le_refl _) _) hCz)
    · -- 4
      intro a' w' hA hC hD
      obtain ⟨u15, s15, r15⟩ := hD ⟨0, .data⟩ (by simp) rfl _ rfl
      replace r15 : u15 = vecV wkV := r15
      subst r15
      obtain ⟨u18, s18, r18⟩ := hD ⟨3, .data⟩ (by simp) rfl _ rfl
      replace r18 : (fun v_ e_ w_ => ∃ q, v_ = .slice (some ⟨q, 0, none⟩) 2 2 ∧ w_.heap[q]? = some (.cells #[.int .u64 9, .int .i64 1, .int .u64 3, .int .u64 9, .int .i64 2, .int .u64 4] 38 (0, 0))) u18 (envOf a') w' := r18
      have hCz := FillC.size hC
      clear hA hD
      refine stepOk_plain rfl ?_
      intro K hK
      obtain ⟨q, rfl, hq⟩ := r18; gi_wp2_with fail; refine (callsIn_wide.2 (with_any wkV wkV_nn _ 2 wkI _ (by omega) (elems_of_block hq (fun j hj => by rcases j with _ | _ | _ | _ | _ | _ | j <;> first | rfl | omega)))).mono ?_; rintro e w2 ⟨rfl, hb⟩; rw [HU.out]; exact hK _ _ rfl (FillC.grow hb hCz)
    · -- 5
      intro a' w' hA hC hD
      obtain ⟨u19, s19, r19⟩ := hD ⟨4, .data⟩ (by simp) rfl _ rfl
      replace r19 : u19 = .tuple #[vecV wkU, .int .i64 0] := r19
      subst r19
      have hCz := FillC.size hC
      clear hA hD
      refine stepOk_plain rfl ?_
      intro K hK
      gi_wp2
      exact hK (.tuple #[vecV wkU, .int .i64 0]) _ rfl ((fun x => FillC.refl _ _ _ x) _)
    · -- 6
      intro a' w' hA hC hD
      obtain ⟨u14, s14, r14⟩ := hD ⟨5, .data⟩ (by simp) rfl _ rfl
      replace r14 : u14 = .tuple #[vecV wkU, .int .i64 0] := r14
      subst r14
      have hCz := FillC.size hC
      clear hA hD
      refine stepOk_plain rfl ?_
      intro K hK
      gi_wp2
      exact hK (vecV wkU) _ rfl ((fun x => FillC.refl _ _ _ x) _)
    · -- 7
      intro a' w' hA hC hD
      obtain ⟨u14, s14, r14⟩ := hD ⟨5, .data⟩ (by simp) rfl _ rfl
      replace r14 : u14 = .tuple #[vecV wkU, .int .i64 0] := r14
      subst r14
      have hCz := FillC.size hC
      clear hA hD
      refine stepOk_plain rfl ?_
      intro K hK
      gi_wp2
      exact hK (.int .i64 0) _ rfl ((fun x => FillC.refl _ _ _ x) _)
    · -- 8
      intro a' w' hA hC hD
      have hCz := FillC.size hC
      clear hA hD
      refine stepOk_plain rfl ?_
      intro K hK
      gi_wp2
      exact hK (.pointer (some ⟨w'.heap.size, 0, none⟩)) _ ⟨w'.heap.size, rfl, hCz, .inl (World.alloc_heap_new _ _)⟩ (FillC.grow ((Below.refl _ _).alloc (Nat.le_refl _) _) hCz)
    · -- 9
      intro a' w' hA hC hD
      obtain ⟨u3, s3, r3⟩ := hD ⟨8, .data⟩ (by simp) rfl _ rfl
      replace r3 : (fun v_ e_ w_ => ∃ q, v_ = .pointer (some ⟨q, 0, none⟩) ∧ W0.heap.size ≤ q ∧ (w_.heap[q]? = some (.cells (lit9 fun _ => 0) 24 (0, 0)) ∨ w_.heap[q]? = some (.cells (lit9 wkU) 24 (0, 0)))) u3 (envOf a') w' := r3
      obtain ⟨u20, s20, r20⟩ := hD ⟨6, .data⟩ (by simp) rfl _ rfl
      replace r20 : u20 = vecV wkU := r20
      subst r20
      have hCz := FillC.size hC
      have henv : envOf a' 3 = u3 := by (unfold envOf; rw [s3]; rfl)
      clear hA hD
      refine stepOk_plain rfl ?_
      intro K hK
      obtain ⟨q, rfl, hge, hq⟩ := r3; obtain ⟨y, hy⟩ := heap9_either hq; obtain ⟨c0, c1, c2, c3, c4, c5, c6, c7, c8⟩ := vec9 hy; have fr := free_of_block hy; simp only [vecV, lit9] at s20; gi_wp2
      exact hK undef _ (fun q' e => by rw [henv] at e; cases e; exact (fill9 wkU hge hq).2) (fill9 wkU hge hq).1
  case fin =>
    intro w3 env hC
    simp only [EndFromE, forall_eq, Option.some.injEq, forall_eq', reduceCtorEq, false_implies, implies_true, forall_const, Act.put, List.length_cons, List.length_nil, List.drop_succ_cons, List.drop_zero, Nat.reduceAdd, List.setIfInBounds_toArray, List.set_cons_succ, List.set_cons_zero]
    rintro _ _ _ v18 ⟨q18, rfl, _⟩ _ _ _ _ _ v3 ⟨q3, rfl, hge3, _⟩ he3 hs3
    have h3 := hs3 q3 he3
    have hv := FillC.keep hC HV.out wk_neV
    have hf := FillC.keep hC HF.out wk_neF
    have hB := HB.out.trans (hC.1.mono HB.out.size)
    have hlt := HB.out.size
    have hsz := FillC.size hC
    clear HV HF HB he3 hs3 hC
    have HV := Lib.hid hv
    have HF := Lib.hid hf
    have HB := Lib.hid hB
    have H3 := Lib.hid h3
    clear hv hf hB h3
    gi_wp2
    go_wp2_with fail
    refine (wpIn_wide (n := 0)).1 ?_
    refine wp_region_factsE (by kernel_rfl) [(fun v_ _ _ => v_ = (vecV wkV : Value)), (fun v_ _ _ => v_ = (IdT.val ⟨9, 1, 4⟩ : Value)), (fun v_ e_ w_ => ∃ q, v_ = .slice (some ⟨q, 0, none⟩) 1 1 ∧ w_.heap[q]? = some (.cells #[.int .u64 9, .int .i64 1, .int .u64 4] 38 (0, 0))), (fun v_ _ _ => v_ = (.tuple #[vecV (fun _ => 0), .int .i64 231] : Value)), (fun v_ _ _ => v_ = (.tuple #[vecV (fun _ => 0), .int .i64 231] : Value)), (fun v_ _ _ => v_ = (vecV (fun _ => 0) : Value)), (fun v_ _ _ => v_ = (.int .i64 231 : Value)), (fun v_ e_ w_ => ∃ q, v_ = .pointer (some ⟨q, 0, none⟩) ∧ w3.heap.size ≤ q ∧ (w_.heap[q]? = some (.cells (lit9 fun _ => 0) 24 (0, 0)) ∨ w_.heap[q]? = some (.cells (lit9 fun _ => 0) 24 (0, 0)))), (fun v_ e_ w_ => True)] (fun x y => FillC w3.heap.size (.cells (lit9 fun _ => 0) 24 (0, 0)) (.cells (lit9 fun _ => 0) 24 (0, 0)) x y) (fun x => FillC.refl _ _ _ x) (fun h k => FillC.trans h k) ⟨fun _ _ _ _ _ h => h, fun _ _ _ _ _ h => h, fun _ _ _ _ hC ⟨q, e, h⟩ => ⟨q, e, FillC.keep hC h (fun h => by cases h)⟩, fun _ _ _ _ _ h => h, fun _ _ _ _ _ h => h, fun _ _ _ _ _ h => h, fun _ _ _ _ _ h => h, fun _ _ _ _ hC ⟨q, e, h, h2⟩ => ⟨q, e, h, FillC.either hC h2⟩, fun _ _ _ _ _ h => h, trivial⟩ (by kernel_rfl) (by kernel_rfl) (FillC.grow (grows_drew _) (Nat.le_refl _)) ⟨fun _ _ _ _ _ h => h, fun _ _ _ _ _ h => h, fun _ _ _ _ _ h => h, fun _ _ _ _ _ h => h, fun _ _ _ _ _ h => h, fun _ _ _ _ _ h => h, fun _ _ _ _ _ h => h, fun _ _ _ _ _ h => h, fun _ _ _ _ _ h => h, trivial⟩ ?steps ?fin
    case steps =>
      refine ⟨?_, ?_, ?_, ?_, ?_, ?_, ?_, ?_, ?_, trivial⟩
      · -- 0
        intro a' w' hA hC hD
        have s1 : a'.tmps[1]? = some (.pointer (some ⟨w.heap.size, 0, none⟩)) := (hA.at 1 (by kernel_rfl)).trans rfl
        have hCz := FillC.size hC
        obtain ⟨c0, c1, c2, c3, c4, c5, c6, c7, c8⟩ := vec9 (FillC.keep hC HV.out wk_neV)
        clear hA hD
        refine stepOk_plain rfl ?_
        intro K hK
        gi_wp2
        exact hK (vecV wkV) _ rfl ((fun x => FillC.refl _ _ _ x) _)
      · -- 1
        intro a' w' hA hC hD
        have hCz := FillC.size hC
        clear hA hD
        refine stepOk_plain rfl ?_
        intro K hK
        gi_wp2_with fail; refine (callsIn_wide.2 (id_any _ _ _)).mono ?_; rintro e w2 ⟨rfl, hb⟩; exact hK _ _ rfl (FillC.grow hb hCz)
      · -- 2
        intro a' w' hA hC hD
        obtain ⟨u24, s24, r24⟩ := hD ⟨1, .data⟩ (by simp) rfl _ rfl
        replace r24 : u24 = IdT.val ⟨9, 1, 4⟩ := r24
        subst r24
        have hCz := FillC.size hC
        clear hA hD
        refine stepOk_plain rfl ?_
        intro K hK
        unfold IdT.val at s24; gi_wp2
        exact hK (.slice (some ⟨w'.heap.size, 0, none⟩) 1 1) _ ⟨w'.heap.size, rfl, World.alloc_heap_new _ _⟩ (FillC.grow ((Below.refl _ _).alloc (Nat.le_refl _) _) hCz)
      · -- 3
        intro a' w' hA hC hD
        obtain ⟨u23, s23, r23⟩ := hD ⟨0, .data⟩ (by simp) rfl _ rfl
        replace r23 : u23 = vecV wkV := r23
        subst r23
        obtain ⟨u25, s25, r25⟩ := hD ⟨2, .data⟩ (by simp) rfl _ rfl
        replace r25 : (fun v_ e_ w_ => ∃ q, v_ = .slice (some ⟨q, 0, none⟩) 1 1 ∧ w_.heap[q]? = some (.cells #[.int .u64 9, .int .i64 1, .int .u64 4] 38 (0, 0))) u25 (envOf a') w' := r25
        have hCz := FillC.size hC
        clear hA hD
        refine stepOk_plain rfl ?_
        intro K hK
        obtain ⟨q, rfl, hq⟩ := r25; gi_wp2_with fail; refine (callsIn_wide.2 (with_any wkV wkV_nn _ 1 wkG _ (by omega) (elems_of_block hq (fun j hj => by rcases j with _ | _ | _ | j <;> first | rfl | omega)))).mono ?_; rintro e w2 ⟨rfl, hb⟩; rw [HG.out]; exact hK _ _ rfl (FillC.grow hb hCz)
      · -- 4
        intro a' w' hA hC hD
        obtain ⟨u26, s26, r26⟩ := hD ⟨3, .data⟩ (by simp) rfl _ rfl
        replace r26 : u26 = .tuple #[vecV (fun _ => 0), .int .i64 231] := r26
        subst r26
        have hCz := FillC.size hC
        clear hA hD
        refine stepOk_plain rfl ?_
        intro K hK
        gi_wp2
        exact hK (.tuple #[vecV (fun _ => 0), .int .i64 231]) _ rfl ((fun x => FillC.refl _ _ _ x) _)
      · -- 5
        intro a' w' hA hC hD
        obtain ⟨u22, s22, r22⟩ := hD ⟨4, .data⟩ (by simp) rfl _ rfl
        replace r22 : u22 = .tuple #[vecV (fun _ => 0), .int .i64 231] := r22
        subst r22
        have hCz := FillC.size hC
        clear hA hD
        refine stepOk_plain rfl ?_
        intro K hK
        gi_wp2
        exact hK (vecV (fun _ => 0)) _ rfl ((fun x => FillC.refl _ _ _ x) _)
      · -- 6
        intro a' w' hA hC hD
        obtain ⟨u22, s22, r22⟩ := hD ⟨4, .data⟩ (by simp) rfl _ rfl
        replace r22 : u22 = .tuple #[vecV (fun _ => 0), .int .i64 231] := r22
        subst r22
        have hCz := FillC.size hC
        clear hA hD
        refine stepOk_plain rfl ?_
        intro K hK
        gi_wp2
        exact hK (.int .i64 231) _ rfl ((fun x => FillC.refl _ _ _ x) _)
      · -- 7
        intro a' w' hA hC hD
        have hCz := FillC.size hC
        clear hA hD
        refine stepOk_plain rfl ?_
        intro K hK
        gi_wp2
        exact hK (.pointer (some ⟨w'.heap.size, 0, none⟩)) _ ⟨w'.heap.size, rfl, hCz, .inl (World.alloc_heap_new _ _)⟩ (FillC.grow ((Below.refl _ _).alloc (Nat.le_refl _) _) hCz)
      · -- 8
        intro a' w' hA hC hD
        obtain ⟨u5, s5, r5⟩ := hD ⟨7, .data⟩ (by simp) rfl _ rfl
        replace r5 : (fun v_ e_ w_ => ∃ q, v_ = .pointer (some ⟨q, 0, none⟩) ∧ w3.heap.size ≤ q ∧ (w_.heap[q]? = some (.cells (lit9 fun _ => 0) 24 (0, 0)) ∨ w_.heap[q]? = some (.cells (lit9 fun _ => 0) 24 (0, 0)))) u5 (envOf a') w' := r5
        obtain ⟨u27, s27, r27⟩ := hD ⟨5, .data⟩ (by simp) rfl _ rfl
        replace r27 : u27 = vecV (fun _ => 0) := r27
        subst r27
        have hCz := FillC.size hC
        clear hA hD
        refine stepOk_plain rfl ?_
        intro K hK
        obtain ⟨q, rfl, hge, hq⟩ := r5; obtain ⟨y, hy⟩ := heap9_either hq; obtain ⟨c0, c1, c2, c3, c4, c5, c6, c7, c8⟩ := vec9 hy; have fr := free_of_block hy; simp only [vecV, lit9] at s27; gi_wp2
        exact hK undef _ trivial (fill9 (fun _ => 0) hge hq).1
    case fin =>
      intro w4 env hC
      simp only [EndFromE, forall_eq, Option.some.injEq, forall_eq', reduceCtorEq, false_implies, implies_true, forall_const, Act.put, List.length_cons, List.length_nil, List.drop_succ_cons, List.drop_zero, Nat.reduceAdd, List.setIfInBounds_toArray, List.set_cons_succ, List.set_cons_zero]
      rintro _ _ v25 ⟨q25, rfl, _⟩ _ _ _ _ _ v5 ⟨q5, rfl, hge5, _⟩ he5
      have h3 := FillC.keep hC H3.out wk_neU
      have hv := FillC.keep hC HV.out wk_neV
      have hf := FillC.keep hC HF.out wk_neF
      have hB := HB.out.trans (hC.1.mono HB.out.size)
      have hlt := HB.out.size
      have hsz := FillC.size hC
      clear HV HF HB H3 he5 hC HU HG
      gi_wp2
      have HB := Lib.hid hB
      have H3 := Lib.hid h3
      have HV := Lib.hid hv
      have HF := Lib.hid hf
      obtain ⟨c0, c1, c2, c3, c4, c5, c6, c7, c8⟩ := vec9 hv
      obtain ⟨d0, d1, d2, d3, d4, d5, d6, d7, d8⟩ := vec9 hf
      clear hB h3 hv hf
      go_wp2_with fail
      refine (join_ok wkV _ 1 (fun _ => wkF) _ (by omega) (elems_vec1 (World.alloc_heap_new _ _)) wk_ok.1 (fun _ _ => wk_ok.2)).mono ?_
      rintro e w5 ⟨rfl, hb⟩
      simp only [vecV, wk_join]
      have hb' := ((Below.refl w4.heap.size w4).alloc (Nat.le_refl _) (.cells (lit9 wkF) 24)).trans (hb.mono (by simp))
      have hv := (hb'.block _ (block_lt HV.out)).trans HV.out
      have hf := (hb'.block _ (block_lt HF.out)).trans HF.out
      have h3 := (hb'.block _ (block_lt H3.out)).trans H3.out
      have hB := HB.out.trans (hb'.mono HB.out.size)
      have hz := hb'.size
      have hlB := hB.size
      clear HB H3 HV HF hb hb' c0 c1 c2 c3 c4 c5 c6 c7 c8 d0 d1 d2 d3 d4 d5 d6 d7 d8
      have l0 : w.heap.size < w5.heap.size := block_lt hv
      have l1 : w.heap.size + 1 < w5.heap.size := block_lt hf
      obtain ⟨c0, c1, c2, c3, c4, c5, c6, c7, c8⟩ := vec9 hv
      obtain ⟨d0, d1, d2, d3, d4, d5, d6, d7, d8⟩ := vec9 hf
      have HV := Lib.hid hv
      have HF := Lib.hid hf
      have HB := Lib.hid hB
      have H3 := Lib.hid h3
      clear hB h3 hv hf
      have h7 := heap_set9 wkJ (World.alloc_heap_new w5 (.cells (lit9 fun _ => 0) 24))
      have k7 := fun (b : Nat) (ob : Obj) (h : w5.heap[b]? = some ob) => heap_set9_other wkJ (heap_alloc_keeps h (.cells (lit9 fun _ => 0) 24)) (fun e => by have := block_lt h; omega : w5.heap.size ≠ b)
      have b7 := below_set9 wkJ ((Below.refl w5.heap.size w5).alloc (Nat.le_refl _) (.cells (lit9 fun _ => 0) 24)) (Nat.le_refl _)
      have H7 := Lib.hid h7
      have K7 := Lib.hid k7
      have B7 := Lib.hid b7
      clear h7 k7 b7
      simp only [lit9]
      go_wp2_with fail
      refine (meet_ok wkV _ 1 (fun _ => wkF) _ (by omega) (elems_vec1 (newBlock _ _ _ (by simp))) wk_ok.1 (fun _ _ => wk_ok.2)).mono ?_
      rintro e w6 ⟨rfl, hb⟩
      simp only [vecV, wk_meet]
      have hJ := (((Below.refl w5.heap.size w5).alloc (Nat.le_refl _) (.cells (lit9 wkJ) 24)).alloc (by simp) (.cells (lit9 wkF) 24))
      have hb' := hJ.trans (hb.mono (by simp; omega))
      have h7 := (hb.block w5.heap.size (by simp; omega)).trans (heap_alloc_keeps (World.alloc_heap_new w5 (.cells (lit9 wkJ) 24)) (.cells (lit9 wkF) 24))
      have hv := (hb'.block _ (block_lt HV.out)).trans HV.out
      have h3 := (hb'.block _ (block_lt H3.out)).trans H3.out
      have hB := HB.out.trans (hb'.mono HB.out.size)
      clear HB H3 HV HF hb hb' hJ c0 c1 c2 c3 c4 c5 c6 c7 c8 d0 d1 d2 d3 d4 d5 d6 d7 d8 H7 K7 B7
      have HV := Lib.hid (heap_alloc_keeps (heap_alloc_keeps hv (.cells (lit9 wkM) 24)) (.cells (lit9 wkB) 24))
      have H3 := Lib.hid (heap_alloc_keeps (heap_alloc_keeps h3 (.cells (lit9 wkM) 24)) (.cells (lit9 wkB) 24))
      have H7 := Lib.hid (heap_alloc_keeps (heap_alloc_keeps h7 (.cells (lit9 wkM) 24)) (.cells (lit9 wkB) 24))
      have H9 := Lib.hid (heap_alloc_keeps (World.alloc_heap_new w6 (.cells (lit9 wkM) 24)) (.cells (lit9 wkB) 24))
      have H11 := Lib.hid (newBlock (w6.alloc (.cells (lit9 wkM) 24)) (.cells (lit9 wkB) 24) (w6.heap.size + 1) (by simp))
      have HB := Lib.hid ((hB.alloc hB.size (.cells (lit9 wkM) 24)).alloc (by have := hB.size; simp; omega) (.cells (lit9 wkB) 24))
      clear hv h3 h7 hB
      obtain ⟨W7, hW7⟩ : ∃ W7, (w6.alloc (.cells (lit9 wkM) 24)).alloc (.cells (lit9 wkB) 24) = W7 := ⟨_, rfl⟩
      rw [hW7] at HV H3 H7 H9 H11 HB
      simp only [lit9]
      go_wp2_with fail
      refine (wpIn_wide (n := 0)).1 ?_
      rw [show (w6.alloc (.cells #[.int .u64 (wkM 0), .int .u64 (wkM 1), .int .u64 (wkM 2), .int .u64 (wkM 3), .int .u64 (wkM 4), .int .u64 (wkM 5), .int .u64 (wkM 6), .int .u64 (wkM 7), .int .u64 (wkM 8)] 24)).alloc (.cells #[.int .u64 0, .int .u64 5, .int .u64 3, .int .u64 0, .int .u64 0, .int .u64 0, .int .u64 0, .int .u64 0, .int .u64 1] 24) = W7 from hW7]
      clear hW7
      refine wp_region_facts (by kernel_rfl) [(fun v_ _ => v_ = (.int .i64 0 : Value)), (fun v_ _ => v_ = (.bool true : Value)), (fun v_ _ => v_ = (.bool true : Value)), (fun v_ _ => v_ = (.int .i64 0 : Value)), (fun v_ _ => v_ = (.bool true : Value)), (fun v_ _ => v_ = (.bool true : Value)), (fun v_ _ => v_ = (.bool true : Value)), (fun v_ _ => v_ = (.int .i64 0 : Value)), (fun v_ _ => v_ = (.bool true : Value)), (fun v_ _ => v_ = (.bool true : Value)), (fun v_ _ => v_ = (.bool true : Value)), (fun v_ _ => v_ = (.int .i64 231 : Value)), (fun v_ _ => v_ = (.bool true : Value)), (fun v_ _ => v_ = (.bool true : Value)), (fun v_ _ => v_ = (.bool true : Value)), (fun v_ _ => v_ = (vecV wkU : Value)), (fun v_ _ => v_ = (vecV wkU : Value)), (fun v_ _ => v_ = (.bool true : Value)), (fun v_ _ => v_ = (.bool true : Value)), (fun v_ _ => v_ = (.bool true : Value)), (fun v_ _ => v_ = (vecV wkJ : Value)), (fun v_ _ => v_ = (vecV wkJ : Value)), (fun v_ _ => v_ = (.bool true : Value)), (fun v_ _ => v_ = (.bool true : Value)), (fun v_ _ => v_ = (.bool true : Value)), (fun v_ _ => v_ = (vecV wkM : Value)), (fun v_ _ => v_ = (vecV wkM : Value)), (fun v_ _ => v_ = (.bool true : Value)), (fun v_ _ => v_ = (.bool true : Value)), (fun v_ _ => v_ = (.bool true : Value)), (fun v_ _ => v_ = (vecV wkV : Value)), (fun v_ _ => v_ = (IdT.val ⟨9, 1, 2⟩ : Value)), (fun v_ _ => v_ = (.bool true : Value)), (fun v_ _ => v_ = (.bool true : Value)), (fun v_ _ => v_ = (.bool true : Value)), (fun v_ _ => v_ = (vecV wkV : Value)), (fun v_ _ => v_ = (IdT.val ⟨9, 1, 3⟩ : Value)), (fun v_ _ => v_ = (.bool true : Value)), (fun v_ _ => v_ = (.bool true : Value)), (fun v_ _ => v_ = (.bool true : Value)), (fun v_ _ => v_ = (vecV wkV : Value)), (fun v_ _ => v_ = (vecV wkC : Value)), (fun v_ _ => v_ = (.bool true : Value)), (fun v_ _ => v_ = (.bool true : Value)), (fun v_ _ => v_ = (.bool true : Value)), (fun v_ _ => v_ = (vecV wkV : Value)), (fun v_ _ => v_ = (vecV wkB : Value)), (fun v_ w_ => Elems w_ v_ 2 3 (strCells wkL)), (fun v_ _ => v_ = (.agg #[.int .i64 1, .int .u64 3, .int .u64 5] : Value)), (fun v_ _ => v_ = (.agg #[.int .i64 8, .int .u64 1, .int .u64 1] : Value)), (fun v_ w_ => Elems w_ v_ 2 3 (strCells wkL)), (fun v_ _ => v_ = (.bool true : Value)), (fun v_ _ => v_ = (.bool true : Value)), (fun v_ _ => v_ = (.bool true : Value)), (fun v_ _ => v_ = (vecV wkV : Value)), (fun v_ _ => v_ = (vecV wkB : Value)), (fun v_ _ => v_ = (.int .u64 4 : Value)), (fun v_ _ => v_ = (.bool true : Value)), (fun v_ _ => v_ = (.bool true : Value))] (fun x y => Below x.heap.size x y) (fun _ => Below.refl _ _) (fun h k => grows_trans h k) ⟨fun _ _ _ _ h => h, fun _ _ _ _ h => h, fun _ _ _ _ h => h, fun _ _ _ _ h => h, fun _ _ _ _ h => h, fun _ _ _ _ h => h, fun _ _ _ _ h => h, fun _ _ _ _ h => h, fun _ _ _ _ h => h, fun _ _ _ _ h => h, fun _ _ _ _ h => h, fun _ _ _ _ h => h, fun _ _ _ _ h => h, fun _ _ _ _ h => h, fun _ _ _ _ h => h, fun _ _ _ _ h => h, fun _ _ _ _ h => h, fun _ _ _ _ h => h, fun _ _ _ _ h => h, fun _ _ _ _ h => h, fun _ _ _ _ h => h, fun _ _ _ _ h => h, fun _ _ _ _ h => h, fun _ _ _ _ h => h, fun _ _ _ _ h => h, fun _ _ _ _ h => h, fun _ _ _ _ h => h, fun _ _ _ _ h => h, fun _ _ _ _ h => h, fun _ _ _ _ h => h, fun _ _ _ _ h => h, fun _ _ _ _ h => h, fun _ _ _ _ h => h, fun _ _ _ _ h => h, fun _ _ _ _ h => h, fun _ _ _ _ h => h, fun _ _ _ _ h => h, fun _ _ _ _ h => h, fun _ _ _ _ h => h, fun _ _ _ _ h => h, fun _ _ _ _ h => h, fun _ _ _ _ h => h, fun _ _ _ _ h => h, fun _ _ _ _ h => h, fun _ _ _ _ h => h, fun _ _ _ _ h => h, fun _ _ _ _ h => h, fun _ _ _ hC h => h.below hC, fun _ _ _ _ h => h, fun _ _ _ _ h => h, fun _ _ _ hC h => h.below hC, fun _ _ _ _ h => h, fun _ _ _ _ h => h, fun _ _ _ _ h => h, fun _ _ _ _ h => h, fun _ _ _ _ h => h, fun _ _ _ _ h => h, fun _ _ _ _ h => h, fun _ _ _ _ h => h, trivial⟩ (by kernel_rfl) (by kernel_rfl) (grows_drew _)  ?steps ?fin
      case steps =>
        refine ⟨?_, ?_, ?_, ?_, ?_, ?_, ?_, ?_, ?_, ?_, ?_, ?_, ?_, ?_, ?_, ?_, ?_, ?_, ?_, ?_, ?_, ?_, ?_, ?_, ?_, ?_, ?_, ?_, ?_, ?_, ?_, ?_, ?_, ?_, ?_, ?_, ?_, ?_, ?_, ?_, ?_, ?_, ?_, ?_, ?_, ?_, ?_, ?_, ?_, ?_, ?_, ?_, ?_, ?_, ?_, ?_, ?_, ?_, ?_, trivial⟩
        · -- 0
          intro a' w' hA hC hD
          have s4 : a'.tmps[4]? = some (.int .i64 0) := (hA.at 4 (by kernel_rfl)).trans rfl
          clear hA hD
          refine stepOk_plain rfl ?_
          intro K hK
          gi_wp2
          exact hK (.int .i64 0) _ rfl ((fun _ => Below.refl _ _) _)
        · -- 1
          intro a' w' hA hC hD
          obtain ⟨u44, s44, r44⟩ := hD ⟨0, .data⟩ (by simp) rfl _ rfl
          replace r44 : u44 = .int .i64 0 := r44
          subst r44
          clear hA hD
          refine stepOk_plain rfl ?_
          intro K hK
          gi_wp2
          exact hK (.bool true) _ rfl ((fun _ => Below.refl _ _) _)
        · -- 2
          intro a' w' hA hC hD
          obtain ⟨u45, s45, r45⟩ := hD ⟨1, .data⟩ (by simp) rfl _ rfl
          replace r45 : u45 = .bool true := r45
          subst r45
          clear hA hD
          refine stepOk_plain rfl ?_
          intro K hK
          gi_wp2
          exact hK (.bool true) _ rfl ((fun _ => Below.refl _ _) _)
        · -- 3
          intro a' w' hA hC hD
          have s8 : a'.tmps[8]? = some (.int .i64 0) := (hA.at 8 (by kernel_rfl)).trans rfl
          obtain ⟨u46, s46, r46⟩ := hD ⟨2, .guard⟩ (by simp) rfl _ rfl
          replace r46 : u46 = .bool true := r46
          subst r46
          clear hA hD
          refine stepOk_want rfl rfl s46 ?_
          intro K hK
          gi_wp2
          exact hK (.int .i64 0) _ rfl ((fun _ => Below.refl _ _) _)
        · -- 4
          intro a' w' hA hC hD
          obtain ⟨u47, s47, r47⟩ := hD ⟨3, .data⟩ (by simp) rfl _ rfl
          replace r47 : u47 = .int .i64 0 := r47
          subst r47
          obtain ⟨u46, s46, r46⟩ := hD ⟨2, .guard⟩ (by simp) rfl _ rfl
          replace r46 : u46 = .bool true := r46
          subst r46
          clear hA hD
          refine stepOk_want rfl rfl s46 ?_
          intro K hK
          gi_wp2
          exact hK (.bool true) _ rfl ((fun _ => Below.refl _ _) _)
        · -- 5
          intro a' w' hA hC hD
          obtain ⟨u46, s46, r46⟩ := hD ⟨2, .data⟩ (by simp) rfl _ rfl
          replace r46 : u46 = .bool true := r46
          subst r46
          obtain ⟨u48, s48, r48⟩ := hD ⟨4, .data⟩ (by simp) rfl _ rfl
          replace r48 : u48 = .bool true := r48
          subst r48
          clear hA hD
          refine stepOk_plain rfl ?_
          intro K hK
          gi_wp2
          exact hK (.bool true) _ rfl ((fun _ => Below.refl _ _) _)
        · -- 6
          intro a' w' hA hC hD
          obtain ⟨u49, s49, r49⟩ := hD ⟨5, .data⟩ (by simp) rfl _ rfl
          replace r49 : u49 = .bool true := r49
          subst r49
          clear hA hD
          refine stepOk_plain rfl ?_
          intro K hK
          gi_wp2
          exact hK (.bool true) _ rfl ((fun _ => Below.refl _ _) _)
        · -- 7
          intro a' w' hA hC hD
          have s10 : a'.tmps[10]? = some (.int .i64 0) := (hA.at 10 (by kernel_rfl)).trans rfl
          obtain ⟨u50, s50, r50⟩ := hD ⟨6, .guard⟩ (by simp) rfl _ rfl
          replace r50 : u50 = .bool true := r50
          subst r50
          clear hA hD
          refine stepOk_want rfl rfl s50 ?_
          intro K hK
          gi_wp2
          exact hK (.int .i64 0) _ rfl ((fun _ => Below.refl _ _) _)
        · -- 8
          intro a' w' hA hC hD
          obtain ⟨u51, s51, r51⟩ := hD ⟨7, .data⟩ (by simp) rfl _ rfl
          replace r51 : u51 = .int .i64 0 := r51
          subst r51
          obtain ⟨u50, s50, r50⟩ := hD ⟨6, .guard⟩ (by simp) rfl _ rfl
          replace r50 : u50 = .bool true := r50
          subst r50
          clear hA hD
          refine stepOk_want rfl rfl s50 ?_
          intro K hK
          gi_wp2
          exact hK (.bool true) _ rfl ((fun _ => Below.refl _ _) _)
        · -- 9
          intro a' w' hA hC hD
          obtain ⟨u50, s50, r50⟩ := hD ⟨6, .data⟩ (by simp) rfl _ rfl
          replace r50 : u50 = .bool true := r50
          subst r50
          obtain ⟨u52, s52, r52⟩ := hD ⟨8, .data⟩ (by simp) rfl _ rfl
          replace r52 : u52 = .bool true := r52
          subst r52
          clear hA hD
          refine stepOk_plain rfl ?_
          intro K hK
          gi_wp2
          exact hK (.bool true) _ rfl ((fun _ => Below.refl _ _) _)
        · -- 10
          intro a' w' hA hC hD
          obtain ⟨u53, s53, r53⟩ := hD ⟨9, .data⟩ (by simp) rfl _ rfl
          replace r53 : u53 = .bool true := r53
          subst r53
          clear hA hD
          refine stepOk_plain rfl ?_
          intro K hK
          gi_wp2
          exact hK (.bool true) _ rfl ((fun _ => Below.refl _ _) _)
        · -- 11
          intro a' w' hA hC hD
          have s6 : a'.tmps[6]? = some (.int .i64 231) := (hA.at 6 (by kernel_rfl)).trans rfl
          obtain ⟨u54, s54, r54⟩ := hD ⟨10, .guard⟩ (by simp) rfl _ rfl
          replace r54 : u54 = .bool true := r54
          subst r54
          clear hA hD
          refine stepOk_want rfl rfl s54 ?_
          intro K hK
          gi_wp2
          exact hK (.int .i64 231) _ rfl ((fun _ => Below.refl _ _) _)
        · -- 12
          intro a' w' hA hC hD
          obtain ⟨u55, s55, r55⟩ := hD ⟨11, .data⟩ (by simp) rfl _ rfl
          replace r55 : u55 = .int .i64 231 := r55
          subst r55
          obtain ⟨u54, s54, r54⟩ := hD ⟨10, .guard⟩ (by simp) rfl _ rfl
          replace r54 : u54 = .bool true := r54
          subst r54
          clear hA hD
          refine stepOk_want rfl rfl s54 ?_
          intro K hK
          gi_wp2
          exact hK (.bool true) _ rfl ((fun _ => Below.refl _ _) _)
        · -- 13
          intro a' w' hA hC hD
          obtain ⟨u54, s54, r54⟩ := hD ⟨10, .data⟩ (by simp) rfl _ rfl
          replace r54 : u54 = .bool true := r54
          subst r54
          obtain ⟨u56, s56, r56⟩ := hD ⟨12, .data⟩ (by simp) rfl _ rfl
          replace r56 : u56 = .bool true := r56
          subst r56
          clear hA hD
          refine stepOk_plain rfl ?_
          intro K hK
          gi_wp2
          exact hK (.bool true) _ rfl ((fun _ => Below.refl _ _) _)
        · -- 14
          intro a' w' hA hC hD
          obtain ⟨u57, s57, r57⟩ := hD ⟨13, .data⟩ (by simp) rfl _ rfl
          replace r57 : u57 = .bool true := r57
          subst r57
          clear hA hD
          refine stepOk_plain rfl ?_
          intro K hK
          gi_wp2
          exact hK (.bool true) _ rfl ((fun _ => Below.refl _ _) _)
        · -- 15
          intro a' w' hA hC hD
          have s3 : a'.tmps[3]? = some (.pointer (some ⟨q3, 0, none⟩)) := (hA.at 3 (by kernel_rfl)).trans rfl
          obtain ⟨u58, s58, r58⟩ := hD ⟨14, .guard⟩ (by simp) rfl _ rfl
          replace r58 : u58 = .bool true := r58
          subst r58
          obtain ⟨c0, c1, c2, c3, c4, c5, c6, c7, c8⟩ := vec9 ((hC.block _ (block_lt H3.out)).trans H3.out)
          clear hA hD
          refine stepOk_want rfl rfl s58 ?_
          intro K hK
          gi_wp2
          exact hK (vecV wkU) _ rfl ((fun _ => Below.refl _ _) _)
        · -- 16
          intro a' w' hA hC hD
          obtain ⟨u58, s58, r58⟩ := hD ⟨14, .guard⟩ (by simp) rfl _ rfl
          replace r58 : u58 = .bool true := r58
          subst r58
          clear hA hD
          refine stepOk_want rfl rfl s58 ?_
          intro K hK
          gi_wp2
          exact hK (vecV wkU) _ rfl ((fun _ => Below.refl _ _) _)
        · -- 17
          intro a' w' hA hC hD
          obtain ⟨u59, s59, r59⟩ := hD ⟨15, .data⟩ (by simp) rfl _ rfl
          replace r59 : u59 = vecV wkU := r59
          subst r59
          obtain ⟨u60, s60, r60⟩ := hD ⟨16, .data⟩ (by simp) rfl _ rfl
          replace r60 : u60 = vecV wkU := r60
          subst r60
          obtain ⟨u58, s58, r58⟩ := hD ⟨14, .guard⟩ (by simp) rfl _ rfl
          replace r58 : u58 = .bool true := r58
          subst r58
          clear hA hD
          refine stepOk_want rfl rfl s58 ?_
          intro K hK
          have hq := run_vecEq wkU wkU; rw [show vecEq wkU wkU = true from by kernel_rfl] at hq; simp only [vecV, lit9] at s59 s60; gi_wp2
          exact hK (.bool true) _ rfl ((fun _ => Below.refl _ _) _)
        · -- 18
          intro a' w' hA hC hD
          obtain ⟨u58, s58, r58⟩ := hD ⟨14, .data⟩ (by simp) rfl _ rfl
          replace r58 : u58 = .bool true := r58
          subst r58
          obtain ⟨u61, s61, r61⟩ := hD ⟨17, .data⟩ (by simp) rfl _ rfl
          replace r61 : u61 = .bool true := r61
          subst r61
          clear hA hD
          refine stepOk_plain rfl ?_
          intro K hK
          gi_wp2
          exact hK (.bool true) _ rfl ((fun _ => Below.refl _ _) _)
        · -- 19
          intro a' w' hA hC hD
          obtain ⟨u62, s62, r62⟩ := hD ⟨18, .data⟩ (by simp) rfl _ rfl
          replace r62 : u62 = .bool true := r62
          subst r62
          clear hA hD
          refine stepOk_plain rfl ?_
          intro K hK
          gi_wp2
          exact hK (.bool true) _ rfl ((fun _ => Below.refl _ _) _)
        · -- 20
          intro a' w' hA hC hD
          have s7 : a'.tmps[7]? = some (.pointer (some ⟨w5.heap.size, 0, none⟩)) := (hA.at 7 (by kernel_rfl)).trans rfl
          obtain ⟨u63, s63, r63⟩ := hD ⟨19, .guard⟩ (by simp) rfl _ rfl
          replace r63 : u63 = .bool true := r63
          subst r63
          obtain ⟨c0, c1, c2, c3, c4, c5, c6, c7, c8⟩ := vec9 ((hC.block _ (block_lt H7.out)).trans H7.out)
          clear hA hD
          refine stepOk_want rfl rfl s63 ?_
          intro K hK
          gi_wp2
          exact hK (vecV wkJ) _ rfl ((fun _ => Below.refl _ _) _)
        · -- 21
          intro a' w' hA hC hD
          obtain ⟨u63, s63, r63⟩ := hD ⟨19, .guard⟩ (by simp) rfl _ rfl
          replace r63 : u63 = .bool true := r63
          subst r63
          clear hA hD
          refine stepOk_want rfl rfl s63 ?_
          intro K hK
          gi_wp2
          exact hK (vecV wkJ) _ rfl ((fun _ => Below.refl _ _) _)
        · -- 22
          intro a' w' hA hC hD
          obtain ⟨u64, s64, r64⟩ := hD ⟨20, .data⟩ (by simp) rfl _ rfl
          replace r64 : u64 = vecV wkJ := r64
          subst r64
          obtain ⟨u65, s65, r65⟩ := hD ⟨21, .data⟩ (by simp) rfl _ rfl
          replace r65 : u65 = vecV wkJ := r65
          subst r65
          obtain ⟨u63, s63, r63⟩ := hD ⟨19, .guard⟩ (by simp) rfl _ rfl
          replace r63 : u63 = .bool true := r63
          subst r63
          clear hA hD
          refine stepOk_want rfl rfl s63 ?_
          intro K hK
          have hq := run_vecEq wkJ wkJ; rw [show vecEq wkJ wkJ = true from by kernel_rfl] at hq; simp only [vecV, lit9] at s64 s65; gi_wp2
          exact hK (.bool true) _ rfl ((fun _ => Below.refl _ _) _)
        · -- 23
          intro a' w' hA hC hD
          obtain ⟨u63, s63, r63⟩ := hD ⟨19, .data⟩ (by simp) rfl _ rfl
          replace r63 : u63 = .bool true := r63
          subst r63
          obtain ⟨u66, s66, r66⟩ := hD ⟨22, .data⟩ (by simp) rfl _ rfl
          replace r66 : u66 = .bool true := r66
          subst r66
          clear hA hD
          refine stepOk_plain rfl ?_
          intro K hK
          gi_wp2
          exact hK (.bool true) _ rfl ((fun _ => Below.refl _ _) _)
        · -- 24
          intro a' w' hA hC hD
          obtain ⟨u67, s67, r67⟩ := hD ⟨23, .data⟩ (by simp) rfl _ rfl
          replace r67 : u67 = .bool true := r67
          subst r67
          clear hA hD
          refine stepOk_plain rfl ?_
          intro K hK
          gi_wp2
          exact hK (.bool true) _ rfl ((fun _ => Below.refl _ _) _)
        · -- 25
          intro a' w' hA hC hD
          have s9 : a'.tmps[9]? = some (.pointer (some ⟨w6.heap.size, 0, none⟩)) := (hA.at 9 (by kernel_rfl)).trans rfl
          obtain ⟨u68, s68, r68⟩ := hD ⟨24, .guard⟩ (by simp) rfl _ rfl
          replace r68 : u68 = .bool true := r68
          subst r68
          obtain ⟨c0, c1, c2, c3, c4, c5, c6, c7, c8⟩ := vec9 ((hC.block _ (block_lt H9.out)).trans H9.out)
          clear hA hD
          refine stepOk_want rfl rfl s68 ?_
          intro K hK
          gi_wp2
          exact hK (vecV wkM) _ rfl ((fun _ => Below.refl _ _) _)
        · -- 26
          intro a' w' hA hC hD
          obtain ⟨u68, s68, r68⟩ := hD ⟨24, .guard⟩ (by simp) rfl _ rfl
          replace r68 : u68 = .bool true := r68
          subst r68
          clear hA hD
          refine stepOk_want rfl rfl s68 ?_
          intro K hK
          gi_wp2
          exact hK (vecV wkM) _ rfl ((fun _ => Below.refl _ _) _)
        · -- 27
          intro a' w' hA hC hD
          obtain ⟨u69, s69, r69⟩ := hD ⟨25, .data⟩ (by simp) rfl _ rfl
          replace r69 : u69 = vecV wkM := r69
          subst r69
          obtain ⟨u70, s70, r70⟩ := hD ⟨26, .data⟩ (by simp) rfl _ rfl
          replace r70 : u70 = vecV wkM := r70
          subst r70
          obtain ⟨u68, s68, r68⟩ := hD ⟨24, .guard⟩ (by simp) rfl _ rfl
          replace r68 : u68 = .bool true := r68
          subst r68
          clear hA hD
          refine stepOk_want rfl rfl s68 ?_
          intro K hK
          have hq := run_vecEq wkM wkM; rw [show vecEq wkM wkM = true from by kernel_rfl] at hq; simp only [vecV, lit9] at s69 s70; gi_wp2
          exact hK (.bool true) _ rfl ((fun _ => Below.refl _ _) _)
        · -- 28
          intro a' w' hA hC hD
          obtain ⟨u68, s68, r68⟩ := hD ⟨24, .data⟩ (by simp) rfl _ rfl
          replace r68 : u68 = .bool true := r68
          subst r68
          obtain ⟨u71, s71, r71⟩ := hD ⟨27, .data⟩ (by simp) rfl _ rfl
          replace r71 : u71 = .bool true := r71
          subst r71
          clear hA hD
          refine stepOk_plain rfl ?_
          intro K hK
          gi_wp2
          exact hK (.bool true) _ rfl ((fun _ => Below.refl _ _) _)
        · -- 29
          intro a' w' hA hC hD
          obtain ⟨u72, s72, r72⟩ := hD ⟨28, .data⟩ (by simp) rfl _ rfl
          replace r72 : u72 = .bool true := r72
          subst r72
          clear hA hD
          refine stepOk_plain rfl ?_
          intro K hK
          gi_wp2
          exact hK (.bool true) _ rfl ((fun _ => Below.refl _ _) _)
        · -- 30
          intro a' w' hA hC hD
          have s1 : a'.tmps[1]? = some (.pointer (some ⟨w.heap.size, 0, none⟩)) := (hA.at 1 (by kernel_rfl)).trans rfl
          obtain ⟨u73, s73, r73⟩ := hD ⟨29, .guard⟩ (by simp) rfl _ rfl
          replace r73 : u73 = .bool true := r73
          subst r73
          obtain ⟨c0, c1, c2, c3, c4, c5, c6, c7, c8⟩ := vec9 ((hC.block _ (block_lt HV.out)).trans HV.out)
          clear hA hD
          refine stepOk_want rfl rfl s73 ?_
          intro K hK
          gi_wp2
          exact hK (vecV wkV) _ rfl ((fun _ => Below.refl _ _) _)
        · -- 31
          intro a' w' hA hC hD
          obtain ⟨u73, s73, r73⟩ := hD ⟨29, .chain⟩ (by simp) rfl _ rfl
          replace r73 : u73 = .bool true := r73
          subst r73
          clear hA hD
          refine stepOk_want rfl rfl s73 ?_
          intro K hK
          gi_wp2_with fail; refine (callsIn_wide.2 (id_any _ _ _)).mono ?_; rintro e w2 ⟨rfl, hb⟩; exact hK _ _ rfl hb
        · -- 32
          intro a' w' hA hC hD
          obtain ⟨u74, s74, r74⟩ := hD ⟨30, .data⟩ (by simp) rfl _ rfl
          replace r74 : u74 = vecV wkV := r74
          subst r74
          obtain ⟨u75, s75, r75⟩ := hD ⟨31, .data⟩ (by simp) rfl _ rfl
          replace r75 : u75 = IdT.val ⟨9, 1, 2⟩ := r75
          subst r75
          obtain ⟨u73, s73, r73⟩ := hD ⟨29, .guard⟩ (by simp) rfl _ rfl
          replace r73 : u73 = .bool true := r73
          subst r73
          clear hA hD
          refine stepOk_want rfl rfl s73 ?_
          intro K hK
          gi_wp2_with fail; refine (callsIn_wide.2 (has_any wkV ⟨9, 1, 2⟩ _)).mono ?_; rintro e w2 ⟨rfl, hb⟩; rw [wk_has]; exact hK _ _ rfl hb
        · -- 33
          intro a' w' hA hC hD
          obtain ⟨u73, s73, r73⟩ := hD ⟨29, .data⟩ (by simp) rfl _ rfl
          replace r73 : u73 = .bool true := r73
          subst r73
          obtain ⟨u76, s76, r76⟩ := hD ⟨32, .data⟩ (by simp) rfl _ rfl
          replace r76 : u76 = .bool true := r76
          subst r76
          clear hA hD
          refine stepOk_plain rfl ?_
          intro K hK
          gi_wp2
          exact hK (.bool true) _ rfl ((fun _ => Below.refl _ _) _)
        · -- 34
          intro a' w' hA hC hD
          obtain ⟨u77, s77, r77⟩ := hD ⟨33, .data⟩ (by simp) rfl _ rfl
          replace r77 : u77 = .bool true := r77
          subst r77
          clear hA hD
          refine stepOk_plain rfl ?_
          intro K hK
          gi_wp2
          exact hK (.bool true) _ rfl ((fun _ => Below.refl _ _) _)
        · -- 35
          intro a' w' hA hC hD
          have s1 : a'.tmps[1]? = some (.pointer (some ⟨w.heap.size, 0, none⟩)) := (hA.at 1 (by kernel_rfl)).trans rfl
          obtain ⟨u78, s78, r78⟩ := hD ⟨34, .guard⟩ (by simp) rfl _ rfl
          replace r78 : u78 = .bool true := r78
          subst r78
          obtain ⟨c0, c1, c2, c3, c4, c5, c6, c7, c8⟩ := vec9 ((hC.block _ (block_lt HV.out)).trans HV.out)
          clear hA hD
          refine stepOk_want rfl rfl s78 ?_
          intro K hK
          gi_wp2
          exact hK (vecV wkV) _ rfl ((fun _ => Below.refl _ _) _)
        · -- 36
          intro a' w' hA hC hD
          obtain ⟨u78, s78, r78⟩ := hD ⟨34, .chain⟩ (by simp) rfl _ rfl
          replace r78 : u78 = .bool true := r78
          subst r78
          clear hA hD
          refine stepOk_want rfl rfl s78 ?_
          intro K hK
          gi_wp2_with fail; refine (callsIn_wide.2 (id_any _ _ _)).mono ?_; rintro e w2 ⟨rfl, hb⟩; exact hK _ _ rfl hb
        · -- 37
          intro a' w' hA hC hD
          obtain ⟨u79, s79, r79⟩ := hD ⟨35, .data⟩ (by simp) rfl _ rfl
          replace r79 : u79 = vecV wkV := r79
          subst r79
          obtain ⟨u80, s80, r80⟩ := hD ⟨36, .data⟩ (by simp) rfl _ rfl
          replace r80 : u80 = IdT.val ⟨9, 1, 3⟩ := r80
          subst r80
          obtain ⟨u78, s78, r78⟩ := hD ⟨34, .guard⟩ (by simp) rfl _ rfl
          replace r78 : u78 = .bool true := r78
          subst r78
          clear hA hD
          refine stepOk_want rfl rfl s78 ?_
          intro K hK
          gi_wp2_with fail; refine (callsIn_wide.2 (next_any wkV wkV_nn ⟨9, 1, 3⟩ _)).mono ?_; rintro e w2 ⟨rfl, hb⟩; rw [wk_next]; exact hK _ _ rfl hb
        · -- 38
          intro a' w' hA hC hD
          obtain ⟨u78, s78, r78⟩ := hD ⟨34, .data⟩ (by simp) rfl _ rfl
          replace r78 : u78 = .bool true := r78
          subst r78
          obtain ⟨u81, s81, r81⟩ := hD ⟨37, .data⟩ (by simp) rfl _ rfl
          replace r81 : u81 = .bool true := r81
          subst r81
          clear hA hD
          refine stepOk_plain rfl ?_
          intro K hK
          gi_wp2
          exact hK (.bool true) _ rfl ((fun _ => Below.refl _ _) _)
        · -- 39
          intro a' w' hA hC hD
          obtain ⟨u82, s82, r82⟩ := hD ⟨38, .data⟩ (by simp) rfl _ rfl
          replace r82 : u82 = .bool true := r82
          subst r82
          clear hA hD
          refine stepOk_plain rfl ?_
          intro K hK
          gi_wp2
          exact hK (.bool true) _ rfl ((fun _ => Below.refl _ _) _)
        · -- 40
          intro a' w' hA hC hD
          have s1 : a'.tmps[1]? = some (.pointer (some ⟨w.heap.size, 0, none⟩)) := (hA.at 1 (by kernel_rfl)).trans rfl
          obtain ⟨u83, s83, r83⟩ := hD ⟨39, .guard⟩ (by simp) rfl _ rfl
          replace r83 : u83 = .bool true := r83
          subst r83
          obtain ⟨c0, c1, c2, c3, c4, c5, c6, c7, c8⟩ := vec9 ((hC.block _ (block_lt HV.out)).trans HV.out)
          clear hA hD
          refine stepOk_want rfl rfl s83 ?_
          intro K hK
          gi_wp2
          exact hK (vecV wkV) _ rfl ((fun _ => Below.refl _ _) _)
        · -- 41
          intro a' w' hA hC hD
          obtain ⟨u83, s83, r83⟩ := hD ⟨39, .guard⟩ (by simp) rfl _ rfl
          replace r83 : u83 = .bool true := r83
          subst r83
          clear hA hD
          refine stepOk_want rfl rfl s83 ?_
          intro K hK
          gi_wp2
          exact hK (vecV wkC) _ rfl ((fun _ => Below.refl _ _) _)
        · -- 42
          intro a' w' hA hC hD
          obtain ⟨u84, s84, r84⟩ := hD ⟨40, .data⟩ (by simp) rfl _ rfl
          replace r84 : u84 = vecV wkV := r84
          subst r84
          obtain ⟨u85, s85, r85⟩ := hD ⟨41, .data⟩ (by simp) rfl _ rfl
          replace r85 : u85 = vecV wkC := r85
          subst r85
          obtain ⟨u83, s83, r83⟩ := hD ⟨39, .chain⟩ (by simp) rfl _ rfl
          replace r83 : u83 = .bool true := r83
          subst r83
          clear hA hD
          refine stepOk_want rfl rfl s83 ?_
          intro K hK
          gi_wp2_with fail; refine (callsIn_wide.2 (covers_any wkV wkC _)).mono ?_; rintro e w2 ⟨rfl, hb⟩; rw [wk_covers]; exact hK _ _ rfl hb
        · -- 43
          intro a' w' hA hC hD
          obtain ⟨u83, s83, r83⟩ := hD ⟨39, .data⟩ (by simp) rfl _ rfl
          replace r83 : u83 = .bool true := r83
          subst r83
          obtain ⟨u86, s86, r86⟩ := hD ⟨42, .data⟩ (by simp) rfl _ rfl
          replace r86 : u86 = .bool true := r86
          subst r86
          clear hA hD
          refine stepOk_plain rfl ?_
          intro K hK
          gi_wp2
          exact hK (.bool true) _ rfl ((fun _ => Below.refl _ _) _)
        · -- 44
          intro a' w' hA hC hD
          obtain ⟨u87, s87, r87⟩ := hD ⟨43, .data⟩ (by simp) rfl _ rfl
          replace r87 : u87 = .bool true := r87
          subst r87
          clear hA hD
          refine stepOk_plain rfl ?_
          intro K hK
          gi_wp2
          exact hK (.bool true) _ rfl ((fun _ => Below.refl _ _) _)
        · -- 45
          intro a' w' hA hC hD
          have s1 : a'.tmps[1]? = some (.pointer (some ⟨w.heap.size, 0, none⟩)) := (hA.at 1 (by kernel_rfl)).trans rfl
          obtain ⟨u88, s88, r88⟩ := hD ⟨44, .guard⟩ (by simp) rfl _ rfl
          replace r88 : u88 = .bool true := r88
          subst r88
          obtain ⟨c0, c1, c2, c3, c4, c5, c6, c7, c8⟩ := vec9 ((hC.block _ (block_lt HV.out)).trans HV.out)
          clear hA hD
          refine stepOk_want rfl rfl s88 ?_
          intro K hK
          gi_wp2
          exact hK (vecV wkV) _ rfl ((fun _ => Below.refl _ _) _)
        · -- 46
          intro a' w' hA hC hD
          have s11 : a'.tmps[11]? = some (.pointer (some ⟨w6.heap.size + 1, 0, none⟩)) := (hA.at 11 (by kernel_rfl)).trans rfl
          obtain ⟨u88, s88, r88⟩ := hD ⟨44, .guard⟩ (by simp) rfl _ rfl
          replace r88 : u88 = .bool true := r88
          subst r88
          obtain ⟨c0, c1, c2, c3, c4, c5, c6, c7, c8⟩ := vec9 ((hC.block _ (block_lt H11.out)).trans H11.out)
          clear hA hD
          refine stepOk_want rfl rfl s88 ?_
          intro K hK
          gi_wp2
          exact hK (vecV wkB) _ rfl ((fun _ => Below.refl _ _) _)
        · -- 47
          intro a' w' hA hC hD
          obtain ⟨u89, s89, r89⟩ := hD ⟨45, .data⟩ (by simp) rfl _ rfl
          replace r89 : u89 = vecV wkV := r89
          subst r89
          obtain ⟨u90, s90, r90⟩ := hD ⟨46, .data⟩ (by simp) rfl _ rfl
          replace r90 : u90 = vecV wkB := r90
          subst r90
          obtain ⟨u88, s88, r88⟩ := hD ⟨44, .chain⟩ (by simp) rfl _ rfl
          replace r88 : u88 = .bool true := r88
          subst r88
          clear hA hD
          refine stepOk_want rfl rfl s88 ?_
          intro K hK
          gi_wp2_with fail; refine (callsIn_wide.2 (lacks_any wkV wkB wkV_nn _)).mono ?_; rw [wk_lacks]; rintro e w2 ⟨v, rfl, hrow, hb⟩
          exact hK v _ (ownsRow_strs (l := wkL) hrow) hb
        · -- 48
          intro a' w' hA hC hD
          obtain ⟨u88, s88, r88⟩ := hD ⟨44, .guard⟩ (by simp) rfl _ rfl
          replace r88 : u88 = .bool true := r88
          subst r88
          clear hA hD
          refine stepOk_want rfl rfl s88 ?_
          intro K hK
          gi_wp2
          exact hK (.agg #[.int .i64 1, .int .u64 3, .int .u64 5]) _ rfl ((fun _ => Below.refl _ _) _)
        · -- 49
          intro a' w' hA hC hD
          obtain ⟨u88, s88, r88⟩ := hD ⟨44, .guard⟩ (by simp) rfl _ rfl
          replace r88 : u88 = .bool true := r88
          subst r88
          clear hA hD
          refine stepOk_want rfl rfl s88 ?_
          intro K hK
          gi_wp2
          exact hK (.agg #[.int .i64 8, .int .u64 1, .int .u64 1]) _ rfl ((fun _ => Below.refl _ _) _)
        · -- 50
          intro a' w' hA hC hD
          obtain ⟨u92, s92, r92⟩ := hD ⟨48, .data⟩ (by simp) rfl _ rfl
          replace r92 : u92 = .agg #[.int .i64 1, .int .u64 3, .int .u64 5] := r92
          subst r92
          obtain ⟨u93, s93, r93⟩ := hD ⟨49, .data⟩ (by simp) rfl _ rfl
          replace r93 : u93 = .agg #[.int .i64 8, .int .u64 1, .int .u64 1] := r93
          subst r93
          obtain ⟨u88, s88, r88⟩ := hD ⟨44, .guard⟩ (by simp) rfl _ rfl
          replace r88 : u88 = .bool true := r88
          subst r88
          clear hA hD
          refine stepOk_want rfl rfl s88 ?_
          intro K hK
          gi_wp2
          exact hK (.slice (some ⟨w'.heap.size, 0, none⟩) 2 2) _ (elems_of_block (World.alloc_heap_new _ _) (fun j hj => by rcases j with _ | _ | _ | _ | _ | _ | j <;> first | rfl | omega)) ((Below.refl _ _).alloc (Nat.le_refl _) _)
        · -- 51
          intro a' w' hA hC hD
          obtain ⟨u91, s91, r91⟩ := hD ⟨47, .data⟩ (by simp) rfl _ rfl
          replace r91 : (fun v_ w_ => Elems w_ v_ 2 3 (strCells wkL)) u91 w' := r91
          obtain ⟨u94, s94, r94⟩ := hD ⟨50, .data⟩ (by simp) rfl _ rfl
          replace r94 : (fun v_ w_ => Elems w_ v_ 2 3 (strCells wkL)) u94 w' := r94
          obtain ⟨u88, s88, r88⟩ := hD ⟨44, .guard⟩ (by simp) rfl _ rfl
          replace r88 : u88 = .bool true := r88
          subst r88
          clear hA hD
          refine stepOk_want rfl rfl s88 ?_
          intro K hK
          gi_wp2_with fail; refine (callsIn_wide.2 (strEqual_any wkL wkL _ _ _ (by decide) r91 r94 (by decide))).mono ?_; rintro e w2 ⟨rfl, hb⟩; rw [strsEq_self]; exact hK _ _ rfl hb
        · -- 52
          intro a' w' hA hC hD
          obtain ⟨u88, s88, r88⟩ := hD ⟨44, .data⟩ (by simp) rfl _ rfl
          replace r88 : u88 = .bool true := r88
          subst r88
          obtain ⟨u95, s95, r95⟩ := hD ⟨51, .data⟩ (by simp) rfl _ rfl
          replace r95 : u95 = .bool true := r95
          subst r95
          clear hA hD
          refine stepOk_plain rfl ?_
          intro K hK
          gi_wp2
          exact hK (.bool true) _ rfl ((fun _ => Below.refl _ _) _)
        · -- 53
          intro a' w' hA hC hD
          obtain ⟨u96, s96, r96⟩ := hD ⟨52, .data⟩ (by simp) rfl _ rfl
          replace r96 : u96 = .bool true := r96
          subst r96
          clear hA hD
          refine stepOk_plain rfl ?_
          intro K hK
          gi_wp2
          exact hK (.bool true) _ rfl ((fun _ => Below.refl _ _) _)
        · -- 54
          intro a' w' hA hC hD
          have s1 : a'.tmps[1]? = some (.pointer (some ⟨w.heap.size, 0, none⟩)) := (hA.at 1 (by kernel_rfl)).trans rfl
          obtain ⟨u97, s97, r97⟩ := hD ⟨53, .guard⟩ (by simp) rfl _ rfl
          replace r97 : u97 = .bool true := r97
          subst r97
          obtain ⟨c0, c1, c2, c3, c4, c5, c6, c7, c8⟩ := vec9 ((hC.block _ (block_lt HV.out)).trans HV.out)
          clear hA hD
          refine stepOk_want rfl rfl s97 ?_
          intro K hK
          gi_wp2
          exact hK (vecV wkV) _ rfl ((fun _ => Below.refl _ _) _)
        · -- 55
          intro a' w' hA hC hD
          have s11 : a'.tmps[11]? = some (.pointer (some ⟨w6.heap.size + 1, 0, none⟩)) := (hA.at 11 (by kernel_rfl)).trans rfl
          obtain ⟨u97, s97, r97⟩ := hD ⟨53, .guard⟩ (by simp) rfl _ rfl
          replace r97 : u97 = .bool true := r97
          subst r97
          obtain ⟨c0, c1, c2, c3, c4, c5, c6, c7, c8⟩ := vec9 ((hC.block _ (block_lt H11.out)).trans H11.out)
          clear hA hD
          refine stepOk_want rfl rfl s97 ?_
          intro K hK
          gi_wp2
          exact hK (vecV wkB) _ rfl ((fun _ => Below.refl _ _) _)
        · -- 56
          intro a' w' hA hC hD
          obtain ⟨u98, s98, r98⟩ := hD ⟨54, .data⟩ (by simp) rfl _ rfl
          replace r98 : u98 = vecV wkV := r98
          subst r98
          obtain ⟨u99, s99, r99⟩ := hD ⟨55, .data⟩ (by simp) rfl _ rfl
          replace r99 : u99 = vecV wkB := r99
          subst r99
          obtain ⟨u97, s97, r97⟩ := hD ⟨53, .chain⟩ (by simp) rfl _ rfl
          replace r97 : u97 = .bool true := r97
          subst r97
          clear hA hD
          refine stepOk_want rfl rfl s97 ?_
          intro K hK
          gi_wp2_with fail; refine (callsIn_wide.2 (many_any wkV wkB wkV_nn _)).mono ?_; rintro e w2 ⟨rfl, hb⟩; rw [wk_many]; exact hK _ _ rfl hb
        · -- 57
          intro a' w' hA hC hD
          obtain ⟨u100, s100, r100⟩ := hD ⟨56, .data⟩ (by simp) rfl _ rfl
          replace r100 : u100 = .int .u64 4 := r100
          subst r100
          obtain ⟨u97, s97, r97⟩ := hD ⟨53, .guard⟩ (by simp) rfl _ rfl
          replace r97 : u97 = .bool true := r97
          subst r97
          clear hA hD
          refine stepOk_want rfl rfl s97 ?_
          intro K hK
          gi_wp2
          exact hK (.bool true) _ rfl ((fun _ => Below.refl _ _) _)
        · -- 58
          intro a' w' hA hC hD
          obtain ⟨u97, s97, r97⟩ := hD ⟨53, .data⟩ (by simp) rfl _ rfl
          replace r97 : u97 = .bool true := r97
          subst r97
          obtain ⟨u101, s101, r101⟩ := hD ⟨57, .data⟩ (by simp) rfl _ rfl
          replace r101 : u101 = .bool true := r101
          subst r101
          clear hA hD
          refine stepOk_plain rfl ?_
          intro K hK
          gi_wp2
          exact hK (.bool true) _ rfl ((fun _ => Below.refl _ _) _)
      case fin =>
        intro w8 hC
        simp only [EndFrom, forall_eq, Act.put, List.length_cons, List.length_nil, List.drop_succ_cons, List.drop_zero, Nat.reduceAdd, List.setIfInBounds_toArray, List.set_cons_succ, List.set_cons_zero]
        intro v91 _ v94 _
        gi_wp2
        go_wp2
        go_ret
        exact ⟨rfl, HB.out.trans (hC.mono HB.out.size)⟩
end Go.Proofs.Ytppaheekpmgifaa
