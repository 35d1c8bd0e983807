/- The document's Next. -/
import Derived.Test.YtppaheekpmgifaaDoorIdR
import Derived.Test.YtppaheekpmgifaaDoorBaseF
namespace Go.Proofs.YtppaheekpmgifaaDoor
set_option linter.unusedSimpArgs false
set_option linter.unusedVariables false
open Go.RowKit Go.Shelf

set_option maxRecDepth 100000 in
set_option maxHeartbeats 1000000 in
theorem refNext_no (c : ClkT) (hk : clkOk c = true) (hn : nextOk c = false) (w : World) : Calls Tryd.prog 22 #[c.val] w (Gives (.tuple #[clk0.val, id0.val, .bool false]) w) := by
  obtain ⟨c1, c2, c3⟩ := c
  simp [clkOk] at hk
  obtain ⟨_, h2, h3⟩ := hk
  unfold ClkT.val IdT.val clk0 id0
  by_cases e2 : c2 = 4611686018427387904
  · subst e2
    clear hn h2 h3
    go_enter Tryd.func22, Tryd.ntmps22
    go_wp2_with fail
    refine bodyPost_ret (v := .tuple #[.agg #[.int .i64 0, .int .u64 0, .int .u64 0], .agg #[.int .u64 0, .int .i64 0, .int .u64 0], .bool false]) (by simp [results, Tryd.results22, go_sem]) rfl ⟨rfl, by (repeat (first | exact Below.refl _ _ | assumption | refine Below.alloc ?_ (by first | omega | (simp; done) | (simp; omega)) _ | refine Below.setCell ?_ (by first | omega | (simp; done) | (simp; omega)) _ | refine Below.drew ?_))⟩
  · have e3 : c3 = 4611686018427387904 := by
      simp [nextOk] at hn
      omega
    subst e3
    have hb : (c2 == 4611686018427387904) = false := by simpa using e2
    clear hn h2 h3
    go_enter Tryd.func22, Tryd.ntmps22
    go_wp2_with fail
    refine bodyPost_ret (v := .tuple #[.agg #[.int .i64 0, .int .u64 0, .int .u64 0], .agg #[.int .u64 0, .int .i64 0, .int .u64 0], .bool false]) (by simp [results, Tryd.results22, go_sem]) rfl ⟨rfl, by (repeat (first | exact Below.refl _ _ | assumption | refine Below.alloc ?_ (by first | omega | (simp; done) | (simp; omega)) _ | refine Below.setCell ?_ (by first | omega | (simp; done) | (simp; omega)) _ | refine Below.drew ?_))⟩

set_option maxRecDepth 100000 in
set_option maxHeartbeats 2000000 in
theorem refNext_ok (c : ClkT) (hf : c.Fits) (hn : nextOk c = true) (w : World) : Calls Tryd.prog 22 #[c.val] w (Gives (.tuple #[(clkOn c).val, (clkId (clkOn c)).val, .bool true]) w) := by
  obtain ⟨c1, c2, c3⟩ := c
  obtain ⟨_, ⟨f1, _⟩, f2, _⟩ := hf
  simp only at f1 f2
  simp [nextOk] at hn
  obtain ⟨h2, h3⟩ := hn
  have w2 : IntKind.u64.wrap (c2 + 1) = c2 + 1 := by rw [IntKind.wrap_u64]; omega
  have w3 : IntKind.u64.wrap (c3 + 1) = c3 + 1 := by rw [IntKind.wrap_u64]; omega
  have b2 : (c2 == 4611686018427387904) = false := by simp; omega
  have b3 : (c3 == 4611686018427387904) = false := by simp; omega
  have n2 : ¬ c2 = 4611686018427387904 := by omega
  have n3 : ¬ c3 = 4611686018427387904 := by omega
  clear f1 f2 h2 h3
  unfold ClkT.val IdT.val clkId clkOn
  go_enter Tryd.func22, Tryd.ntmps22
  go_wp2_with fail
  have G5 := Lib.hid (newBlock (((w.alloc (.cells #[.int .i64 c1, .int .u64 c2, .int .u64 c3] 41)).alloc (.cells #[.int .i64 0, .int .u64 0, .int .u64 0] 41)).alloc (.cells #[.int .u64 0, .int .i64 0, .int .u64 0] 27)) (.cells #[.int .i64 c1, .int .u64 (c2 + 1), .int .u64 (c3 + 1)] 41) (w.heap.size + 1 + 1 + 1) (by simp))
  have G1 := Lib.hid (heap_alloc_keeps (heap_alloc_keeps (newBlock (w.alloc (.cells #[.int .i64 c1, .int .u64 c2, .int .u64 c3] 41)) (.cells #[.int .i64 0, .int .u64 0, .int .u64 0] 41) (w.heap.size + 1) (by simp)) (.cells #[.int .u64 0, .int .i64 0, .int .u64 0] 27)) (.cells #[.int .i64 c1, .int .u64 (c2 + 1), .int .u64 (c3 + 1)] 41))
  have G2 := Lib.hid (heap_alloc_keeps (newBlock ((w.alloc (.cells #[.int .i64 c1, .int .u64 c2, .int .u64 c3] 41)).alloc (.cells #[.int .i64 0, .int .u64 0, .int .u64 0] 41)) (.cells #[.int .u64 0, .int .i64 0, .int .u64 0] 27) (w.heap.size + 1 + 1) (by simp)) (.cells #[.int .i64 c1, .int .u64 (c2 + 1), .int .u64 (c3 + 1)] 41))
  have GB := Lib.hid (show Below w.heap.size w ((((w.alloc (.cells #[.int .i64 c1, .int .u64 c2, .int .u64 c3] 41)).alloc (.cells #[.int .i64 0, .int .u64 0, .int .u64 0] 41)).alloc (.cells #[.int .u64 0, .int .i64 0, .int .u64 0] 27)).alloc (.cells #[.int .i64 c1, .int .u64 (c2 + 1), .int .u64 (c3 + 1)] 41)) by (repeat (first | exact Below.refl _ _ | assumption | refine Below.alloc ?_ (by first | omega | (simp; done) | (simp; omega)) _ | refine Below.setCell ?_ (by first | omega | (simp; done) | (simp; omega)) _ | refine Below.drew ?_)))
  have gz := Lib.hid (show w.heap.size ≤ ((((w.alloc (.cells #[.int .i64 c1, .int .u64 c2, .int .u64 c3] 41)).alloc (.cells #[.int .i64 0, .int .u64 0, .int .u64 0] 41)).alloc (.cells #[.int .u64 0, .int .i64 0, .int .u64 0] 27)).alloc (.cells #[.int .i64 c1, .int .u64 (c2 + 1), .int .u64 (c3 + 1)] 41)).heap.size by simp; omega)
  have hne : ∀ a b c : Value, (Obj.cells #[a, b, c] 27 (0, 0)) ≠ (Obj.cells #[.int .i64 0, .int .u64 0, .int .u64 0] 41 (0, 0)) := fun a b c h => by
    injection h with _ h2
    exact absurd h2 (by decide)
  have HN := Lib.hid hne
  clear hne w2 w3 b2 b3 n2 n3
  refine (wpIn_wide (n := 0)).1 ?_
  refine wpIn_region_any (by kernel_rfl) ?_
  apply take_first (i := 1) (some 26)
  case hro => rfl
  case hi => rfl
  case hd => rfl
  case hs => kernel_rfl
  case hf => kernel_rfl
  case hr => kernel_rfl
  case hQ => exact fun _ _ _ h => h
  case hy => exact ⟨.inl ⟨by rfl, fun w => by go_simp; rfl⟩, fun _ => rfl⟩
  simp only [Act.put, List.setIfInBounds_toArray, List.set_cons_succ, List.set_cons_zero]
  apply take_first (i := 3) (some 28)
  case hro => rfl
  case hi => rfl
  case hd => rfl
  case hs => kernel_rfl
  case hf => kernel_rfl
  case hr => kernel_rfl
  case hQ => exact fun _ _ _ h => h
  case hy => exact ⟨.inl ⟨by rfl, fun w => by go_simp; rfl⟩, fun _ => rfl⟩
  simp only [Act.put, List.setIfInBounds_toArray, List.set_cons_succ, List.set_cons_zero]
  apply take_first (i := 5) (some 30)
  case hro => rfl
  case hi => rfl
  case hd => rfl
  case hs => kernel_rfl
  case hf => kernel_rfl
  case hr => kernel_rfl
  case hQ => exact fun _ _ _ h => h
  case hy => exact ⟨.inl ⟨by rfl, fun w => by go_simp; rfl⟩, fun _ => rfl⟩
  simp only [Act.put, List.setIfInBounds_toArray, List.set_cons_succ, List.set_cons_zero]
  apply wp_facts_marks [0, 2, 4, 6, 7, 8] [9, 10] [true, false, true, false, true, false, true, true, true, false, false] [false, false, false, false, false, false, false, false, false, true, true] (Rl := [(0, (eqv _)), (2, (eqv _)), (4, (eqv _)), (6, (eqv _)), (7, (eqv _)), (8, (fun v_ w_ => w_.heap[w.heap.size + 1]? = some (.cells #[.int .i64 c1, .int .u64 (c2 + 1), .int .u64 (c3 + 1)] 41 (0, 0))))]) (C := (fun x y => FillC w.heap.size (.cells #[.int .i64 0, .int .u64 0, .int .u64 0] 41 (0, 0)) (.cells #[.int .i64 c1, .int .u64 (c2 + 1), .int .u64 (c3 + 1)] 41 (0, 0)) x y))
  case hk => rfl
  case hnd => decide
  case hmf => kernel_rfl
  case hmt => kernel_rfl
  case hCr => exact (fun x => FillC.refl _ _ _ x)
  case hCt => intro _ _ _; exact (fun h k => FillC.trans h k)
  case hst => exact ⟨fun _ _ _ _ h => h, fun _ _ _ _ h => h, fun _ _ _ _ h => h, fun _ _ _ _ h => h, fun _ _ _ _ h => h, fun _ _ _ hC h => FillC.filled hC h, trivial⟩
  case hfo => kernel_rfl
  case hsp => kernel_rfl
  case hch => kernel_rfl
  case hfuel => kernel_rfl
  case hsteps =>
    refine ⟨?_, ?_, ?_, ?_, ?_, ?_, trivial⟩
    · -- 0
      intro a' w' hA hC hD
      have s5 : a'.tmps[5]? = some _ := (hA.at 5 (by kernel_rfl)).trans rfl
      have hi := FillC.filled hC G5.out; have d0 := cell_of_block (k := 0) (v := .int .i64 c1) hi rfl; have d1 := cell_of_block (k := 1) (v := .int .u64 (c2 + 1)) hi rfl; have d2 := cell_of_block (k := 2) (v := .int .u64 (c3 + 1)) hi rfl; clear hi
      clear hA hD
      refine stepOk_plain rfl ?_
      intro K hK
      gi_wp2
      exact hK _ _ rfl ((fun x => FillC.refl _ _ _ x) _)
    · -- 2
      intro a' w' hA hC hD
      have s26 : a'.tmps[26]? = some _ := (hA.at 26 (by kernel_rfl)).trans rfl
      have hi := FillC.filled hC G5.out; have d1 := cell_of_block (k := 1) (v := .int .u64 (c2 + 1)) hi rfl; clear hi
      clear hA hD
      refine stepOk_plain rfl ?_
      intro K hK
      gi_wp2
      exact hK _ _ rfl ((fun x => FillC.refl _ _ _ x) _)
    · -- 4
      intro a' w' hA hC hD
      have s28 : a'.tmps[28]? = some _ := (hA.at 28 (by kernel_rfl)).trans rfl
      have hi := FillC.filled hC G5.out; have d0 := cell_of_block (k := 0) (v := .int .i64 c1) hi rfl; clear hi
      clear hA hD
      refine stepOk_plain rfl ?_
      intro K hK
      gi_wp2
      exact hK _ _ rfl ((fun x => FillC.refl _ _ _ x) _)
    · -- 6
      intro a' w' hA hC hD
      have s30 : a'.tmps[30]? = some _ := (hA.at 30 (by kernel_rfl)).trans rfl
      have hi := FillC.filled hC G5.out; have d2 := cell_of_block (k := 2) (v := .int .u64 (c3 + 1)) hi rfl; clear hi
      clear hA hD
      refine stepOk_plain rfl ?_
      intro K hK
      gi_wp2
      exact hK _ _ rfl ((fun x => FillC.refl _ _ _ x) _)
    · -- 7
      intro a' w' hA hC hD
      obtain ⟨u27, s27, r27⟩ := hD ⟨2, .data⟩ (by simp) rfl (by simp) _ rfl
      replace r27 : u27 = _ := r27
      subst r27
      obtain ⟨u29, s29, r29⟩ := hD ⟨4, .data⟩ (by simp) rfl (by simp) _ rfl
      replace r29 : u29 = _ := r29
      subst r29
      obtain ⟨u31, s31, r31⟩ := hD ⟨6, .data⟩ (by simp) rfl (by simp) _ rfl
      replace r31 : u31 = _ := r31
      subst r31
      clear hA hD
      refine stepOk_plain rfl ?_
      intro K hK
      gi_wp2
      exact hK _ _ rfl ((fun x => FillC.refl _ _ _ x) _)
    · -- 8
      intro a' w' hA hC hD
      have s2 : a'.tmps[2]? = some _ := (hA.at 2 (by kernel_rfl)).trans rfl
      obtain ⟨u25, s25, r25⟩ := hD ⟨0, .data⟩ (by simp) rfl (by simp) _ rfl
      replace r25 : u25 = _ := r25
      subst r25
      have he := FillC.either hC (.inl G1.out); have HE := Lib.hid he; obtain ⟨y0, y1, y2, hy⟩ := either3 he; have d0 := cell_of_block (k := 0) (v := y0) hy rfl; have d1 := cell_of_block (k := 1) (v := y1) hy rfl; have d2 := cell_of_block (k := 2) (v := y2) hy rfl; have fr := free_of_block hy; clear he hy
      clear hA hD
      refine stepOk_plain rfl ?_
      intro K hK
      gi_wp2
      exact hK undef _ (fill3 (n₀ := w.heap.size) (by omega) HE.out).2 (fill3 (n₀ := w.heap.size) (by omega) HE.out).1
  case hend =>
    intro w3 hC
    simp only [EndL, pickM, eqv, forall_eq, Act.put, List.setIfInBounds_toArray, List.set_cons_succ, List.set_cons_zero]
    intro v3 h1
    have h2 := FillC.keep hC G2.out (HN.out _ _ _)
    have HB := Lib.hid (GB.out.trans ⟨hC.1.os, hC.1.tape, hC.1.output, hC.1.size, hC.1.block⟩)
    have H1 := Lib.hid h1
    have e0 := cell_of_block (k := 0) (v := .int .u64 0) h2 rfl
    have e1 := cell_of_block (k := 1) (v := .int .i64 0) h2 rfl
    have e2 := cell_of_block (k := 2) (v := .int .u64 0) h2 rfl
    have fy := free_of_block h2
    clear hC h1 h2
    gi_wp2
    go_wp2_with fail
    have g1 := heap_set3_other (p := w.heap.size + 1 + 1) (x := .int .u64 (c2 + 1)) (y := .int .i64 c1) (z := .int .u64 (c3 + 1)) H1.out (by omega)
    have d0 := cell_of_block (k := 0) (v := .int .i64 c1) g1 rfl
    have d1 := cell_of_block (k := 1) (v := .int .u64 (c2 + 1)) g1 rfl
    have d2 := cell_of_block (k := 2) (v := .int .u64 (c3 + 1)) g1 rfl
    refine bodyPost_ret (v := .tuple #[.agg #[.int .i64 c1, .int .u64 (c2 + 1), .int .u64 (c3 + 1)], .agg #[.int .u64 (c2 + 1), .int .i64 c1, .int .u64 (c3 + 1)], .bool true]) (by simp [results, Tryd.results22, go_sem, d0, d1, d2, e0, e1, e2]) rfl ⟨rfl, ?_⟩
    exact below_set3 HB.out (by omega)
end Go.Proofs.YtppaheekpmgifaaDoor
