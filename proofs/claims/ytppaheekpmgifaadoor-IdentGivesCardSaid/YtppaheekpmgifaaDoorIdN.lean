/- Package ident: Next, whole. -/
import Derived.Test.YtppaheekpmgifaaDoorIdM
import Derived.Test.YtppaheekpmgifaaDoorBaseF
namespace Go.Proofs.YtppaheekpmgifaaDoor
set_option linter.unusedSimpArgs false
set_option linter.unusedVariables false
open Go.RowKit Go.Shelf

theorem fill3 {n₀ : Nat} {w : World} {p : Nat} {t : TypeId} {f : Nat × Nat} {a b c x y z : Value} (hn : n₀ ≤ p) (hx : w.heap[p]? = some (.cells #[a, b, c] t f) ∨ w.heap[p]? = some (.cells #[x, y, z] t f)) :
    FillC n₀ (.cells #[a, b, c] t f) (.cells #[x, y, z] t f) w (((w.setCell ⟨p, 0, none⟩ x).setCell ⟨p, 1, none⟩ y).setCell ⟨p, 2, none⟩ z) ∧ (((w.setCell ⟨p, 0, none⟩ x).setCell ⟨p, 1, none⟩ y).setCell ⟨p, 2, none⟩ z).heap[p]? = some (.cells #[x, y, z] t f) := by
  have hs : (((w.setCell ⟨p, 0, none⟩ x).setCell ⟨p, 1, none⟩ y).setCell ⟨p, 2, none⟩ z).heap[p]? = some (.cells #[x, y, z] t f) := by
    rcases hx with hx | hx
    · exact heap_set3 hx
    · exact heap_set3 hx
  exact ⟨FillC.fill (below_set3 (Below.refl _ _) hn) hx hs (fun j ob hj hne => heap_set3_other hj (fun e => hne e.symm)), hs⟩
theorem either3 {w : World} {p : Nat} {t : TypeId} {f : Nat × Nat} {a b c x y z : Value} (hx : w.heap[p]? = some (.cells #[a, b, c] t f) ∨ w.heap[p]? = some (.cells #[x, y, z] t f)) : ∃ k l m, w.heap[p]? = some (.cells #[k, l, m] t f) := by
  rcases hx with hx | hx
  · exact ⟨_, _, _, hx⟩
  · exact ⟨_, _, _, hx⟩

set_option maxRecDepth 100000 in
set_option maxHeartbeats 2000000 in
theorem identNext_any (c : ClkT) (hf : c.Fits) (w : World) : Calls Tryd.prog 20 #[c.val] w (Gives (.tuple #[(nxC c).val, (nxI c).val, .int .i64 (nxE c)]) w) := by
  have hmf : ∀ (fn : Fn) (first cap : Array Value) (w : World), (Instr.makeFunc fn first cap).run Tryd.prog w = .ok (.func fn first cap) w := fun _ _ _ _ => rfl
  have Hf := Lib.hid hf
  clear hf
  obtain ⟨C, hC⟩ : ∃ C, nxC c = C := ⟨_, rfl⟩
  obtain ⟨I, hI⟩ : ∃ I, nxI c = I := ⟨_, rfl⟩
  obtain ⟨E, hE⟩ : ∃ E, nxE c = E := ⟨_, rfl⟩
  have hT := nextTries_any c Hf.out
  rw [hC, hI, hE] at hT
  rw [hC, hI, hE]
  clear hC hI hE
  have HT := Lib.hid hT
  clear hT
  obtain ⟨c1, c2, c3⟩ := c
  obtain ⟨C1, C2, C3⟩ := C
  obtain ⟨I1, I2, I3⟩ := I
  unfold ClkT.val
  go_enter Tryd.func20, Tryd.ntmps20
  go_wp2_with fail
  have hp0 : ((((w.alloc (.cells #[.int .i64 c1, .int .u64 c2, .int .u64 c3] 41)).alloc (.cells #[.int .i64 0, .int .u64 0, .int .u64 0] 41)).alloc (.cells #[.int .u64 0, .int .i64 0, .int .u64 0] 27)).alloc (.cells #[.int .u64 0, .int .i64 0, .int .u64 0] 27)).heap[w.heap.size + 3]? = some (.cells id0.cells 27 (0, 0)) := by
    have := World.alloc_heap_new (((w.alloc (.cells #[.int .i64 c1, .int .u64 c2, .int .u64 c3] 41)).alloc (.cells #[.int .i64 0, .int .u64 0, .int .u64 0] 41)).alloc (.cells #[.int .u64 0, .int .i64 0, .int .u64 0] 27)) (.cells #[.int .u64 0, .int .i64 0, .int .u64 0] 27)
    rw [World.size_alloc, World.size_alloc, World.size_alloc] at this
    exact this
  refine (HT.out (w.heap.size + 3) _ hp0).mono ?_
  clear hp0
  rintro e w2 ⟨rfl, h1, hbt⟩
  have k1 : w2.heap[w.heap.size + 1]? = some (.cells #[.int .i64 0, .int .u64 0, .int .u64 0] 41 (0, 0)) := by
    refine (hbt.2 _ (by simp) (by omega)).trans ?_
    have := heap_alloc_keeps (heap_alloc_keeps (World.alloc_heap_new (w.alloc (.cells #[.int .i64 c1, .int .u64 c2, .int .u64 c3] 41)) (.cells #[.int .i64 0, .int .u64 0, .int .u64 0] 41)) (.cells #[.int .u64 0, .int .i64 0, .int .u64 0] 27)) (.cells #[.int .u64 0, .int .i64 0, .int .u64 0] 27)
    rw [World.size_alloc] at this
    exact this
  have k2 : w2.heap[w.heap.size + 2]? = some (.cells #[.int .u64 0, .int .i64 0, .int .u64 0] 27 (0, 0)) := by
    refine (hbt.2 _ (by simp) (by omega)).trans ?_
    have := heap_alloc_keeps (World.alloc_heap_new ((w.alloc (.cells #[.int .i64 c1, .int .u64 c2, .int .u64 c3] 41)).alloc (.cells #[.int .i64 0, .int .u64 0, .int .u64 0] 41)) (.cells #[.int .u64 0, .int .i64 0, .int .u64 0] 27)) (.cells #[.int .u64 0, .int .i64 0, .int .u64 0] 27)
    rw [World.size_alloc, World.size_alloc] at this
    exact this
  have kB : Below w.heap.size w w2 := (((((Below.refl w.heap.size w).alloc (Nat.le_refl _) _).alloc (by simp) _).alloc (by simp; omega) _).alloc (by simp; omega) _).trans ⟨hbt.1.os, hbt.1.tape, hbt.1.output, hbt.1.size, fun k hk => hbt.2 k (by simp; omega) (by omega)⟩
  have kl : w.heap.size + 4 ≤ w2.heap.size := by have := hbt.1.size; simp at this; omega
  have K1 := Lib.hid k1
  have K2 := Lib.hid k2
  have K3 := Lib.hid h1
  have KB := Lib.hid kB
  have KL := Lib.hid kl
  clear k1 k2 h1 hbt kB HT Hf
  simp only [ClkT.val]
  go_wp2_with fail
  have G6 := Lib.hid (newBlock w2 (.cells #[.int .i64 C1, .int .u64 C2, .int .u64 C3] 41) w2.heap.size (by simp))
  have G1 := Lib.hid (show (w2.alloc (.cells #[.int .i64 C1, .int .u64 C2, .int .u64 C3] 41)).heap[w.heap.size + 1]? = some (.cells #[.int .i64 0, .int .u64 0, .int .u64 0] 41 (0, 0)) from heap_alloc_keeps K1.out _)
  have G2 := Lib.hid (show (w2.alloc (.cells #[.int .i64 C1, .int .u64 C2, .int .u64 C3] 41)).heap[w.heap.size + 1 + 1]? = some (.cells #[.int .u64 0, .int .i64 0, .int .u64 0] 27 (0, 0)) from heap_alloc_keeps K2.out _)
  have G3 := Lib.hid (show (w2.alloc (.cells #[.int .i64 C1, .int .u64 C2, .int .u64 C3] 41)).heap[w.heap.size + 1 + 1 + 1]? = some (.cells #[.int .u64 I1, .int .i64 I2, .int .u64 I3] 27 (0, 0)) from heap_alloc_keeps K3.out _)
  have GB := Lib.hid (KB.out.alloc (by omega) (.cells #[.int .i64 C1, .int .u64 C2, .int .u64 C3] 41))
  have gz := Lib.hid (show w.heap.size ≤ (w2.alloc (.cells #[.int .i64 C1, .int .u64 C2, .int .u64 C3] 41)).heap.size by simp; omega)
  have hne : ∀ a b c : Value, (Obj.cells #[a, b, c] 27 (0, 0)) ≠ (Obj.cells #[.int .i64 0, .int .u64 0, .int .u64 0] 41 (0, 0)) := fun a b c h => by
    injection h with _ h2
    exact absurd h2 (by decide)
  have HN := Lib.hid hne
  clear K1 K2 K3 KB KL kl hmf hne
  refine (wpIn_wide (n := 0)).1 ?_
  refine wpIn_region_any (by kernel_rfl) ?_
  apply take_first (i := 2) (some 16)
  case hro => rfl
  case hi => rfl
  case hd => rfl
  case hs => kernel_rfl
  case hf => kernel_rfl
  case hr => kernel_rfl
  case hQ => exact fun _ _ _ h => h
  case hy => exact ⟨.inl ⟨by rfl, fun w => by go_simp; rfl⟩, fun _ => rfl⟩
  simp only [Act.put, List.setIfInBounds_toArray, List.set_cons_succ, List.set_cons_zero]
  apply wp_facts_marks [0, 1, 3] [4, 5] [true, true, false, true, false, false] [false, false, false, false, true, true] (Rl := [(0, (eqv _)), (1, (eqv _)), (3, (fun v_ w_ => w_.heap[w.heap.size + 1]? = some (.cells #[.int .i64 C1, .int .u64 C2, .int .u64 C3] 41 (0, 0))))]) (C := (fun x y => FillC w.heap.size (.cells #[.int .i64 0, .int .u64 0, .int .u64 0] 41 (0, 0)) (.cells #[.int .i64 C1, .int .u64 C2, .int .u64 C3] 41 (0, 0)) x y))
  case hk => rfl
  case hnd => decide
  case hmf => kernel_rfl
  case hmt => kernel_rfl
  case hCr => exact (fun x => FillC.refl _ _ _ x)
  case hCt => intro _ _ _; exact (fun h k => FillC.trans h k)
  case hst => exact ⟨fun _ _ _ _ h => h, fun _ _ _ _ h => h, fun _ _ _ hC h => FillC.filled hC h, trivial⟩
  case hfo => kernel_rfl
  case hsp => kernel_rfl
  case hch => kernel_rfl
  case hfuel => kernel_rfl
  case hsteps =>
    refine ⟨?_, ?_, ?_, trivial⟩
    · -- 0
      intro a' w' hA hC hD
      have s6 : a'.tmps[6]? = some _ := (hA.at 6 (by kernel_rfl)).trans rfl
      have hi := FillC.filled hC G6.out; have d0 := cell_of_block (k := 0) (v := .int .i64 C1) hi rfl; have d1 := cell_of_block (k := 1) (v := .int .u64 C2) hi rfl; have d2 := cell_of_block (k := 2) (v := .int .u64 C3) hi rfl; clear hi
      clear hA hD
      refine stepOk_plain rfl ?_
      intro K hK
      gi_wp2
      exact hK _ _ rfl ((fun x => FillC.refl _ _ _ x) _)
    · -- 1
      intro a' w' hA hC hD
      have s5 : a'.tmps[5]? = some _ := (hA.at 5 (by kernel_rfl)).trans rfl
      have hi := FillC.keep hC G3.out (HN.out _ _ _); have d0 := cell_of_block (k := 0) (v := .int .u64 I1) hi rfl; have d1 := cell_of_block (k := 1) (v := .int .i64 I2) hi rfl; have d2 := cell_of_block (k := 2) (v := .int .u64 I3) hi rfl; clear hi
      clear hA hD
      refine stepOk_plain rfl ?_
      intro K hK
      gi_wp2
      exact hK _ _ rfl ((fun x => FillC.refl _ _ _ x) _)
    · -- 3
      intro a' w' hA hC hD
      have s2 : a'.tmps[2]? = some _ := (hA.at 2 (by kernel_rfl)).trans rfl
      obtain ⟨u14, s14, r14⟩ := hD ⟨0, .data⟩ (by simp) rfl (by simp) _ rfl
      replace r14 : u14 = _ := r14
      subst r14
      have he := FillC.either hC (.inl G1.out); have HE := Lib.hid he; obtain ⟨y0, y1, y2, hy⟩ := either3 he; have d0 := cell_of_block (k := 0) (v := y0) hy rfl; have d1 := cell_of_block (k := 1) (v := y1) hy rfl; have d2 := cell_of_block (k := 2) (v := y2) hy rfl; have fr := free_of_block hy; clear he hy
      clear hA hD
      refine stepOk_plain rfl ?_
      intro K hK
      gi_wp2
      exact hK undef _ (fill3 (n₀ := w.heap.size) (by omega) HE.out).2 (fill3 (n₀ := w.heap.size) (by omega) HE.out).1
  case hend =>
    intro w3 hC
    simp only [EndL, pickM, eqv, forall_eq, Act.put, List.setIfInBounds_toArray, List.set_cons_succ, List.set_cons_zero]
    intro v3 h1
    have h2 := FillC.keep hC G2.out (HN.out _ _ _)
    have HB := Lib.hid (GB.out.trans ⟨hC.1.os, hC.1.tape, hC.1.output, hC.1.size, hC.1.block⟩)
    have H1 := Lib.hid h1
    have H2 := Lib.hid h2
    have e0 := cell_of_block (k := 0) (v := .int .u64 0) h2 rfl
    have e1 := cell_of_block (k := 1) (v := .int .i64 0) h2 rfl
    have e2 := cell_of_block (k := 2) (v := .int .u64 0) h2 rfl
    have fy := free_of_block h2
    clear hC h1 h2
    gi_wp2
    go_wp2_with fail
    have g1 := heap_set3_other (p := w.heap.size + 1 + 1) (x := .int .u64 I1) (y := .int .i64 I2) (z := .int .u64 I3) H1.out (by omega)
    have d0 := cell_of_block (k := 0) (v := .int .i64 C1) g1 rfl
    have d1 := cell_of_block (k := 1) (v := .int .u64 C2) g1 rfl
    have d2 := cell_of_block (k := 2) (v := .int .u64 C3) g1 rfl
    refine bodyPost_ret (v := .tuple #[.agg #[.int .i64 C1, .int .u64 C2, .int .u64 C3], .agg #[.int .u64 I1, .int .i64 I2, .int .u64 I3], .int .i64 E]) (by simp [results, Tryd.results20, go_sem, d0, d1, d2, e0, e1, e2]) rfl ⟨rfl, ?_⟩
    exact below_set3 HB.out (by omega)
end Go.Proofs.YtppaheekpmgifaaDoor
