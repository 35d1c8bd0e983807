/- Package ident: tries. -/
import Derived.Test.YtppaheekpmgifaaDoorIdI
namespace Go.Proofs.YtppaheekpmgifaaDoor
set_option linter.unusedSimpArgs false
set_option linter.unusedVariables false
open Go.RowKit Go.Shelf

/-- Nothing but one block has changed of those that were there. -/
def But (p n : Nat) (w w' : World) : Prop := Below 0 w w' ∧ ∀ k, k < n → k ≠ p → w'.heap[k]? = w.heap[k]?

set_option maxRecDepth 100000 in
set_option maxHeartbeats 1000000 in
theorem tries_wrong (f : Value) (c : ClkT) (hc : clkOk c = false) (w : World) :
    Calls Tryd.prog 40 #[c.val, f] w (Gives (.tuple #[clk0.val, .int .i64 211]) w) := by
  have hmf : ∀ (fn : Fn) (first cap : Array Value) (w : World), (Instr.makeFunc fn first cap).run Tryd.prog w = .ok (.func fn first cap) w := fun _ _ _ _ => rfl
  obtain ⟨c1, c2, c3⟩ := c
  have HC := Lib.hid hc
  clear hc
  unfold ClkT.val
  go_enter_defers Tryd.func40, Tryd.ntmps40
  go_wp2_with fail
  refine (checkClock_any ⟨c1, c2, c3⟩ _).mono ?_
  rintro e w1 ⟨rfl, hb⟩
  rw [HC.out]
  have HB := Lib.hid hb.below
  clear hb
  simp only [errOf]
  go_wp2_with fail
  refine (iNeed_no _ _).mono ?_
  rintro e w2 ⟨rfl, rfl⟩
  have h0 : w1.heap[w.heap.size + 1]? = some (.cells clk0.cells 41 (0, 0)) := by
    refine (HB.out.block _ (by simp)).trans ?_
    have := heap_alloc_keeps (World.alloc_heap_new (w.alloc (.cells #[.int .i64 c1, .int .u64 c2, .int .u64 c3] 41)) (.cells clk0.cells 41)) (.cells #[.int .i64 0] 29)
    rw [World.size_alloc] at this
    exact this
  have h1 : w1.heap[w.heap.size + 2]? = some (.cells #[.int .i64 0] 29 (0, 0)) := by
    refine (HB.out.block _ (by simp)).trans ?_
    have := World.alloc_heap_new ((w.alloc (.cells #[.int .i64 c1, .int .u64 c2, .int .u64 c3] 41)).alloc (.cells clk0.cells 41)) (.cells #[.int .i64 0] 29)
    rw [World.size_alloc, World.size_alloc] at this
    exact this
  have hB1 : Below w.heap.size w w1 := (((((Below.refl w.heap.size w).alloc (Nat.le_refl _) _).alloc (by simp) _).alloc (by simp; omega) _).trans (HB.out.mono (B' := w.heap.size) (by simp; omega)))
  refine leaves_cons (f := 53) (args := #[.pointer (some ⟨w.heap.size + 1, 0, none⟩), .pointer (some ⟨w.heap.size + 2, 0, none⟩)]) (by simp) (by simp [go_sem]) ?_
  refine (iCatch_panicking _ _ (by omega) _ _ _ _ _ h0 h1).mono ?_
  rintro e u' W2 ⟨rfl, rfl, g0, g1, hb2, _⟩
  have hB2 := hB1.trans (hb2 w.heap.size (by omega) (by omega))
  have c0 := cell_of_block (k := 0) (v := .int .i64 0) g0 rfl
  have c1 := cell_of_block (k := 1) (v := .int .u64 0) g0 rfl
  have c2 := cell_of_block (k := 2) (v := .int .u64 0) g0 rfl
  have d0 := cell_of_block (k := 0) (v := .int .i64 211) g1 rfl
  clear h0 h1 g0 g1 hB1 hb2
  simp [Leaves, settle, results, Tryd.results40, go_sem, c0, c1, c2, d0]
  exact ⟨rfl, hB2⟩
end Go.Proofs.YtppaheekpmgifaaDoor
