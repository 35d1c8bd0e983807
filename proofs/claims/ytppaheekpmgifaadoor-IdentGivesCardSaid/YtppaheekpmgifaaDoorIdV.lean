/- Package ident: the closure of Rising. -/
import Derived.Test.YtppaheekpmgifaaDoorIdU
namespace Go.Proofs.YtppaheekpmgifaaDoor
set_option linter.unusedSimpArgs false
set_option linter.unusedVariables false
open Go.RowKit Go.Shelf

set_option maxRecDepth 100000 in
theorem risingFn_any (a b : IdT) (w : World) : Calls Tryd.prog 50 #[a.val, b.val] w (Gives (.bool (decide (cmpId a b < 0))) w) := by
  obtain ⟨C, hC⟩ : ∃ C, decide (cmpId a b < 0) = C := ⟨_, rfl⟩
  have hl := fun w => identLess_any a b w
  rw [hC] at hl
  rw [hC]
  clear hC
  have HL := Lib.hid hl
  clear hl
  obtain ⟨a1, a2, a3⟩ := a
  obtain ⟨b1, b2, b3⟩ := b
  unfold IdT.val
  go_enter Tryd.func50, Tryd.ntmps50
  go_wp2_with fail
  refine (HL.out _).mono ?_
  rintro e w2 ⟨rfl, hb⟩
  have HB := Lib.hid ((((Below.refl w.heap.size w).alloc (Nat.le_refl _) (.cells #[.int .u64 a1, .int .i64 a2, .int .u64 a3] 27)).alloc (by simp) (.cells #[.int .u64 b1, .int .i64 b2, .int .u64 b3] 27)).trans (hb.mono (by simp; omega)))
  clear hb HL
  go_wp2_with fail
  go_ret
  exact ⟨rfl, HB.out⟩
end Go.Proofs.YtppaheekpmgifaaDoor
