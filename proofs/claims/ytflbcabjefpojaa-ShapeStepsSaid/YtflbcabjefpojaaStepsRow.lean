/- ShapeSteps returns true at every input, and its arguments read as they did. Conditions: none. -/
import Derived.Test.YtflbcabjefpojaaRowG
import Derived.Test.YtflbcabjefpojaaSteps
namespace Go.Proofs.Ytflbcabjefpojaa
set_option linter.unusedSimpArgs false
set_option linter.unusedVariables false
open Go.ChangeShapes Go.WideShapes Go.ChangeAt Go.RowKit
theorem flatP1 : flat Try.prog 5 28 = some (List.replicate 2 (.int .i64)) := by kernel_rfl
theorem leaves_pt1 (vs : List Value) (hl : vs.length = 2) (h : Leaves (List.replicate 2 (.int .i64)) vs) : ∃ x y : Int, vs = [.int .i64 x, .int .i64 y] := by
  obtain ⟨v0, e0, n0, rfl, -⟩ := h 0 (.int .i64) rfl
  obtain ⟨v1, e1, n1, rfl, -⟩ := h 1 (.int .i64) rfl
  obtain ⟨c0, c1, rfl⟩ : ∃ c0 c1, vs = [c0, c1] := by
    rcases vs with _ | ⟨c0, _ | ⟨c1, _ | ⟨c2, l⟩⟩⟩ <;> simp at hl
    exact ⟨c0, c1, rfl⟩
  simp at e0 e1
  subst e0 e1
  exact ⟨n0, n1, rfl⟩

theorem own_shapeSteps : ownKnob Try.prog.godebug = none := by kernel_rfl
theorem laid_shapeSteps : laidOutB Try.prog = true := by kernel_rfl
set_option maxHeartbeats 400000 in
set_option maxRecDepth 100000 in
theorem lifted_shapeSteps (os : Os) (started : os.Started) (H : Type) (enc : TypeId × Value → H) :
    ReturnsInHanded {} Try.checked os 8 .any (Rows.shapeStepsSpec.pre6 enc Try.prog Try.f8 Rows.shapeStepsRow.domain false) (Rows.shapeStepsSpec.post enc Try.prog Try.f8 false true false false) := by
  refine returnsInHanded_of_change (C := Try.checked) own_shapeSteps started (by kernel_rfl) Try.func8
    (ChangeSpec.witness6 (enc := enc) (C := Try.checked) false ⟨#[], #[.agg #[.int .i64 0, .int .i64 0], .agg #[.int .i64 0, .int .i64 0]], []⟩ 8 (by kernel_rfl) (by kernel_rfl) (by kernel_rfl) (by kernel_rfl)) ?_
  intro W base args ds gs before hval0 hW _ _
  have hval : ∀ (j : Nat) t v, Try.f8.params[j]? = some t → args[j]? = some v → Value.okWide Try.prog W .any base t v := hval0
  have hW' := hW
  obtain ⟨p, q, hA0, hV, hpq, _, _⟩ := hW
  have hA : DataW.TrodAll enc Try.prog W 0 (fun _ => true) true Try.f8.params.toList args.toList ds p := hA0
  rw [Try.params8] at hA hval
  obtain ⟨v0, vs0, d0, ds0, p0, q0, hargs, rfl, hp_, h0, r0⟩ := trodAll_cons hA
  obtain ⟨v1, vs1, d1, ds1, p1, q1, rfl, rfl, rfl, h1, r1⟩ := trodAll_cons r0
  obtain ⟨rfl, rfl, rfl⟩ := trodAll_nil r1
  obtain rfl : args = #[v0, v1] := by cases args; simp_all
  have hv0 : Value.okWide Try.prog W .any base 28 v0 := hval 0 28 v0 rfl rfl
  have hv1 : Value.okWide Try.prog W .any base 28 v1 := hval 1 28 v1 rfl rfl
  clear hval hval0 hA0
  have q0 := (trod_flat flatP1 h0).2
  have q1 := (trod_flat flatP1 h1).2
  obtain ⟨⟨cs0⟩, rfl, hz0, -⟩ : ∃ cs, v0 = .agg cs ∧ cs.size = Try.prog.cellsOf 28 ∧ Row.okWide Try.prog W Reach.any base 28 cs := by simpa [Value.okWide, Try.underlying28] using hv0
  obtain ⟨⟨cs1⟩, rfl, hz1, -⟩ : ∃ cs, v1 = .agg cs ∧ cs.size = Try.prog.cellsOf 28 ∧ Row.okWide Try.prog W Reach.any base 28 cs := by simpa [Value.okWide, Try.underlying28] using hv1
  rw [show Try.prog.cellsOf 28 = 2 by kernel_rfl] at hz0 hz1
  obtain ⟨x0, y0, rfl⟩ := leaves_pt1 cs0 (by simpa using hz0) q0
  obtain ⟨x1, y1, rfl⟩ := leaves_pt1 cs1 (by simpa using hz1) q1
  refine (steps_any ⟨x0, y0⟩ ⟨x1, y1⟩ W).mono fun e W' ⟨he, hb⟩ => ?_
  subst he
  exact ⟨_, rfl, post_true laid_shapeSteps Try.underlying4 (by kernel_rfl) rfl (of_decide_eq_true (by kernel_rfl)) rfl rfl hW' hb⟩

/-- ████ THE STATEMENT ████ -/
theorem shapeSteps_holds : Rows.ShapeStepsSaid :=
  OpenClaim.holds_of_wide 8 Try.f8 rfl rfl rfl rfl rfl rfl rfl ⟨rfl, rfl, rfl, rfl, rfl⟩ rfl rfl rfl rfl rfl (by kernel_rfl) Try.func8 (by kernel_rfl)
    (of_decide_eq_true (by kernel_rfl)) (by unfold Func.isWrapper; first | (rw [if_pos (by decide +kernel)]; kernel_rfl) | (rw [if_neg (by decide +kernel)]; exact ⟨rfl, rfl⟩))
    (fun os started H enc _ => lifted_shapeSteps os started H enc)
#print axioms shapeSteps_holds
end Go.Proofs.Ytflbcabjefpojaa
