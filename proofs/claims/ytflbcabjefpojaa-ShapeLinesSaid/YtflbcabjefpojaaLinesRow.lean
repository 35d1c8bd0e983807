/- ShapeLines returns true at every input, and its arguments read as they did. Conditions: none. -/
import Derived.Test.YtflbcabjefpojaaRowG
import Derived.Test.YtflbcabjefpojaaLines
namespace Go.Proofs.Ytflbcabjefpojaa
set_option linter.unusedSimpArgs false
set_option linter.unusedVariables false
open Go.ChangeShapes Go.WideShapes Go.ChangeAt Go.RowKit
theorem flatPP : flat Try.prog 5 51 = some (List.replicate 4 (.int .i64)) := by kernel_rfl
theorem leaves_pp (vs : List Value) (hl : vs.length = 4) (h : Leaves (List.replicate 4 (.int .i64)) vs) : ∃ x, encPP x = vs ∧ True := by
  obtain ⟨v0, e0, n0, rfl, -⟩ := h 0 (.int .i64) rfl
  obtain ⟨v1, e1, n1, rfl, -⟩ := h 1 (.int .i64) rfl
  obtain ⟨v2, e2, n2, rfl, -⟩ := h 2 (.int .i64) rfl
  obtain ⟨v3, e3, n3, rfl, -⟩ := h 3 (.int .i64) rfl
  obtain ⟨c0, c1, c2, c3, rfl⟩ : ∃ c0 c1 c2 c3, vs = [c0, c1, c2, c3] := by
    rcases vs with _ | ⟨c0, _ | ⟨c1, _ | ⟨c2, _ | ⟨c3, _ | ⟨c4, l⟩⟩⟩⟩⟩ <;> simp at hl
    exact ⟨c0, c1, c2, c3, rfl⟩
  simp at e0 e1 e2 e3
  subst e0 e1 e2 e3
  exact ⟨(⟨n0, n1⟩, ⟨n2, n3⟩), rfl, trivial⟩

theorem flatI : flat Try.prog 5 3 = some [.int .i64] := by kernel_rfl
theorem own_shapeLines : ownKnob Try.prog.godebug = none := by kernel_rfl
theorem laid_shapeLines : laidOutB Try.prog = true := by kernel_rfl
set_option maxHeartbeats 400000 in
set_option maxRecDepth 100000 in
theorem lifted_shapeLines (os : Os) (started : os.Started) (H : Type) (enc : TypeId × Value → H) :
    ReturnsInHanded {} Try.checked os 5 .any (Rows.shapeLinesSpec.pre6 enc Try.prog Try.f5 Rows.shapeLinesRow.domain false) (Rows.shapeLinesSpec.post enc Try.prog Try.f5 false true false false) := by
  refine returnsInHanded_of_change (C := Try.checked) own_shapeLines started (by kernel_rfl) Try.func5
    (ChangeSpec.witness6 (enc := enc) (C := Try.checked) false ⟨#[], #[.slice none 0 0, .int .i64 0], []⟩ 8 (by kernel_rfl) (by kernel_rfl) (by kernel_rfl) (by kernel_rfl)) ?_
  intro W base args ds gs before hval0 hW _ _
  have hval : ∀ (j : Nat) t v, Try.f5.params[j]? = some t → args[j]? = some v → Value.okWide Try.prog W .any base t v := hval0
  have hW' := hW
  obtain ⟨p, q, hA0, hV, hpq, _, _⟩ := hW
  have hA : DataW.TrodAll enc Try.prog W 0 (fun _ => true) true Try.f5.params.toList args.toList ds p := hA0
  rw [Try.params5] at hA hval
  obtain ⟨v0, vs0, d0, ds0, p0, q0, hargs, rfl, hp_, h0, r0⟩ := trodAll_cons hA
  obtain ⟨v1, vs1, d1, ds1, p1, q1, rfl, rfl, rfl, h1, r1⟩ := trodAll_cons r0
  obtain ⟨rfl, rfl, rfl⟩ := trodAll_nil r1
  obtain rfl : args = #[v0, v1] := by cases args; simp_all
  have hv0 : Value.okWide Try.prog W .any base 50 v0 := hval 0 50 v0 rfl rfl
  have hv1 : Value.okWide Try.prog W .any base 3 v1 := hval 1 3 v1 rfl rfl
  clear hval hval0 hA0
  obtain ⟨l, a, cap, rfl, he, _, hmax, hcap⟩ := open_rows (k := 4) Try.underlying50 flatPP (by kernel_rfl) rfl encPP (fun _ => True) encPP_len leaves_pp hv0 h0 (by omega)
  have hcap' := slice_cap Try.underlying50 hv0
  have q1 := (trod_flat flatI h1).2 0 (.int .i64) rfl
  obtain ⟨size, rfl⟩ : ∃ n, v1 = .int .i64 n := by
    obtain ⟨v', e, n, rfl, -⟩ := q1
    refine ⟨n, ?_⟩
    cases v1 with
    | agg cs =>
      exfalso
      unfold Value.okWide Cell.okWide Cell.ok at hv1
      simp [Try.underlying3] at hv1
    | _ => simpa only [Value.cells, Array.toList, List.getElem?_cons_zero, Option.some.injEq] using e
  refine (lines_any a l.length cap l rfl (Nat.le_trans hcap'.1 hcap'.2) size W he).mono fun e W' ⟨he, hb⟩ => ?_
  subst he
  exact ⟨_, rfl, post_true laid_shapeLines Try.underlying4 (by kernel_rfl) rfl (of_decide_eq_true (by kernel_rfl)) rfl rfl hW' hb⟩

/-- ████ THE STATEMENT ████ -/
theorem shapeLines_holds : Rows.ShapeLinesSaid :=
  OpenClaim.holds_of_wide 5 Try.f5 rfl rfl rfl rfl rfl rfl rfl ⟨rfl, rfl, rfl, rfl, rfl⟩ rfl rfl rfl rfl rfl (by kernel_rfl) Try.func5 (by kernel_rfl)
    (of_decide_eq_true (by kernel_rfl)) (by unfold Func.isWrapper; first | (rw [if_pos (by decide +kernel)]; kernel_rfl) | (rw [if_neg (by decide +kernel)]; exact ⟨rfl, rfl⟩))
    (fun os started H enc _ => lifted_shapeLines os started H enc)
#print axioms shapeLines_holds
end Go.Proofs.Ytflbcabjefpojaa
