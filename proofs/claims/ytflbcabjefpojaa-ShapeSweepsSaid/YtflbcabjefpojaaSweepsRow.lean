/- ShapeSweeps returns true at every input, and its arguments read as they did. Conditions: none. -/
import Derived.Test.YtflbcabjefpojaaRowG
import Derived.Test.YtflbcabjefpojaaSweeps
namespace Go.Proofs.Ytflbcabjefpojaa
set_option linter.unusedSimpArgs false
set_option linter.unusedVariables false
open Go.ChangeShapes Go.WideShapes Go.ChangeAt Go.RowKit
theorem flatP : flat Try.prog 5 28 = some (List.replicate 2 (.int .i64)) := by kernel_rfl
theorem flatBr' : flat Try.prog 5 24 = some [.int .i64, .bool] := by kernel_rfl
theorem leaves_pt (vs : List Value) (hl : vs.length = 2) (h : Leaves (List.replicate 2 (.int .i64)) vs) : ∃ x, encP x = vs ∧ True := by
  obtain ⟨v0, e0, n0, rfl, -⟩ := h 0 (.int .i64) rfl
  obtain ⟨v1, e1, n1, rfl, -⟩ := h 1 (.int .i64) rfl
  obtain ⟨c0, c1, rfl⟩ : ∃ c0 c1, vs = [c0, c1] := by
    rcases vs with _ | ⟨c0, _ | ⟨c1, _ | ⟨c2, l⟩⟩⟩ <;> simp at hl
    exact ⟨c0, c1, rfl⟩
  simp at e0 e1
  subst e0 e1
  exact ⟨⟨n0, n1⟩, rfl, trivial⟩
theorem leavesBr' (vs : List Value) (hl : vs.length = 2) (h : Leaves [.int .i64, .bool] vs) : ∃ (n : Int) (b : Bool), vs = [.int .i64 n, .bool b] := by
  obtain ⟨v0, e0, n, rfl, -⟩ := h 0 (.int .i64) rfl
  obtain ⟨v1, e1, b, rfl⟩ := h 1 .bool rfl
  refine ⟨n, b, List.ext_getElem? fun i => ?_⟩
  rcases i with _ | _ | i <;> first | assumption | (rw [List.getElem?_eq_none (by omega)]; simp)

theorem own_shapeSweeps : ownKnob Try.prog.godebug = none := by kernel_rfl
theorem laid_shapeSweeps : laidOutB Try.prog = true := by kernel_rfl
set_option maxHeartbeats 400000 in
set_option maxRecDepth 100000 in
theorem lifted_shapeSweeps (os : Os) (started : os.Started) (H : Type) (enc : TypeId × Value → H) :
    ReturnsInHanded {} Try.checked os 3 .any (Rows.shapeSweepsSpec.pre6 enc Try.prog Try.f3 Rows.shapeSweepsRow.domain false) (Rows.shapeSweepsSpec.post enc Try.prog Try.f3 false true false false) := by
  refine returnsInHanded_of_change (C := Try.checked) own_shapeSweeps started (by kernel_rfl) Try.func3
    (ChangeSpec.witness6 (enc := enc) (C := Try.checked) false ⟨#[], #[.slice none 0 0, .agg #[.int .i64 0, .bool false]], []⟩ 8 (by kernel_rfl) (by kernel_rfl) (by kernel_rfl) (by kernel_rfl)) ?_
  intro W base args ds gs before hval0 hW _ _
  have hval : ∀ (j : Nat) t v, Try.f3.params[j]? = some t → args[j]? = some v → Value.okWide Try.prog W .any base t v := hval0
  have hW' := hW
  obtain ⟨p, q, hA0, hV, hpq, _, _⟩ := hW
  have hA : DataW.TrodAll enc Try.prog W 0 (fun _ => true) true Try.f3.params.toList args.toList ds p := hA0
  rw [Try.params3] at hA hval
  obtain ⟨v0, vs0, d0, ds0, p0, q0, hargs, rfl, hp_, h0, r0⟩ := trodAll_cons hA
  obtain ⟨v1, vs1, d1, ds1, p1, q1, rfl, rfl, rfl, h1, r1⟩ := trodAll_cons r0
  obtain ⟨rfl, rfl, rfl⟩ := trodAll_nil r1
  obtain rfl : args = #[v0, v1] := by cases args; simp_all
  have hv0 : Value.okWide Try.prog W .any base 22 v0 := hval 0 22 v0 rfl rfl
  have hv1 : Value.okWide Try.prog W .any base 24 v1 := hval 1 24 v1 rfl rfl
  clear hval hval0 hA0
  obtain ⟨l, a, cap, rfl, he, _, hmax, hcap⟩ := open_rows (k := 2) Try.underlying22 flatP (by kernel_rfl) rfl encP (fun _ => True) encP_len leaves_pt hv0 h0 (by omega)
  have hcap' := slice_cap Try.underlying22 hv0
  obtain ⟨f1, h1⟩ := h1
  have q1 := open_flat _ _ _ _ _ _ flatBr' h1
  obtain ⟨⟨cs1⟩, rfl, hz1, -⟩ : ∃ cs, v1 = .agg cs ∧ cs.size = Try.prog.cellsOf 24 ∧ Row.okWide Try.prog W Reach.any base 24 cs := by simpa [Value.okWide, Try.underlying24] using hv1
  rw [show Try.prog.cellsOf 24 = 2 by kernel_rfl] at hz1
  obtain ⟨size, round, rfl⟩ := leavesBr' cs1 (by simpa using hz1) q1.2
  refine (sweeps_any a l.length cap l rfl hcap'.1 hcap'.2 size round W he).mono fun e W' ⟨he, hb⟩ => ?_
  subst he
  exact ⟨_, rfl, post_true laid_shapeSweeps Try.underlying4 (by kernel_rfl) rfl (of_decide_eq_true (by kernel_rfl)) rfl rfl hW' hb⟩

/-- ████ THE STATEMENT ████ -/
theorem shapeSweeps_holds : Rows.ShapeSweepsSaid :=
  OpenClaim.holds_of_wide 3 Try.f3 rfl rfl rfl rfl rfl rfl rfl ⟨rfl, rfl, rfl, rfl, rfl⟩ rfl rfl rfl rfl rfl (by kernel_rfl) Try.func3 (by kernel_rfl)
    (of_decide_eq_true (by kernel_rfl)) (by unfold Func.isWrapper; first | (rw [if_pos (by decide +kernel)]; kernel_rfl) | (rw [if_neg (by decide +kernel)]; exact ⟨rfl, rfl⟩))
    (fun os started H enc _ => lifted_shapeSweeps os started H enc)
#print axioms shapeSweeps_holds
end Go.Proofs.Ytflbcabjefpojaa
