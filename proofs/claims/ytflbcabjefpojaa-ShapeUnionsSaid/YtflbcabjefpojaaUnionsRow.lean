/- ShapeUnions returns true at every input, and its arguments read as they did. Conditions: none. -/
import Derived.Test.YtflbcabjefpojaaRowG
import Derived.Test.YtflbcabjefpojaaUnions
namespace Go.Proofs.Ytflbcabjefpojaa
set_option linter.unusedSimpArgs false
set_option linter.unusedVariables false
open Go.ChangeShapes Go.WideShapes Go.ChangeAt Go.RowKit
theorem flatP2 : flat Try.prog 5 28 = some (List.replicate 2 (.int .i64)) := by kernel_rfl
theorem flatS2 : flat Try.prog 5 39 = some (List.replicate 3 (.int .i64)) := by kernel_rfl
theorem leaves_pt2 (vs : List Value) (hl : vs.length = 2) (h : Leaves (List.replicate 2 (.int .i64)) vs) : ∃ x y : Int, vs = [.int .i64 x, .int .i64 y] := by
  obtain ⟨v0, e0, n0, rfl, -⟩ := h 0 (.int .i64) rfl
  obtain ⟨v1, e1, n1, rfl, -⟩ := h 1 (.int .i64) rfl
  obtain ⟨c0, c1, rfl⟩ : ∃ c0 c1, vs = [c0, c1] := by
    rcases vs with _ | ⟨c0, _ | ⟨c1, _ | ⟨c2, l⟩⟩⟩ <;> simp at hl
    exact ⟨c0, c1, rfl⟩
  simp at e0 e1
  subst e0 e1
  exact ⟨n0, n1, rfl⟩
theorem leaves_span2 (vs : List Value) (hl : vs.length = 3) (h : Leaves (List.replicate 3 (.int .i64)) vs) : ∃ x, encS x = vs ∧ True := by
  obtain ⟨v0, e0, n0, rfl, -⟩ := h 0 (.int .i64) rfl
  obtain ⟨v1, e1, n1, rfl, -⟩ := h 1 (.int .i64) rfl
  obtain ⟨v2, e2, n2, rfl, -⟩ := h 2 (.int .i64) rfl
  obtain ⟨c0, c1, c2, rfl⟩ : ∃ c0 c1 c2, vs = [c0, c1, c2] := by
    rcases vs with _ | ⟨c0, _ | ⟨c1, _ | ⟨c2, _ | ⟨c3, l⟩⟩⟩⟩ <;> simp at hl
    exact ⟨c0, c1, c2, rfl⟩
  simp at e0 e1 e2
  subst e0 e1 e2
  exact ⟨⟨n0, n1, n2⟩, rfl, trivial⟩

theorem own_shapeUnions : ownKnob Try.prog.godebug = none := by kernel_rfl
theorem laid_shapeUnions : laidOutB Try.prog = true := by kernel_rfl
set_option maxHeartbeats 400000 in
set_option maxRecDepth 100000 in
theorem lifted_shapeUnions (os : Os) (started : os.Started) (H : Type) (enc : TypeId × Value → H) :
    ReturnsInHanded {} Try.checked os 7 .any (Rows.shapeUnionsSpec.pre6 enc Try.prog Try.f7 Rows.shapeUnionsRow.domain false) (Rows.shapeUnionsSpec.post enc Try.prog Try.f7 false true false false) := by
  refine returnsInHanded_of_change (C := Try.checked) own_shapeUnions started (by kernel_rfl) Try.func7
    (ChangeSpec.witness6 (enc := enc) (C := Try.checked) false ⟨#[], #[.slice none 0 0, .slice none 0 0, .agg #[.int .i64 0, .int .i64 0]], []⟩ 8 (by kernel_rfl) (by kernel_rfl) (by kernel_rfl) (by kernel_rfl)) ?_
  intro W base args ds gs before hval0 hW _ _
  have hval : ∀ (j : Nat) t v, Try.f7.params[j]? = some t → args[j]? = some v → Value.okWide Try.prog W .any base t v := hval0
  have hW' := hW
  obtain ⟨p, q, hA0, hV, hpq, _, _⟩ := hW
  have hA : DataW.TrodAll enc Try.prog W 0 (fun _ => true) true Try.f7.params.toList args.toList ds p := hA0
  rw [Try.params7] at hA hval
  obtain ⟨v0, vs0, d0, ds0, p0, q0, hargs, rfl, hp_, h0, r0⟩ := trodAll_cons hA
  obtain ⟨v1, vs1, d1, ds1, p1, q1, rfl, rfl, rfl, h1, r1⟩ := trodAll_cons r0
  obtain ⟨v2, vs2, d2, ds2, p2, q2, rfl, rfl, rfl, h2, r2⟩ := trodAll_cons r1
  obtain ⟨rfl, rfl, rfl⟩ := trodAll_nil r2
  obtain rfl : args = #[v0, v1, v2] := by cases args; simp_all
  have hv0 : Value.okWide Try.prog W .any base 29 v0 := hval 0 29 v0 rfl rfl
  have hv1 : Value.okWide Try.prog W .any base 29 v1 := hval 1 29 v1 rfl rfl
  have hv2 : Value.okWide Try.prog W .any base 28 v2 := hval 2 28 v2 rfl rfl
  clear hval hval0 hA0
  obtain ⟨l, a, cap, rfl, he, _, hmax, hcap⟩ := open_rows (k := 3) Try.underlying29 flatS2 (by kernel_rfl) rfl encS (fun _ => True) encS_len leaves_span2 hv0 h0 (by omega)
  have hcap' := slice_cap Try.underlying29 hv0
  obtain ⟨l1, a1, cap1, rfl, he1, _, hmax1, hcap1⟩ := open_rows (k := 3) Try.underlying29 flatS2 (by kernel_rfl) rfl encS (fun _ => True) encS_len leaves_span2 hv1 h1 (by omega)
  have hcap1' := slice_cap Try.underlying29 hv1
  have q2 := (trod_flat flatP2 h2).2
  obtain ⟨⟨cs2⟩, rfl, hz2, -⟩ : ∃ cs, v2 = .agg cs ∧ cs.size = Try.prog.cellsOf 28 ∧ Row.okWide Try.prog W Reach.any base 28 cs := by simpa [Value.okWide, Try.underlying28] using hv2
  rw [show Try.prog.cellsOf 28 = 2 by kernel_rfl] at hz2
  obtain ⟨x2, y2, rfl⟩ := leaves_pt2 cs2 (by simpa using hz2) q2
  refine (unions_any a a1 l.length l1.length cap cap1 l l1 rfl rfl hcap'.1 hcap1'.1 hcap'.2 hcap1'.2 ⟨x2, y2⟩ W he he1).mono fun e W' ⟨he, hb⟩ => ?_
  subst he
  exact ⟨_, rfl, post_true laid_shapeUnions Try.underlying4 (by kernel_rfl) rfl (of_decide_eq_true (by kernel_rfl)) rfl rfl hW' hb⟩

/-- ████ THE STATEMENT ████ -/
theorem shapeUnions_holds : Rows.ShapeUnionsSaid :=
  OpenClaim.holds_of_wide 7 Try.f7 rfl rfl rfl rfl rfl rfl rfl ⟨rfl, rfl, rfl, rfl, rfl⟩ rfl rfl rfl rfl rfl (by kernel_rfl) Try.func7 (by kernel_rfl)
    (of_decide_eq_true (by kernel_rfl)) (by unfold Func.isWrapper; first | (rw [if_pos (by decide +kernel)]; kernel_rfl) | (rw [if_neg (by decide +kernel)]; exact ⟨rfl, rfl⟩))
    (fun os started H enc _ => lifted_shapeUnions os started H enc)
#print axioms shapeUnions_holds
end Go.Proofs.Ytflbcabjefpojaa
