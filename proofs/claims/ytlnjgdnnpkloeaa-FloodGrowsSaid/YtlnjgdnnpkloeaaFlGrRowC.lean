import Derived.Test.YtlnjgdnnpkloeaaM3
import Derived.Test.YtlnjgdnnpkloeaaM23
/- FloodGrows returns true at every input, and its arguments read as they did. Conditions: none. -/
namespace Go.Proofs.Ytlnjgdnnpkloeaa
set_option linter.unusedSimpArgs false
set_option linter.unusedVariables false
open Go.ChangeShapes Go.WideShapes Go.ChangeAt Go.RowKit
theorem flatI2 : flat Try.prog 5 78 = some (List.replicate 2 (.int .i64)) := by kernel_rfl
theorem flatPt : flat Try.prog 5 49 = some (List.replicate 2 (.int .i64)) := by kernel_rfl

theorem own_floodGrows : ownKnob Try.prog.godebug = none := by kernel_rfl
theorem laid_floodGrows : laidOutB Try.prog = true := by kernel_rfl
set_option maxHeartbeats 400000 in
set_option maxRecDepth 100000 in
theorem lifted_floodGrows (os : Os) (started : os.Started) (H : Type) (enc : TypeId × Value → H) :
    ReturnsInHanded {} Try.checked os 7 .any (Rows.floodGrowsSpec.pre6 enc Try.prog Try.f7 Rows.floodGrowsRow.domain false) (Rows.floodGrowsSpec.post enc Try.prog Try.f7 false true false false) := by
  refine returnsInHanded_of_change (C := Try.checked) own_floodGrows started (by kernel_rfl) Try.func7
    (ChangeSpec.witness6 (enc := enc) (C := Try.checked) false ⟨#[], #[.agg #[.int .i64 0, .int .i64 0, .slice none 0 0], .agg #[.int .i64 0, .int .i64 0], .agg #[.int .i64 0, .int .i64 0]], []⟩ 8 (by kernel_rfl) (by kernel_rfl) (by kernel_rfl) (by kernel_rfl)) ?_
  intro W base args ds gs before hval0 hW _ _
  have hval : ∀ (j : Nat) t v, Try.f7.params[j]? = some t → args[j]? = some v → Value.okWide Try.prog W .any base t v := hval0
  have hW' := hW
  obtain ⟨p, q, hA0, hV, hpq, _, _⟩ := hW
  have hA : DataW.TrodAll enc Try.prog W 0 (fun _ => true) true Try.f7.params.toList args.toList ds p := hA0
  rw [Try.params7] at hA hval
  obtain ⟨v0, vs0, d0, ds0, p0, q0, hargs, rfl, hp_, h0, r0⟩ := trodAll_cons hA
  obtain ⟨v1, vs1, d1, ds1, p1, q1, rfl, rfl, rfl, h1, r1⟩ := trodAll_cons r0
  obtain ⟨v2, vs2, d2, ds2, p2, q2, rfl, rfl, rfl, h2, r2⟩ := trodAll_cons r1
  obtain ⟨rfl, rfl, rfl⟩ := trodAll_nil r2
  obtain rfl : args = #[v0, v1, v2] := by cases args; simp_all
  have hv0 : Value.okWide Try.prog W .any base 24 v0 := hval 0 24 v0 rfl rfl
  have hv1 : Value.okWide Try.prog W .any base 49 v1 := hval 1 49 v1 rfl rfl
  have hv2 : Value.okWide Try.prog W .any base 78 v2 := hval 2 78 v2 rfl rfl
  clear hval hval0 hA0
  obtain ⟨wide, high, l, a, cap, rfl, he, hcol, hcap, hcap2⟩ := open_canvas hv0 h0
  obtain ⟨f1, h1⟩ := h1
  obtain ⟨f2, h2⟩ := h2
  have q1 := open_flat _ _ _ _ _ _ flatPt h1
  have q2 := open_flat _ _ _ _ _ _ flatI2 h2
  obtain ⟨⟨cs1⟩, rfl, hz1, -⟩ : ∃ cs, v1 = .agg cs ∧ cs.size = Try.prog.cellsOf 49 ∧ Row.okWide Try.prog W Reach.any base 49 cs := by simpa [Value.okWide, Try.underlying49] using hv1
  obtain ⟨⟨cs2⟩, rfl, hz2, -⟩ : ∃ cs, v2 = .agg cs ∧ cs.size = Try.prog.cellsOf 78 ∧ Row.okWide Try.prog W Reach.any base 78 cs := by simpa [Value.okWide, Try.underlying78] using hv2
  rw [show Try.prog.cellsOf 49 = 2 by kernel_rfl] at hz1
  rw [show Try.prog.cellsOf 78 = 2 by kernel_rfl] at hz2
  obtain ⟨px, py, rfl⟩ := leavesI2 cs1 (by simpa using hz1) q1.2
  obtain ⟨tx, ty, rfl⟩ := leavesI2 cs2 (by simpa using hz2) q2.2
  refine (floodGrows_any wide high a l.length cap l rfl hcap hcap2 hcol px py tx ty W he).mono fun e W' ⟨he, hb⟩ => ?_
  subst he
  exact ⟨_, rfl, post_true laid_floodGrows Try.underlying4 (by kernel_rfl) rfl (of_decide_eq_true (by kernel_rfl)) rfl rfl hW' hb⟩

/-- ████ THE STATEMENT ████ -/
theorem floodGrows_holds : Rows.FloodGrowsSaid :=
  OpenClaim.holds_of_wide 7 Try.f7 rfl rfl rfl rfl rfl rfl rfl ⟨rfl, rfl, rfl, rfl, rfl⟩ rfl rfl rfl rfl rfl (by kernel_rfl) Try.func7 (by kernel_rfl)
    (of_decide_eq_true (by kernel_rfl)) (by unfold Func.isWrapper; first | (rw [if_pos (by decide +kernel)]; kernel_rfl) | (rw [if_neg (by decide +kernel)]; exact ⟨rfl, rfl⟩))
    (fun os started H enc _ => lifted_floodGrows os started H enc)
#print axioms floodGrows_holds
end Go.Proofs.Ytlnjgdnnpkloeaa
