import Derived.Test.YtodpkgbpcpfamaaGreatM3
import Derived.Test.YtodpkgbpcpfamaaGreatM23
/- FloodRests returns true at every input, and its arguments read as they did. Conditions: none. -/
namespace Go.Proofs.YtodpkgbpcpfamaaGreat
set_option linter.unusedSimpArgs false
set_option linter.unusedVariables false
open Go.ChangeShapes Go.WideShapes Go.ChangeAt Go.RowKit
theorem flatI3 : flat Tryz.prog 5 25 = some (List.replicate 3 (.int .i64)) := by kernel_rfl

theorem own_floodRests : ownKnob Tryz.prog.godebug = none := by kernel_rfl
theorem laid_floodRests : laidOutB Tryz.prog = true := by kernel_rfl
set_option maxHeartbeats 400000 in
set_option maxRecDepth 100000 in
theorem lifted_floodRests (os : Os) (started : os.Started) (H : Type) (enc : TypeId × Value → H) :
 ReturnsInHanded {} Tryz.checked os 3 .any (Rows.floodRestsSpec.pre6 enc Tryz.prog Tryz.f3 Rows.floodRestsRow.domain false) (Rows.floodRestsSpec.post enc Tryz.prog Tryz.f3 false true false false) := by
 refine returnsInHanded_of_change (C := Tryz.checked) own_floodRests started (by kernel_rfl) Tryz.func3
  (ChangeSpec.witness6 (enc := enc) (C := Tryz.checked) false ⟨#[], #[.agg #[.int .i64 0, .int .i64 0, .slice none 0 0], .agg #[.int .i64 0, .int .i64 0, .int .i64 0], .agg #[.int .u8 0, .int .u8 0, .int .u8 0, .int .u8 0]], []⟩ 8 (by kernel_rfl) (by kernel_rfl) (by kernel_rfl) (by kernel_rfl)) ?_
 intro W base args ds gs before hval0 hW _ _
 have hval : ∀ (j : Nat) t v, Tryz.f3.params[j]? = some t → args[j]? = some v → Value.okWide Tryz.prog W .any base t v := hval0
 have hW' := hW
 obtain ⟨p, q, hA0, hV, hpq, _, _⟩ := hW
 have hA : DataW.TrodAll enc Tryz.prog W 0 (fun _ => true) true Tryz.f3.params.toList args.toList ds p := hA0
 rw [Tryz.params3] at hA hval
 obtain ⟨v0, vs0, d0, ds0, p0, q0, hargs, rfl, hp_, h0, r0⟩ := trodAll_cons hA
 obtain ⟨v1, vs1, d1, ds1, p1, q1, rfl, rfl, rfl, h1, r1⟩ := trodAll_cons r0
 obtain ⟨v2, vs2, d2, ds2, p2, q2, rfl, rfl, rfl, h2, r2⟩ := trodAll_cons r1
 obtain ⟨rfl, rfl, rfl⟩ := trodAll_nil r2
 obtain rfl : args = #[v0, v1, v2] := by cases args; simp_all
 have hv0 : Value.okWide Tryz.prog W .any base 24 v0 := hval 0 24 v0 rfl rfl
 have hv1 : Value.okWide Tryz.prog W .any base 25 v1 := hval 1 25 v1 rfl rfl
 have hv2 : Value.okWide Tryz.prog W .any base 27 v2 := hval 2 27 v2 rfl rfl
 clear hval hval0 hA0
 obtain ⟨wide, high, l, a, cap, rfl, he, hcol, hcap, hcap2⟩ := open_canvas hv0 h0
 obtain ⟨f1, h1⟩ := h1
 have q1 := open_flat _ _ _ _ _ _ flatI3 h1
 obtain ⟨⟨cs1⟩, rfl, hz1, -⟩ : ∃ cs, v1 = .agg cs ∧ cs.size = Tryz.prog.cellsOf 25 ∧ Row.okWide Tryz.prog W Reach.any base 25 cs := by simpa [Value.okWide, Tryz.underlying25] using hv1
 rw [show Tryz.prog.cellsOf 25 = 3 by kernel_rfl] at hz1
 obtain ⟨px, py, tol, rfl⟩ := leavesI3 cs1 (by simpa using hz1) q1.2
 obtain ⟨c, rfl, hc⟩ := open_color hv2 h2
 refine (floodRests_any wide high a l.length cap l rfl hcap hcap2 hcol px py tol c hc W he).mono fun e W' ⟨he, hb⟩ => ?_
 subst he
 exact ⟨_, rfl, post_true laid_floodRests Tryz.underlying4 (by kernel_rfl) rfl (of_decide_eq_true (by kernel_rfl)) rfl rfl hW' hb⟩

/-- ████ THE STATEMENT ████ -/
theorem floodRests_holds : Rows.FloodRestsSaid :=
 OpenClaim.holds_of_wide 3 Tryz.f3 rfl rfl rfl rfl rfl rfl rfl ⟨rfl, rfl, rfl, rfl, rfl⟩ rfl rfl rfl rfl rfl (by kernel_rfl) Tryz.func3 (by kernel_rfl)
  (of_decide_eq_true (by kernel_rfl)) (by unfold Func.isWrapper; first | (rw [if_pos (by decide +kernel)]; kernel_rfl) | (rw [if_neg (by decide +kernel)]; exact ⟨rfl, rfl⟩))
  (fun os started H enc _ => lifted_floodRests os started H enc)
#print axioms floodRests_holds
end Go.Proofs.YtodpkgbpcpfamaaGreat
