import Derived.Test.YteklfmacnnmomaaGreatM17
import Derived.Test.YteklfmacnnmomaaGreatM18
set_option linter.unusedSimpArgs false
set_option linter.unusedVariables false
/- FrontierHears returns true at every input, and its arguments read as they did. Conditions: none. -/
namespace Go.Proofs.YteklfmacnnmomaaGreat
open Go.ChangeShapes Go.WideShapes Go.ChangeAt Go.RowKit
theorem flatIntG : flat Tryz.prog 5 3 = some [.int .i64] := by kernel_rfl
theorem leavesZG (vs : List Value) (hl : vs.length = 1) (h : Leaves [.int .i64] vs) : ∃ a : Int, encZ a = vs ∧ True := by
 obtain ⟨v0, e0, n0, rfl, -⟩ := h 0 (.int .i64) rfl
 refine ⟨n0, List.ext_getElem? fun i => ?_, trivial⟩
 rcases i with _ | i <;> first | exact e0.symm | (rw [List.getElem?_eq_none (by rw [encZ_len]; omega), List.getElem?_eq_none (by omega)])
theorem own_frontierHears : ownKnob Tryz.prog.godebug = none := by kernel_rfl
theorem laid_frontierHears : laidOutB Tryz.prog = true := by kernel_rfl
set_option maxHeartbeats 400000 in
set_option maxRecDepth 100000 in
theorem lifted_frontierHears (os : Os) (started : os.Started) (H : Type) (enc : TypeId × Value → H) :
 ReturnsInHanded {} Tryz.checked os 3 .any (Rows.frontierHearsSpec.pre6 enc Tryz.prog Tryz.f3 Rows.frontierHearsRow.domain false) (Rows.frontierHearsSpec.post enc Tryz.prog Tryz.f3 false true false false) := by
 refine returnsInHanded_of_change (C := Tryz.checked) own_frontierHears started (by kernel_rfl) Tryz.func3
  (ChangeSpec.witness6 (enc := enc) (C := Tryz.checked) false ⟨#[], #[.agg frZ.cells, .slice none 0 0, .slice none 0 0], []⟩ 8 (by kernel_rfl) (by kernel_rfl) (by kernel_rfl) (by kernel_rfl)) ?_
 intro W base args ds gs before hval0 hW _ _
 have hval : ∀ (j : Nat) t v, Tryz.f3.params[j]? = some t → args[j]? = some v → Value.okWide Tryz.prog W .any base t v := hval0
 have hW' := hW
 obtain ⟨p, q, hA0, hV, hpq, _, _⟩ := hW
 have hA : DataW.TrodAll enc Tryz.prog W 0 (fun _ => true) true Tryz.f3.params.toList args.toList ds p := hA0
 rw [Tryz.params3] at hA hval
 obtain ⟨v0, vs0, d0, ds0, p0, q0, hargs, rfl, hp_, h0, r0⟩ := trodAll_cons hA
 obtain ⟨v1, vs1, d1, ds1, p1, q1, rfl, rfl, rfl, h1, r1⟩ := trodAll_cons r0
 obtain ⟨v2, vs2, d2, ds2, p2, q2, rfl, rfl, rfl, h2, r2⟩ := trodAll_cons r1
 obtain ⟨rfl, rfl, rfl⟩ := trodAll_nil r2
 obtain rfl : args = #[v0, v1, v2] := by cases args; simp_all
 have hv0 : Value.okWide Tryz.prog W .any base 29 v0 := hval 0 29 v0 rfl rfl
 have hv1 : Value.okWide Tryz.prog W .any base 30 v1 := hval 1 30 v1 rfl rfl
 have hv2 : Value.okWide Tryz.prog W .any base 31 v2 := hval 2 31 v2 rfl rfl
 clear hval hval0 hA0
 obtain ⟨f, rfl, wf⟩ := open_frt hv0 h0
 obtain ⟨l1, a1, cap1, rfl, he1, _, hmax1, hcap1⟩ := open_rows (k := 1) Tryz.underlying30 flatIntG (by kernel_rfl) rfl encZ (fun _ => True) encZ_len leavesZG hv1 h1 (by omega)
 obtain ⟨l2, a2, cap2, rfl, he2, _, hmax2, hcap2⟩ := open_rows (k := 12) Tryz.underlying31 flatPl (by kernel_rfl) rfl Plg.l PlgW Plg.len leaves_plg hv2 h2 (by omega)
 refine (frontierHears_any f a1 l1.length cap1 l1 rfl a2 l2.length cap2 l2 rfl wf.folded.1 wf.prop.1 W he1 he2).mono fun e W' ⟨he, hb⟩ => ?_
 subst he
 exact ⟨_, rfl, post_true laid_frontierHears Tryz.underlying4 (by kernel_rfl) rfl (of_decide_eq_true (by kernel_rfl)) rfl rfl hW' hb⟩
/-- ████ THE STATEMENT ████ -/
theorem frontierHears_holds : Rows.FrontierHearsSaid :=
 OpenClaim.holds_of_wide 3 Tryz.f3 rfl rfl rfl rfl rfl rfl rfl ⟨rfl, rfl, rfl, rfl, rfl⟩ rfl rfl rfl rfl rfl (by kernel_rfl) Tryz.func3 (by kernel_rfl)
  (of_decide_eq_true (by kernel_rfl)) (by unfold Func.isWrapper; first | (rw [if_pos (by decide +kernel)]; kernel_rfl) | (rw [if_neg (by decide +kernel)]; exact ⟨rfl, rfl⟩))
  (fun os started H enc _ => lifted_frontierHears os started H enc)
#print axioms frontierHears_holds
end Go.Proofs.YteklfmacnnmomaaGreat
