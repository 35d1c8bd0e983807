import Derived.Test.YteklfmacnnmomaaGreatM17
set_option linter.unusedSimpArgs false
set_option linter.unusedVariables false
/- FrontierTwice returns true at every input, and its arguments read as they did. Conditions: none. -/
namespace Go.Proofs.YteklfmacnnmomaaGreat
open Go.ChangeShapes Go.WideShapes Go.ChangeAt Go.RowKit
set_option maxRecDepth 100000 in
theorem open_int {r : Reach} {b0 : Nat} {w : World} {v : Value} (hv1 : Value.okWide Tryz.prog w r b0 3 v) : ∃ n : Int, v = .int .i64 n := by
 unfold Value.okWide Cell.okWide Cell.ok at hv1
 simp only [Tryz.underlying3] at hv1
 split at hv1 <;> simp_all
theorem own_frontierTwice : ownKnob Tryz.prog.godebug = none := by kernel_rfl
theorem laid_frontierTwice : laidOutB Tryz.prog = true := by kernel_rfl
set_option maxHeartbeats 400000 in
set_option maxRecDepth 100000 in
theorem lifted_frontierTwice (os : Os) (started : os.Started) (H : Type) (enc : TypeId × Value → H) :
 ReturnsInHanded {} Tryz.checked os 5 .any (Rows.frontierTwiceSpec.pre6 enc Tryz.prog Tryz.f5 Rows.frontierTwiceRow.domain false) (Rows.frontierTwiceSpec.post enc Tryz.prog Tryz.f5 false true false false) := by
 refine returnsInHanded_of_change (C := Tryz.checked) own_frontierTwice started (by kernel_rfl) Tryz.func5
  (ChangeSpec.witness6 (enc := enc) (C := Tryz.checked) false ⟨#[], #[.agg frZ.cells, .int .i64 0, .slice none 0 0], []⟩ 8 (by kernel_rfl) (by kernel_rfl) (by kernel_rfl) (by kernel_rfl)) ?_
 intro W base args ds gs before hval0 hW _ _
 have hval : ∀ (j : Nat) t v, Tryz.f5.params[j]? = some t → args[j]? = some v → Value.okWide Tryz.prog W .any base t v := hval0
 have hW' := hW
 obtain ⟨p, q, hA0, hV, hpq, _, _⟩ := hW
 have hA : DataW.TrodAll enc Tryz.prog W 0 (fun _ => true) true Tryz.f5.params.toList args.toList ds p := hA0
 rw [Tryz.params5] at hA hval
 obtain ⟨v0, vs0, d0, ds0, p0, q0, hargs, rfl, hp_, h0, r0⟩ := trodAll_cons hA
 obtain ⟨v1, vs1, d1, ds1, p1, q1, rfl, rfl, rfl, h1, r1⟩ := trodAll_cons r0
 obtain ⟨v2, vs2, d2, ds2, p2, q2, rfl, rfl, rfl, h2, r2⟩ := trodAll_cons r1
 obtain ⟨rfl, rfl, rfl⟩ := trodAll_nil r2
 obtain rfl : args = #[v0, v1, v2] := by cases args; simp_all
 have hv0 : Value.okWide Tryz.prog W .any base 29 v0 := hval 0 29 v0 rfl rfl
 have hv1 : Value.okWide Tryz.prog W .any base 3 v1 := hval 1 3 v1 rfl rfl
 have hv2 : Value.okWide Tryz.prog W .any base 31 v2 := hval 2 31 v2 rfl rfl
 clear hval hval0 hA0
 obtain ⟨f, rfl, wf⟩ := open_frt hv0 h0
 obtain ⟨x, rfl⟩ := open_int hv1
 obtain ⟨l, a, cap, rfl, he, _, hmax, hcap⟩ := open_rows (k := 12) Tryz.underlying31 flatPl (by kernel_rfl) rfl Plg.l PlgW Plg.len leaves_plg hv2 h2 (by omega)
 refine (frontierTwice_any f x a l.length cap l rfl hcap W he).mono fun e W' ⟨he, hb⟩ => ?_
 subst he
 exact ⟨_, rfl, post_true laid_frontierTwice Tryz.underlying4 (by kernel_rfl) rfl (of_decide_eq_true (by kernel_rfl)) rfl rfl hW' hb⟩
/-- ████ THE STATEMENT ████ -/
theorem frontierTwice_holds : Rows.FrontierTwiceSaid :=
 OpenClaim.holds_of_wide 5 Tryz.f5 rfl rfl rfl rfl rfl rfl rfl ⟨rfl, rfl, rfl, rfl, rfl⟩ rfl rfl rfl rfl rfl (by kernel_rfl) Tryz.func5 (by kernel_rfl)
  (of_decide_eq_true (by kernel_rfl)) (by unfold Func.isWrapper; first | (rw [if_pos (by decide +kernel)]; kernel_rfl) | (rw [if_neg (by decide +kernel)]; exact ⟨rfl, rfl⟩))
  (fun os started H enc _ => lifted_frontierTwice os started H enc)
#print axioms frontierTwice_holds
end Go.Proofs.YteklfmacnnmomaaGreat
