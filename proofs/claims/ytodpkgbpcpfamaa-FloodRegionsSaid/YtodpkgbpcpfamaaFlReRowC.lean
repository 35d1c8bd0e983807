import Derived.Test.YtodpkgbpcpfamaaM4
import Derived.Test.YtodpkgbpcpfamaaM24
/- FloodRegions returns true at every input, and its arguments read as they did. Conditions: none. -/
namespace Go.Proofs.Ytodpkgbpcpfamaa
set_option linter.unusedSimpArgs false
set_option linter.unusedVariables false
open Go.ChangeShapes Go.WideShapes Go.ChangeAt Go.RowKit
theorem flatI3 : flat Try.prog 5 56 = some (List.replicate 3 (.int .i64)) := by kernel_rfl

theorem own_floodRegions : ownKnob Try.prog.godebug = none := by kernel_rfl
theorem laid_floodRegions : laidOutB Try.prog = true := by kernel_rfl
set_option maxHeartbeats 400000 in
set_option maxRecDepth 100000 in
theorem lifted_floodRegions (os : Os) (started : os.Started) (H : Type) (enc : TypeId × Value → H) :
 ReturnsInHanded {} Try.checked os 4 .any (Rows.floodRegionsSpec.pre6 enc Try.prog Try.f4 Rows.floodRegionsRow.domain false) (Rows.floodRegionsSpec.post enc Try.prog Try.f4 false true false false) := by
 refine returnsInHanded_of_change (C := Try.checked) own_floodRegions started (by kernel_rfl) Try.func4
  (ChangeSpec.witness6 (enc := enc) (C := Try.checked) false ⟨#[], #[.agg #[.int .i64 0, .int .i64 0, .slice none 0 0], .slice none 0 0, .agg #[.int .u8 0, .int .u8 0, .int .u8 0, .int .u8 0]], []⟩ 8 (by kernel_rfl) (by kernel_rfl) (by kernel_rfl) (by kernel_rfl)) ?_
 intro W base args ds gs before hval0 hW _ _
 have hval : ∀ (j : Nat) t v, Try.f4.params[j]? = some t → args[j]? = some v → Value.okWide Try.prog W .any base t v := hval0
 have hW' := hW
 obtain ⟨p, q, hA0, hV, hpq, _, _⟩ := hW
 have hA : DataW.TrodAll enc Try.prog W 0 (fun _ => true) true Try.f4.params.toList args.toList ds p := hA0
 rw [Try.params4] at hA hval
 obtain ⟨v0, vs0, d0, ds0, p0, q0, hargs, rfl, hp_, h0, r0⟩ := trodAll_cons hA
 obtain ⟨v1, vs1, d1, ds1, p1, q1, rfl, rfl, rfl, h1, r1⟩ := trodAll_cons r0
 obtain ⟨v2, vs2, d2, ds2, p2, q2, rfl, rfl, rfl, h2, r2⟩ := trodAll_cons r1
 obtain ⟨rfl, rfl, rfl⟩ := trodAll_nil r2
 obtain rfl : args = #[v0, v1, v2] := by cases args; simp_all
 have hv0 : Value.okWide Try.prog W .any base 24 v0 := hval 0 24 v0 rfl rfl
 have hv1 : Value.okWide Try.prog W .any base 53 v1 := hval 1 53 v1 rfl rfl
 have hv2 : Value.okWide Try.prog W .any base 55 v2 := hval 2 55 v2 rfl rfl
 clear hval hval0 hA0
 obtain ⟨wide, high, l, a, cap, rfl, he, hcol, hcap, hcap2⟩ := open_canvas hv0 h0
 obtain ⟨Y, b4, cap4, rfl, he4, _, hmax4, hcap4⟩ := open_rows (k := 3) Try.underlying53 flatI3 (by kernel_rfl) rfl encI3 (fun _ => True) encI3_len (fun vs hl h => by obtain ⟨x, y, z, rfl⟩ := leavesI3 vs hl h; exact ⟨⟨x, y, z⟩, rfl, trivial⟩) hv1 h1 (by omega)
 obtain ⟨c, rfl, hc⟩ := open_color hv2 h2
 refine (floodRegions_any wide high a l.length cap l rfl hcap hcap2 hcol b4 Y.length cap4 Y rfl c hc W he he4).mono fun e W' ⟨he, hb⟩ => ?_
 subst he
 exact ⟨_, rfl, post_true laid_floodRegions Try.underlying4 (by kernel_rfl) rfl (of_decide_eq_true (by kernel_rfl)) rfl rfl hW' hb⟩

/-- ████ THE STATEMENT ████ -/
theorem floodRegions_holds : Rows.FloodRegionsSaid :=
 OpenClaim.holds_of_wide 4 Try.f4 rfl rfl rfl rfl rfl rfl rfl ⟨rfl, rfl, rfl, rfl, rfl⟩ rfl rfl rfl rfl rfl (by kernel_rfl) Try.func4 (by kernel_rfl)
  (of_decide_eq_true (by kernel_rfl)) (by unfold Func.isWrapper; first | (rw [if_pos (by decide +kernel)]; kernel_rfl) | (rw [if_neg (by decide +kernel)]; exact ⟨rfl, rfl⟩))
  (fun os started H enc _ => lifted_floodRegions os started H enc)
#print axioms floodRegions_holds
end Go.Proofs.Ytodpkgbpcpfamaa
