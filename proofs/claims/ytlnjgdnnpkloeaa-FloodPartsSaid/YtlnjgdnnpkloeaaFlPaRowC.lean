import Derived.Test.YtlnjgdnnpkloeaaM4
import Derived.Test.YtlnjgdnnpkloeaaM22
/- FloodParts returns true at every input, and its arguments read as they did. Conditions: none. -/
namespace Go.Proofs.Ytlnjgdnnpkloeaa
set_option linter.unusedSimpArgs false
set_option linter.unusedVariables false
open Go.ChangeShapes Go.WideShapes Go.ChangeAt Go.RowKit
theorem flatI1 : flat Try.prog 5 3 = some (List.replicate 1 (.int .i64)) := by kernel_rfl

theorem own_floodParts : ownKnob Try.prog.godebug = none := by kernel_rfl
theorem laid_floodParts : laidOutB Try.prog = true := by kernel_rfl
set_option maxHeartbeats 400000 in
set_option maxRecDepth 100000 in
theorem lifted_floodParts (os : Os) (started : os.Started) (H : Type) (enc : TypeId × Value → H) :
    ReturnsInHanded {} Try.checked os 3 .any (Rows.floodPartsSpec.pre6 enc Try.prog Try.f3 Rows.floodPartsRow.domain false) (Rows.floodPartsSpec.post enc Try.prog Try.f3 false true false false) := by
  refine returnsInHanded_of_change (C := Try.checked) own_floodParts started (by kernel_rfl) Try.func3
    (ChangeSpec.witness6 (enc := enc) (C := Try.checked) false ⟨#[], #[.agg #[.int .i64 0, .int .i64 0, .slice none 0 0], .slice none 0 0], []⟩ 8 (by kernel_rfl) (by kernel_rfl) (by kernel_rfl) (by kernel_rfl)) ?_
  intro W base args ds gs before hval0 hW _ _
  have hval : ∀ (j : Nat) t v, Try.f3.params[j]? = some t → args[j]? = some v → Value.okWide Try.prog W .any base t v := hval0
  have hW' := hW
  obtain ⟨p, q, hA0, hV, hpq, _, _⟩ := hW
  have hA : DataW.TrodAll enc Try.prog W 0 (fun _ => true) true Try.f3.params.toList args.toList ds p := hA0
  rw [Try.params3] at hA hval
  obtain ⟨v0, vs0, d0, ds0, p0, q0, hargs, rfl, hp_, h0, r0⟩ := trodAll_cons hA
  obtain ⟨v1, vs1, d1, ds1, p1, q1, rfl, rfl, rfl, h1, r1⟩ := trodAll_cons r0
  obtain ⟨rfl, rfl, rfl⟩ := trodAll_nil r1
  obtain rfl : args = #[v0, v1] := by cases args; simp_all
  have hv0 : Value.okWide Try.prog W .any base 24 v0 := hval 0 24 v0 rfl rfl
  have hv1 : Value.okWide Try.prog W .any base 25 v1 := hval 1 25 v1 rfl rfl
  clear hval hval0 hA0
  obtain ⟨wide, high, l, a, cap, rfl, he, hcol, hcap, hcap2⟩ := open_canvas hv0 h0
  obtain ⟨X, b, cap3, rfl, he2, _, hmax3, hcap3⟩ := open_rows (k := 1) Try.underlying25 flatI1 (by kernel_rfl) rfl encI (fun _ => True) encI_len (fun vs hl h => by obtain ⟨z, rfl⟩ := leavesI1 vs hl h; exact ⟨z, rfl, trivial⟩) hv1 h1 (by omega)
  refine (floodParts_any wide high a l.length cap l rfl hcap hcap2 hcol b X.length cap3 X rfl hcap3 W he he2).mono fun e W' ⟨he, hb⟩ => ?_
  subst he
  exact ⟨_, rfl, post_true laid_floodParts Try.underlying4 (by kernel_rfl) rfl (of_decide_eq_true (by kernel_rfl)) rfl rfl hW' hb⟩

/-- ████ THE STATEMENT ████ -/
theorem floodParts_holds : Rows.FloodPartsSaid :=
  OpenClaim.holds_of_wide 3 Try.f3 rfl rfl rfl rfl rfl rfl rfl ⟨rfl, rfl, rfl, rfl, rfl⟩ rfl rfl rfl rfl rfl (by kernel_rfl) Try.func3 (by kernel_rfl)
    (of_decide_eq_true (by kernel_rfl)) (by unfold Func.isWrapper; first | (rw [if_pos (by decide +kernel)]; kernel_rfl) | (rw [if_neg (by decide +kernel)]; exact ⟨rfl, rfl⟩))
    (fun os started H enc _ => lifted_floodParts os started H enc)
#print axioms floodParts_holds
end Go.Proofs.Ytlnjgdnnpkloeaa
