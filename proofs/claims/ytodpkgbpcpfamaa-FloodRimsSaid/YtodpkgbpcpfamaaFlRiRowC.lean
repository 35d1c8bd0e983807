import Derived.Test.YtodpkgbpcpfamaaM4
import Derived.Test.YtodpkgbpcpfamaaM23
/- FloodRims returns true at every input, and its arguments read as they did. Conditions: none. -/
namespace Go.Proofs.Ytodpkgbpcpfamaa
set_option linter.unusedSimpArgs false
set_option linter.unusedVariables false
open Go.ChangeShapes Go.WideShapes Go.ChangeAt Go.RowKit
theorem flatI5 : flat Try.prog 5 44 = some (List.replicate 5 (.int .i64)) := by kernel_rfl
theorem flatS3 : flat Try.prog 5 33 = some (List.replicate 3 (.int .i64)) := by kernel_rfl
theorem leavesI5 (vs : List Value) (hl : vs.length = 5) (h : Leaves (List.replicate 5 (.int .i64)) vs) : ∃ x, encI5 x = vs ∧ True := by
 obtain ⟨v0, e0, n0, rfl, -⟩ := h 0 (.int .i64) rfl
 obtain ⟨v1, e1, n1, rfl, -⟩ := h 1 (.int .i64) rfl
 obtain ⟨v2, e2, n2, rfl, -⟩ := h 2 (.int .i64) rfl
 obtain ⟨v3, e3, n3, rfl, -⟩ := h 3 (.int .i64) rfl
 obtain ⟨v4, e4, n4, rfl, -⟩ := h 4 (.int .i64) rfl
 refine ⟨⟨n0, n1, n2, n3, n4⟩, List.ext_getElem? fun i => ?_, trivial⟩
 rcases i with _ | _ | _ | _ | _ | i <;> first | exact e0.symm | exact e1.symm | exact e2.symm | exact e3.symm | exact e4.symm | (rw [List.getElem?_eq_none (show (encI5 _).length ≤ _ by rw [encI5_len]; omega), List.getElem?_eq_none (by omega)])

theorem own_floodRims : ownKnob Try.prog.godebug = none := by kernel_rfl
theorem laid_floodRims : laidOutB Try.prog = true := by kernel_rfl
set_option maxHeartbeats 400000 in
set_option maxRecDepth 100000 in
theorem lifted_floodRims (os : Os) (started : os.Started) (H : Type) (enc : TypeId × Value → H) :
 ReturnsInHanded {} Try.checked os 3 .any (Rows.floodRimsSpec.pre6 enc Try.prog Try.f3 Rows.floodRimsRow.domain false) (Rows.floodRimsSpec.post enc Try.prog Try.f3 false true false false) := by
 refine returnsInHanded_of_change (C := Try.checked) own_floodRims started (by kernel_rfl) Try.func3
  (ChangeSpec.witness6 (enc := enc) (C := Try.checked) false ⟨#[], #[.agg #[.int .i64 0, .int .i64 0, .slice none 0 0], .slice none 0 0, .slice none 0 0], []⟩ 8 (by kernel_rfl) (by kernel_rfl) (by kernel_rfl) (by kernel_rfl)) ?_
 intro W base args ds gs before hval0 hW _ _
 have hval : ∀ (j : Nat) t v, Try.f3.params[j]? = some t → args[j]? = some v → Value.okWide Try.prog W .any base t v := hval0
 have hW' := hW
 obtain ⟨p, q, hA0, hV, hpq, _, _⟩ := hW
 have hA : DataW.TrodAll enc Try.prog W 0 (fun _ => true) true Try.f3.params.toList args.toList ds p := hA0
 rw [Try.params3] at hA hval
 obtain ⟨v0, vs0, d0, ds0, p0, q0, hargs, rfl, hp_, h0, r0⟩ := trodAll_cons hA
 obtain ⟨v1, vs1, d1, ds1, p1, q1, rfl, rfl, rfl, h1, r1⟩ := trodAll_cons r0
 obtain ⟨v2, vs2, d2, ds2, p2, q2, rfl, rfl, rfl, h2, r2⟩ := trodAll_cons r1
 obtain ⟨rfl, rfl, rfl⟩ := trodAll_nil r2
 obtain rfl : args = #[v0, v1, v2] := by cases args; simp_all
 have hv0 : Value.okWide Try.prog W .any base 24 v0 := hval 0 24 v0 rfl rfl
 have hv1 : Value.okWide Try.prog W .any base 25 v1 := hval 1 25 v1 rfl rfl
 have hv2 : Value.okWide Try.prog W .any base 26 v2 := hval 2 26 v2 rfl rfl
 clear hval hval0 hA0
 obtain ⟨wide, high, l, a, cap, rfl, he, hcol, hcap, hcap2⟩ := open_canvas hv0 h0
 obtain ⟨X, b, cap3, rfl, he2, _, hmax3, hcap3⟩ := open_rows (k := 3) Try.underlying25 flatS3 (by kernel_rfl) rfl encS (fun _ => True) encS_len (fun vs hl h => by obtain ⟨x, y, z, rfl⟩ := leavesI3 vs hl h; exact ⟨⟨x, y, z⟩, rfl, trivial⟩) hv1 h1 (by omega)
 obtain ⟨Y, b4, cap4, rfl, he4, _, hmax4, hcap4⟩ := open_rows (k := 5) Try.underlying26 flatI5 (by kernel_rfl) rfl encI5 (fun _ => True) encI5_len (fun vs hl h => by obtain ⟨x, hx, -⟩ := leavesI5 vs hl h; exact ⟨x, hx, trivial⟩) hv2 h2 (by omega)
 refine (floodRims_any wide high a l.length cap l rfl hcap hcap2 hcol b X.length cap3 X rfl hcap3 b4 Y.length cap4 Y rfl W he he2 he4).mono fun e W' ⟨he, hb⟩ => ?_
 subst he
 exact ⟨_, rfl, post_true laid_floodRims Try.underlying4 (by kernel_rfl) rfl (of_decide_eq_true (by kernel_rfl)) rfl rfl hW' hb⟩

/-- ████ THE STATEMENT ████ -/
theorem floodRims_holds : Rows.FloodRimsSaid :=
 OpenClaim.holds_of_wide 3 Try.f3 rfl rfl rfl rfl rfl rfl rfl ⟨rfl, rfl, rfl, rfl, rfl⟩ rfl rfl rfl rfl rfl (by kernel_rfl) Try.func3 (by kernel_rfl)
  (of_decide_eq_true (by kernel_rfl)) (by unfold Func.isWrapper; first | (rw [if_pos (by decide +kernel)]; kernel_rfl) | (rw [if_neg (by decide +kernel)]; exact ⟨rfl, rfl⟩))
  (fun os started H enc _ => lifted_floodRims os started H enc)
#print axioms floodRims_holds
end Go.Proofs.Ytodpkgbpcpfamaa
