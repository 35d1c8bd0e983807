/- VectorMeets returns true at every input, and its arguments read as they did. Conditions: none. -/
import Derived.Test.YtppaheekpmgifaaRowG
import Derived.Test.YtppaheekpmgifaaMeetsB
namespace Go.Proofs.Ytppaheekpmgifaa
set_option linter.unusedSimpArgs false
set_option linter.unusedVariables false
open Go.ChangeShapes Go.WideShapes Go.ChangeAt Go.RowKit

theorem flatVec : flat Try.prog 5 24 = some (List.replicate 9 (.int .u64)) := by kernel_rfl
theorem leaves_vec (vs : List Value) (hl : vs.length = 9) (h : Leaves (List.replicate 9 (.int .u64)) vs) : ∃ x, encV x = vs ∧ wfV x := by
  have key : ∀ k, k < 9 → ∃ n, vs[k]? = some (.int .u64 n) ∧ (Lit.int .u64 n).wf = true := by
    intro k hk
    obtain ⟨v, hv, n, rfl, hw⟩ := h k (.int .u64) (by rw [List.getElem?_replicate, if_pos hk])
    exact ⟨n, hv, hw⟩
  obtain ⟨n0, e0, f0⟩ := key 0 (by omega)
  obtain ⟨n1, e1, f1⟩ := key 1 (by omega)
  obtain ⟨n2, e2, f2⟩ := key 2 (by omega)
  obtain ⟨n3, e3, f3⟩ := key 3 (by omega)
  obtain ⟨n4, e4, f4⟩ := key 4 (by omega)
  obtain ⟨n5, e5, f5⟩ := key 5 (by omega)
  obtain ⟨n6, e6, f6⟩ := key 6 (by omega)
  obtain ⟨n7, e7, f7⟩ := key 7 (by omega)
  obtain ⟨n8, e8, f8⟩ := key 8 (by omega)
  obtain ⟨c0, c1, c2, c3, c4, c5, c6, c7, c8, rfl⟩ : ∃ c0 c1 c2 c3 c4 c5 c6 c7 c8, vs = [c0, c1, c2, c3, c4, c5, c6, c7, c8] := by
    rcases vs with _ | ⟨c0, _ | ⟨c1, _ | ⟨c2, _ | ⟨c3, _ | ⟨c4, _ | ⟨c5, _ | ⟨c6, _ | ⟨c7, _ | ⟨c8, _ | ⟨c9, l⟩⟩⟩⟩⟩⟩⟩⟩⟩⟩ <;> simp at hl
    exact ⟨c0, c1, c2, c3, c4, c5, c6, c7, c8, rfl⟩
  simp at e0 e1 e2 e3 e4 e5 e6 e7 e8
  subst e0 e1 e2 e3 e4 e5 e6 e7 e8
  refine ⟨nine n0 n1 n2 n3 n4 n5 n6 n7 n8, rfl, fun k => ?_⟩
  unfold nine
  split <;> first | assumption | rfl

theorem own_vectorMeets : ownKnob Try.prog.godebug = none := by kernel_rfl
theorem laid_vectorMeets : laidOutB Try.prog = true := by kernel_rfl
set_option maxHeartbeats 400000 in
set_option maxRecDepth 100000 in
theorem lifted_vectorMeets (os : Os) (started : os.Started) (H : Type) (enc : TypeId × Value → H) :
    ReturnsInHanded {} Try.checked os 5 .any (Rows.vectorMeetsSpec.pre6 enc Try.prog Try.f5 Rows.vectorMeetsRow.domain false) (Rows.vectorMeetsSpec.post enc Try.prog Try.f5 false true false false) := by
  refine returnsInHanded_of_change (C := Try.checked) own_vectorMeets started (by kernel_rfl) Try.func5
    (ChangeSpec.witness6 (enc := enc) (C := Try.checked) false ⟨#[], #[vecV (fun _ => 0), .slice none 0 0], []⟩ 8 (by kernel_rfl) (by kernel_rfl) (by kernel_rfl) (by kernel_rfl)) ?_
  intro W base args ds gs before hval0 hW _ _
  have hval : ∀ (j : Nat) t v, Try.f5.params[j]? = some t → args[j]? = some v → Value.okWide Try.prog W .any base t v := hval0
  have hW' := hW
  obtain ⟨p, q, hA0, hV, hpq, _, _⟩ := hW
  have hA : DataW.TrodAll enc Try.prog W 0 (fun _ => true) true Try.f5.params.toList args.toList ds p := hA0
  rw [Try.params5] at hA hval
  obtain ⟨v0, vs0, d0, ds0, p0, q0, hargs, rfl, hp_, h0, r0⟩ := trodAll_cons hA
  obtain ⟨v1, vs1, d1, ds1, p1, q1, rfl, rfl, rfl, h1, r1⟩ := trodAll_cons r0
  obtain ⟨rfl, rfl, rfl⟩ := trodAll_nil r1
  obtain rfl : args = #[v0, v1] := by cases args; simp_all
  have hv0 : Value.okWide Try.prog W .any base 24 v0 := hval 0 24 v0 rfl rfl
  have hv1 : Value.okWide Try.prog W .any base 42 v1 := hval 1 42 v1 rfl rfl
  clear hval hval0 hA0
  obtain ⟨x, rfl, _, _, wa⟩ := open_vec hv0 h0
  obtain ⟨l, a, cap, rfl, he, _, hmax, hcap⟩ := open_rows (k := 9) Try.underlying42 flatVec (by kernel_rfl) rfl encV wfV encV_len leaves_vec hv1 h1 (by omega)
  have hcap' := slice_cap Try.underlying42 hv1
  refine (meets_any x wa.nn l a cap hcap'.1 hcap'.2 W he).mono fun e W' ⟨he, hb⟩ => ?_
  subst he
  exact ⟨_, rfl, post_true laid_vectorMeets Try.underlying4 (by kernel_rfl) rfl (of_decide_eq_true (by kernel_rfl)) rfl rfl hW' hb⟩

/-- ████ THE STATEMENT ████ -/
theorem vectorMeets_holds : Rows.VectorMeetsSaid :=
  OpenClaim.holds_of_wide 5 Try.f5 rfl rfl rfl rfl rfl rfl rfl ⟨rfl, rfl, rfl, rfl, rfl⟩ rfl rfl rfl rfl rfl (by kernel_rfl) Try.func5 (by kernel_rfl)
    (of_decide_eq_true (by kernel_rfl)) (by unfold Func.isWrapper; first | (rw [if_pos (by decide +kernel)]; kernel_rfl) | (rw [if_neg (by decide +kernel)]; exact ⟨rfl, rfl⟩))
    (fun os started H enc _ => lifted_vectorMeets os started H enc)
#print axioms vectorMeets_holds
end Go.Proofs.Ytppaheekpmgifaa
