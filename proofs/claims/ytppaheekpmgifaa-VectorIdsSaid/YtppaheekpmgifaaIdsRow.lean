/- VectorIds returns true at every input, and its arguments read as they did. Conditions: none. -/
import Derived.Test.YtppaheekpmgifaaRowG
import Derived.Test.YtppaheekpmgifaaIdsB
namespace Go.Proofs.Ytppaheekpmgifaa
set_option linter.unusedSimpArgs false
set_option linter.unusedVariables false
open Go.ChangeShapes Go.WideShapes Go.ChangeAt Go.RowKit

theorem flatId : flat Try.prog 5 38 = some [.int .u64, .int .i64, .int .u64] := by kernel_rfl
def wfId (i : IdT) : Prop := (Lit.int .u64 i.time).wf = true ∧ (Lit.int .i64 i.site).wf = true ∧ (Lit.int .u64 i.seq).wf = true
theorem leaves_id (vs : List Value) (hl : vs.length = 3) (h : Leaves [.int .u64, .int .i64, .int .u64] vs) : ∃ x, encId x = vs ∧ wfId x := by
  obtain ⟨v0, e0, n0, rfl, f0⟩ := h 0 _ rfl
  obtain ⟨v1, e1, n1, rfl, f1⟩ := h 1 _ rfl
  obtain ⟨v2, e2, n2, rfl, f2⟩ := h 2 _ rfl
  obtain ⟨c0, c1, c2, rfl⟩ : ∃ c0 c1 c2, vs = [c0, c1, c2] := by
    rcases vs with _ | ⟨c0, _ | ⟨c1, _ | ⟨c2, _ | ⟨c3, l⟩⟩⟩⟩ <;> simp at hl
    exact ⟨c0, c1, c2, rfl⟩
  simp at e0 e1 e2
  subst e0 e1 e2
  exact ⟨⟨n0, n1, n2⟩, rfl, f0, f1, f2⟩

theorem own_vectorIds : ownKnob Try.prog.godebug = none := by kernel_rfl
theorem laid_vectorIds : laidOutB Try.prog = true := by kernel_rfl
set_option maxHeartbeats 400000 in
set_option maxRecDepth 100000 in
theorem lifted_vectorIds (os : Os) (started : os.Started) (H : Type) (enc : TypeId × Value → H) :
    ReturnsInHanded {} Try.checked os 6 .any (Rows.vectorIdsSpec.pre6 enc Try.prog Try.f6 Rows.vectorIdsRow.domain false) (Rows.vectorIdsSpec.post enc Try.prog Try.f6 false true false false) := by
  refine returnsInHanded_of_change (C := Try.checked) own_vectorIds started (by kernel_rfl) Try.func6
    (ChangeSpec.witness6 (enc := enc) (C := Try.checked) false ⟨#[], #[vecV (fun _ => 0), .slice none 0 0], []⟩ 8 (by kernel_rfl) (by kernel_rfl) (by kernel_rfl) (by kernel_rfl)) ?_
  intro W base args ds gs before hval0 hW _ _
  have hval : ∀ (j : Nat) t v, Try.f6.params[j]? = some t → args[j]? = some v → Value.okWide Try.prog W .any base t v := hval0
  have hW' := hW
  obtain ⟨p, q, hA0, hV, hpq, _, _⟩ := hW
  have hA : DataW.TrodAll enc Try.prog W 0 (fun _ => true) true Try.f6.params.toList args.toList ds p := hA0
  rw [Try.params6] at hA hval
  obtain ⟨v0, vs0, d0, ds0, p0, q0, hargs, rfl, hp_, h0, r0⟩ := trodAll_cons hA
  obtain ⟨v1, vs1, d1, ds1, p1, q1, rfl, rfl, rfl, h1, r1⟩ := trodAll_cons r0
  obtain ⟨rfl, rfl, rfl⟩ := trodAll_nil r1
  obtain rfl : args = #[v0, v1] := by cases args; simp_all
  have hv0 : Value.okWide Try.prog W .any base 24 v0 := hval 0 24 v0 rfl rfl
  have hv1 : Value.okWide Try.prog W .any base 50 v1 := hval 1 50 v1 rfl rfl
  clear hval hval0 hA0
  obtain ⟨x, rfl, _, _, wa⟩ := open_vec hv0 h0
  obtain ⟨l, a, cap, rfl, he, _, hmax, hcap⟩ := open_rows (k := 3) Try.underlying50 flatId (by kernel_rfl) rfl encId wfId encId_len leaves_id hv1 h1 (by omega)
  have hcap' := slice_cap Try.underlying50 hv1
  refine (ids_any x wa.nn l a cap hcap'.1 hcap'.2 W he).mono fun e W' ⟨he, hb⟩ => ?_
  subst he
  exact ⟨_, rfl, post_true laid_vectorIds Try.underlying4 (by kernel_rfl) rfl (of_decide_eq_true (by kernel_rfl)) rfl rfl hW' hb⟩

/-- ████ THE STATEMENT ████ -/
theorem vectorIds_holds : Rows.VectorIdsSaid :=
  OpenClaim.holds_of_wide 6 Try.f6 rfl rfl rfl rfl rfl rfl rfl ⟨rfl, rfl, rfl, rfl, rfl⟩ rfl rfl rfl rfl rfl (by kernel_rfl) Try.func6 (by kernel_rfl)
    (of_decide_eq_true (by kernel_rfl)) (by unfold Func.isWrapper; first | (rw [if_pos (by decide +kernel)]; kernel_rfl) | (rw [if_neg (by decide +kernel)]; exact ⟨rfl, rfl⟩))
    (fun os started H enc _ => lifted_vectorIds os started H enc)
#print axioms vectorIds_holds
end Go.Proofs.Ytppaheekpmgifaa
