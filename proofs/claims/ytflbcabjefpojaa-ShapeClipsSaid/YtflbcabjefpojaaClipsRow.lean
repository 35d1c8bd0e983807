/- ShapeClips returns true at every input, and its arguments read as they did. Conditions: none. -/
import Derived.Test.YtflbcabjefpojaaRowG
import Derived.Test.YtflbcabjefpojaaClips
namespace Go.Proofs.Ytflbcabjefpojaa
set_option linter.unusedSimpArgs false
set_option linter.unusedVariables false
open Go.ChangeShapes Go.WideShapes Go.ChangeAt Go.RowKit
section
variable {H : Type} {P : Program} {w : World} {enc : H → DataW H → List MemPlace → Prop} {base : Nat}
end
theorem flatS : flat Try.prog 5 39 = some (List.replicate 3 (.int .i64)) := by kernel_rfl
theorem flatBx2 : flat Try.prog 5 44 = some (List.replicate 8 (.int .i64)) := by kernel_rfl
theorem flatBr : flat Try.prog 5 24 = some [.int .i64, .bool] := by kernel_rfl
theorem leaves_span (vs : List Value) (hl : vs.length = 3) (h : Leaves (List.replicate 3 (.int .i64)) vs) : ∃ x, encS x = vs ∧ True := by
  obtain ⟨v0, e0, n0, rfl, -⟩ := h 0 (.int .i64) rfl
  obtain ⟨v1, e1, n1, rfl, -⟩ := h 1 (.int .i64) rfl
  obtain ⟨v2, e2, n2, rfl, -⟩ := h 2 (.int .i64) rfl
  obtain ⟨c0, c1, c2, rfl⟩ : ∃ c0 c1 c2, vs = [c0, c1, c2] := by
    rcases vs with _ | ⟨c0, _ | ⟨c1, _ | ⟨c2, _ | ⟨c3, l⟩⟩⟩⟩ <;> simp at hl
    exact ⟨c0, c1, c2, rfl⟩
  simp at e0 e1 e2
  subst e0 e1 e2
  exact ⟨⟨n0, n1, n2⟩, rfl, trivial⟩

theorem leaves8 (vs : List Value) (hl : vs.length = 8) (h : Leaves (List.replicate 8 (.int .i64)) vs) : ∃ a b c d e f g k : Int, vs = [.int .i64 a, .int .i64 b, .int .i64 c, .int .i64 d, .int .i64 e, .int .i64 f, .int .i64 g, .int .i64 k] := by
  have key : ∀ k, k < 8 → ∃ n, vs[k]? = some (.int .i64 n) := by
    intro k hk
    obtain ⟨v, hv, n, rfl, hw⟩ := h k (.int .i64) (by rw [List.getElem?_replicate, if_pos hk])
    exact ⟨n, hv⟩
  obtain ⟨n0, e0⟩ := key 0 (by omega)
  obtain ⟨n1, e1⟩ := key 1 (by omega)
  obtain ⟨n2, e2⟩ := key 2 (by omega)
  obtain ⟨n3, e3⟩ := key 3 (by omega)
  obtain ⟨n4, e4⟩ := key 4 (by omega)
  obtain ⟨n5, e5⟩ := key 5 (by omega)
  obtain ⟨n6, e6⟩ := key 6 (by omega)
  obtain ⟨n7, e7⟩ := key 7 (by omega)
  refine ⟨n0, n1, n2, n3, n4, n5, n6, n7, List.ext_getElem? fun i => ?_⟩
  rcases i with _ | _ | _ | _ | _ | _ | _ | _ | i <;> first | assumption | (rw [List.getElem?_eq_none (by omega)]; simp)
theorem leavesBr (vs : List Value) (hl : vs.length = 2) (h : Leaves [.int .i64, .bool] vs) : ∃ (n : Int) (b : Bool), vs = [.int .i64 n, .bool b] := by
  obtain ⟨v0, e0, n, rfl, -⟩ := h 0 (.int .i64) rfl
  obtain ⟨v1, e1, b, rfl⟩ := h 1 .bool rfl
  refine ⟨n, b, List.ext_getElem? fun i => ?_⟩
  rcases i with _ | _ | i <;> first | assumption | (rw [List.getElem?_eq_none (by omega)]; simp)

theorem own_shapeClips : ownKnob Try.prog.godebug = none := by kernel_rfl
theorem laid_shapeClips : laidOutB Try.prog = true := by kernel_rfl
set_option maxHeartbeats 400000 in
set_option maxRecDepth 100000 in
theorem lifted_shapeClips (os : Os) (started : os.Started) (H : Type) (enc : TypeId × Value → H) :
    ReturnsInHanded {} Try.checked os 4 .any (Rows.shapeClipsSpec.pre6 enc Try.prog Try.f4 Rows.shapeClipsRow.domain false) (Rows.shapeClipsSpec.post enc Try.prog Try.f4 false true false false) := by
  refine returnsInHanded_of_change (C := Try.checked) own_shapeClips started (by kernel_rfl) Try.func4
    (ChangeSpec.witness6 (enc := enc) (C := Try.checked) false ⟨#[], #[.slice none 0 0, .agg #[.int .i64 0, .int .i64 0, .int .i64 0, .int .i64 0, .int .i64 0, .int .i64 0, .int .i64 0, .int .i64 0], .agg #[.int .i64 0, .bool false]], []⟩ 8 (by kernel_rfl) (by kernel_rfl) (by kernel_rfl) (by kernel_rfl)) ?_
  intro W base args ds gs before hval0 hW _ _
  have hval : ∀ (j : Nat) t v, Try.f4.params[j]? = some t → args[j]? = some v → Value.okWide Try.prog W .any base t v := hval0
  have hW' := hW
  obtain ⟨p, q, hA0, hV, hpq, _, _⟩ := hW
  have hA : DataW.TrodAll enc Try.prog W 0 (fun _ => true) true Try.f4.params.toList args.toList ds p := hA0
  rw [Try.params4] at hA hval
  obtain ⟨v0, vs0, d0, ds0, p0, q0, hargs, rfl, hp_, h0, r0⟩ := trodAll_cons hA
  obtain ⟨v1, vs1, d1, ds1, p1, q1, rfl, rfl, rfl, h1, r1⟩ := trodAll_cons r0
  obtain ⟨v2, vs2, d2, ds2, p2, q2, rfl, rfl, rfl, h2, r2⟩ := trodAll_cons r1
  obtain ⟨rfl, rfl, rfl⟩ := trodAll_nil r2
  obtain rfl : args = #[v0, v1, v2] := by cases args; simp_all
  have hv0 : Value.okWide Try.prog W .any base 29 v0 := hval 0 29 v0 rfl rfl
  have hv1 : Value.okWide Try.prog W .any base 44 v1 := hval 1 44 v1 rfl rfl
  have hv2 : Value.okWide Try.prog W .any base 24 v2 := hval 2 24 v2 rfl rfl
  clear hval hval0 hA0
  obtain ⟨l, a, cap, rfl, he, _, hmax, hcap⟩ := open_rows (k := 3) Try.underlying29 flatS (by kernel_rfl) rfl encS (fun _ => True) encS_len leaves_span hv0 h0 (by omega)
  have hcap' := slice_cap Try.underlying29 hv0
  obtain ⟨f1, h1⟩ := h1
  obtain ⟨f2, h2⟩ := h2
  have q1 := open_flat _ _ _ _ _ _ flatBx2 h1
  have q2 := open_flat _ _ _ _ _ _ flatBr h2
  obtain ⟨⟨cs1⟩, rfl, hz1, -⟩ : ∃ cs, v1 = .agg cs ∧ cs.size = Try.prog.cellsOf 44 ∧ Row.okWide Try.prog W Reach.any base 44 cs := by simpa [Value.okWide, Try.underlying44] using hv1
  obtain ⟨⟨cs2⟩, rfl, hz2, -⟩ : ∃ cs, v2 = .agg cs ∧ cs.size = Try.prog.cellsOf 24 ∧ Row.okWide Try.prog W Reach.any base 24 cs := by simpa [Value.okWide, Try.underlying24] using hv2
  rw [show Try.prog.cellsOf 44 = 8 by kernel_rfl] at hz1
  rw [show Try.prog.cellsOf 24 = 2 by kernel_rfl] at hz2
  obtain ⟨b0, b1, b2, b3, b4, b5, b6, b7, rfl⟩ := leaves8 cs1 (by simpa using hz1) q1.2
  obtain ⟨size, round, rfl⟩ := leavesBr cs2 (by simpa using hz2) q2.2
  refine (clips_any a l.length cap l rfl hcap'.1 hcap'.2 ⟨b0, b1, b2, b3⟩ ⟨b4, b5, b6, b7⟩ size round W he).mono fun e W' ⟨he, hb⟩ => ?_
  subst he
  exact ⟨_, rfl, post_true laid_shapeClips Try.underlying4 (by kernel_rfl) rfl (of_decide_eq_true (by kernel_rfl)) rfl rfl hW' hb⟩

/-- ████ THE STATEMENT ████ -/
theorem shapeClips_holds : Rows.ShapeClipsSaid :=
  OpenClaim.holds_of_wide 4 Try.f4 rfl rfl rfl rfl rfl rfl rfl ⟨rfl, rfl, rfl, rfl, rfl⟩ rfl rfl rfl rfl rfl (by kernel_rfl) Try.func4 (by kernel_rfl)
    (of_decide_eq_true (by kernel_rfl)) (by unfold Func.isWrapper; first | (rw [if_pos (by decide +kernel)]; kernel_rfl) | (rw [if_neg (by decide +kernel)]; exact ⟨rfl, rfl⟩))
    (fun os started H enc _ => lifted_shapeClips os started H enc)
#print axioms shapeClips_holds
end Go.Proofs.Ytflbcabjefpojaa
