/- IdentGives returns true at every input, and its argument reads as it did; the three tables of Go's library that it lists are tied to the program's text. Conditions: none. -/
import Derived.Test.YtppaheekpmgifaaDoorIdTab
import Derived.Test.YtppaheekpmgifaaDoorIdGv
namespace Go.Proofs.YtppaheekpmgifaaDoor
set_option linter.unusedSimpArgs false
set_option linter.unusedVariables false
open Go.ChangeShapes Go.WideShapes Go.ChangeAt Go.RowKit

theorem flatTurn : flat Tryd.prog 5 61 = some [.int .i64, .bool, .int .u64] := by kernel_rfl
theorem leaves_turn (vs : List Value) (hl : vs.length = 3) (h : Leaves [.int .i64, .bool, .int .u64] vs) : ∃ x, encT x = vs ∧ ((-9223372036854775808 ≤ x.site ∧ x.site ≤ 9223372036854775807) ∧ (0 ≤ x.time ∧ x.time < 18446744073709551616)) := by
  obtain ⟨v0, e0, n0, rfl, f0⟩ := h 0 _ rfl
  obtain ⟨v1, e1, n1, rfl⟩ := h 1 _ rfl
  obtain ⟨v2, e2, n2, rfl, f2⟩ := h 2 _ rfl
  obtain ⟨c0, c1, c2, rfl⟩ : ∃ c0 c1 c2, vs = [c0, c1, c2] := by
    rcases vs with _ | ⟨c0, _ | ⟨c1, _ | ⟨c2, _ | ⟨c3, l⟩⟩⟩⟩ <;> simp at hl
    exact ⟨c0, c1, c2, rfl⟩
  simp at e0 e1 e2
  subst e0 e1 e2
  have a2 := bounds_u64 f2
  have a0 : (-9223372036854775808 ≤ n0) ∧ n0 ≤ 9223372036854775807 := by
    have := f0
    simp only [Lit.wf, Bool.and_eq_true, decide_eq_true_eq] at this
    exact this
  refine ⟨⟨n0, n1, n2⟩, rfl, a0, a2.1, ?_⟩
  have := a2.2; show n2 < _; omega

theorem own_identGives : ownKnob Tryd.prog.godebug = none := by kernel_rfl
theorem laid_identGives : laidOutB Tryd.prog = true := by kernel_rfl
set_option maxHeartbeats 400000 in
set_option maxRecDepth 100000 in
theorem lifted_identGives (os : Os) (started : os.Started) (H : Type) (enc : TypeId × Value → H) :
    ReturnsInHanded {} Tryd.checked os 6 .any (fun w args => (Rows.identGivesSpec.pre enc Tryd.prog Tryd.f6 [] false w args ∧ laidMetH Tryd.prog laid3 w) ∧ sizedMet enc Tryd.prog Tryd.f6 (OpenSpec.ofChange Rows.identGivesSpec) false w args) (Rows.identGivesSpec.post enc Tryd.prog Tryd.f6 false true false false) := by
  refine returnsInHanded_of_change_and (C := Tryd.checked) (X := fun w _ => laidMetH Tryd.prog laid3 w) (fun _ _ _ hh h => h.of_heap hh) own_identGives started (by kernel_rfl) Tryd.func6
    (ChangeSpec.witness_shaped (enc := enc) (C := Tryd.checked) (os := os) (X := fun w _ => laidMetH Tryd.prog laid3 w) false (World.doorLaid Tryd.prog 400 os) #[.slice none 0 0] 8 rfl (World.shaped_of_RefB (by kernel_rfl) (by kernel_rfl)) (by kernel_rfl) (by kernel_rfl) (by kernel_rfl) (door_met os _)) ?_
  intro W base args ds gs before hval0 hW _ _ hL _
  have hval : ∀ (j : Nat) t v, Tryd.f6.params[j]? = some t → args[j]? = some v → Value.okWide Tryd.prog W .any base t v := hval0
  have hW' := hW
  obtain ⟨p, q, hA0, hV, hpq, _, _⟩ := hW
  have hA : DataW.TrodAll enc Tryd.prog W 0 (fun _ => true) true Tryd.f6.params.toList args.toList ds p := hA0
  rw [Tryd.params6] at hA hval
  obtain ⟨v0, vs0, d0, ds0, p0, q0, hargs, rfl, hp_, h0, r0⟩ := trodAll_cons hA
  obtain ⟨rfl, rfl, rfl⟩ := trodAll_nil r0
  obtain rfl : args = #[v0] := by cases args; simp_all
  have hv0 : Value.okWide Tryd.prog W .any base 56 v0 := hval 0 56 v0 rfl rfl
  clear hval hval0 hA0
  have ht := tab_of_laid hL
  obtain ⟨l, a, cap, rfl, he, hg, hmax, _⟩ := open_rows (k := 3) Tryd.underlying56 flatTurn (by kernel_rfl) rfl encT (fun x => (-9223372036854775808 ≤ x.site ∧ x.site ≤ 9223372036854775807) ∧ (0 ≤ x.time ∧ x.time < 18446744073709551616)) encT_len leaves_turn hv0 h0 (by omega)
  refine (identGives_any l hg a cap hmax W ht he).mono fun e W' ⟨he, hb⟩ => ?_
  subst he
  exact ⟨_, rfl, post_true laid_identGives Tryd.underlying4 (by kernel_rfl) rfl (of_decide_eq_true (by kernel_rfl)) rfl rfl hW' hb⟩

/-- ████ THE STATEMENT ████ -/
theorem identGives_row : Rows.IdentGivesSaid :=
  OpenClaim.holds_of_wide 6 Tryd.f6 rfl rfl rfl rfl rfl rfl rfl ⟨rfl, rfl, rfl, rfl, rfl⟩ rfl rfl rfl rfl rfl (by kernel_rfl) Tryd.func6 (by kernel_rfl)
    (of_decide_eq_true (by kernel_rfl)) (by unfold Func.isWrapper; first | (rw [if_pos (by decide +kernel)]; kernel_rfl) | (rw [if_neg (by decide +kernel)]; exact ⟨rfl, rfl⟩))
    (fun os started H enc _ => lifted_identGives os started H enc)
#print axioms identGives_row

/-- ████ THE TIED CARD ████ -/
theorem identGives_holds : Rows.IdentGivesCardSaid :=
  Claim7.holds_tied_plain_at .later [] [.data, .data, .data] true (true, "c6b3f50464cea2d4de8bd2c9b1f096622e27c45d04ceeef99186e53cbfffbeff") true
    identGives_row (fun _ h => by cases h) (by kernel_rfl) (fun _ h => by cases h) identGives_row_tie rfl ⟨rfl, rfl⟩ (by kernel_rfl) rfl
    (fun f fn hf hfn => by
      obtain rfl : f = 6 := Option.some.inj ((show Tryd.prog.funcNamed "gesso/gessolaw11.IdentGives" = some 6 by kernel_rfl).symm.trans hf) |>.symm
      obtain rfl : fn = Tryd.f6 := (Option.some.inj (Tryd.func6.symm.trans hfn)).symm
      have hs : (Tryd.f6.params.toList.all fun t => Tryd.prog.wantsStandIn t == false) = true := by kernel_rfl
      exact ⟨by kernel_rfl, fun j t ht => beq_iff_eq.1 (List.all_eq_true.1 hs t (List.mem_of_getElem? (i := j) (by simpa using ht)))⟩)
    (by kernel_rfl)
#print axioms identGives_holds
end Go.Proofs.YtppaheekpmgifaaDoor
