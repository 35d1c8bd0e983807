/- IdentTexts returns true at every input, and its arguments read as they did; the three tables of Go's library that it lists are tied to the program's text. Conditions: none. -/
import Derived.Test.YtppaheekpmgifaaDoorIdTab
import Derived.Test.YtppaheekpmgifaaDoorIdTx
namespace Go.Proofs.YtppaheekpmgifaaDoor
set_option linter.unusedSimpArgs false
set_option linter.unusedVariables false
open Go.ChangeShapes Go.WideShapes Go.ChangeAt Go.RowKit

theorem flatStr : flat Tryd.prog 5 9 = some [.string] := by kernel_rfl
theorem leaves_str (vs : List Value) (hl : vs.length = 1) (h : Leaves [.string] vs) : ∃ x : ByteArray, encS x = vs ∧ x.size ≤ maxLen := by
  obtain ⟨v0, e0, s, rfl, f0⟩ := h 0 _ rfl
  obtain ⟨c0, rfl⟩ : ∃ c0, vs = [c0] := by
    rcases vs with _ | ⟨c0, _ | ⟨c1, l⟩⟩ <;> simp at hl
    exact ⟨c0, rfl⟩
  simp at e0
  subst e0
  exact ⟨s, rfl, f0⟩

theorem own_identTexts : ownKnob Tryd.prog.godebug = none := by kernel_rfl
theorem laid_identTexts : laidOutB Tryd.prog = true := by kernel_rfl
set_option maxHeartbeats 400000 in
set_option maxRecDepth 100000 in
theorem lifted_identTexts (os : Os) (started : os.Started) (H : Type) (enc : TypeId × Value → H) :
    ReturnsInHanded {} Tryd.checked os 3 .any (fun w args => (Rows.identTextsSpec.pre enc Tryd.prog Tryd.f3 [] false w args ∧ laidMetH Tryd.prog laid3 w) ∧ sizedMet enc Tryd.prog Tryd.f3 (OpenSpec.ofChange Rows.identTextsSpec) false w args) (Rows.identTextsSpec.post enc Tryd.prog Tryd.f3 false true false false) := by
  refine returnsInHanded_of_change_and (C := Tryd.checked) (X := fun w _ => laidMetH Tryd.prog laid3 w) (fun _ _ _ hh h => h.of_heap hh) own_identTexts started (by kernel_rfl) Tryd.func3
    (ChangeSpec.witness_shaped (enc := enc) (C := Tryd.checked) (os := os) (X := fun w _ => laidMetH Tryd.prog laid3 w) false (World.doorLaid Tryd.prog 400 os) #[.slice none 0 0, .slice none 0 0] 8 rfl (World.shaped_of_RefB (by kernel_rfl) (by kernel_rfl)) (by kernel_rfl) (by kernel_rfl) (by kernel_rfl) (door_met os _)) ?_
  intro W base args ds gs before hval0 hW _ _ hL _
  have hval : ∀ (j : Nat) t v, Tryd.f3.params[j]? = some t → args[j]? = some v → Value.okWide Tryd.prog W .any base t v := hval0
  have hW' := hW
  obtain ⟨p, q, hA0, hV, hpq, _, _⟩ := hW
  have hA : DataW.TrodAll enc Tryd.prog W 0 (fun _ => true) true Tryd.f3.params.toList args.toList ds p := hA0
  rw [Tryd.params3] at hA hval
  obtain ⟨v0, vs0, d0, ds0, p0, q0, hargs, rfl, hp_, h0, r0⟩ := trodAll_cons hA
  obtain ⟨v1, vs1, d1, ds1, p1, q1, rfl, rfl, rfl, h1, r1⟩ := trodAll_cons r0
  obtain ⟨rfl, rfl, rfl⟩ := trodAll_nil r1
  obtain rfl : args = #[v0, v1] := by cases args; simp_all
  have hv0 : Value.okWide Tryd.prog W .any base 22 v0 := hval 0 22 v0 rfl rfl
  have hv1 : Value.okWide Tryd.prog W .any base 23 v1 := hval 1 23 v1 rfl rfl
  clear hval hval0 hA0
  have ht := tab_of_laid hL
  obtain ⟨l, a, cap, rfl, he, hg, hmax, _⟩ := open_rows (k := 3) Tryd.underlying22 flatId (by kernel_rfl) rfl encId wfId encId_len leaves_id hv0 h0 (by omega)
  obtain ⟨T, b, cap2, rfl, he2, hg2, hmax2, _⟩ := open_rows (k := 1) Tryd.underlying23 flatStr (by kernel_rfl) rfl encS (fun s => s.size ≤ maxLen) encS_len leaves_str hv1 h1 (by omega)
  refine (identTexts_any l (fun x hx => fits_of_wf (hg x hx)) a cap T b cap2 hg2 hmax hmax2 W ht he he2).mono fun e W' ⟨he, hb⟩ => ?_
  subst he
  exact ⟨_, rfl, post_true laid_identTexts Tryd.underlying4 (by kernel_rfl) rfl (of_decide_eq_true (by kernel_rfl)) rfl rfl hW' hb⟩

/-- ████ THE STATEMENT ████ -/
theorem identTexts_row : Rows.IdentTextsSaid :=
  OpenClaim.holds_of_wide 3 Tryd.f3 rfl rfl rfl rfl rfl rfl rfl ⟨rfl, rfl, rfl, rfl, rfl⟩ rfl rfl rfl rfl rfl (by kernel_rfl) Tryd.func3 (by kernel_rfl)
    (of_decide_eq_true (by kernel_rfl)) (by unfold Func.isWrapper; first | (rw [if_pos (by decide +kernel)]; kernel_rfl) | (rw [if_neg (by decide +kernel)]; exact ⟨rfl, rfl⟩))
    (fun os started H enc _ => lifted_identTexts os started H enc)
#print axioms identTexts_row

/-- ████ THE TIED CARD ████ -/
theorem identTexts_holds : Rows.IdentTextsCardSaid :=
  Claim7.holds_tied_plain_at .later [] [.data, .data, .data] true (true, "c6b3f50464cea2d4de8bd2c9b1f096622e27c45d04ceeef99186e53cbfffbeff") true
    identTexts_row (fun _ h => by cases h) (by kernel_rfl) (fun _ h => by cases h) identTexts_row_tie rfl ⟨rfl, rfl⟩ (by kernel_rfl) rfl
    (fun f fn hf hfn => by
      obtain rfl : f = 3 := Option.some.inj ((show Tryd.prog.funcNamed "gesso/gessolaw11.IdentTexts" = some 3 by kernel_rfl).symm.trans hf) |>.symm
      obtain rfl : fn = Tryd.f3 := (Option.some.inj (Tryd.func3.symm.trans hfn)).symm
      have hs : (Tryd.f3.params.toList.all fun t => Tryd.prog.wantsStandIn t == false) = true := by kernel_rfl
      exact ⟨by kernel_rfl, fun j t ht => beq_iff_eq.1 (List.all_eq_true.1 hs t (List.mem_of_getElem? (i := j) (by simpa using ht)))⟩)
    (by kernel_rfl)
#print axioms identTexts_holds
end Go.Proofs.YtppaheekpmgifaaDoor
