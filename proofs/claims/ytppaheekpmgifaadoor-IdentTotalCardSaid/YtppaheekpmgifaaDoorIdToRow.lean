/- IdentTotal returns true at every input, and its arguments read as they did; the three tables of Go's library that it lists are tied to the program's text. Conditions: none. -/
import Derived.Test.YtppaheekpmgifaaDoorIdTab
import Derived.Test.YtppaheekpmgifaaDoorIdTo
namespace Go.Proofs.YtppaheekpmgifaaDoor
set_option linter.unusedSimpArgs false
set_option linter.unusedVariables false
open Go.ChangeShapes Go.WideShapes Go.ChangeAt Go.RowKit

theorem own_identTotal : ownKnob Tryd.prog.godebug = none := by kernel_rfl
theorem laid_identTotal : laidOutB Tryd.prog = true := by kernel_rfl
set_option maxHeartbeats 400000 in
set_option maxRecDepth 100000 in
theorem lifted_identTotal (os : Os) (started : os.Started) (H : Type) (enc : TypeId × Value → H) :
    ReturnsInHanded {} Tryd.checked os 8 .any (fun w args => (Rows.identTotalSpec.pre enc Tryd.prog Tryd.f8 [] false w args ∧ laidMetH Tryd.prog laid3 w) ∧ sizedMet enc Tryd.prog Tryd.f8 (OpenSpec.ofChange Rows.identTotalSpec) false w args) (Rows.identTotalSpec.post enc Tryd.prog Tryd.f8 false true false false) := by
  refine returnsInHanded_of_change_and (C := Tryd.checked) (X := fun w _ => laidMetH Tryd.prog laid3 w) (fun _ _ _ hh h => h.of_heap hh) own_identTotal started (by kernel_rfl) Tryd.func8
    (ChangeSpec.witness_shaped (enc := enc) (C := Tryd.checked) (os := os) (X := fun w _ => laidMetH Tryd.prog laid3 w) false (World.doorLaid Tryd.prog 400 os) #[(IdT.mk 0 0 0).val, (IdT.mk 0 0 0).val, (IdT.mk 0 0 0).val] 8 rfl (World.shaped_of_RefB (by kernel_rfl) (by kernel_rfl)) (by kernel_rfl) (by kernel_rfl) (by kernel_rfl) (door_met os _)) ?_
  intro W base args ds gs before hval0 hW _ _ hL _
  have hval : ∀ (j : Nat) t v, Tryd.f8.params[j]? = some t → args[j]? = some v → Value.okWide Tryd.prog W .any base t v := hval0
  have hW' := hW
  obtain ⟨p, q, hA0, hV, hpq, _, _⟩ := hW
  have hA : DataW.TrodAll enc Tryd.prog W 0 (fun _ => true) true Tryd.f8.params.toList args.toList ds p := hA0
  rw [Tryd.params8] at hA hval
  obtain ⟨v0, vs0, d0, ds0, p0, q0, hargs, rfl, hp_, h0, r0⟩ := trodAll_cons hA
  obtain ⟨v1, vs1, d1, ds1, p1, q1, rfl, rfl, rfl, h1, r1⟩ := trodAll_cons r0
  obtain ⟨v2, vs2, d2, ds2, p2, q2, rfl, rfl, rfl, h2, r2⟩ := trodAll_cons r1
  obtain ⟨rfl, rfl, rfl⟩ := trodAll_nil r2
  obtain rfl : args = #[v0, v1, v2] := by cases args; simp_all
  have hv0 : Value.okWide Tryd.prog W .any base 27 v0 := hval 0 27 v0 rfl rfl
  have hv1 : Value.okWide Tryd.prog W .any base 27 v1 := hval 1 27 v1 rfl rfl
  have hv2 : Value.okWide Tryd.prog W .any base 27 v2 := hval 2 27 v2 rfl rfl
  clear hval hval0 hA0
  have ht := tab_of_laid hL
  obtain ⟨x, rfl, wx⟩ := open_one Tryd.underlying27 flatId (by kernel_rfl) encId wfId leaves_id hv0 h0
  obtain ⟨y, rfl, wy⟩ := open_one Tryd.underlying27 flatId (by kernel_rfl) encId wfId leaves_id hv1 h1
  obtain ⟨z, rfl, wz⟩ := open_one Tryd.underlying27 flatId (by kernel_rfl) encId wfId leaves_id hv2 h2
  refine (identTotal_any x y z W ht).mono fun e W' ⟨he, hb⟩ => ?_
  subst he
  exact ⟨_, rfl, post_true laid_identTotal Tryd.underlying4 (by kernel_rfl) rfl (of_decide_eq_true (by kernel_rfl)) rfl rfl hW' hb⟩

/-- ████ THE STATEMENT ████ -/
theorem identTotal_row : Rows.IdentTotalSaid :=
  OpenClaim.holds_of_wide 8 Tryd.f8 rfl rfl rfl rfl rfl rfl rfl ⟨rfl, rfl, rfl, rfl, rfl⟩ rfl rfl rfl rfl rfl (by kernel_rfl) Tryd.func8 (by kernel_rfl)
    (of_decide_eq_true (by kernel_rfl)) (by unfold Func.isWrapper; first | (rw [if_pos (by decide +kernel)]; kernel_rfl) | (rw [if_neg (by decide +kernel)]; exact ⟨rfl, rfl⟩))
    (fun os started H enc _ => lifted_identTotal os started H enc)
#print axioms identTotal_row

/-- ████ THE TIED CARD ████ -/
theorem identTotal_holds : Rows.IdentTotalCardSaid :=
  Claim7.holds_tied_plain_at .later [] [.data, .data, .data] true (true, "c6b3f50464cea2d4de8bd2c9b1f096622e27c45d04ceeef99186e53cbfffbeff") true
    identTotal_row (fun _ h => by cases h) (by kernel_rfl) (fun _ h => by cases h) identTotal_row_tie rfl ⟨rfl, rfl⟩ (by kernel_rfl) rfl
    (fun f fn hf hfn => by
      obtain rfl : f = 8 := Option.some.inj ((show Tryd.prog.funcNamed "gesso/gessolaw11.IdentTotal" = some 8 by kernel_rfl).symm.trans hf) |>.symm
      obtain rfl : fn = Tryd.f8 := (Option.some.inj (Tryd.func8.symm.trans hfn)).symm
      have hs : (Tryd.f8.params.toList.all fun t => Tryd.prog.wantsStandIn t == false) = true := by kernel_rfl
      exact ⟨by kernel_rfl, fun j t ht => beq_iff_eq.1 (List.all_eq_true.1 hs t (List.mem_of_getElem? (i := j) (by simpa using ht)))⟩)
    (by kernel_rfl)
#print axioms identTotal_holds
end Go.Proofs.YtppaheekpmgifaaDoor
