import Derived.Test.YtgdcfkbimkclaaaGreatDoorM19
import Derived.Test.YtgdcfkbimkclaaaGreatDoorM20
set_option linter.unusedSimpArgs false
set_option linter.unusedVariables false
/- OpPlain returns true at every input, and its argument reads as it did; the one variable that it lists is tied to the program's text. Conditions: none. -/
namespace Go.Proofs.YtgdcfkbimkclaaaGreatDoor
open Go.ChangeShapes Go.WideShapes Go.ChangeAt Go.RowKit
theorem own_opPlain : ownKnob Tryz.prog.godebug = none := by kernel_rfl
theorem laid_opPlain : laidOutB Tryz.prog = true := by kernel_rfl
set_option maxHeartbeats 400000 in
set_option maxRecDepth 100000 in
theorem lifted_opPlain (os : Os) (started : os.Started) (H : Type) (enc : TypeId × Value → H) :
 ReturnsInHanded {} Tryz.checked os 4 .any (fun w args => (Rows.opPlainSpec.pre enc Tryz.prog Tryz.f4 [] false w args ∧ laidMetH Tryz.prog laid3 w) ∧ sizedMet enc Tryz.prog Tryz.f4 (OpenSpec.ofChange Rows.opPlainSpec) false w args) (Rows.opPlainSpec.post enc Tryz.prog Tryz.f4 false true false false) := by
 refine returnsInHanded_of_change_and (C := Tryz.checked) (X := fun w _ => laidMetH Tryz.prog laid3 w) (fun _ _ _ hh h => h.of_heap hh) own_opPlain started (by kernel_rfl) Tryz.func4
  (ChangeSpec.witness_shaped (enc := enc) (C := Tryz.checked) (os := os) (X := fun w _ => laidMetH Tryz.prog laid3 w) false (World.doorLaid Tryz.prog 400 os) #[.agg (opZ)] 8 rfl (World.shaped_of_RefB (by kernel_rfl) (by kernel_rfl)) (by kernel_rfl) (by kernel_rfl) (by kernel_rfl) (door_met os _)) ?_
 intro W base args ds gs before hval0 hW _ _ hL _
 have hval : ∀ (j : Nat) t v, Tryz.f4.params[j]? = some t → args[j]? = some v → Value.okWide Tryz.prog W .any base t v := hval0
 have hW' := hW
 obtain ⟨p, q, hA0, hV, hpq, _, _⟩ := hW
 have hA : DataW.TrodAll enc Tryz.prog W 0 (fun _ => true) true Tryz.f4.params.toList args.toList ds p := hA0
 rw [Tryz.params4] at hA hval
 obtain ⟨v0, vs0, d0, ds0, p0, q0, hargs, rfl, hp_, h0, r0⟩ := trodAll_cons hA
 obtain ⟨rfl, rfl, rfl⟩ := trodAll_nil r0
 obtain rfl : args = #[v0] := by cases args; simp_all
 have hv0 : Value.okWide Tryz.prog W .any base 31 v0 := hval 0 31 v0 rfl rfl
 clear hval hval0 hA0
 have hr := red_of_laid hL
 obtain ⟨o, a, cap, rfl, hp, -, -, hmax⟩ := open_op hv0 h0
 refine (opPlainLaw_any o _ hmax W hr hp).mono fun e W' ⟨he, hb⟩ => ?_
 subst he
 exact ⟨_, rfl, post_true laid_opPlain Tryz.underlying4 (by kernel_rfl) rfl (of_decide_eq_true (by kernel_rfl)) rfl rfl hW' hb⟩
/-- ████ THE STATEMENT ████ -/
theorem opPlain_row : Rows.OpPlainSaid :=
 OpenClaim.holds_of_wide 4 Tryz.f4 rfl rfl rfl rfl rfl rfl rfl ⟨rfl, rfl, rfl, rfl, rfl⟩ rfl rfl rfl rfl rfl (by kernel_rfl) Tryz.func4 (by kernel_rfl)
  (of_decide_eq_true (by kernel_rfl)) (by unfold Func.isWrapper; first | (rw [if_pos (by decide +kernel)]; kernel_rfl) | (rw [if_neg (by decide +kernel)]; exact ⟨rfl, rfl⟩))
  (fun os started H enc _ => lifted_opPlain os started H enc)
#print axioms opPlain_row
/-- ████ THE TIED CARD ████ -/
theorem opPlain_holds : Rows.OpPlainCardSaid :=
 Claim7.holds_tied_plain_at .later [] [.data] true (true, "c45362f697e38b5cb3f75a6e4c3a141acf65a04172d7361f71d91fc2b30bff55") true
  opPlain_row (fun _ h => by cases h) (by kernel_rfl) (fun _ h => by cases h) opPlain_row_tie rfl ⟨rfl, rfl⟩ (by kernel_rfl) rfl
  (fun f fn hf hfn => by
   obtain rfl : f = 4 := Option.some.inj ((show Tryz.prog.funcNamed "gesso/gessolaw12.OpPlain" = some 4 by kernel_rfl).symm.trans hf) |>.symm
   obtain rfl : fn = Tryz.f4 := (Option.some.inj (Tryz.func4.symm.trans hfn)).symm
   have hs : (Tryz.f4.params.toList.all fun t => Tryz.prog.wantsStandIn t == false) = true := by kernel_rfl
   exact ⟨by kernel_rfl, fun j t ht => beq_iff_eq.1 (List.all_eq_true.1 hs t (List.mem_of_getElem? (i := j) (by simpa using ht)))⟩)
  (by kernel_rfl)
#print axioms opPlain_holds
end Go.Proofs.YtgdcfkbimkclaaaGreatDoor
