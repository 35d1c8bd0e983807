import Derived.Test.YthcdkkmjnglmjaaGreatDoorM20
import Derived.Test.YthcdkkmjnglmjaaGreatDoorM23
set_option linter.unusedSimpArgs false
set_option linter.unusedVariables false
/- DrawStrokes returns true at every input, and its arguments read as they did; the one variable that it lists is tied to the program's text. Conditions: none. -/
namespace Go.Proofs.YthcdkkmjnglmjaaGreatDoor
open Go.ChangeShapes Go.WideShapes Go.ChangeAt Go.RowKit
theorem flatPt4 : flat Tryz.prog 5 26 = some (List.replicate 2 (.int .i64)) := by kernel_rfl
theorem own_drawStrokes : ownKnob Tryz.prog.godebug = none := by kernel_rfl
theorem laid_drawStrokes : laidOutB Tryz.prog = true := by kernel_rfl
set_option maxHeartbeats 400000 in
set_option maxRecDepth 100000 in
theorem lifted_drawStrokes (os : Os) (started : os.Started) (H : Type) (enc : TypeId × Value → H) :
 ReturnsInHanded {} Tryz.checked os 4 .any (fun w args => (Rows.drawStrokesSpec.pre enc Tryz.prog Tryz.f4 [] false w args ∧ laidMetH Tryz.prog laid3 w) ∧ sizedMet enc Tryz.prog Tryz.f4 (OpenSpec.ofChange Rows.drawStrokesSpec) false w args) (Rows.drawStrokesSpec.post enc Tryz.prog Tryz.f4 false true false false) := by
 refine returnsInHanded_of_change_and (C := Tryz.checked) (X := fun w _ => laidMetH Tryz.prog laid3 w) (fun _ _ _ hh h => h.of_heap hh) own_drawStrokes started (by kernel_rfl) Tryz.func4
  (ChangeSpec.witness_shaped (enc := enc) (C := Tryz.checked) (os := os) (X := fun w _ => laidMetH Tryz.prog laid3 w) false (World.doorLaid Tryz.prog 400 os) #[.agg #[.int .i64 0, .int .i64 0, .slice none 0 0], .agg #[.int .u8 0, .int .u8 0, .int .u8 0, .int .u8 0, .int .i64 0, .bool false], .slice none 0 0] 8 rfl (World.shaped_of_RefB (by kernel_rfl) (by kernel_rfl)) (by kernel_rfl) (by kernel_rfl) (by kernel_rfl) (door_met os _)) ?_
 intro W base args ds gs before hval0 hW _ _ hL _
 have hval : ∀ (j : Nat) t v, Tryz.f4.params[j]? = some t → args[j]? = some v → Value.okWide Tryz.prog W .any base t v := hval0
 have hW' := hW
 obtain ⟨p, q, hA0, hV, hpq, _, _⟩ := hW
 have hA : DataW.TrodAll enc Tryz.prog W 0 (fun _ => true) true Tryz.f4.params.toList args.toList ds p := hA0
 rw [Tryz.params4] at hA hval
 obtain ⟨v0, vs0, d0, ds0, p0, q0, hargs, rfl, hp_, h0, r0⟩ := trodAll_cons hA
 obtain ⟨v1, vs1, d1, ds1, p1, q1, rfl, rfl, rfl, h1, r1⟩ := trodAll_cons r0
 obtain ⟨v2, vs2, d2, ds2, p2, q2, rfl, rfl, rfl, h2, r2⟩ := trodAll_cons r1
 obtain ⟨rfl, rfl, rfl⟩ := trodAll_nil r2
 obtain rfl : args = #[v0, v1, v2] := by cases args; simp_all
 have hv0 : Value.okWide Tryz.prog W .any base 24 v0 := hval 0 24 v0 rfl rfl
 have hv1 : Value.okWide Tryz.prog W .any base 38 v1 := hval 1 38 v1 rfl rfl
 have hv2 : Value.okWide Tryz.prog W .any base 39 v2 := hval 2 39 v2 rfl rfl
 clear hval hval0 hA0
 have hr := red_of_laid hL
 obtain ⟨wide, high, l, a, cap, rfl, he, hcol, hcap, hcap2⟩ := open_canvas hv0 h0
 obtain ⟨br, rfl, hc⟩ := open_brush hv1 h1
 obtain ⟨X, b, cap3, rfl, he2, _, hmax3, hcap3⟩ := open_rows (k := 2) Tryz.underlying39 flatPt4 (by kernel_rfl) rfl encP (fun _ => True) encP_len (fun vs hl h => by obtain ⟨x, y, rfl⟩ := leavesI2 vs hl h; exact ⟨⟨x, y⟩, rfl, trivial⟩) hv2 h2 (by omega)
 refine (drawStrokes_any wide high a cap l hcap hcol br hc b X.length cap3 X rfl hcap3 W hr he he2).mono fun e W' ⟨he, hb⟩ => ?_
 subst he
 exact ⟨_, rfl, post_true laid_drawStrokes Tryz.underlying4 (by kernel_rfl) rfl (of_decide_eq_true (by kernel_rfl)) rfl rfl hW' hb⟩
/-- ████ THE STATEMENT ████ -/
theorem drawStrokes_row : Rows.DrawStrokesSaid :=
 OpenClaim.holds_of_wide 4 Tryz.f4 rfl rfl rfl rfl rfl rfl rfl ⟨rfl, rfl, rfl, rfl, rfl⟩ rfl rfl rfl rfl rfl (by kernel_rfl) Tryz.func4 (by kernel_rfl)
  (of_decide_eq_true (by kernel_rfl)) (by unfold Func.isWrapper; first | (rw [if_pos (by decide +kernel)]; kernel_rfl) | (rw [if_neg (by decide +kernel)]; exact ⟨rfl, rfl⟩))
  (fun os started H enc _ => lifted_drawStrokes os started H enc)
#print axioms drawStrokes_row
/-- ████ THE TIED CARD ████ -/
theorem drawStrokes_holds : Rows.DrawStrokesCardSaid :=
 Claim7.holds_tied_plain_at .later [] [.data] true (true, "fdec31152d07f595ea07138902e75a01f99f5f22b6eaec8a12b05791930e8921") true
  drawStrokes_row (fun _ h => by cases h) (by kernel_rfl) (fun _ h => by cases h) drawStrokes_row_tie rfl ⟨rfl, rfl⟩ (by kernel_rfl) rfl
  (fun f fn hf hfn => by
   obtain rfl : f = 4 := Option.some.inj ((show Tryz.prog.funcNamed "gesso/gessolaw07.DrawStrokes" = some 4 by kernel_rfl).symm.trans hf) |>.symm
   obtain rfl : fn = Tryz.f4 := (Option.some.inj (Tryz.func4.symm.trans hfn)).symm
   have hs : (Tryz.f4.params.toList.all fun t => Tryz.prog.wantsStandIn t == false) = true := by kernel_rfl
   exact ⟨by kernel_rfl, fun j t ht => beq_iff_eq.1 (List.all_eq_true.1 hs t (List.mem_of_getElem? (i := j) (by simpa using ht)))⟩)
  (by kernel_rfl)
#print axioms drawStrokes_holds
end Go.Proofs.YthcdkkmjnglmjaaGreatDoor
