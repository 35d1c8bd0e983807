import Derived.Test.YthcdkkmjnglmjaaGreatDoorM2
import Derived.Test.YthcdkkmjnglmjaaGreatDoorM23
import Derived.Test.YthcdkkmjnglmjaaGreatDoorTie
import Derived.Test.YthcdkkmjnglmjaaGreatDoorCards
import Derived.Lay
import Derived.LaidMore
import Derived.ChangeMaps5
import Derived.LaidHandle
import Derived.Lib.LaidTab
import Derived.Stop.Joined
/- DrawTwice returns true at every input, and its arguments read as they did; the one variable that it lists is tied to the program's text. Conditions: none. -/
namespace Go.Proofs.YthcdkkmjnglmjaaGreatDoor
set_option linter.unusedSimpArgs false
set_option linter.unusedVariables false
open Go.ChangeShapes Go.WideShapes Go.ChangeAt Go.RowKit

def laid3 : List (String × DataW Unit) := [("gesso/gessolaw07.red", Rows.laid_gesso_gessolaw07_red)]
theorem door_met (os : Os) (args : Array Value) : laidMetH Tryz.prog laid3 ((World.doorLaid Tryz.prog 400 os).forCall (fun _ _ => 0) ⟨#[], args, []⟩).memory :=
 laidMetH_of_parts3 (fuel := 8) (laidMet_of_run' 8 (by kernel_rfl) (by kernel_rfl)) (by kernel_rfl) (by kernel_rfl)
theorem take1 {cs : Array Value} {k : Nat} {v : Value} (h : (cs.toList.drop k).take 1 = [v]) : cs[k]? = some v := by
 have h2 := congrArg (fun l => l[0]?) h
 rw [← Array.getElem?_toList]
 simpa [List.getElem?_take, List.getElem?_drop] using h2
set_option maxRecDepth 100000 in
theorem red_of_laid {W : World} (h : laidMetH Tryz.prog laid3 W) : RedAt W := by
 rw [MakeChecks.laidMetH_plain _ _ _ (by kernel_rfl)] at h
 obtain ⟨ps, ⟨g0, t0, cs0, f0, p0, q0, hg0, ht0, hv0, hd0, _, _⟩, _, _⟩ := h
 obtain rfl := Option.some.inj ((show Tryz.prog.globalNamed "gesso/gessolaw07.red" = some 0 by kernel_rfl).symm.trans hg0)
 obtain rfl := Option.some.inj ((show (Tryz.prog.globals[0]?).map (·.type) = some 34 by kernel_rfl).symm.trans ht0)
 obtain ⟨xs, m', -, hx, hl, hxl, hf⟩ := DataW.trod_struct Tryz.underlying34 hd0
 have hc1 : Tryz.prog.cellsOf 5 = 1 := by kernel_rfl
 match xs, hxl with
 | [y0, y1, y2, y3], _ =>
  have f0 := hf 0 _ rfl
  have f1 := hf 1 _ rfl
  have f2 := hf 2 _ rfl
  have f3 := hf 3 _ rfl
  simp only [hc1, List.getElem?_cons_zero, List.getElem?_cons_succ] at f0 f1 f2 f3
  obtain ⟨v0, e0, rfl, -⟩ := DataW.trod_int Tryz.underlying5 f0
  obtain ⟨v1, e1, rfl, -⟩ := DataW.trod_int Tryz.underlying5 f1
  obtain ⟨v2, e2, rfl, -⟩ := DataW.trod_int Tryz.underlying5 f2
  obtain ⟨v3, e3, rfl, -⟩ := DataW.trod_int Tryz.underlying5 f3
  have hx2 := congrArg Prod.fst hx
  simp [Rows.laid_gesso_gessolaw07_red] at hx2
  obtain ⟨rfl, rfl, rfl, rfl⟩ := hx2
  obtain ⟨t, f, hh⟩ : ∃ t f, W.heap[0]? = some (.cells cs0 t f) := by
   have hv := hv0
   unfold World.var? at hv
   rw [show Tryz.prog.globalNamed "gesso/gessolaw07.red" = some 0 by kernel_rfl] at hv
   simp only [Option.bind_some] at hv
   split at hv
   · rename_i c t f hh
     cases hv
     exact ⟨t, f, hh⟩
   · cases hv
  exact ⟨cell_of_block hh (take1 (k := 0) e0), cell_of_block hh (take1 (k := 1) e1), cell_of_block hh (take1 (k := 2) e2), cell_of_block hh (take1 (k := 3) e3)⟩
theorem flatSp : flat Tryz.prog 5 60 = some (List.replicate 3 (.int .i64)) := by kernel_rfl

theorem own_drawTwice : ownKnob Tryz.prog.godebug = none := by kernel_rfl
theorem laid_drawTwice : laidOutB Tryz.prog = true := by kernel_rfl
set_option maxHeartbeats 400000 in
set_option maxRecDepth 100000 in
theorem lifted_drawTwice (os : Os) (started : os.Started) (H : Type) (enc : TypeId × Value → H) :
 ReturnsInHanded {} Tryz.checked os 8 .any (fun w args => (Rows.drawTwiceSpec.pre enc Tryz.prog Tryz.f8 [] false w args ∧ laidMetH Tryz.prog laid3 w) ∧ sizedMet enc Tryz.prog Tryz.f8 (OpenSpec.ofChange Rows.drawTwiceSpec) false w args) (Rows.drawTwiceSpec.post enc Tryz.prog Tryz.f8 false true false false) := by
 refine returnsInHanded_of_change_and (C := Tryz.checked) (X := fun w _ => laidMetH Tryz.prog laid3 w) (fun _ _ _ hh h => h.of_heap hh) own_drawTwice started (by kernel_rfl) Tryz.func8
  (ChangeSpec.witness_shaped (enc := enc) (C := Tryz.checked) (os := os) (X := fun w _ => laidMetH Tryz.prog laid3 w) false (World.doorLaid Tryz.prog 400 os) #[.agg #[.int .i64 0, .int .i64 0, .slice none 0 0], .slice none 0 0, .agg #[.int .u8 0, .int .u8 0, .int .u8 0, .int .u8 0]] 8 rfl (World.shaped_of_RefB (by kernel_rfl) (by kernel_rfl)) (by kernel_rfl) (by kernel_rfl) (by kernel_rfl) (door_met os _)) ?_
 intro W base args ds gs before hval0 hW _ _ hL _
 have hval : ∀ (j : Nat) t v, Tryz.f8.params[j]? = some t → args[j]? = some v → Value.okWide Tryz.prog W .any base t v := hval0
 have hW' := hW
 obtain ⟨p, q, hA0, hV, hpq, _, _⟩ := hW
 have hA : DataW.TrodAll enc Tryz.prog W 0 (fun _ => true) true Tryz.f8.params.toList args.toList ds p := hA0
 rw [Tryz.params8] at hA hval
 obtain ⟨v0, vs0, d0, ds0, p0, q0, hargs, rfl, hp_, h0, r0⟩ := trodAll_cons hA
 obtain ⟨v1, vs1, d1, ds1, p1, q1, rfl, rfl, rfl, h1, r1⟩ := trodAll_cons r0
 obtain ⟨v2, vs2, d2, ds2, p2, q2, rfl, rfl, rfl, h2, r2⟩ := trodAll_cons r1
 obtain ⟨rfl, rfl, rfl⟩ := trodAll_nil r2
 obtain rfl : args = #[v0, v1, v2] := by cases args; simp_all
 have hv0 : Value.okWide Tryz.prog W .any base 24 v0 := hval 0 24 v0 rfl rfl
 have hv1 : Value.okWide Tryz.prog W .any base 57 v1 := hval 1 57 v1 rfl rfl
 have hv2 : Value.okWide Tryz.prog W .any base 34 v2 := hval 2 34 v2 rfl rfl
 clear hval hval0 hA0
 have hr := red_of_laid hL
 obtain ⟨wide, high, l, a, cap, rfl, he, hcol, hcap, hcap2⟩ := open_canvas hv0 h0
 obtain ⟨X, b, cap3, rfl, he2, _, hmax3, hcap3⟩ := open_rows (k := 3) Tryz.underlying57 flatSp (by kernel_rfl) rfl encS (fun _ => True) encS_len (fun vs hl h => by obtain ⟨x, y, z, rfl⟩ := leavesI3 vs hl h; exact ⟨⟨x, y, z⟩, rfl, trivial⟩) hv1 h1 (by omega)
 obtain ⟨c, rfl, hc⟩ := open_color hv2 h2
 refine (drawTwice_any wide high a cap l hcol b X.length cap3 X rfl hcap3 c hc W hr he he2).mono fun e W' ⟨he, hb⟩ => ?_
 subst he
 exact ⟨_, rfl, post_true laid_drawTwice Tryz.underlying4 (by kernel_rfl) rfl (of_decide_eq_true (by kernel_rfl)) rfl rfl hW' hb⟩

/-- ████ THE STATEMENT ████ -/
theorem drawTwice_row : Rows.DrawTwiceSaid :=
 OpenClaim.holds_of_wide 8 Tryz.f8 rfl rfl rfl rfl rfl rfl rfl ⟨rfl, rfl, rfl, rfl, rfl⟩ rfl rfl rfl rfl rfl (by kernel_rfl) Tryz.func8 (by kernel_rfl)
  (of_decide_eq_true (by kernel_rfl)) (by unfold Func.isWrapper; first | (rw [if_pos (by decide +kernel)]; kernel_rfl) | (rw [if_neg (by decide +kernel)]; exact ⟨rfl, rfl⟩))
  (fun os started H enc _ => lifted_drawTwice os started H enc)
#print axioms drawTwice_row

/-- ████ THE TIED CARD ████ -/
theorem drawTwice_holds : Rows.DrawTwiceCardSaid :=
 Claim7.holds_tied_plain_at .later [] [.data] true (true, "fdec31152d07f595ea07138902e75a01f99f5f22b6eaec8a12b05791930e8921") true
  drawTwice_row (fun _ h => by cases h) (by kernel_rfl) (fun _ h => by cases h) drawTwice_row_tie rfl ⟨rfl, rfl⟩ (by kernel_rfl) rfl
  (fun f fn hf hfn => by
   obtain rfl : f = 8 := Option.some.inj ((show Tryz.prog.funcNamed "gesso/gessolaw07.DrawTwice" = some 8 by kernel_rfl).symm.trans hf) |>.symm
   obtain rfl : fn = Tryz.f8 := (Option.some.inj (Tryz.func8.symm.trans hfn)).symm
   have hs : (Tryz.f8.params.toList.all fun t => Tryz.prog.wantsStandIn t == false) = true := by kernel_rfl
   exact ⟨by kernel_rfl, fun j t ht => beq_iff_eq.1 (List.all_eq_true.1 hs t (List.mem_of_getElem? (i := j) (by simpa using ht)))⟩)
  (by kernel_rfl)
#print axioms drawTwice_holds
end Go.Proofs.YthcdkkmjnglmjaaGreatDoor
