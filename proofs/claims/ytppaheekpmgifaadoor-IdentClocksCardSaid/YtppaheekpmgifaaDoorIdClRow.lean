/- IdentClocks returns true at every input, and its arguments read as they did; the three tables of Go's library that it lists are tied to the program's text. Conditions: none. -/
import Derived.Test.YtppaheekpmgifaaDoorIdTab
import Derived.Test.YtppaheekpmgifaaDoorIdCl
namespace Go.Proofs.YtppaheekpmgifaaDoor
set_option linter.unusedSimpArgs false
set_option linter.unusedVariables false
open Go.ChangeShapes Go.WideShapes Go.ChangeAt Go.RowKit

theorem flatClk : flat Tryd.prog 5 41 = some [.int .i64, .int .u64, .int .u64] := by kernel_rfl
theorem flatU : flat Tryd.prog 5 25 = some [.int .u64] := by kernel_rfl
theorem leaves_clk (vs : List Value) (hl : vs.length = 3) (h : Leaves [.int .i64, .int .u64, .int .u64] vs) : ∃ x, encC x = vs ∧ x.Fits := by
  obtain ⟨v0, e0, n0, rfl, f0⟩ := h 0 _ rfl
  obtain ⟨v1, e1, n1, rfl, f1⟩ := h 1 _ rfl
  obtain ⟨v2, e2, n2, rfl, f2⟩ := h 2 _ rfl
  obtain ⟨c0, c1, c2, rfl⟩ : ∃ c0 c1 c2, vs = [c0, c1, c2] := by
    rcases vs with _ | ⟨c0, _ | ⟨c1, _ | ⟨c2, _ | ⟨c3, l⟩⟩⟩⟩ <;> simp at hl
    exact ⟨c0, c1, c2, rfl⟩
  simp at e0 e1 e2
  subst e0 e1 e2
  have a1 := bounds_u64 f1
  have a2 := bounds_u64 f2
  have a0 : (-9223372036854775808 ≤ n0) ∧ n0 ≤ 9223372036854775807 := by
    have := f0
    simp only [Lit.wf, Bool.and_eq_true, decide_eq_true_eq] at this
    exact this
  refine ⟨⟨n0, n1, n2⟩, rfl, a0, ⟨a1.1, ?_⟩, a2.1, ?_⟩
  · have := a1.2; show n1 < _; omega
  · have := a2.2; show n2 < _; omega
theorem leaves_u (vs : List Value) (hl : vs.length = 1) (h : Leaves [.int .u64] vs) : ∃ x, encU x = vs ∧ True := by
  obtain ⟨v0, e0, n0, rfl, f0⟩ := h 0 _ rfl
  obtain ⟨c0, rfl⟩ : ∃ c0, vs = [c0] := by
    rcases vs with _ | ⟨c0, _ | ⟨c1, l⟩⟩ <;> simp at hl
    exact ⟨c0, rfl⟩
  simp at e0
  subst e0
  exact ⟨n0, rfl, trivial⟩

theorem own_identClocks : ownKnob Tryd.prog.godebug = none := by kernel_rfl
theorem laid_identClocks : laidOutB Tryd.prog = true := by kernel_rfl
set_option maxHeartbeats 400000 in
set_option maxRecDepth 100000 in
theorem lifted_identClocks (os : Os) (started : os.Started) (H : Type) (enc : TypeId × Value → H) :
    ReturnsInHanded {} Tryd.checked os 5 .any (fun w args => (Rows.identClocksSpec.pre enc Tryd.prog Tryd.f5 [] false w args ∧ laidMetH Tryd.prog laid3 w) ∧ sizedMet enc Tryd.prog Tryd.f5 (OpenSpec.ofChange Rows.identClocksSpec) false w args) (Rows.identClocksSpec.post enc Tryd.prog Tryd.f5 false true false false) := by
  refine returnsInHanded_of_change_and (C := Tryd.checked) (X := fun w _ => laidMetH Tryd.prog laid3 w) (fun _ _ _ hh h => h.of_heap hh) own_identClocks started (by kernel_rfl) Tryd.func5
    (ChangeSpec.witness_shaped (enc := enc) (C := Tryd.checked) (os := os) (X := fun w _ => laidMetH Tryd.prog laid3 w) false (World.doorLaid Tryd.prog 400 os) #[.slice none 0 0, .slice none 0 0] 8 rfl (World.shaped_of_RefB (by kernel_rfl) (by kernel_rfl)) (by kernel_rfl) (by kernel_rfl) (by kernel_rfl) (door_met os _)) ?_
  intro W base args ds gs before hval0 hW _ _ hL _
  have hval : ∀ (j : Nat) t v, Tryd.f5.params[j]? = some t → args[j]? = some v → Value.okWide Tryd.prog W .any base t v := hval0
  have hW' := hW
  obtain ⟨p, q, hA0, hV, hpq, _, _⟩ := hW
  have hA : DataW.TrodAll enc Tryd.prog W 0 (fun _ => true) true Tryd.f5.params.toList args.toList ds p := hA0
  rw [Tryd.params5] at hA hval
  obtain ⟨v0, vs0, d0, ds0, p0, q0, hargs, rfl, hp_, h0, r0⟩ := trodAll_cons hA
  obtain ⟨v1, vs1, d1, ds1, p1, q1, rfl, rfl, rfl, h1, r1⟩ := trodAll_cons r0
  obtain ⟨rfl, rfl, rfl⟩ := trodAll_nil r1
  obtain rfl : args = #[v0, v1] := by cases args; simp_all
  have hv0 : Value.okWide Tryd.prog W .any base 37 v0 := hval 0 37 v0 rfl rfl
  have hv1 : Value.okWide Tryd.prog W .any base 38 v1 := hval 1 38 v1 rfl rfl
  clear hval hval0 hA0
  have ht := tab_of_laid hL
  obtain ⟨l, a, cap, rfl, he, hg, hmax, hcap⟩ := open_rows (k := 3) Tryd.underlying37 flatClk (by kernel_rfl) rfl encC ClkT.Fits encC_len leaves_clk hv0 h0 (by omega)
  obtain ⟨X, b, cap2, rfl, he2, _, hmax2, hcap2⟩ := open_rows (k := 1) Tryd.underlying38 flatU (by kernel_rfl) rfl encU (fun _ => True) encU_len leaves_u hv1 h1 (by omega)
  have hcap' := slice_cap Tryd.underlying38 hv1
  refine (identClocks_any l hg a cap hmax X b cap2 hcap'.1 hcap'.2 W ht he he2).mono fun e W' ⟨he, hb⟩ => ?_
  subst he
  exact ⟨_, rfl, post_true laid_identClocks Tryd.underlying4 (by kernel_rfl) rfl (of_decide_eq_true (by kernel_rfl)) rfl rfl hW' hb⟩

/-- ████ THE STATEMENT ████ -/
theorem identClocks_row : Rows.IdentClocksSaid :=
  OpenClaim.holds_of_wide 5 Tryd.f5 rfl rfl rfl rfl rfl rfl rfl ⟨rfl, rfl, rfl, rfl, rfl⟩ rfl rfl rfl rfl rfl (by kernel_rfl) Tryd.func5 (by kernel_rfl)
    (of_decide_eq_true (by kernel_rfl)) (by unfold Func.isWrapper; first | (rw [if_pos (by decide +kernel)]; kernel_rfl) | (rw [if_neg (by decide +kernel)]; exact ⟨rfl, rfl⟩))
    (fun os started H enc _ => lifted_identClocks os started H enc)
#print axioms identClocks_row

/-- ████ THE TIED CARD ████ -/
theorem identClocks_holds : Rows.IdentClocksCardSaid :=
  Claim7.holds_tied_plain_at .later [] [.data, .data, .data] true (true, "c6b3f50464cea2d4de8bd2c9b1f096622e27c45d04ceeef99186e53cbfffbeff") true
    identClocks_row (fun _ h => by cases h) (by kernel_rfl) (fun _ h => by cases h) identClocks_row_tie rfl ⟨rfl, rfl⟩ (by kernel_rfl) rfl
    (fun f fn hf hfn => by
      obtain rfl : f = 5 := Option.some.inj ((show Tryd.prog.funcNamed "gesso/gessolaw11.IdentClocks" = some 5 by kernel_rfl).symm.trans hf) |>.symm
      obtain rfl : fn = Tryd.f5 := (Option.some.inj (Tryd.func5.symm.trans hfn)).symm
      have hs : (Tryd.f5.params.toList.all fun t => Tryd.prog.wantsStandIn t == false) = true := by kernel_rfl
      exact ⟨by kernel_rfl, fun j t ht => beq_iff_eq.1 (List.all_eq_true.1 hs t (List.mem_of_getElem? (i := j) (by simpa using ht)))⟩)
    (by kernel_rfl)
#print axioms identClocks_holds
end Go.Proofs.YtppaheekpmgifaaDoor
