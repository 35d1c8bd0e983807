import Derived.Test.YteklfmacnnmomaaGreatM19
import Derived.Test.YteklfmacnnmomaaGreatM20
import Derived.Test.YteklfmacnnmomaaGreatM21
set_option linter.unusedSimpArgs false
set_option linter.unusedVariables false
/- FrontierMay returns true at every input, and its arguments read as they did. Conditions: none. -/
namespace Go.Proofs.YteklfmacnnmomaaGreat
open Go.ChangeShapes Go.WideShapes Go.ChangeAt Go.RowKit
theorem flatIntM : flat Tryz.prog 5 3 = some [.int .i64] := by kernel_rfl
theorem flatVecM : flat Tryz.prog 5 24 = some (List.replicate 9 (.int .u64)) := by kernel_rfl
theorem leavesZM (vs : List Value) (hl : vs.length = 1) (h : Leaves [.int .i64] vs) : ∃ a : Int, encZ a = vs ∧ True := by
 obtain ⟨v0, e0, n0, rfl, -⟩ := h 0 (.int .i64) rfl
 refine ⟨n0, List.ext_getElem? fun i => ?_, trivial⟩
 rcases i with _ | i <;> first | exact e0.symm | (rw [List.getElem?_eq_none (by rw [encZ_len]; omega), List.getElem?_eq_none (by omega)])
def encW (x : Nat → Int) : List Value := (lit9 x).toList
theorem encW_len (x : Nat → Int) : (encW x).length = 9 := rfl
theorem encW_get (x : Nat → Int) {r : Nat} (h : r < 9) : (encW x)[r]? = some (.int .u64 (x r)) := by
 unfold encW
 rw [Array.getElem?_toList]
 exact lit9_get x r h
theorem leavesW (vs : List Value) (hl : vs.length = 9) (h : Leaves (List.replicate 9 (.int .u64)) vs) : ∃ x : Nat → Int, encW x = vs ∧ True := by
 have k := fun r (hr : r < 9) => intC_of (h r (.int .u64) (by rw [List.getElem?_replicate, if_pos hr]))
 refine ⟨fun r => intC (vs[r]?.getD undef), List.ext_getElem? fun r => ?_, trivial⟩
 by_cases hr : r < 9
 · rw [encW_get _ hr]; exact (k r hr).1.symm
 · rw [List.getElem?_eq_none (by rw [encW_len]; omega), List.getElem?_eq_none (by omega)]
theorem elemsW {w : World} {v : Value} {n : Nat} {l : List (Nat → Int)} (hl : l.length = n) (h : Elems w v n 9 (rowC encW l)) : Elems w v n 9 (vecCells fun i => (l[i]?).getD fun _ => 0) := by
 rcases h with h | ⟨b, off, cap, rfl, hlt, hc⟩
 · exact .inl h
 · refine .inr ⟨b, off, cap, rfl, hlt, fun j hj => (hc j hj).trans (congrArg some ?_)⟩
   have h1 : j / 9 < l.length := by omega
   have h2 : j % 9 < 9 := by omega
   unfold rowC vecCells
   have h3 := flat_get encW_len l (j / 9) (j % 9) h2
   rw [show j / 9 * 9 + j % 9 = j by omega, List.getElem?_eq_getElem h1] at h3
   rw [h3]
   show ((encW l[j / 9])[j % 9]?).getD undef = .int .u64 (((l[j / 9]?).getD fun _ => 0) (j % 9))
   rw [encW_get _ h2, List.getElem?_eq_getElem h1]
   rfl
theorem frontierMay_any (f : Frt) (h0 : 0 ≤ f.prop) (a1 : Option Addr) (n1 c1 : Nat) (X : Nat → Nat → Int) (a2 : Option Addr) (n2 c2 : Nat) (Z : List Int) (hZ : Z.length = n2) (h2c : n2 ≤ c2) (w : World) (he1 : Elems w (.slice a1 n1 c1) n1 9 (vecCells X)) (he2 : Elems w (.slice a2 n2 c2) n2 1 (rowC encZ Z)) :
 Calls Tryz.prog 6 #[.agg f.cells, .slice a1 n1 c1, .slice a2 n2 c2] w (Gives (.bool true) w) := by
 cases hok : f.okB
 · exact frontierMay_false f hok h0 a1 n1 c1 X a2 n2 c2 Z hZ h2c w he1 he2
 · exact frontierMay_true f hok h0 a1 n1 c1 X a2 n2 c2 Z hZ h2c w he1 he2
theorem own_frontierMay : ownKnob Tryz.prog.godebug = none := by kernel_rfl
theorem laid_frontierMay : laidOutB Tryz.prog = true := by kernel_rfl
set_option maxHeartbeats 400000 in
set_option maxRecDepth 100000 in
theorem lifted_frontierMay (os : Os) (started : os.Started) (H : Type) (enc : TypeId × Value → H) :
 ReturnsInHanded {} Tryz.checked os 6 .any (Rows.frontierMaySpec.pre6 enc Tryz.prog Tryz.f6 Rows.frontierMayRow.domain false) (Rows.frontierMaySpec.post enc Tryz.prog Tryz.f6 false true false false) := by
 refine returnsInHanded_of_change (C := Tryz.checked) own_frontierMay started (by kernel_rfl) Tryz.func6
  (ChangeSpec.witness6 (enc := enc) (C := Tryz.checked) false ⟨#[], #[.agg frZ.cells, .slice none 0 0, .slice none 0 0], []⟩ 8 (by kernel_rfl) (by kernel_rfl) (by kernel_rfl) (by kernel_rfl)) ?_
 intro W base args ds gs before hval0 hW _ _
 have hval : ∀ (j : Nat) t v, Tryz.f6.params[j]? = some t → args[j]? = some v → Value.okWide Tryz.prog W .any base t v := hval0
 have hW' := hW
 obtain ⟨p, q, hA0, hV, hpq, _, _⟩ := hW
 have hA : DataW.TrodAll enc Tryz.prog W 0 (fun _ => true) true Tryz.f6.params.toList args.toList ds p := hA0
 rw [Tryz.params6] at hA hval
 obtain ⟨v0, vs0, d0, ds0, p0, q0, hargs, rfl, hp_, h0, r0⟩ := trodAll_cons hA
 obtain ⟨v1, vs1, d1, ds1, p1, q1, rfl, rfl, rfl, h1, r1⟩ := trodAll_cons r0
 obtain ⟨v2, vs2, d2, ds2, p2, q2, rfl, rfl, rfl, h2, r2⟩ := trodAll_cons r1
 obtain ⟨rfl, rfl, rfl⟩ := trodAll_nil r2
 obtain rfl : args = #[v0, v1, v2] := by cases args; simp_all
 have hv0 : Value.okWide Tryz.prog W .any base 29 v0 := hval 0 29 v0 rfl rfl
 have hv1 : Value.okWide Tryz.prog W .any base 61 v1 := hval 1 61 v1 rfl rfl
 have hv2 : Value.okWide Tryz.prog W .any base 30 v2 := hval 2 30 v2 rfl rfl
 clear hval hval0 hA0
 obtain ⟨f, rfl, wf⟩ := open_frt hv0 h0
 obtain ⟨l1, a1, cap1, rfl, he1, _, hmax1, hcap1⟩ := open_rows (k := 9) Tryz.underlying61 flatVecM (by kernel_rfl) rfl encW (fun _ => True) encW_len leavesW hv1 h1 (by omega)
 obtain ⟨l2, a2, cap2, rfl, he2, _, hmax2, hcap2⟩ := open_rows (k := 1) Tryz.underlying30 flatIntM (by kernel_rfl) rfl encZ (fun _ => True) encZ_len leavesZM hv2 h2 (by omega)
 refine (frontierMay_any f wf.prop.1 a1 l1.length cap1 _ a2 l2.length cap2 l2 rfl hcap2 W (elemsW rfl he1) he2).mono fun e W' ⟨he, hb⟩ => ?_
 subst he
 exact ⟨_, rfl, post_true laid_frontierMay Tryz.underlying4 (by kernel_rfl) rfl (of_decide_eq_true (by kernel_rfl)) rfl rfl hW' hb⟩
/-- ████ THE STATEMENT ████ -/
theorem frontierMay_holds : Rows.FrontierMaySaid :=
 OpenClaim.holds_of_wide 6 Tryz.f6 rfl rfl rfl rfl rfl rfl rfl ⟨rfl, rfl, rfl, rfl, rfl⟩ rfl rfl rfl rfl rfl (by kernel_rfl) Tryz.func6 (by kernel_rfl)
  (of_decide_eq_true (by kernel_rfl)) (by unfold Func.isWrapper; first | (rw [if_pos (by decide +kernel)]; kernel_rfl) | (rw [if_neg (by decide +kernel)]; exact ⟨rfl, rfl⟩))
  (fun os started H enc _ => lifted_frontierMay os started H enc)
#print axioms frontierMay_holds
end Go.Proofs.YteklfmacnnmomaaGreat
