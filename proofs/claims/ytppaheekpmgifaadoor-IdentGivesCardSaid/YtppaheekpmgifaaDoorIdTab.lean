/- The tables that the rows of this seat list: what the condition gives the walks. -/
import Derived.Test.YtppaheekpmgifaaDoorIdH
import Derived.Test.YtppaheekpmgifaaDoorIdD
import Derived.Test.YtppaheekpmgifaaDoorRowG
import Derived.Test.YtppaheekpmgifaaDoorTie
import Derived.Test.YtppaheekpmgifaaDoorCards
import Derived.Lay
import Derived.LaidMore
import Derived.ChangeMaps5
import Derived.LaidHandle
import Derived.Lib.LaidTab
import Derived.Stop.Joined
namespace Go.Proofs.YtppaheekpmgifaaDoor
set_option linter.unusedSimpArgs false
set_option linter.unusedVariables false
open Go.ChangeShapes Go.WideShapes Go.ChangeAt Go.RowKit

def laid3 : List (String × DataW Unit) := [("math/bits.deBruijn32tab", Rows.laid_math_bits_deBruijn32tab), ("math/bits.deBruijn64tab", Rows.laid_math_bits_deBruijn64tab), ("internal/strconv.uint64pow10", Rows.laid_internal_strconv_uint64pow10)]
theorem bounds_u64 {n : Int} (h : (Lit.int .u64 n).wf = true) : 0 ≤ n ∧ n ≤ 18446744073709551615 := by
  simp only [Lit.wf, Bool.and_eq_true, decide_eq_true_eq] at h
  exact h
theorem door_met (os : Os) (args : Array Value) : laidMetH Tryd.prog laid3 ((World.doorLaid Tryd.prog 400 os).forCall (fun _ _ => 0) ⟨#[], args, []⟩).memory :=
  laidMetH_of_parts3 (fuel := 8) (laidMet_of_run' 8 (by kernel_rfl) (by kernel_rfl)) (by kernel_rfl) (by kernel_rfl)
theorem pow10_data {H : Type} : (Rows.laid_internal_strconv_uint64pow10 : DataW H) = Lib.tabData .u64 Lib.pow10Tab := by kernel_rfl
theorem tab_of_laid {W : World} (h : laidMetH Tryd.prog laid3 W) : Tab W := by
  rw [MakeChecks.laidMetH_plain _ _ _ (by kernel_rfl)] at h
  obtain ⟨ps, ⟨g0, t0, cs0, f0, p0, q0, hg0, ht0, hv0, hd0, ⟨g1, t1, cs1, f1, p1, q1, hg1, ht1, hv1, hd1, ⟨g2, t2, cs2, f2, p2, q2, hg2, ht2, hv2, hd2, _, _⟩, _⟩, _⟩, _, _⟩ := h
  obtain rfl := Option.some.inj ((show Tryd.prog.globalNamed "internal/strconv.uint64pow10" = some 0 by kernel_rfl).symm.trans hg2)
  obtain rfl := Option.some.inj ((show (Tryd.prog.globals[0]?).map (·.type) = some 124 by kernel_rfl).symm.trans ht2)
  unfold Tab Lib.TabIs
  rw [pow10_data] at hd2
  rw [hv2, ← Lib.cells_of_tab Tryd.underlying124 Tryd.underlying25 (by kernel_rfl) (by kernel_rfl) hd2]

/-- A struct of numbers, truths and texts. -/
theorem open_one {α : Type} {H : Type} {enc : TypeId × Value → H} {P : Program} {w : World} {base : Nat} {spare : Nat → Bool} {held : Bool} {n : Nat} {t : TypeId} {fs : Array Field} {ls : List Leaf} {k : Nat} (ht : P.underlying t = some (.struct fs)) (hf : flat P n t = some ls) (hk : P.cellsOf t = k) (encA : α → List Value) (good : α → Prop)
    (hdec : ∀ vs : List Value, vs.length = k → Leaves ls vs → ∃ x, encA x = vs ∧ good x)
    {v : Value} {d : DataW H} {ps : List MemPlace} {r : Reach} {b0 : Nat} (hval : Value.okWide P w r b0 t v) (h : DataW.Trod enc P w base spare held t v d ps) :
    ∃ x : α, v = .agg (encA x).toArray ∧ good x := by
  obtain ⟨cs, rfl, hsz⟩ : ∃ cs, v = .agg cs ∧ cs.size = P.cellsOf t := by
    unfold Value.okWide at hval
    rw [ht] at hval
    obtain ⟨cs, h1, h2, _⟩ := hval
    exact ⟨cs, h1, h2⟩
  obtain ⟨_, hl⟩ := trod_flat hf h
  obtain ⟨x, hx, hg⟩ := hdec cs.toList (by simp [hsz, hk]) hl
  exact ⟨x, by rw [hx], hg⟩

theorem flatId : flat Tryd.prog 5 27 = some [.int .u64, .int .i64, .int .u64] := by kernel_rfl
def wfId (i : IdT) : Prop := (Lit.int .u64 i.time).wf = true ∧ (Lit.int .i64 i.site).wf = true ∧ (Lit.int .u64 i.seq).wf = true
theorem leaves_id (vs : List Value) (hl : vs.length = 3) (h : Leaves [.int .u64, .int .i64, .int .u64] vs) : ∃ x, encId x = vs ∧ wfId x := by
  obtain ⟨v0, e0, n0, rfl, f0⟩ := h 0 _ rfl
  obtain ⟨v1, e1, n1, rfl, f1⟩ := h 1 _ rfl
  obtain ⟨v2, e2, n2, rfl, f2⟩ := h 2 _ rfl
  obtain ⟨c0, c1, c2, rfl⟩ : ∃ c0 c1 c2, vs = [c0, c1, c2] := by
    rcases vs with _ | ⟨c0, _ | ⟨c1, _ | ⟨c2, _ | ⟨c3, l⟩⟩⟩⟩ <;> simp at hl
    exact ⟨c0, c1, c2, rfl⟩
  simp at e0 e1 e2
  subst e0 e1 e2
  exact ⟨⟨n0, n1, n2⟩, rfl, f0, f1, f2⟩
theorem fits_of_wf {i : IdT} (h : wfId i) : i.Fits := by
  obtain ⟨h1, h2, h3⟩ := h
  unfold IdT.Fits
  have a1 := bounds_u64 h1
  have a2 : (-9223372036854775808 ≤ i.site) ∧ i.site ≤ 9223372036854775807 := by
    have := h2
    simp only [Lit.wf, Bool.and_eq_true, decide_eq_true_eq] at this
    exact this
  have a3 := bounds_u64 h3
  exact ⟨⟨a1.1, by have := a1.2; omega⟩, a2, a3.1, by have := a3.2; omega⟩
end Go.Proofs.YtppaheekpmgifaaDoor
