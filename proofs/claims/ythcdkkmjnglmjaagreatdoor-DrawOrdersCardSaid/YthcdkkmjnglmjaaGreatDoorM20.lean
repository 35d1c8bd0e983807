/- Merged texts: DrQ DrR RedT RowB DrS DrT DrU DfL DfA Set RfA RfB RfC RfD DgL DgS DgR DgN DrV DhA. -/
import Derived.Test.YthcdkkmjnglmjaaGreatDoorM19
import Derived.Test.YthcdkkmjnglmjaaGreatDoorM15
import Derived.Test.YthcdkkmjnglmjaaGreatDoorM2
import Derived.Test.YthcdkkmjnglmjaaGreatDoorTie
import Derived.Test.YthcdkkmjnglmjaaGreatDoorCards
import Derived.Lay
import Derived.LaidMore
import Derived.ChangeMaps5
import Derived.LaidHandle
import Derived.Lib.LaidTab
import Derived.Stop.Joined
import Derived.Test.YthcdkkmjnglmjaaGreatDoorM17
import Derived.LaidEqlPtr
import Derived.Test.YthcdkkmjnglmjaaGreatDoorM16
import Derived.Test.YthcdkkmjnglmjaaGreatDoorM5
import Derived.Test.YthcdkkmjnglmjaaGreatDoorM13
set_option linter.unusedSimpArgs false
set_option linter.unusedVariables false
/- Layer 7: what the layer's first look counts, plain. -/
namespace Go.Proofs.YthcdkkmjnglmjaaGreatDoor
open Go.RowKit Go.Shelf
def redC : ColT := ⟨255, 0, 0, 255⟩
theorem redC_ok : okC redC := by unfold okC redC; simp
theorem canE_col (x y : Nat) (hx : x < 8) (hy : y < 8) : colC canE x y = zeroC := by
 have h1 : y / 8 * canE.wide + x / 8 = 0 := by rw [show x / 8 = 0 by omega, show y / 8 = 0 by omega]; simp
 unfold colC
 rw [h1]
 show ((List.replicate 64 zeroC)[y % 8 * 8 + x % 8]?).getD zeroC = zeroC
 rw [List.getElem?_replicate]
 split <;> rfl
/-- Red on some places of the empty canvas: as many places differ. -/
theorem diff_count {D : CanT} (q : Nat → Nat → Bool) (h : ∀ x y, x < 8 → y < 8 → colC D x y = if q x y = true then redC else zeroC) : (diffL canE D).length = ((List.range 64).filter fun k => q (k % 8) (k / 8)).length := by
 unfold diffL gathL
 rw [List.length_map]
 congr 1
 refine List.filter_congr fun k hk => ?_
 have hk2 : k < 64 := List.mem_range.1 hk
 unfold isD
 have e : ptK (8 * canE.wide) k = ⟨((k % 8 : Nat) : Int), ((k / 8 : Nat) : Int)⟩ := rfl
 have c1 : ∀ C : CanT, colP C ⟨((k % 8 : Nat) : Int), ((k / 8 : Nat) : Int)⟩ = colC C (k % 8) (k / 8) := fun C => rfl
 rw [e, c1, c1, canE_col _ _ (by omega) (by omega), h _ _ (by omega) (by omega)]
 cases q (k % 8) (k / 8)
 · simp
 · simp [redC, zeroC]
theorem frameK_wide (C : CanT) (R : List SpT) (c : ColT) : ∀ k, (frameK C R c k).wide = C.wide ∧ (frameK C R c k).high = C.high
 | 0 => ⟨rfl, rfl⟩
 | k + 1 => by
  have h := frameK_wide C R c k
  rw [frameK_succ, paintC_wide, paintC_high]
  exact h
theorem frameK_col {C : CanT} (hC : okCan C) (R : List SpT) {c : ColT} (hc : okC c) {x y : Nat} (hx : x < 8 * C.wide) (hy : y < 8 * C.high) : ∀ k, colC (frameK C R c k) x y = if (List.range k).any (fun i => hasB (frL R i) ⟨(x : Int), (y : Int)⟩) = true then c else colC C x y
 | 0 => by simp [frameK]
 | k + 1 => by
  have hw := frameK_wide C R c k
  rw [frameK_succ, paintC_col (frameK_ok hC R hc k) _ (fpaint_ok hc) (by rw [hw.1]; exact hx) (by rw [hw.2]; exact hy), frameK_col hC R hc hx hy k, List.range_succ, List.any_append]
  unfold fpaint
  by_cases h1 : hasB (frL R k) ⟨(x : Int), (y : Int)⟩ = true
  · rw [if_pos h1, if_pos (by simp [h1])]
  · rw [if_neg h1]
    have h2 : hasB (frL R k) ⟨(x : Int), (y : Int)⟩ = false := by simpa using h1
    simp [h2]
/-- What is painted red where it is told. -/
theorem painted_count {Q : PtT → Prop} {D : CanT} (hD : Painted canE Q (fpaint redC) D) (q : Nat → Nat → Bool) (hq : ∀ x y : Nat, x < 8 → y < 8 → (Q ⟨(x : Int), (y : Int)⟩ ↔ q x y = true)) :
 (diffL canE D).length = ((List.range 64).filter fun k => q (k % 8) (k / 8)).length ∧ D.wide = 1 ∧ D.high = 1 := by
 obtain ⟨M, hM, rfl⟩ := hD
 refine ⟨diff_count q fun x y hx hy => ?_, by rw [paintC_wide]; rfl, by rw [paintC_high]; rfl⟩
 rw [paintC_col canE_ok M (fpaint_ok redC_ok) (by simpa [canE] using hx) (by simpa [canE] using hy), canE_col x y hx hy]
 have h1 := (hM.has ⟨(x : Int), (y : Int)⟩).trans (hq x y hx hy)
 by_cases h : q x y = true
 · rw [if_pos h, if_pos (h1.2 h)]; rfl
 · rw [if_neg h, if_neg (fun h2 => h (h1.1 h2))]
def qLine (size : Int) (x y : Nat) : Bool := (lineL ⟨0, 0⟩ ⟨3, 0⟩).any fun c => inRef size false c ⟨(x : Int), (y : Int)⟩
theorem qLine_iff (size : Int) (x y : Nat) : SwM size false (lineL ⟨0, 0⟩ ⟨3, 0⟩) ⟨(x : Int), (y : Int)⟩ ↔ qLine size x y = true := by
 unfold SwM qLine
 rw [List.any_eq_true]
def qRect (x y : Nat) : Bool := decide ((1 ≤ x ∧ x ≤ 3) ∧ 1 ≤ y ∧ y ≤ 3)
theorem qRect_iff (x y : Nat) : RectP ⟨3, 3⟩ ⟨1, 1⟩ ⟨(x : Int), (y : Int)⟩ ↔ qRect x y = true := by
 unfold RectP qRect
 simp
 omega
def qFrame (x y : Nat) : Bool := (List.range 3).any fun i => hasB (frL (rectL ⟨1, 1⟩ ⟨3, 3⟩) i) ⟨(x : Int), (y : Int)⟩
theorem n_line0 : ((List.range 64).filter fun k => qLine 0 (k % 8) (k / 8)).length = 4 := by decide
theorem n_line1 : ((List.range 64).filter fun k => qLine 1 (k % 8) (k / 8)).length = 10 := by decide
theorem n_rect : ((List.range 64).filter fun k => qRect (k % 8) (k / 8)).length = 9 := by decide
theorem n_frame : ((List.range 64).filter fun k => qFrame (k % 8) (k / 8)).length = 8 := by decide
theorem wk_frame : (diffL canE (frameK canE (rectL ⟨1, 1⟩ ⟨3, 3⟩) redC (rectL ⟨1, 1⟩ ⟨3, 3⟩).length)).length = 8 := by
 rw [← n_frame]
 refine diff_count qFrame fun x y hx hy => ?_
 rw [show (rectL ⟨1, 1⟩ ⟨3, 3⟩).length = 3 by decide, frameK_col canE_ok _ redC_ok (by simpa [canE] using hx) (by simpa [canE] using hy), canE_col x y hx hy]
 rfl
end Go.Proofs.YthcdkkmjnglmjaaGreatDoor
/- gessolaw07.wakes: the layer does something. -/
namespace Go.Proofs.YthcdkkmjnglmjaaGreatDoor
open Go.RowKit Go.Shelf
attribute [local go_sem] Oper.semAt_some
/-- The statements' colour is laid. -/
structure RedAt (w : World) : Prop where
 c0 : w.cell? ⟨0, 0, none⟩ = some (.int .u8 255)
 c1 : w.cell? ⟨0, 1, none⟩ = some (.int .u8 0)
 c2 : w.cell? ⟨0, 2, none⟩ = some (.int .u8 0)
 c3 : w.cell? ⟨0, 3, none⟩ = some (.int .u8 255)
theorem RedAt.below {w w' : World} (h : RedAt w) (hb : Below w.heap.size w w') : RedAt w' := by
 have hl : 0 < w.heap.size := cell_lt h.c0
 exact ⟨(hb.cell (p := ⟨0, 0, none⟩) hl).trans h.c0, (hb.cell (p := ⟨0, 1, none⟩) hl).trans h.c1, (hb.cell (p := ⟨0, 2, none⟩) hl).trans h.c2, (hb.cell (p := ⟨0, 3, none⟩) hl).trans h.c3⟩
/-- A drawing that differs from the empty canvas at N places. -/
def WkD (N : Nat) (w : World) (e : Ending) (w' : World) : Prop := ∃ d D, e = .returned (.tuple #[.pointer (some ⟨d, 0, none⟩), .int .i64 0]) ∧ CanAt w' d D ∧ ((diffL canE D).length = N ∧ D.wide = 1 ∧ D.high = 1) ∧ Below w.heap.size w w'
theorem wkd_of {Q : PtT → Prop} {er : Int} (h0 : er = 0) {q : Nat → Nat → Bool} {N : Nat} (hq : ∀ x y : Nat, x < 8 → y < 8 → (Q ⟨(x : Int), (y : Int)⟩ ↔ q x y = true)) (hN : ((List.range 64).filter fun k => q (k % 8) (k / 8)).length = N) {w w' : World} {e : Ending} (h : DrawnP er (Painted canE Q (fpaint redC)) w e w') : WkD N w e w' := by
 obtain ⟨d, he, D, hP, hC⟩ := h.2.1 h0
 have hc := painted_count hP q hq
 exact ⟨d, D, he, hC, ⟨hc.1.trans hN, hc.2⟩, h.1⟩
theorem wk_l0 (p : Nat) (w : World) (hC : CanAt w p canE) : Calls Tryz.prog 24 #[.pointer (some ⟨p, 0, none⟩), .agg #[.int .u8 255, .int .u8 0, .int .u8 0, .int .u8 255, .int .i64 0, .bool false], .agg #[.int .i64 0, .int .i64 0], .agg #[.int .i64 3, .int .i64 0]] w (WkD 4 w) :=
 (dLine_any ⟨redC, 0, false⟩ redC_ok ⟨0, 0⟩ ⟨3, 0⟩ p canE w hC).mono fun e w' h => wkd_of (by decide) (fun x y _ _ => qLine_iff 0 x y) n_line0 h
theorem wk_l1 (p : Nat) (w : World) (hC : CanAt w p canE) : Calls Tryz.prog 24 #[.pointer (some ⟨p, 0, none⟩), .agg #[.int .u8 255, .int .u8 0, .int .u8 0, .int .u8 255, .int .i64 1, .bool false], .agg #[.int .i64 0, .int .i64 0], .agg #[.int .i64 3, .int .i64 0]] w (WkD 10 w) :=
 (dLine_any ⟨redC, 1, false⟩ redC_ok ⟨0, 0⟩ ⟨3, 0⟩ p canE w hC).mono fun e w' h => wkd_of (by decide) (fun x y _ _ => qLine_iff 1 x y) n_line1 h
theorem wk_rc (p : Nat) (w : World) (hC : CanAt w p canE) : Calls Tryz.prog 11 #[.pointer (some ⟨p, 0, none⟩), .agg #[.int .u8 255, .int .u8 0, .int .u8 0, .int .u8 255], .agg #[.int .i64 3, .int .i64 3], .agg #[.int .i64 1, .int .i64 1]] w (WkD 9 w) :=
 (dRect_any redC redC_ok ⟨3, 3⟩ ⟨1, 1⟩ p canE w hC).mono fun e w' h => wkd_of (by decide) (fun x y _ _ => qRect_iff x y) n_rect h
theorem wk_fr (p : Nat) (w : World) (hC : CanAt w p canE) : Calls Tryz.prog 12 #[.pointer (some ⟨p, 0, none⟩), .agg #[.int .u8 255, .int .u8 0, .int .u8 0, .int .u8 255], .agg #[.int .i64 1, .int .i64 1], .agg #[.int .i64 3, .int .i64 3]] w (WkD 8 w) :=
 (dFrame_any redC redC_ok ⟨1, 1⟩ ⟨3, 3⟩ p canE w hC).mono fun e w' h => by
  obtain ⟨d, he, hD⟩ := h.2.1 (by decide)
  have hw := frameK_wide canE (rectL ⟨1, 1⟩ ⟨3, 3⟩) redC (rectL ⟨1, 1⟩ ⟨3, 3⟩).length
  exact ⟨d, _, he, hD, ⟨wk_frame, hw.1, hw.2⟩, h.1⟩
theorem wk_st (p q : Nat) (w : World) (hC : CanAt w p canE) (hq : w.heap[q]? = some (.cells #[.int .i64 0, .int .i64 0] 26 (0, 0))) : Calls Tryz.prog 21 #[.pointer (some ⟨p, 0, none⟩), .agg #[.int .u8 0, .int .u8 0, .int .u8 0, .int .u8 0, .int .i64 16, .bool false], .slice (some ⟨q, 0, none⟩) 1 1] w (Gives (.tuple #[.pointer none, .int .i64 2]) w) := by
 have he : Elems w (.slice (some ⟨q, 0, none⟩) 1 1) 1 2 (rowC encP [⟨0, 0⟩]) := .inr ⟨q, 0, 1, rfl, b7t hq, fun j hj => by
  match j, hj with
  | 0, _ => exact c7b (k := 0) hq rfl
  | 1, _ => exact c7b (k := 1) hq rfl⟩
 exact (dStroke_any ⟨zeroC, 16, false⟩ (by unfold okC zeroC; simp) p canE (some ⟨q, 0, none⟩) 1 1 [⟨0, 0⟩] rfl (by decide) w hC he).mono fun e w' h => ⟨h.2.2 (by decide), h.1⟩
theorem differ_len (C D : CanT) (c d : Nat) (hw : C.wide = D.wide) (hh : C.high = D.high) (N : Nat) (hN : (diffL C D).length = N) (w : World) (hC : CanAt w c C) (hD : CanAt w d D) :
 Calls Tryz.prog 38 #[.pointer (some ⟨c, 0, none⟩), .pointer (some ⟨d, 0, none⟩)] w fun e w' => ∃ a cap, e = .returned (.slice a N cap) ∧ Below w.heap.size w w' :=
 (differ_any C D c d hw hh w hC hD).mono fun e w' h => by
  obtain ⟨v, he, hr, hb⟩ := h
  have h1 := ownsRow_rows encP_len hr
  obtain ⟨a, cap, rfl, -⟩ := h1.shape
  rw [hN] at he
  exact ⟨a, cap, he, hb⟩
set_option maxRecDepth 100000 in
set_option maxHeartbeats 4000000 in
theorem dWakes_any (w : World) (hr : RedAt w) : Calls Tryz.prog 9 #[] w (Gives (.bool true) w) := by
 have HS := H7 (St.start w)
 have HR := H7 hr
 clear hr
 go_enter Tryz.func9, Tryz.ntmps9
 go_wp2_with fail
 refine (new_any w).mono ?_
 rintro e w1 ⟨p, rfl, hc, -, hb⟩
 have HS := H7 (HS.out.below hb)
 have HR := H7 (HR.out.below hb)
 have HC := H7 hc
 clear hc hb
 have c0 := HR.out.c0
 have c1 := HR.out.c1
 have c2 := HR.out.c2
 have c3 := HR.out.c3
 go_wp2_with fail
 clear c0 c1 c2 c3
 refine (wk_l0 p w1 HC.out).mono ?_
 rintro e w2 ⟨d1, D1, rfl, hd, hk1, hb⟩
 have HS := H7 (HS.out.below hb)
 have HR := H7 (HR.out.below hb)
 have HC := H7 (HC.out.below hb)
 have HD1 := H7 hd
 have HK1 := H7 hk1
 clear hd hk1 hb
 have c0 := HR.out.c0
 have c1 := HR.out.c1
 have c2 := HR.out.c2
 have c3 := HR.out.c3
 go_wp2_with fail
 clear c0 c1 c2 c3
 refine (wk_l1 p w2 HC.out).mono ?_
 rintro e w3 ⟨d2, D2, rfl, hd, hk1, hb⟩
 have HS := H7 (HS.out.below hb)
 have HR := H7 (HR.out.below hb)
 have HC := H7 (HC.out.below hb)
 have HD1 := H7 (HD1.out.below hb)
 have HD2 := H7 hd
 have HK2 := H7 hk1
 clear hd hk1 hb
 have c0 := HR.out.c0
 have c1 := HR.out.c1
 have c2 := HR.out.c2
 have c3 := HR.out.c3
 go_wp2_with fail
 clear c0 c1 c2 c3
 refine (wk_rc p w3 HC.out).mono ?_
 rintro e w4 ⟨d3, D3, rfl, hd, hk1, hb⟩
 have HS := H7 (HS.out.below hb)
 have HR := H7 (HR.out.below hb)
 have HC := H7 (HC.out.below hb)
 have HD1 := H7 (HD1.out.below hb)
 have HD2 := H7 (HD2.out.below hb)
 have HD3 := H7 hd
 have HK3 := H7 hk1
 clear hd hk1 hb
 have c0 := HR.out.c0
 have c1 := HR.out.c1
 have c2 := HR.out.c2
 have c3 := HR.out.c3
 go_wp2_with fail
 clear c0 c1 c2 c3
 refine (wk_fr p w4 HC.out).mono ?_
 rintro e w5 ⟨d4, D4, rfl, hd, hk1, hb⟩
 have HS := H7 (HS.out.below hb)
 have HR := H7 (HR.out.below hb)
 have HC := H7 (HC.out.below hb)
 have HD1 := H7 (HD1.out.below hb)
 have HD2 := H7 (HD2.out.below hb)
 have HD3 := H7 (HD3.out.below hb)
 have HD4 := H7 hd
 have HK4 := H7 hk1
 clear hd hk1 hb
 go_wp2_with fail
 have hs_ := (HS.out.alloc (.cells #[.int .i64 0, .int .i64 0] 26))
 have hk_HR := HR.out.below ((B7 _ _).alloc (by exact Nat.le_refl _) (.cells #[.int .i64 0, .int .i64 0] 26))
 have hk_HC := HC.out.below ((B7 _ _).alloc (by exact Nat.le_refl _) (.cells #[.int .i64 0, .int .i64 0] 26))
 have hk_HD1 := HD1.out.below ((B7 _ _).alloc (by exact Nat.le_refl _) (.cells #[.int .i64 0, .int .i64 0] 26))
 have hk_HD2 := HD2.out.below ((B7 _ _).alloc (by exact Nat.le_refl _) (.cells #[.int .i64 0, .int .i64 0] 26))
 have hk_HD3 := HD3.out.below ((B7 _ _).alloc (by exact Nat.le_refl _) (.cells #[.int .i64 0, .int .i64 0] 26))
 have hk_HD4 := HD4.out.below ((B7 _ _).alloc (by exact Nat.le_refl _) (.cells #[.int .i64 0, .int .i64 0] 26))
 obtain ⟨w6, hw_⟩ : ∃ w6 : World, (w5.alloc (.cells #[.int .i64 0, .int .i64 0] 26)) = w6 := ⟨_, rfl⟩
 rw [hw_] at hs_ hk_HR hk_HC hk_HD1 hk_HD2 hk_HD3 hk_HD4
 try simp only [World.size_alloc] at hs_
 have HS := H7 hs_
 have HR := H7 hk_HR
 have HC := H7 hk_HC
 have HD1 := H7 hk_HD1
 have HD2 := H7 hk_HD2
 have HD3 := H7 hk_HD3
 have HD4 := H7 hk_HD4
 rw [hw_]
 clear hw_ hs_ hk_HR hk_HC hk_HD1 hk_HD2 hk_HD3 hk_HD4
 refine (wk_st p w5.heap.size w6 HC.out (HS.out.blockAt 0 rfl)).mono ?_
 rintro e w7 ⟨rfl, hb_⟩
 have HS := H7 (HS.out.below hb_)
 have HR := H7 (HR.out.below hb_)
 have HC := H7 (HC.out.below hb_)
 have HD1 := H7 (HD1.out.below hb_)
 have HD2 := H7 (HD2.out.below hb_)
 have HD3 := H7 (HD3.out.below hb_)
 have HD4 := H7 (HD4.out.below hb_)
 clear hb_
 have c0 := HR.out.c0
 have c1 := HR.out.c1
 have c2 := HR.out.c2
 have c3 := HR.out.c3
 go_wp2_with fail
 clear c0 c1 c2 c3
 refine (dPaint_nil redC none 0 0 w7).mono ?_
 rintro e w8 ⟨rfl, hb_⟩
 have HS := H7 (HS.out.below hb_)
 have HR := H7 (HR.out.below hb_)
 have HC := H7 (HC.out.below hb_)
 have HD1 := H7 (HD1.out.below hb_)
 have HD2 := H7 (HD2.out.below hb_)
 have HD3 := H7 (HD3.out.below hb_)
 have HD4 := H7 (HD4.out.below hb_)
 clear hb_
 go_wp2_with fail
 refine (differ_len canE D1 p d1 HK1.out.2.1.symm HK1.out.2.2.symm 4 HK1.out.1 _ HC.out HD1.out).mono ?_
 rintro e w9 ⟨a1, cap1, rfl, hb⟩
 have HS := H7 (HS.out.below hb)
 have HC := H7 (HC.out.below hb)
 have HD2 := H7 (HD2.out.below hb)
 have HD3 := H7 (HD3.out.below hb)
 have HD4 := H7 (HD4.out.below hb)
 clear hb
 go_wp2_with fail
 refine (differ_len canE D2 p d2 HK2.out.2.1.symm HK2.out.2.2.symm 10 HK2.out.1 _ HC.out HD2.out).mono ?_
 rintro e w10 ⟨a2, cap2, rfl, hb⟩
 have HS := H7 (HS.out.below hb)
 have HC := H7 (HC.out.below hb)
 have HD3 := H7 (HD3.out.below hb)
 have HD4 := H7 (HD4.out.below hb)
 clear hb
 go_wp2_with fail
 refine (differ_len canE D3 p d3 HK3.out.2.1.symm HK3.out.2.2.symm 9 HK3.out.1 _ HC.out HD3.out).mono ?_
 rintro e w11 ⟨a3, cap3, rfl, hb⟩
 have HS := H7 (HS.out.below hb)
 have HC := H7 (HC.out.below hb)
 have HD4 := H7 (HD4.out.below hb)
 clear hb
 go_wp2_with fail
 refine (differ_len canE D4 p d4 HK4.out.2.1.symm HK4.out.2.2.symm 8 HK4.out.1 _ HC.out HD4.out).mono ?_
 rintro e w12 ⟨a4, cap4, rfl, hb⟩
 have HS := H7 (HS.out.below hb)
 have HC := H7 (HC.out.below hb)
 clear hb
 go_wp2_with fail
 go_ret
 exact ⟨rfl, HS.out.low⟩
end Go.Proofs.YthcdkkmjnglmjaaGreatDoor
/- What a law of layer 7 is given: its own colour laid. -/
namespace Go.Proofs.YthcdkkmjnglmjaaGreatDoor
open Go.ChangeShapes Go.WideShapes Go.ChangeAt Go.RowKit
def laid3 : List (String × DataW Unit) := [("gesso/gessolaw07.red", Rows.laid_gesso_gessolaw07_red)]
theorem door_met (os : Os) (args : Array Value) : laidMetH Tryz.prog laid3 ((World.doorLaid Tryz.prog 400 os).forCall (fun _ _ => 0) ⟨#[], args, []⟩).memory :=
 laidMetH_of_parts3 (fuel := 8) (laidMet_of_run' 8 (by kernel_rfl) (by kernel_rfl)) (by kernel_rfl) (by kernel_rfl)
theorem take1 {cs : Array Value} {k : Nat} {v : Value} (h : (cs.toList.drop k).take 1 = [v]) : cs[k]? = some v := by
 have h2 := congrArg (fun l => l[0]?) h
 rw [← Array.getElem?_toList]
 simpa [List.getElem?_take, List.getElem?_drop] using h2
set_option maxRecDepth 100000 in
theorem red_of_laid {W : World} (h : laidMetH Tryz.prog laid3 W) : RedAt W := by
 rw [MakeChecks.laidMetH_plain _ _ _ (by kernel_rfl)] at h
 obtain ⟨ps, ⟨g0, t0, cs0, f0, p0, q0, hg0, ht0, hv0, hd0, _, _⟩, _, _⟩ := h
 obtain rfl := Option.some.inj ((show Tryz.prog.globalNamed "gesso/gessolaw07.red" = some 0 by kernel_rfl).symm.trans hg0)
 obtain rfl := Option.some.inj ((show (Tryz.prog.globals[0]?).map (·.type) = some 34 by kernel_rfl).symm.trans ht0)
 obtain ⟨xs, m', -, hx, hl, hxl, hf⟩ := DataW.trod_struct Tryz.underlying34 hd0
 have hc1 : Tryz.prog.cellsOf 5 = 1 := by kernel_rfl
 match xs, hxl with
 | [y0, y1, y2, y3], _ =>
  have f0 := hf 0 _ rfl
  have f1 := hf 1 _ rfl
  have f2 := hf 2 _ rfl
  have f3 := hf 3 _ rfl
  simp only [hc1, List.getElem?_cons_zero, List.getElem?_cons_succ] at f0 f1 f2 f3
  obtain ⟨v0, e0, rfl, -⟩ := DataW.trod_int Tryz.underlying5 f0
  obtain ⟨v1, e1, rfl, -⟩ := DataW.trod_int Tryz.underlying5 f1
  obtain ⟨v2, e2, rfl, -⟩ := DataW.trod_int Tryz.underlying5 f2
  obtain ⟨v3, e3, rfl, -⟩ := DataW.trod_int Tryz.underlying5 f3
  have hx2 := congrArg Prod.fst hx
  simp [Rows.laid_gesso_gessolaw07_red] at hx2
  obtain ⟨rfl, rfl, rfl, rfl⟩ := hx2
  obtain ⟨t, f, hh⟩ : ∃ t f, W.heap[0]? = some (.cells cs0 t f) := by
   have hv := hv0
   unfold World.var? at hv
   rw [show Tryz.prog.globalNamed "gesso/gessolaw07.red" = some 0 by kernel_rfl] at hv
   simp only [Option.bind_some] at hv
   split at hv
   · rename_i c t f hh
     cases hv
     exact ⟨t, f, hh⟩
   · cases hv
  exact ⟨c7b hh (take1 (k := 0) e0), c7b hh (take1 (k := 1) e1), c7b hh (take1 (k := 2) e2), c7b hh (take1 (k := 3) e3)⟩
/- Rows: a brush as an argument. -/
theorem flatBrush : flat Tryz.prog 5 38 = some [.int .u8, .int .u8, .int .u8, .int .u8, .int .i64, .bool] := by kernel_rfl
set_option maxRecDepth 100000 in
theorem open_brush {H : Type} {enc : TypeId × Value → H} {w : World} {r : Reach} {b0 : Nat} {v : Value} {d : DataW H} {ps : List MemPlace} (hv : Value.okWide Tryz.prog w r b0 38 v) (h : DataW.Trod enc Tryz.prog w 0 (fun _ => true) true 38 v d ps) :
 ∃ c : BrT, v = c.val ∧ okC c.c := by
 obtain ⟨f2, h2⟩ := h
 have q2 := (open_flat _ _ _ _ _ _ flatBrush h2).2
 obtain ⟨⟨cs2⟩, rfl, hz2, -⟩ : ∃ cs, v = .agg cs ∧ cs.size = Tryz.prog.cellsOf 38 ∧ Row.okWide Tryz.prog w r b0 38 cs := by simpa [Value.okWide, Tryz.underlying38] using hv
 rw [show Tryz.prog.cellsOf 38 = 6 by kernel_rfl] at hz2
 have hz : cs2.length = 6 := by simpa using hz2
 obtain ⟨v0, e0, n0, rfl, w0⟩ := q2 0 (.int .u8) rfl
 obtain ⟨v1, e1, n1, rfl, w1⟩ := q2 1 (.int .u8) rfl
 obtain ⟨v2, e2, n2, rfl, w2⟩ := q2 2 (.int .u8) rfl
 obtain ⟨v3, e3, n3, rfl, w3⟩ := q2 3 (.int .u8) rfl
 obtain ⟨v4, e4, n4, rfl, w4⟩ := q2 4 (.int .i64) rfl
 obtain ⟨v5, e5, n5, rfl⟩ := q2 5 .bool rfl
 obtain ⟨c0, c1, c2, c3, c4, c5, rfl⟩ : ∃ c0 c1 c2 c3 c4 c5, cs2 = [c0, c1, c2, c3, c4, c5] := by
  rcases cs2 with _ | ⟨c0, _ | ⟨c1, _ | ⟨c2, _ | ⟨c3, _ | ⟨c4, _ | ⟨c5, _ | ⟨c6, l⟩⟩⟩⟩⟩⟩⟩ <;> simp at hz
  exact ⟨c0, c1, c2, c3, c4, c5, rfl⟩
 simp [Value.cells] at e0 e1 e2 e3 e4 e5
 subst e0 e1 e2 e3 e4 e5
 exact ⟨⟨⟨n0, n1, n2, n3⟩, n4, n5⟩, rfl, ⟨bounds_u8 w0, bounds_u8 w1⟩, bounds_u8 w2, bounds_u8 w3⟩
end Go.Proofs.YthcdkkmjnglmjaaGreatDoor
/- canvas.Same of two canvases that show the same. -/
namespace Go.Proofs.YthcdkkmjnglmjaaGreatDoor
open Go.RowKit Go.Shelf
attribute [local go_sem] Oper.semAt_some
theorem tileEq_run (T U : TileT) (w : World) : (binOp .eql 75 (.agg (encT T).toArray) (.agg (encT U).toArray)).run Tryz.prog w = .ok (.bool (decide (T = U))) w := by
 simp [binOp, tileE_run T U w]
theorem tileEqS_run (T : TileT) (w : World) : (binOp .eql 75 (.agg (encT T).toArray) (.agg (encT T).toArray)).run Tryz.prog w = .ok (.bool true) w := by
 rw [tileEq_run, decide_eq_true (rfl : T = T)]
theorem tileGE_run (x y : Operand) (a b : Array Value) (w : World) : (eqGuard .eql 75 x y (.agg a) (.agg b)).run Tryz.prog w = .ok () w := by
 have h : Tryz.prog.eqGuardType Tryz.prog.depth 75 = false := by kernel_rfl
 simp [eqGuard, h]
theorem tile_info : ∃ j, Tryz.prog.info? 75 = some j ∧ j.size ≠ 0 := by
 have h := size_T zeroT
 cases hi : Tryz.prog.info? 75 with
 | none => simp [hi] at h
 | some j =>
  refine ⟨j, rfl, ?_⟩
  rw [hi] at h
  simp [encT_len] at h
  omega
theorem ptrT_same (a : Nat) (w : World) : (binOp .eql 76 (.pointer (some ⟨a, 0, none⟩)) (.pointer (some ⟨a, 0, none⟩))).run Tryz.prog w = .ok (.bool true) w := by
 obtain ⟨j, h1, h2⟩ := tile_info
 exact run_eql_ptr_same w ⟨a, 0, none⟩ Tryz.underlying76 h1
theorem ptrT_other (a b : Nat) (hne : a ≠ b) {T U : TileT} {w : World} (ha : BlkA a (.cells (encT T).toArray 75 (0, 0)) w) (hb : BlkA b (.cells (encT U).toArray 75 (0, 0)) w) : (binOp .eql 76 (.pointer (some ⟨a, 0, none⟩)) (.pointer (some ⟨b, 0, none⟩))).run Tryz.prog w = .ok (.bool false) w := by
 obtain ⟨j, h1, h2⟩ := tile_info
 exact run_eql_ptr_other w (a := ⟨a, 0, none⟩) (b := ⟨b, 0, none⟩) Tryz.underlying76 h1 h2 (fun e => hne (by cases e; rfl)) ha.at_ hb.at_
set_option maxRecDepth 100000 in
set_option maxHeartbeats 2000000 in
theorem same1_any (a b : Nat) (T : TileT) (w : World) (ha : BlkA a (.cells (encT T).toArray 75 (0, 0)) w) (hb : BlkA b (.cells (encT T).toArray 75 (0, 0)) w) :
 Calls Tryz.prog 54 #[.pointer (some ⟨a, 0, none⟩), .pointer (some ⟨b, 0, none⟩)] w (Gives (.bool true) w) := by
 have HA := H7 ha
 have HB := H7 hb
 have HSZ := H7 (size_T T)
 clear ha hb
 by_cases h : a = b
 · subst h
   go_enter Tryz.func54, Tryz.ntmps54
   repeat ((fail_if_success (with_reducible refine stop_at (id := 1) ?_)); (first | go_values | go_skip | go_guarded | go_step | go_upon | go_back | (simp only [Int.not_lt, Int.not_le] at *; go_simp) | (go_values <;> (try go_simp)) | (go_ite <;> go_prune <;> (try go_simp)) | (split <;> (first | (rename_i hx; exact (hx _ rfl).elim) | go_prune))))
   refine (wpIn_wide (n := 0)).1 ?_
   apply w7v 13 (Rl := [(eqv _), (eqv _), (fun v_ _ => v_ = (.bool true : Value)), (fun v_ _ => v_ = (.bool true : Value)), (fun v_ _ => v_ = (undef : Value)), (fun v_ _ => v_ = (undef : Value)), (fun v_ _ => v_ = (undef : Value)), (fun v_ _ => v_ = (undef : Value)), (fun v_ _ => v_ = (undef : Value)), (fun v_ _ => v_ = (undef : Value)), (fun v_ _ => v_ = (undef : Value)), (eqv _), (eqv _)]) (C := (fun x y => Below x.heap.size x y))
   case hm => kernel_rfl
   case hk => rfl
   case hCr => exact (fun _ => B7 _ _)
   case hCt => intro _ _ _; exact (fun h k => g7t h k)
   case hst => repeat (first | exact trivial | refine ⟨fun _ _ _ _ h => h, ?_⟩)
   case hfo => kernel_rfl
   case ht => kernel_rfl
   case hC0 => exact (g7d _)
   case hsteps =>
    refine ⟨?_, ?_, ?_, ?_, ?_, ?_, ?_, ?_, ?_, ?_, ?_, ?_, ?_, trivial⟩
    · intro a' w' hA hC hD; have s0 := hA.to 0 (by kernel_rfl) rfl; clear hA hD; refine o7p rfl ?_; intro K hK; gi_wp2; exact hK _ _ rfl (B7 _ _)
    · intro a' w' hA hC hD; have s1 := hA.to 1 (by kernel_rfl) rfl; clear hA hD; refine o7p rfl ?_; intro K hK; gi_wp2; exact hK _ _ rfl (B7 _ _)
    · intro a' w' hA hC hD; obtain ⟨u5, s5, rfl⟩ := hD ⟨0, .data⟩ (by simp) rfl _ rfl; obtain ⟨u6, s6, rfl⟩ := hD ⟨1, .data⟩ (by simp) rfl _ rfl
      have hp := ptrT_same a w'
      clear hA hD; refine o7p rfl ?_; intro K hK; gi_wp2; exact hK (.bool true) _ rfl (B7 _ _)
    · intro a' w' hA hC hD; obtain ⟨u7, s7, r7⟩ := hD ⟨2, .data⟩ (by simp) rfl _ rfl; replace r7 : u7 = .bool true := r7; subst r7; clear hA hD; refine o7p rfl ?_; intro K hK; gi_wp2; exact hK (.bool true) _ rfl (B7 _ _)
    · intro a' w' hA hC hD; have s0 := hA.to 0 (by kernel_rfl) rfl; obtain ⟨u8, s8, r8⟩ := hD ⟨3, .guard⟩ (by simp) rfl _ rfl; replace r8 : u8 = .bool true := r8; subst r8; clear hA hD
      exact o7s rfl rfl s8 rfl
    · intro a' w' hA hC hD; obtain ⟨u9, s9, r9⟩ := hD ⟨4, .data⟩ (by simp) rfl _ rfl; replace r9 : u9 = undef := r9; subst r9; obtain ⟨u8, s8, r8⟩ := hD ⟨3, .guard⟩ (by simp) rfl _ rfl; replace r8 : u8 = .bool true := r8; subst r8; clear hA hD
      exact o7s rfl rfl s8 rfl
    · intro a' w' hA hC hD; obtain ⟨u10, s10, r10⟩ := hD ⟨5, .data⟩ (by simp) rfl _ rfl; replace r10 : u10 = undef := r10; subst r10; obtain ⟨u8, s8, r8⟩ := hD ⟨3, .guard⟩ (by simp) rfl _ rfl; replace r8 : u8 = .bool true := r8; subst r8; clear hA hD
      exact o7s rfl rfl s8 rfl
    · intro a' w' hA hC hD; have s1 := hA.to 1 (by kernel_rfl) rfl; obtain ⟨u8, s8, r8⟩ := hD ⟨3, .guard⟩ (by simp) rfl _ rfl; replace r8 : u8 = .bool true := r8; subst r8; clear hA hD
      exact o7s rfl rfl s8 rfl
    · intro a' w' hA hC hD; obtain ⟨u12, s12, r12⟩ := hD ⟨7, .data⟩ (by simp) rfl _ rfl; replace r12 : u12 = undef := r12; subst r12; obtain ⟨u8, s8, r8⟩ := hD ⟨3, .guard⟩ (by simp) rfl _ rfl; replace r8 : u8 = .bool true := r8; subst r8; clear hA hD
      exact o7s rfl rfl s8 rfl
    · intro a' w' hA hC hD; obtain ⟨u13, s13, r13⟩ := hD ⟨8, .data⟩ (by simp) rfl _ rfl; replace r13 : u13 = undef := r13; subst r13; obtain ⟨u8, s8, r8⟩ := hD ⟨3, .guard⟩ (by simp) rfl _ rfl; replace r8 : u8 = .bool true := r8; subst r8; clear hA hD
      exact o7s rfl rfl s8 rfl
    · intro a' w' hA hC hD; obtain ⟨u11, s11, r11⟩ := hD ⟨6, .data⟩ (by simp) rfl _ rfl; replace r11 : u11 = undef := r11; subst r11; obtain ⟨u14, s14, r14⟩ := hD ⟨9, .data⟩ (by simp) rfl _ rfl; replace r14 : u14 = undef := r14; subst r14; obtain ⟨u8, s8, r8⟩ := hD ⟨3, .guard⟩ (by simp) rfl _ rfl; replace r8 : u8 = .bool true := r8; subst r8; clear hA hD
      exact o7s rfl rfl s8 rfl
    · intro a' w' hA hC hD; obtain ⟨u8, s8, r8⟩ := hD ⟨3, .data⟩ (by simp) rfl _ rfl; replace r8 : u8 = .bool true := r8; subst r8; obtain ⟨u15, s15, r15⟩ := hD ⟨10, .data⟩ (by simp) rfl _ rfl; replace r15 : u15 = undef := r15; subst r15; clear hA hD; refine o7p rfl ?_; intro K hK; gi_wp2; exact hK _ _ rfl (B7 _ _)
    · intro a' w' hA hC hD; obtain ⟨u16, s16, rfl⟩ := hD ⟨11, .data⟩ (by simp) rfl _ rfl; clear hA hD; refine o7p rfl ?_; intro K hK; gi_wp2; exact hK _ _ rfl (B7 _ _)
   case hend =>
    intro w4 hC
    simp only [EndFrom, eqv, forall_eq, Act.put, List.length_cons, List.length_nil, List.drop_succ_cons, List.drop_zero, Nat.reduceAdd, List.setIfInBounds_toArray, List.set_cons_succ, List.set_cons_zero]
    have HC := H7 hC
    clear hC
    gi_wp2
    go_wp2_with fail
    go_ret
    exact ⟨rfl, HC.out⟩
 · have h2 : ¬ b = a := fun e => h e.symm
   go_enter Tryz.func54, Tryz.ntmps54
   repeat ((fail_if_success (with_reducible refine stop_at (id := 1) ?_)); (first | go_values | go_skip | go_guarded | go_step | go_upon | go_back | (simp only [Int.not_lt, Int.not_le] at *; go_simp) | (go_values <;> (try go_simp)) | (go_ite <;> go_prune <;> (try go_simp)) | (split <;> (first | (rename_i hx; exact (hx _ rfl).elim) | go_prune))))
   refine (wpIn_wide (n := 0)).1 ?_
   apply w7v 13 (Rl := [(eqv _), (eqv _), (fun v_ _ => v_ = (.bool false : Value)), (fun v_ _ => v_ = (.bool false : Value)), (eqv _), (eqv _), (fun v_ _ => v_ = (.agg (encT T).toArray : Value)), (eqv _), (eqv _), (fun v_ _ => v_ = (.agg (encT T).toArray : Value)), (fun v_ _ => v_ = (.bool true : Value)), (eqv _), (eqv _)]) (C := (fun x y => Below x.heap.size x y))
   case hm => kernel_rfl
   case hk => rfl
   case hCr => exact (fun _ => B7 _ _)
   case hCt => intro _ _ _; exact (fun h k => g7t h k)
   case hst => repeat (first | exact trivial | refine ⟨fun _ _ _ _ h => h, ?_⟩)
   case hfo => kernel_rfl
   case ht => kernel_rfl
   case hC0 => exact (g7d _)
   case hsteps =>
    refine ⟨?_, ?_, ?_, ?_, ?_, ?_, ?_, ?_, ?_, ?_, ?_, ?_, ?_, trivial⟩
    · intro a' w' hA hC hD; have s0 := hA.to 0 (by kernel_rfl) rfl; clear hA hD; refine o7p rfl ?_; intro K hK; gi_wp2; exact hK _ _ rfl (B7 _ _)
    · intro a' w' hA hC hD; have s1 := hA.to 1 (by kernel_rfl) rfl; clear hA hD; refine o7p rfl ?_; intro K hK; gi_wp2; exact hK _ _ rfl (B7 _ _)
    · intro a' w' hA hC hD; obtain ⟨u5, s5, rfl⟩ := hD ⟨0, .data⟩ (by simp) rfl _ rfl; obtain ⟨u6, s6, rfl⟩ := hD ⟨1, .data⟩ (by simp) rfl _ rfl
      have hp := ptrT_other a b h (HA.out.below hC) (HB.out.below hC)
      clear hA hD; refine o7p rfl ?_; intro K hK; gi_wp2; exact hK (.bool false) _ rfl (B7 _ _)
    · intro a' w' hA hC hD; obtain ⟨u7, s7, r7⟩ := hD ⟨2, .data⟩ (by simp) rfl _ rfl; replace r7 : u7 = .bool false := r7; subst r7; clear hA hD; refine o7p rfl ?_; intro K hK; gi_wp2; exact hK (.bool false) _ rfl (B7 _ _)
    · intro a' w' hA hC hD; have s0 := hA.to 0 (by kernel_rfl) rfl; obtain ⟨u8, s8, r8⟩ := hD ⟨3, .guard⟩ (by simp) rfl _ rfl; replace r8 : u8 = .bool false := r8; subst r8; clear hA hD; refine o7w rfl rfl s8 ?_; intro K hK; gi_wp2; exact hK _ _ rfl (B7 _ _)
    · intro a' w' hA hC hD; obtain ⟨u9, s9, rfl⟩ := hD ⟨4, .data⟩ (by simp) rfl _ rfl; obtain ⟨u8, s8, r8⟩ := hD ⟨3, .guard⟩ (by simp) rfl _ rfl; replace r8 : u8 = .bool false := r8; subst r8; clear hA hD; refine o7w rfl rfl s8 ?_; intro K hK; gi_wp2; exact hK _ _ rfl (B7 _ _)
    · intro a' w' hA hC hD; obtain ⟨u10, s10, rfl⟩ := hD ⟨5, .data⟩ (by simp) rfl _ rfl; obtain ⟨u8, s8, r8⟩ := hD ⟨3, .guard⟩ (by simp) rfl _ rfl; replace r8 : u8 = .bool false := r8; subst r8; clear hA hD; refine o7w rfl rfl s8 ?_; intro K hK
      refine opIn_load 75 _ rfl a (by simp [Act.eval, s10]) 75 (encT T).toArray (0, 0) _ (HA.out.below hC).at_ Tryz.underlying75 rfl HSZ.out (hK _ _ rfl (B7 _ _))
    · intro a' w' hA hC hD; have s1 := hA.to 1 (by kernel_rfl) rfl; obtain ⟨u8, s8, r8⟩ := hD ⟨3, .guard⟩ (by simp) rfl _ rfl; replace r8 : u8 = .bool false := r8; subst r8; clear hA hD; refine o7w rfl rfl s8 ?_; intro K hK; gi_wp2; exact hK _ _ rfl (B7 _ _)
    · intro a' w' hA hC hD; obtain ⟨u12, s12, rfl⟩ := hD ⟨7, .data⟩ (by simp) rfl _ rfl; obtain ⟨u8, s8, r8⟩ := hD ⟨3, .guard⟩ (by simp) rfl _ rfl; replace r8 : u8 = .bool false := r8; subst r8; clear hA hD; refine o7w rfl rfl s8 ?_; intro K hK; gi_wp2; exact hK _ _ rfl (B7 _ _)
    · intro a' w' hA hC hD; obtain ⟨u13, s13, rfl⟩ := hD ⟨8, .data⟩ (by simp) rfl _ rfl; obtain ⟨u8, s8, r8⟩ := hD ⟨3, .guard⟩ (by simp) rfl _ rfl; replace r8 : u8 = .bool false := r8; subst r8; clear hA hD; refine o7w rfl rfl s8 ?_; intro K hK
      refine opIn_load 75 _ rfl b (by simp [Act.eval, s13]) 75 (encT T).toArray (0, 0) _ (HB.out.below hC).at_ Tryz.underlying75 rfl HSZ.out (hK _ _ rfl (B7 _ _))
    · intro a' w' hA hC hD; obtain ⟨u11, s11, r11⟩ := hD ⟨6, .data⟩ (by simp) rfl _ rfl; replace r11 : u11 = .agg (encT T).toArray := r11; subst r11; obtain ⟨u14, s14, r14⟩ := hD ⟨9, .data⟩ (by simp) rfl _ rfl; replace r14 : u14 = .agg (encT T).toArray := r14; subst r14; obtain ⟨u8, s8, r8⟩ := hD ⟨3, .guard⟩ (by simp) rfl _ rfl; replace r8 : u8 = .bool false := r8; subst r8; clear hA hD; refine o7w rfl rfl s8 ?_; intro K hK
      refine opIn_bin _ _ _ _ _ rfl (by simp [Act.eval, s11]) (by simp [Act.eval, s14]) (tileGE_run _ _ _ _ w') (tileEqS_run T w') (hK _ _ rfl (B7 _ _))
    · intro a' w' hA hC hD; obtain ⟨u8, s8, r8⟩ := hD ⟨3, .data⟩ (by simp) rfl _ rfl; replace r8 : u8 = .bool false := r8; subst r8; obtain ⟨u15, s15, r15⟩ := hD ⟨10, .data⟩ (by simp) rfl _ rfl; replace r15 : u15 = .bool true := r15; subst r15; clear hA hD; refine o7p rfl ?_; intro K hK; gi_wp2; exact hK _ _ rfl (B7 _ _)
    · intro a' w' hA hC hD; obtain ⟨u16, s16, rfl⟩ := hD ⟨11, .data⟩ (by simp) rfl _ rfl; clear hA hD; refine o7p rfl ?_; intro K hK; gi_wp2; exact hK _ _ rfl (B7 _ _)
   case hend =>
    intro w4 hC
    simp only [EndFrom, eqv, forall_eq, Act.put, List.length_cons, List.length_nil, List.drop_succ_cons, List.drop_zero, Nat.reduceAdd, List.setIfInBounds_toArray, List.set_cons_succ, List.set_cons_zero]
    have HC := H7 hC
    clear hC
    gi_wp2
    go_wp2_with fail
    go_ret
    exact ⟨rfl, HC.out⟩
/- canvas.Same of two canvases that show the same, whole. -/
set_option maxRecDepth 100000 in
set_option maxHeartbeats 2000000 in
theorem tilesSame_any (b b2 n cap cap2 : Nat) (hn : n ≤ 1000) (w : World) (h : ∀ k, k < n → ∃ q q2 T, w.cell? ⟨b, k, none⟩ = some (.pointer (some ⟨q, 0, none⟩)) ∧ w.cell? ⟨b2, k, none⟩ = some (.pointer (some ⟨q2, 0, none⟩)) ∧ BlkA q (.cells (encT T).toArray 75 (0, 0)) w ∧ BlkA q2 (.cells (encT T).toArray 75 (0, 0)) w) :
 Calls Tryz.prog 53 #[.slice (some ⟨b, 0, none⟩) n cap, .slice (some ⟨b2, 0, none⟩) n cap2, .func (.func 54) #[] #[]] w (Gives (.bool true) w) := by
 have HH := H7 h
 have HN := H7 hn
 have HS := H7 (LowAt.mk (B7 w.heap.size w))
 clear h hn
 go_enter Tryz.func53, Tryz.ntmps53
 go_wp2_with fail
 go_loopw [17] (fun i wr => ∃ k : Nat, k ≤ n ∧ i = .int .i64 (k : Int) ∧ LowAt w wr) (fun i _ => n - (intOf i).toNat)
 case atStart => exact ⟨0, by omega, rfl, HS.out⟩
 case round =>
  obtain ⟨k, hk, rfl, hg⟩ := hrel
  clear HS
  have HG := H7 hg
  clear hg
  by_cases hlt : k < n
  · have HK := H7 hlt
    have e3 : wrap64 ((k : Int) + 1) = ((k + 1 : Nat) : Int) := by have := HN.out; unfold wrap64; omega
    have HWK := H7 e3
    obtain ⟨q, q2, T, h1, h2, h3, h4⟩ := HH.out k hlt
    have c1 := (HG.out.low.cell (p := ⟨b, k, none⟩) (cell_lt h1)).trans h1
    have c2 := (HG.out.low.cell (p := ⟨b2, k, none⟩) (cell_lt h2)).trans h2
    have HQ := H7 (h3.below HG.out.low)
    have HQ2 := H7 (h4.below HG.out.low)
    clear h1 h2 h3 h4
    go_wp2_with fail
    clear c1 c2
    refine (same1_any q q2 T wr HQ.out HQ2.out).mono ?_
    rintro e w2 ⟨rfl, hb⟩
    have HG := H7 (HG.out.below hb)
    clear hb
    go_wp2_with fail
    go_roundw
    case rel => exact ⟨k + 1, by omega, by first | exact congrArg (Value.int .i64) HWK.out | exact congrArg (Value.int .i64) (Int.natCast_succ k).symm | (congr 1; omega), HG.out⟩
    case measure => (try rw [HWK.out]); have := HK.out; simp only [intOf]; omega
  · go_wp2_with fail
    go_ret
    exact ⟨rfl, HG.out.low⟩
set_option maxRecDepth 100000 in
set_option maxHeartbeats 2000000 in
theorem same_eq (C : CanT) (c d : Nat) (w : World) (hC : CanAt w c C) (hD : CanAt w d C) :
 Calls Tryz.prog 13 #[.pointer (some ⟨c, 0, none⟩), .pointer (some ⟨d, 0, none⟩)] w (Gives (.bool true) w) := by
 obtain ⟨ok, b, cap, qs, h1, h2, h3, h4, h5⟩ := hC
 obtain ⟨-, b2, cap2, qs2, g1, g2, g3, g4, g5⟩ := hD
 have HP := H7 (BlkA.mk h1)
 have HQ := H7 (BlkA.mk g1)
 have hlen := ok.len
 obtain ⟨wide, high, tiles⟩ := C
 simp only at *
 obtain ⟨n, hn⟩ : ∃ n, tiles.length = n := ⟨_, rfl⟩
 rw [hn] at HP HQ
 have HE : Hid (∀ w', Below w.heap.size w w' → Calls Tryz.prog 53 #[.slice (some ⟨b, 0, none⟩) n cap, .slice (some ⟨b2, 0, none⟩) n cap2, .func (.func 54) #[] #[]] w' (Gives (.bool true) w')) := H7 fun w' hb => by
  refine tilesSame_any b b2 n cap cap2 (by omega) w' fun k hk => ?_
  have k1 : k < qs.length := by omega
  have k2 : k < qs2.length := by omega
  have k3 : k < tiles.length := by omega
  have e1 := h4 k _ (List.getElem?_eq_getElem k1)
  have e2 := g4 k _ (List.getElem?_eq_getElem k2)
  exact ⟨_, _, _, (hb.cell (p := ⟨b, k, none⟩) (cell_lt e1)).trans e1, (hb.cell (p := ⟨b2, k, none⟩) (cell_lt e2)).trans e2, (BlkA.mk (h5 k _ _ (List.getElem?_eq_getElem k1) (List.getElem?_eq_getElem k3))).below hb, (BlkA.mk (g5 k _ _ (List.getElem?_eq_getElem k2) (List.getElem?_eq_getElem k3))).below hb⟩
 clear ok h1 h2 h3 h4 h5 g1 g2 g3 g4 g5 hlen hn
 go_enter Tryz.func13, Tryz.ntmps13
 repeat ((fail_if_success (with_reducible refine stop_at (id := 3) ?_)); (first | go_values | go_skip | go_guarded | go_step | go_upon | go_back | (simp only [Int.not_lt, Int.not_le] at *; go_simp) | (go_values <;> (try go_simp)) | (go_ite <;> go_prune <;> (try go_simp)) | (split <;> (first | (rename_i hx; exact (hx _ rfl).elim) | go_prune))))
 refine (wpIn_wide (n := 0)).1 ?_
 apply w7v 21 (Rl := [(eqv _), (eqv _), (eqv _), (eqv _), (eqv _), (eqv _), (eqv _), (eqv _), (fun v_ _ => v_ = (.bool true : Value)), (fun v_ _ => v_ = (.bool true : Value)), (eqv _), (eqv _), (eqv _), (eqv _), (eqv _), (eqv _), (eqv _), (eqv _), (eqv _), (eqv _), (eqv _)]) (C := (fun x y => Below x.heap.size x y))
 case hm => kernel_rfl
 case hk => rfl
 case hCr => exact (fun _ => B7 _ _)
 case hCt => intro _ _ _; exact (fun h k => g7t h k)
 case hst => repeat (first | exact trivial | refine ⟨fun _ _ _ _ h => h, ?_⟩)
 case hfo => kernel_rfl
 case ht => kernel_rfl
 case hC0 => exact (g7d _)
 case hsteps =>
  refine ⟨?_, ?_, ?_, ?_, ?_, ?_, ?_, ?_, ?_, ?_, ?_, ?_, ?_, ?_, ?_, ?_, ?_, ?_, ?_, ?_, ?_, trivial⟩
  · intro a' w' hA hC hD; have s0 := hA.to 0 (by kernel_rfl) rfl; clear hA hD; refine o7p rfl ?_; intro K hK; gi_wp2; exact hK _ _ rfl (B7 _ _)
  · intro a' w' hA hC hD; obtain ⟨u14, s14, rfl⟩ := hD ⟨0, .data⟩ (by simp) rfl _ rfl; clear hA hD; refine o7p rfl ?_; intro K hK; gi_wp2; exact hK _ _ rfl (B7 _ _)
  · intro a' w' hA hC hD; obtain ⟨u15, s15, rfl⟩ := hD ⟨1, .data⟩ (by simp) rfl _ rfl; clear hA hD; refine o7p rfl ?_; intro K hK; gi_wp2; exact hK _ _ rfl (B7 _ _)
  · intro a' w' hA hC hD; obtain ⟨u16, s16, rfl⟩ := hD ⟨2, .data⟩ (by simp) rfl _ rfl
    have z0 := c7b (k := 0) (HP.out.below hC).at_ rfl; have z1 := c7b (k := 1) (HP.out.below hC).at_ rfl
    clear hA hD; refine o7p rfl ?_; intro K hK; gi_wp2; exact hK _ _ rfl (B7 _ _)
  · intro a' w' hA hC hD; have s1 := hA.to 1 (by kernel_rfl) rfl; clear hA hD; refine o7p rfl ?_; intro K hK; gi_wp2; exact hK _ _ rfl (B7 _ _)
  · intro a' w' hA hC hD; obtain ⟨u18, s18, rfl⟩ := hD ⟨4, .data⟩ (by simp) rfl _ rfl; clear hA hD; refine o7p rfl ?_; intro K hK; gi_wp2; exact hK _ _ rfl (B7 _ _)
  · intro a' w' hA hC hD; obtain ⟨u19, s19, rfl⟩ := hD ⟨5, .data⟩ (by simp) rfl _ rfl; clear hA hD; refine o7p rfl ?_; intro K hK; gi_wp2; exact hK _ _ rfl (B7 _ _)
  · intro a' w' hA hC hD; obtain ⟨u20, s20, rfl⟩ := hD ⟨6, .data⟩ (by simp) rfl _ rfl
    have z0 := c7b (k := 0) (HQ.out.below hC).at_ rfl; have z1 := c7b (k := 1) (HQ.out.below hC).at_ rfl
    clear hA hD; refine o7p rfl ?_; intro K hK; gi_wp2; exact hK _ _ rfl (B7 _ _)
  · intro a' w' hA hC hD; obtain ⟨u17, s17, rfl⟩ := hD ⟨3, .data⟩ (by simp) rfl _ rfl; obtain ⟨u21, s21, rfl⟩ := hD ⟨7, .data⟩ (by simp) rfl _ rfl; clear hA hD; refine o7p rfl ?_; intro K hK; gi_wp2; exact hK (.bool true) _ rfl (B7 _ _)
  · intro a' w' hA hC hD; obtain ⟨u22, s22, r22⟩ := hD ⟨8, .data⟩ (by simp) rfl _ rfl; replace r22 : u22 = .bool true := r22; subst r22; clear hA hD; refine o7p rfl ?_; intro K hK; gi_wp2; exact hK (.bool true) _ rfl (B7 _ _)
  · intro a' w' hA hC hD; have s0 := hA.to 0 (by kernel_rfl) rfl; obtain ⟨u23, s23, r23⟩ := hD ⟨9, .guard⟩ (by simp) rfl _ rfl; replace r23 : u23 = .bool true := r23; subst r23; clear hA hD; refine o7w rfl rfl s23 ?_; intro K hK; gi_wp2; exact hK _ _ rfl (B7 _ _)
  · intro a' w' hA hC hD; obtain ⟨u24, s24, rfl⟩ := hD ⟨10, .data⟩ (by simp) rfl _ rfl; obtain ⟨u23, s23, r23⟩ := hD ⟨9, .guard⟩ (by simp) rfl _ rfl; replace r23 : u23 = .bool true := r23; subst r23; clear hA hD; refine o7w rfl rfl s23 ?_; intro K hK; gi_wp2; exact hK _ _ rfl (B7 _ _)
  · intro a' w' hA hC hD; obtain ⟨u25, s25, rfl⟩ := hD ⟨11, .data⟩ (by simp) rfl _ rfl; obtain ⟨u23, s23, r23⟩ := hD ⟨9, .guard⟩ (by simp) rfl _ rfl; replace r23 : u23 = .bool true := r23; subst r23; clear hA hD; refine o7w rfl rfl s23 ?_; intro K hK; gi_wp2; exact hK _ _ rfl (B7 _ _)
  · intro a' w' hA hC hD; obtain ⟨u26, s26, rfl⟩ := hD ⟨12, .data⟩ (by simp) rfl _ rfl; obtain ⟨u23, s23, r23⟩ := hD ⟨9, .guard⟩ (by simp) rfl _ rfl; replace r23 : u23 = .bool true := r23; subst r23
    have z0 := c7b (k := 2) (HP.out.below hC).at_ rfl
    clear hA hD; refine o7w rfl rfl s23 ?_; intro K hK; gi_wp2; exact hK _ _ rfl (B7 _ _)
  · intro a' w' hA hC hD; have s1 := hA.to 1 (by kernel_rfl) rfl; obtain ⟨u23, s23, r23⟩ := hD ⟨9, .guard⟩ (by simp) rfl _ rfl; replace r23 : u23 = .bool true := r23; subst r23; clear hA hD; refine o7w rfl rfl s23 ?_; intro K hK; gi_wp2; exact hK _ _ rfl (B7 _ _)
  · intro a' w' hA hC hD; obtain ⟨u28, s28, rfl⟩ := hD ⟨14, .data⟩ (by simp) rfl _ rfl; obtain ⟨u23, s23, r23⟩ := hD ⟨9, .guard⟩ (by simp) rfl _ rfl; replace r23 : u23 = .bool true := r23; subst r23; clear hA hD; refine o7w rfl rfl s23 ?_; intro K hK; gi_wp2; exact hK _ _ rfl (B7 _ _)
  · intro a' w' hA hC hD; obtain ⟨u29, s29, rfl⟩ := hD ⟨15, .data⟩ (by simp) rfl _ rfl; obtain ⟨u23, s23, r23⟩ := hD ⟨9, .guard⟩ (by simp) rfl _ rfl; replace r23 : u23 = .bool true := r23; subst r23; clear hA hD; refine o7w rfl rfl s23 ?_; intro K hK; gi_wp2; exact hK _ _ rfl (B7 _ _)
  · intro a' w' hA hC hD; obtain ⟨u30, s30, rfl⟩ := hD ⟨16, .data⟩ (by simp) rfl _ rfl; obtain ⟨u23, s23, r23⟩ := hD ⟨9, .guard⟩ (by simp) rfl _ rfl; replace r23 : u23 = .bool true := r23; subst r23
    have z0 := c7b (k := 2) (HQ.out.below hC).at_ rfl
    clear hA hD; refine o7w rfl rfl s23 ?_; intro K hK; gi_wp2; exact hK _ _ rfl (B7 _ _)
  · intro a' w' hA hC hD; obtain ⟨u27, s27, rfl⟩ := hD ⟨13, .data⟩ (by simp) rfl _ rfl; obtain ⟨u31, s31, rfl⟩ := hD ⟨17, .data⟩ (by simp) rfl _ rfl; obtain ⟨u23, s23, r23⟩ := hD ⟨9, .chain⟩ (by simp) rfl _ rfl; replace r23 : u23 = .bool true := r23; subst r23; clear hA hD; refine o7w rfl rfl s23 ?_; intro K hK
    gi_wp2_with fail; refine (callsIn_wide.2 (HE.out _ hC)).mono ?_; rintro e w2 ⟨rfl, hb⟩
    exact hK _ _ rfl hb
  · intro a' w' hA hC hD; obtain ⟨u23, s23, r23⟩ := hD ⟨9, .data⟩ (by simp) rfl _ rfl; replace r23 : u23 = .bool true := r23; subst r23; obtain ⟨u32, s32, rfl⟩ := hD ⟨18, .data⟩ (by simp) rfl _ rfl; clear hA hD; refine o7p rfl ?_; intro K hK; gi_wp2; exact hK _ _ rfl (B7 _ _)
  · intro a' w' hA hC hD; obtain ⟨u33, s33, rfl⟩ := hD ⟨19, .data⟩ (by simp) rfl _ rfl; clear hA hD; refine o7p rfl ?_; intro K hK; gi_wp2; exact hK _ _ rfl (B7 _ _)
 case hend =>
  intro w4 hC
  simp only [EndFrom, eqv, forall_eq, Act.put, List.length_cons, List.length_nil, List.drop_succ_cons, List.drop_zero, Nat.reduceAdd, List.setIfInBounds_toArray, List.set_cons_succ, List.set_cons_zero]
  have HC := H7 hC
  clear hC
  gi_wp2
  go_wp2_with fail
  go_ret
  exact ⟨rfl, HC.out⟩
end Go.Proofs.YthcdkkmjnglmjaaGreatDoor
/- Layer 7: painting twice, washing with what is not seen through, and with what is not there, plain. -/
namespace Go.Proofs.YthcdkkmjnglmjaaGreatDoor
open Go.RowKit Go.Shelf
/- Layer 7: what a canvas shows once something is drawn, plain: the places of a rectangle, of a frame. -/
/-- A canvas that shows another one with the places of Q turned by f. -/
structure Shown (C : CanT) (Q : PtT → Prop) (f : ColT → ColT) (D : CanT) : Prop where
 ok : okCan D
 wide : D.wide = C.wide
 high : D.high = C.high
 yes : ∀ x y : Nat, x < 8 * C.wide → y < 8 * C.high → Q ⟨(x : Int), (y : Int)⟩ → colC D x y = f (colC C x y)
 no : ∀ x y : Nat, x < 8 * C.wide → y < 8 * C.high → ¬ Q ⟨(x : Int), (y : Int)⟩ → colC D x y = colC C x y
theorem Shown.unique {C D E : CanT} {Q : PtT → Prop} {f : ColT → ColT} (h : Shown C Q f D) (k : Shown C Q f E) : D = E := by
 refine CanT.ext_col h.ok k.ok (h.wide.trans k.wide.symm) (h.high.trans k.high.symm) fun x y hx hy => ?_
 rw [h.wide] at hx
 rw [h.high] at hy
 rcases Classical.em (Q ⟨(x : Int), (y : Int)⟩) with h1 | h1
 · rw [h.yes x y hx hy h1, k.yes x y hx hy h1]
 · rw [h.no x y hx hy h1, k.no x y hx hy h1]
theorem Shown.congr {C D : CanT} {Q Q' : PtT → Prop} {f : ColT → ColT} (h : Shown C Q f D) (e : ∀ p, Q p ↔ Q' p) : Shown C Q' f D :=
 ⟨h.ok, h.wide, h.high, fun x y hx hy h1 => h.yes x y hx hy ((e _).2 h1), fun x y hx hy h1 => h.no x y hx hy (fun h2 => h1 ((e _).1 h2))⟩
theorem Painted.shown {C D : CanT} {Q : PtT → Prop} {f : ColT → ColT} (hC : okCan C) (hf : ∀ c, okC c → okC (f c)) (h : Painted C Q f D) : Shown C Q f D := by
 obtain ⟨M, hM, rfl⟩ := h
 refine ⟨paintC_ok hC M hf, paintC_wide _ _ _, paintC_high _ _ _, fun x y hx hy h1 => ?_, fun x y hx hy h1 => ?_⟩
 · rw [paintC_col hC M hf hx hy, if_pos ((hM.has _).2 h1)]
 · rw [paintC_col hC M hf hx hy, if_neg (fun h2 => h1 ((hM.has _).1 h2))]
/-- Painted on what is painted with the same colour. -/
theorem Shown.more {C D E : CanT} {Q Q' : PtT → Prop} {c : ColT} (h : Shown C Q (fpaint c) D) (k : Shown D Q' (fpaint c) E) : Shown C (fun p => Q p ∨ Q' p) (fpaint c) E := by
 refine ⟨k.ok, k.wide.trans h.wide, k.high.trans h.high, fun x y hx hy h1 => ?_, fun x y hx hy h1 => ?_⟩
 · have hx' : x < 8 * D.wide := by rw [h.wide]; exact hx
   have hy' : y < 8 * D.high := by rw [h.high]; exact hy
   rcases Classical.em (Q' ⟨(x : Int), (y : Int)⟩) with h2 | h2
   · rw [k.yes x y hx' hy' h2]; rfl
   · rw [k.no x y hx' hy' h2, h.yes x y hx hy (h1.resolve_right h2)]
 · have hx' : x < 8 * D.wide := by rw [h.wide]; exact hx
   have hy' : y < 8 * D.high := by rw [h.high]; exact hy
   rw [k.no x y hx' hy' (fun h2 => h1 (.inr h2)), h.no x y hx hy (fun h2 => h1 (.inl h2))]
/- Package draw: each drawing as what the canvas shows then. -/
/-- A canvas that shows another one drawn on, or none and an error. -/
def DrawnS (ok : Bool) (er : Int) (C : CanT) (Q : PtT → Prop) (f : ColT → ColT) (w : World) (e : Ending) (w' : World) : Prop :=
 Below w.heap.size w w' ∧ (ok = true → ∃ d D, e = .returned (.tuple #[.pointer (some ⟨d, 0, none⟩), .int .i64 0]) ∧ CanAt w' d D ∧ Shown C Q f D) ∧ (ok = false → e = .returned (.tuple #[.pointer none, .int .i64 er]))
theorem DrawnP.shownS {ok : Bool} {er : Int} (h0 : er ≠ 0) {C : CanT} {Q : PtT → Prop} {f : ColT → ColT} (hC : okCan C) (hf : ∀ c, okC c → okC (f c)) {w w' : World} {e : Ending} (h : DrawnP (errOf ok er) (Painted C Q f) w e w') : DrawnS ok er C Q f w e w' := by
 refine ⟨h.1, fun h1 => ?_, fun h1 => ?_⟩
 · subst h1
   obtain ⟨d, he, D, hP, hD⟩ := h.2.1 rfl
   exact ⟨d, D, he, hD, hP.shown hC hf⟩
 · subst h1
   exact h.2.2 h0
theorem Drawn.shownS {ok : Bool} {er : Int} (h0 : er ≠ 0) {C D : CanT} {Q : PtT → Prop} {f : ColT → ColT} (hD : ok = true → Shown C Q f D) {w w' : World} {e : Ending} (h : Drawn (errOf ok er) D w e w') : DrawnS ok er C Q f w e w' := by
 refine ⟨h.1, fun h1 => ?_, fun h1 => ?_⟩
 · subst h1
   obtain ⟨d, he, hd⟩ := h.2.1 rfl
   exact ⟨d, D, he, hd, hD rfl⟩
 · subst h1
   exact h.2.2 h0
theorem sStroke_any (b : BrT) (hc : okC b.c) (p : Nat) (C : CanT) (a : Option Addr) (m cap : Nat) (L : List PtT) (hlen : L.length = m) (hm : m ≤ 30000) (w : World) (hC : CanAt w p C) (he : Elems w (.slice a m cap) m 2 (rowC encP L)) :
 Calls Tryz.prog 21 #[.pointer (some ⟨p, 0, none⟩), b.val, .slice a m cap] w (DrawnS (sizeB b.size && !L.any (fun p => !drawnB p)) 2 C (SwM b.size b.round L) (fpaint b.c) w) :=
 (dStroke_any b hc p C a m cap L hlen hm w hC he).mono fun _ _ h => h.shownS (by decide) hC.ok (fpaint_ok hc)
end Go.Proofs.YthcdkkmjnglmjaaGreatDoor
/- Layer 5: Set, Alike. -/
namespace Go.Proofs.YthcdkkmjnglmjaaGreatDoor
open Go.RowKit Go.Shelf
attribute [local go_sem] Oper.semAt_some
instance : Inhabited TileT := ⟨zeroT⟩
/- The document's layer 5: what a canvas shows, as values: Right, On, At, Same of alike ones. -/
theorem wrapS {n : Nat} (h : n ≤ 100000) : wrap64 ((n : Int) + 1) = ((n + 1 : Nat) : Int) := by unfold wrap64; omega
/- Layer 7's laws: own, says; the document's Over. -/
theorem elems_other {w : World} {a : Option Addr} {n cap k : Nat} {f : Nat → Value} (h : Elems w (.slice a n cap) n k f) {p : Nat} (hp : ∀ ad, a = some ad → ad.block ≠ p) (j : Nat) (v : Value) : Elems (w.setCell ⟨p, j, none⟩ v) (.slice a n cap) n k f := by
 rcases h with h | ⟨b, off, cap', e, hlt, hc⟩
 · exact .inl h
 · cases e
   refine .inr ⟨b, off, cap, rfl, by rw [World.size_setCell]; exact hlt, fun i hi => ?_⟩
   rw [← hc i hi]
   exact World.cell?_of_block (Below.heap_setCell _ _ _ b (hp ⟨b, off, none⟩ rfl))
/- The document's layer 5: Put. -/
/- The document's layer 3: Over. -/
end Go.Proofs.YthcdkkmjnglmjaaGreatDoor
/- Layer 7: the document's pixel by pixel, plain. -/
namespace Go.Proofs.YthcdkkmjnglmjaaGreatDoor
open Go.RowKit Go.Shelf
/-- A canvas as a value, in a block of a call's own; the things that are kept. -/
structure PutS (w0 : World) (its : List It) (B : Nat) (D : CanT) (x : World) : Prop where
 st : St w0 its x
 ok : okCan D
 ex : ∃ a cap, x.heap[B]? = some (.cells #[.int .i64 D.wide, .int .i64 D.high, .slice a D.tiles.length cap] 24 (0, 0)) ∧ CanV x D (.agg #[.int .i64 D.wide, .int .i64 D.high, .slice a D.tiles.length cap])
 lo : w0.heap.size ≤ B
 top : ∀ i ∈ its, i.top ≤ B
theorem PutS.below {w0 x y : World} {its : List It} {B : Nat} {D : CanT} (h : PutS w0 its B D x) (hb : Below x.heap.size x y) : PutS w0 its B D y := by
 obtain ⟨a, cap, h1, h2⟩ := h.ex
 exact ⟨h.st.below hb, h.ok, ⟨a, cap, (hb.block B (b7t h1)).trans h1, h2.below hb⟩, h.lo, h.top⟩
/-- A canvas' tiles don't lie in a block of few cells. -/
theorem CanV.other3 {x : World} {D : CanT} (hD : okCan D) {v : Value} (h : CanV x D v) {B : Nat} {c : Array Value} {t : TypeId} {f : Nat × Nat} (hB : x.heap[B]? = some (.cells c t f)) (hc : c.size ≤ 255) (k : Nat) (u : Value) : CanV (x.setCell ⟨B, k, none⟩ u) D v := by
 obtain ⟨a, cap, rfl, h1, h2⟩ := h
 refine ⟨a, cap, rfl, h1, elems_other h2 (fun ad e => ?_) k u⟩
 have hn : 0 < D.tiles.length := by rw [hD.many]; exact Nat.mul_pos hD.wide.1 hD.high.1
 rcases h2 with ⟨e2, h0⟩ | ⟨b, off, cap', e2, -, hcs⟩
 · omega
 · subst e
   cases e2
   intro e3
   have e3 : b = B := e3
   subst e3
   have h5 := hcs 255 (by omega)
   unfold World.cell? at h5
   simp only [hB] at h5
   rw [if_neg (by simp), Array.getElem?_eq_none (by omega)] at h5
   cases h5
/-- The three cells of the block are written. -/
theorem PutS.put {w0 x : World} {its : List It} {B : Nat} {D D' : CanT} {a : Option Addr} {cap : Nat} (h : PutS w0 its B D x) (hok : okCan D') (hv : CanV x D' (.agg #[.int .i64 D'.wide, .int .i64 D'.high, .slice a D'.tiles.length cap])) :
 PutS w0 its B D' (((x.setCell ⟨B, 0, none⟩ (.int .i64 D'.wide)).setCell ⟨B, 1, none⟩ (.int .i64 D'.high)).setCell ⟨B, 2, none⟩ (.slice a D'.tiles.length cap)) := by
 obtain ⟨a0, cap0, h1, -⟩ := h.ex
 have b1 := h7s (k := 0) h1 (.int .i64 D'.wide)
 have b2 := h7s (k := 1) b1 (.int .i64 D'.high)
 have b3 := h7s (k := 2) b2 (.slice a D'.tiles.length cap)
 have v1 := hv.other3 hok h1 (by simp) 0 (.int .i64 D'.wide)
 have v2 := v1.other3 hok b1 (by simp) 1 (.int .i64 D'.high)
 have v3 := v2.other3 hok b2 (by simp) 2 (.slice a D'.tiles.length cap)
 have hg := grownTrans (grownTrans (g7c x B 0 (.int .i64 D'.wide)) (g7c _ B 1 (.int .i64 D'.high))) (g7c _ B 2 (.slice a D'.tiles.length cap))
 exact ⟨h.st.grown (base := B) (row := some B) (fun j e => by cases e; exact Nat.le_refl _) h.lo h.top hg, hok, ⟨a, cap, b3, v3⟩, h.lo, h.top⟩
theorem PutS.start {w0 x : World} {its : List It} {B : Nat} {D : CanT} {a : Option Addr} {cap : Nat} (h : St w0 (.blk B (.cells #[.int .i64 D.wide, .int .i64 D.high, .slice a D.tiles.length cap] 24 (0, 0)) :: its) x) (hD : okCan D) (hv : CanV x D (.agg #[.int .i64 D.wide, .int .i64 D.high, .slice a D.tiles.length cap])) (hlo : w0.heap.size ≤ B) (ht : ∀ i ∈ its, i.top ≤ B) : PutS w0 its B D x :=
 ⟨h.drop1, hD, ⟨a, cap, h.blockAt 0 rfl, hv⟩, hlo, ht⟩
end Go.Proofs.YthcdkkmjnglmjaaGreatDoor
/- The document's layer 7: Spans. -/
namespace Go.Proofs.YthcdkkmjnglmjaaGreatDoor
open Go.RowKit Go.Shelf
attribute [local go_sem] Oper.semAt_some
/- The document's layer 7: Rect. -/
/- The document's layer 7: Near, and Stroke. -/
/- gessolaw07.DrawTwice. -/
/-- Of, whatever it is. -/
theorem ofBothD (wide high : Int) (a : Option Addr) (cap : Nat) (us : List TileT) (hcol : ∀ t ∈ us, ∀ c ∈ t.1, okC c) (w : World) (he : Elems w (.slice a us.length cap) us.length 256 (rowC encT us)) :
 Calls Tryz.prog 10 #[.agg #[.int .i64 wide, .int .i64 high, .slice a us.length cap]] w fun e w' => ∃ v, e = .returned (.tuple #[v, .int .i64 (errOf (okE wide high us.length) 150)]) ∧ Below w.heap.size w w' ∧
  (okE wide high us.length = true → ∃ p, v = .pointer (some ⟨p, 0, none⟩) ∧ CanAt w' p ⟨wide.toNat, high.toNat, us⟩) ∧ (okE wide high us.length = false → v = .pointer none) := by
 cases hok : okE wide high us.length with
 | false =>
  refine (of_bad wide high a us.length cap hok w).mono ?_
  rintro e w' ⟨rfl, hb⟩
  exact ⟨_, rfl, hb, fun h => (by cases h), fun _ => rfl⟩
 | true =>
  unfold okE at hok
  rw [Bool.and_eq_true] at hok
  have h1 := mayB_iff.1 hok.1
  have h2 := of_decide_eq_true hok.2
  obtain ⟨W, rfl⟩ := Int.eq_ofNat_of_zero_le (a := wide) (by omega)
  obtain ⟨H, rfl⟩ := Int.eq_ofNat_of_zero_le (a := high) (by omega)
  have hC : okCan ⟨W, H, us⟩ := ⟨by simp only; omega, by simp only; omega, by simp only; exact_mod_cast h2, hcol⟩
  refine (of_good ⟨W, H, us⟩ hC a cap w he).mono ?_
  rintro e w' ⟨p, rfl, hc, -, hb⟩
  exact ⟨_, rfl, hb, fun _ => ⟨p, rfl, by simpa using hc⟩, fun h => (by cases h)⟩
/- Layer 7's laws: what a law clones, and what it says of drawings. -/
/-- A clone: a row of its own type's block. -/
def Cl {α : Type} (k : Nat) (enc : α → List Value) (E : TypeId) (L : List α) (n : Nat) (v : Value) (w : World) : Prop :=
 ∃ a cap, v = .slice a n cap ∧ n ≤ cap ∧ Elems w (.slice a n cap) n k (rowC enc L) ∧ ∀ ad, a = some ad → ∃ cs, w.heap[ad.block]? = some (.cells cs E (0, 0))
theorem Cl.below {α : Type} {k : Nat} {enc : α → List Value} {E : TypeId} {L : List α} {n : Nat} {v : Value} {w w' : World} (h : Cl k enc E L n v w) (hb : Below w.heap.size w w') : Cl k enc E L n v w' := by
 obtain ⟨a, cap, h1, h2, h3, h4⟩ := h
 exact ⟨a, cap, h1, h2, h3.below hb, fun ad e => by obtain ⟨cs, h5⟩ := h4 ad e; exact ⟨cs, (hb.block _ (b7t h5)).trans h5⟩⟩
theorem Cl.store {α : Type} {k : Nat} {enc : α → List Value} {E : TypeId} {L : List α} {n : Nat} {v : Value} {w : World} (h : Cl k enc E L n v w) {g : Nat} {c : Array Value} {E' : TypeId} {f : Nat × Nat} (hg : w.heap[g]? = some (.cells c E' f)) (hE : E' ≠ E) (j : Nat) (u : Value) : Cl k enc E L n v (w.setCell ⟨g, j, none⟩ u) := by
 obtain ⟨a, cap, h1, h2, h3, h4⟩ := h
 have hne : ∀ ad, a = some ad → ad.block ≠ g := fun ad e e2 => by
  obtain ⟨cs, h5⟩ := h4 ad e
  rw [e2, hg] at h5
  cases h5
  exact hE rfl
 exact ⟨a, cap, h1, h2, elems_other h3 hne j u, fun ad e => by obtain ⟨cs, h5⟩ := h4 ad e; exact ⟨cs, (Below.heap_setCell _ _ _ _ (hne ad e)).trans h5⟩⟩
/-- A canvas of a law's own, as a value. -/
def OwnV (wide high : Int) (T : List TileT) (n : Nat) (v : Value) (w : World) : Prop :=
 ∃ a cap, v = .agg #[.int .i64 wide, .int .i64 high, .slice a n cap] ∧ n ≤ cap ∧ Elems w (.slice a n cap) n 256 (rowC encT T)
theorem OwnV.below {wide high : Int} {T : List TileT} {n : Nat} {v : Value} {w w' : World} (h : OwnV wide high T n v w) (hb : Below w.heap.size w w') : OwnV wide high T n v w' := by
 obtain ⟨a, cap, h1, h2, h3⟩ := h
 exact ⟨a, cap, h1, h2, h3.below hb⟩
theorem elemsT_store {w : World} {a : Option Addr} {n cap : Nat} {f : Nat → Value} (h : Elems w (.slice a n cap) n 256 f) {g : Nat} {c : Array Value} {t : TypeId} {fr : Nat × Nat} (hg : w.heap[g]? = some (.cells c t fr)) (hc : c.size ≤ 255) (j : Nat) (u : Value) : Elems (w.setCell ⟨g, j, none⟩ u) (.slice a n cap) n 256 f := by
 rcases h with h | ⟨b, off, cap', e, hlt, hcs⟩
 · exact .inl h
 · cases e
   refine .inr ⟨b, off, cap, rfl, by rw [World.size_setCell]; exact hlt, fun i hi => ?_⟩
   rw [← hcs i hi]
   refine World.cell?_of_block (Below.heap_setCell _ _ _ b (fun e3 => ?_))
   have e3 : b = g := e3
   subst e3
   have h5 := hcs 255 (by omega)
   unfold World.cell? at h5
   simp only [hg] at h5
   rw [if_neg (by simp), Array.getElem?_eq_none (by omega)] at h5
   cases h5
theorem OwnV.store {wide high : Int} {T : List TileT} {n : Nat} {v : Value} {w : World} (h : OwnV wide high T n v w) {g : Nat} {c : Array Value} {t : TypeId} {fr : Nat × Nat} (hg : w.heap[g]? = some (.cells c t fr)) (hc : c.size ≤ 255) (j : Nat) (u : Value) : OwnV wide high T n v (w.setCell ⟨g, j, none⟩ u) := by
 obtain ⟨a, cap, h1, h2, h3⟩ := h
 exact ⟨a, cap, h1, h2, elemsT_store h3 hg hc j u⟩
/-- What a law says of what was drawn. -/
structure SaysD (ok : Bool) (D : CanT) (v : Value) (w : World) : Prop where
 yes : ok = true → ∃ d, v = .pointer (some ⟨d, 0, none⟩) ∧ CanAt w d D
 no : ok = false → v = .pointer none
theorem SaysD.below {ok : Bool} {D : CanT} {v : Value} {w w' : World} (h : SaysD ok D v w) (hb : Below w.heap.size w w') : SaysD ok D v w' :=
 ⟨fun h0 => by obtain ⟨d, h1, h2⟩ := h.yes h0; exact ⟨d, h1, h2.below hb⟩, h.no⟩
theorem DrawnS.says {ok : Bool} {er : Int} {C : CanT} {Q : PtT → Prop} {f : ColT → ColT} {w w' : World} {e : Ending} (h : DrawnS ok er C Q f w e w') {D : CanT} (hD : Shown C Q f D) : ∃ v, e = .returned (.tuple #[v, .int .i64 (errOf ok er)]) ∧ SaysD ok D v w' ∧ Below w.heap.size w w' := by
 cases ok with
 | true =>
  obtain ⟨d, D', he, h1, h2⟩ := h.2.1 rfl
  obtain rfl := h2.unique hD
  exact ⟨_, he, ⟨fun _ => ⟨d, rfl, h1⟩, fun h => (by cases h)⟩, h.1⟩
 | false => exact ⟨_, h.2.2 rfl, ⟨fun h => (by cases h), fun _ => rfl⟩, h.1⟩
end Go.Proofs.YthcdkkmjnglmjaaGreatDoor
