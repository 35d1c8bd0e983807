/- Merged texts: DrQ DrR RedT RowB DrS DrT DrU DfL DfA Set RfA RfB. -/
import Derived.Test.YthcdkkmjnglmjaaGreatDoorM19
import Derived.Test.YthcdkkmjnglmjaaGreatDoorM15
import Derived.Test.YthcdkkmjnglmjaaGreatDoorM2
import Derived.Test.YthcdkkmjnglmjaaGreatDoorTie
import Derived.Test.YthcdkkmjnglmjaaGreatDoorCards
import Derived.Lay
import Derived.LaidMore
import Derived.ChangeMaps5
import Derived.LaidHandle
import Derived.Lib.LaidTab
import Derived.Stop.Joined
import Derived.Test.YthcdkkmjnglmjaaGreatDoorM18
import Derived.LaidEqlPtr
import Derived.Test.YthcdkkmjnglmjaaGreatDoorM16
import Derived.Test.YthcdkkmjnglmjaaGreatDoorM5
import Derived.Test.YthcdkkmjnglmjaaGreatDoorM17
set_option linter.unusedSimpArgs false
set_option linter.unusedVariables false
/- Layer 7: what the layer's first look counts, plain. -/
namespace Go.Proofs.YthcdkkmjnglmjaaGreatDoor
open Go.RowKit Go.Shelf
def redC : ColT := ⟨255, 0, 0, 255⟩
theorem redC_ok : okC redC := by unfold okC redC; simp
theorem canE_col (x y : Nat) (hx : x < 8) (hy : y < 8) : colC canE x y = zeroC := by
 have h1 : y / 8 * canE.wide + x / 8 = 0 := by rw [show x / 8 = 0 by omega, show y / 8 = 0 by omega]; simp
 unfold colC
 rw [h1]
 show ((List.replicate 64 zeroC)[y % 8 * 8 + x % 8]?).getD zeroC = zeroC
 rw [List.getElem?_replicate]
 split <;> rfl
/-- Red on some places of the empty canvas: as many places differ. -/
theorem diff_count {D : CanT} (q : Nat → Nat → Bool) (h : ∀ x y, x < 8 → y < 8 → colC D x y = if q x y = true then redC else zeroC) : (diffL canE D).length = ((List.range 64).filter fun k => q (k % 8) (k / 8)).length := by
 unfold diffL gathL
 rw [List.length_map]
 congr 1
 refine List.filter_congr fun k hk => ?_
 have hk2 : k < 64 := List.mem_range.1 hk
 unfold isD
 have e : ptK (8 * canE.wide) k = ⟨((k % 8 : Nat) : Int), ((k / 8 : Nat) : Int)⟩ := rfl
 have c1 : ∀ C : CanT, colP C ⟨((k % 8 : Nat) : Int), ((k / 8 : Nat) : Int)⟩ = colC C (k % 8) (k / 8) := fun C => rfl
 rw [e, c1, c1, canE_col _ _ (by omega) (by omega), h _ _ (by omega) (by omega)]
 cases q (k % 8) (k / 8)
 · simp
 · simp [redC, zeroC]
theorem frameK_wide (C : CanT) (R : List SpT) (c : ColT) : ∀ k, (frameK C R c k).wide = C.wide ∧ (frameK C R c k).high = C.high
 | 0 => ⟨rfl, rfl⟩
 | k + 1 => by
  have h := frameK_wide C R c k
  rw [frameK_succ, paintC_wide, paintC_high]
  exact h
theorem frameK_col {C : CanT} (hC : okCan C) (R : List SpT) {c : ColT} (hc : okC c) {x y : Nat} (hx : x < 8 * C.wide) (hy : y < 8 * C.high) : ∀ k, colC (frameK C R c k) x y = if (List.range k).any (fun i => hasB (frL R i) ⟨(x : Int), (y : Int)⟩) = true then c else colC C x y
 | 0 => by simp [frameK]
 | k + 1 => by
  have hw := frameK_wide C R c k
  rw [frameK_succ, paintC_col (frameK_ok hC R hc k) _ (fpaint_ok hc) (by rw [hw.1]; exact hx) (by rw [hw.2]; exact hy), frameK_col hC R hc hx hy k, List.range_succ, List.any_append]
  unfold fpaint
  by_cases h1 : hasB (frL R k) ⟨(x : Int), (y : Int)⟩ = true
  · rw [if_pos h1, if_pos (by simp [h1])]
  · rw [if_neg h1]
    have h2 : hasB (frL R k) ⟨(x : Int), (y : Int)⟩ = false := by simpa using h1
    simp [h2]
/-- What is painted red where it is told. -/
theorem painted_count {Q : PtT → Prop} {D : CanT} (hD : Painted canE Q (fpaint redC) D) (q : Nat → Nat → Bool) (hq : ∀ x y : Nat, x < 8 → y < 8 → (Q ⟨(x : Int), (y : Int)⟩ ↔ q x y = true)) :
 (diffL canE D).length = ((List.range 64).filter fun k => q (k % 8) (k / 8)).length ∧ D.wide = 1 ∧ D.high = 1 := by
 obtain ⟨M, hM, rfl⟩ := hD
 refine ⟨diff_count q fun x y hx hy => ?_, by rw [paintC_wide]; rfl, by rw [paintC_high]; rfl⟩
 rw [paintC_col canE_ok M (fpaint_ok redC_ok) (by simpa [canE] using hx) (by simpa [canE] using hy), canE_col x y hx hy]
 have h1 := (hM.has ⟨(x : Int), (y : Int)⟩).trans (hq x y hx hy)
 by_cases h : q x y = true
 · rw [if_pos h, if_pos (h1.2 h)]; rfl
 · rw [if_neg h, if_neg (fun h2 => h (h1.1 h2))]
def qLine (size : Int) (x y : Nat) : Bool := (lineL ⟨0, 0⟩ ⟨3, 0⟩).any fun c => inRef size false c ⟨(x : Int), (y : Int)⟩
theorem qLine_iff (size : Int) (x y : Nat) : SwM size false (lineL ⟨0, 0⟩ ⟨3, 0⟩) ⟨(x : Int), (y : Int)⟩ ↔ qLine size x y = true := by
 unfold SwM qLine
 rw [List.any_eq_true]
def qRect (x y : Nat) : Bool := decide ((1 ≤ x ∧ x ≤ 3) ∧ 1 ≤ y ∧ y ≤ 3)
theorem qRect_iff (x y : Nat) : RectP ⟨3, 3⟩ ⟨1, 1⟩ ⟨(x : Int), (y : Int)⟩ ↔ qRect x y = true := by
 unfold RectP qRect
 simp
 omega
def qFrame (x y : Nat) : Bool := (List.range 3).any fun i => hasB (frL (rectL ⟨1, 1⟩ ⟨3, 3⟩) i) ⟨(x : Int), (y : Int)⟩
theorem n_line0 : ((List.range 64).filter fun k => qLine 0 (k % 8) (k / 8)).length = 4 := by decide
theorem n_line1 : ((List.range 64).filter fun k => qLine 1 (k % 8) (k / 8)).length = 10 := by decide
theorem n_rect : ((List.range 64).filter fun k => qRect (k % 8) (k / 8)).length = 9 := by decide
theorem n_frame : ((List.range 64).filter fun k => qFrame (k % 8) (k / 8)).length = 8 := by decide
theorem wk_frame : (diffL canE (frameK canE (rectL ⟨1, 1⟩ ⟨3, 3⟩) redC (rectL ⟨1, 1⟩ ⟨3, 3⟩).length)).length = 8 := by
 rw [← n_frame]
 refine diff_count qFrame fun x y hx hy => ?_
 rw [show (rectL ⟨1, 1⟩ ⟨3, 3⟩).length = 3 by decide, frameK_col canE_ok _ redC_ok (by simpa [canE] using hx) (by simpa [canE] using hy), canE_col x y hx hy]
 rfl
end Go.Proofs.YthcdkkmjnglmjaaGreatDoor
/- gessolaw07.wakes: the layer does something. -/
namespace Go.Proofs.YthcdkkmjnglmjaaGreatDoor
open Go.RowKit Go.Shelf
attribute [local go_sem] Oper.semAt_some
/-- The statements' colour is laid. -/
structure RedAt (w : World) : Prop where
 c0 : w.cell? ⟨0, 0, none⟩ = some (.int .u8 255)
 c1 : w.cell? ⟨0, 1, none⟩ = some (.int .u8 0)
 c2 : w.cell? ⟨0, 2, none⟩ = some (.int .u8 0)
 c3 : w.cell? ⟨0, 3, none⟩ = some (.int .u8 255)
theorem RedAt.below {w w' : World} (h : RedAt w) (hb : Below w.heap.size w w') : RedAt w' := by
 have hl : 0 < w.heap.size := cell_lt h.c0
 exact ⟨(hb.cell (p := ⟨0, 0, none⟩) hl).trans h.c0, (hb.cell (p := ⟨0, 1, none⟩) hl).trans h.c1, (hb.cell (p := ⟨0, 2, none⟩) hl).trans h.c2, (hb.cell (p := ⟨0, 3, none⟩) hl).trans h.c3⟩
/-- A drawing that differs from the empty canvas at N places. -/
def WkD (N : Nat) (w : World) (e : Ending) (w' : World) : Prop := ∃ d D, e = .returned (.tuple #[.pointer (some ⟨d, 0, none⟩), .int .i64 0]) ∧ CanAt w' d D ∧ ((diffL canE D).length = N ∧ D.wide = 1 ∧ D.high = 1) ∧ Below w.heap.size w w'
theorem wkd_of {Q : PtT → Prop} {er : Int} (h0 : er = 0) {q : Nat → Nat → Bool} {N : Nat} (hq : ∀ x y : Nat, x < 8 → y < 8 → (Q ⟨(x : Int), (y : Int)⟩ ↔ q x y = true)) (hN : ((List.range 64).filter fun k => q (k % 8) (k / 8)).length = N) {w w' : World} {e : Ending} (h : DrawnP er (Painted canE Q (fpaint redC)) w e w') : WkD N w e w' := by
 obtain ⟨d, he, D, hP, hC⟩ := h.2.1 h0
 have hc := painted_count hP q hq
 exact ⟨d, D, he, hC, ⟨hc.1.trans hN, hc.2⟩, h.1⟩
theorem wk_l0 (p : Nat) (w : World) (hC : CanAt w p canE) : Calls Tryz.prog 24 #[.pointer (some ⟨p, 0, none⟩), .agg #[.int .u8 255, .int .u8 0, .int .u8 0, .int .u8 255, .int .i64 0, .bool false], .agg #[.int .i64 0, .int .i64 0], .agg #[.int .i64 3, .int .i64 0]] w (WkD 4 w) :=
 (dLine_any ⟨redC, 0, false⟩ redC_ok ⟨0, 0⟩ ⟨3, 0⟩ p canE w hC).mono fun e w' h => wkd_of (by decide) (fun x y _ _ => qLine_iff 0 x y) n_line0 h
theorem wk_l1 (p : Nat) (w : World) (hC : CanAt w p canE) : Calls Tryz.prog 24 #[.pointer (some ⟨p, 0, none⟩), .agg #[.int .u8 255, .int .u8 0, .int .u8 0, .int .u8 255, .int .i64 1, .bool false], .agg #[.int .i64 0, .int .i64 0], .agg #[.int .i64 3, .int .i64 0]] w (WkD 10 w) :=
 (dLine_any ⟨redC, 1, false⟩ redC_ok ⟨0, 0⟩ ⟨3, 0⟩ p canE w hC).mono fun e w' h => wkd_of (by decide) (fun x y _ _ => qLine_iff 1 x y) n_line1 h
theorem wk_rc (p : Nat) (w : World) (hC : CanAt w p canE) : Calls Tryz.prog 11 #[.pointer (some ⟨p, 0, none⟩), .agg #[.int .u8 255, .int .u8 0, .int .u8 0, .int .u8 255], .agg #[.int .i64 3, .int .i64 3], .agg #[.int .i64 1, .int .i64 1]] w (WkD 9 w) :=
 (dRect_any redC redC_ok ⟨3, 3⟩ ⟨1, 1⟩ p canE w hC).mono fun e w' h => wkd_of (by decide) (fun x y _ _ => qRect_iff x y) n_rect h
theorem wk_fr (p : Nat) (w : World) (hC : CanAt w p canE) : Calls Tryz.prog 12 #[.pointer (some ⟨p, 0, none⟩), .agg #[.int .u8 255, .int .u8 0, .int .u8 0, .int .u8 255], .agg #[.int .i64 1, .int .i64 1], .agg #[.int .i64 3, .int .i64 3]] w (WkD 8 w) :=
 (dFrame_any redC redC_ok ⟨1, 1⟩ ⟨3, 3⟩ p canE w hC).mono fun e w' h => by
  obtain ⟨d, he, hD⟩ := h.2.1 (by decide)
  have hw := frameK_wide canE (rectL ⟨1, 1⟩ ⟨3, 3⟩) redC (rectL ⟨1, 1⟩ ⟨3, 3⟩).length
  exact ⟨d, _, he, hD, ⟨wk_frame, hw.1, hw.2⟩, h.1⟩
theorem wk_st (p q : Nat) (w : World) (hC : CanAt w p canE) (hq : w.heap[q]? = some (.cells #[.int .i64 0, .int .i64 0] 26 (0, 0))) : Calls Tryz.prog 21 #[.pointer (some ⟨p, 0, none⟩), .agg #[.int .u8 0, .int .u8 0, .int .u8 0, .int .u8 0, .int .i64 16, .bool false], .slice (some ⟨q, 0, none⟩) 1 1] w (Gives (.tuple #[.pointer none, .int .i64 2]) w) := by
 have he : Elems w (.slice (some ⟨q, 0, none⟩) 1 1) 1 2 (rowC encP [⟨0, 0⟩]) := .inr ⟨q, 0, 1, rfl, b7t hq, fun j hj => by
  match j, hj with
  | 0, _ => exact c7b (k := 0) hq rfl
  | 1, _ => exact c7b (k := 1) hq rfl⟩
 exact (dStroke_any ⟨zeroC, 16, false⟩ (by unfold okC zeroC; simp) p canE (some ⟨q, 0, none⟩) 1 1 [⟨0, 0⟩] rfl (by decide) w hC he).mono fun e w' h => ⟨h.2.2 (by decide), h.1⟩
theorem differ_len (C D : CanT) (c d : Nat) (hw : C.wide = D.wide) (hh : C.high = D.high) (N : Nat) (hN : (diffL C D).length = N) (w : World) (hC : CanAt w c C) (hD : CanAt w d D) :
 Calls Tryz.prog 38 #[.pointer (some ⟨c, 0, none⟩), .pointer (some ⟨d, 0, none⟩)] w fun e w' => ∃ a cap, e = .returned (.slice a N cap) ∧ Below w.heap.size w w' :=
 (differ_any C D c d hw hh w hC hD).mono fun e w' h => by
  obtain ⟨v, he, hr, hb⟩ := h
  have h1 := ownsRow_rows encP_len hr
  obtain ⟨a, cap, rfl, -⟩ := h1.shape
  rw [hN] at he
  exact ⟨a, cap, he, hb⟩
set_option maxRecDepth 100000 in
set_option maxHeartbeats 4000000 in
theorem dWakes_any (w : World) (hr : RedAt w) : Calls Tryz.prog 9 #[] w (Gives (.bool true) w) := by
 have HS := H7 (St.start w)
 have HR := H7 hr
 clear hr
 go_enter Tryz.func9, Tryz.ntmps9
 go_wp2_with fail
 refine (new_any w).mono ?_
 rintro e w1 ⟨p, rfl, hc, -, hb⟩
 have HS := H7 (HS.out.below hb)
 have HR := H7 (HR.out.below hb)
 have HC := H7 hc
 clear hc hb
 have c0 := HR.out.c0
 have c1 := HR.out.c1
 have c2 := HR.out.c2
 have c3 := HR.out.c3
 go_wp2_with fail
 clear c0 c1 c2 c3
 refine (wk_l0 p w1 HC.out).mono ?_
 rintro e w2 ⟨d1, D1, rfl, hd, hk1, hb⟩
 have HS := H7 (HS.out.below hb)
 have HR := H7 (HR.out.below hb)
 have HC := H7 (HC.out.below hb)
 have HD1 := H7 hd
 have HK1 := H7 hk1
 clear hd hk1 hb
 have c0 := HR.out.c0
 have c1 := HR.out.c1
 have c2 := HR.out.c2
 have c3 := HR.out.c3
 go_wp2_with fail
 clear c0 c1 c2 c3
 refine (wk_l1 p w2 HC.out).mono ?_
 rintro e w3 ⟨d2, D2, rfl, hd, hk1, hb⟩
 have HS := H7 (HS.out.below hb)
 have HR := H7 (HR.out.below hb)
 have HC := H7 (HC.out.below hb)
 have HD1 := H7 (HD1.out.below hb)
 have HD2 := H7 hd
 have HK2 := H7 hk1
 clear hd hk1 hb
 have c0 := HR.out.c0
 have c1 := HR.out.c1
 have c2 := HR.out.c2
 have c3 := HR.out.c3
 go_wp2_with fail
 clear c0 c1 c2 c3
 refine (wk_rc p w3 HC.out).mono ?_
 rintro e w4 ⟨d3, D3, rfl, hd, hk1, hb⟩
 have HS := H7 (HS.out.below hb)
 have HR := H7 (HR.out.below hb)
 have HC := H7 (HC.out.below hb)
 have HD1 := H7 (HD1.out.below hb)
 have HD2 := H7 (HD2.out.below hb)
 have HD3 := H7 hd
 have HK3 := H7 hk1
 clear hd hk1 hb
 have c0 := HR.out.c0
 have c1 := HR.out.c1
 have c2 := HR.out.c2
 have c3 := HR.out.c3
 go_wp2_with fail
 clear c0 c1 c2 c3
 refine (wk_fr p w4 HC.out).mono ?_
 rintro e w5 ⟨d4, D4, rfl, hd, hk1, hb⟩
 have HS := H7 (HS.out.below hb)
 have HR := H7 (HR.out.below hb)
 have HC := H7 (HC.out.below hb)
 have HD1 := H7 (HD1.out.below hb)
 have HD2 := H7 (HD2.out.below hb)
 have HD3 := H7 (HD3.out.below hb)
 have HD4 := H7 hd
 have HK4 := H7 hk1
 clear hd hk1 hb
 go_wp2_with fail
 have hs_ := (HS.out.alloc (.cells #[.int .i64 0, .int .i64 0] 26))
 have hk_HR := HR.out.below ((B7 _ _).alloc (by exact Nat.le_refl _) (.cells #[.int .i64 0, .int .i64 0] 26))
 have hk_HC := HC.out.below ((B7 _ _).alloc (by exact Nat.le_refl _) (.cells #[.int .i64 0, .int .i64 0] 26))
 have hk_HD1 := HD1.out.below ((B7 _ _).alloc (by exact Nat.le_refl _) (.cells #[.int .i64 0, .int .i64 0] 26))
 have hk_HD2 := HD2.out.below ((B7 _ _).alloc (by exact Nat.le_refl _) (.cells #[.int .i64 0, .int .i64 0] 26))
 have hk_HD3 := HD3.out.below ((B7 _ _).alloc (by exact Nat.le_refl _) (.cells #[.int .i64 0, .int .i64 0] 26))
 have hk_HD4 := HD4.out.below ((B7 _ _).alloc (by exact Nat.le_refl _) (.cells #[.int .i64 0, .int .i64 0] 26))
 obtain ⟨w6, hw_⟩ : ∃ w6 : World, (w5.alloc (.cells #[.int .i64 0, .int .i64 0] 26)) = w6 := ⟨_, rfl⟩
 rw [hw_] at hs_ hk_HR hk_HC hk_HD1 hk_HD2 hk_HD3 hk_HD4
 try simp only [World.size_alloc] at hs_
 have HS := H7 hs_
 have HR := H7 hk_HR
 have HC := H7 hk_HC
 have HD1 := H7 hk_HD1
 have HD2 := H7 hk_HD2
 have HD3 := H7 hk_HD3
 have HD4 := H7 hk_HD4
 rw [hw_]
 clear hw_ hs_ hk_HR hk_HC hk_HD1 hk_HD2 hk_HD3 hk_HD4
 refine (wk_st p w5.heap.size w6 HC.out (HS.out.blockAt 0 rfl)).mono ?_
 rintro e w7 ⟨rfl, hb_⟩
 have HS := H7 (HS.out.below hb_)
 have HR := H7 (HR.out.below hb_)
 have HC := H7 (HC.out.below hb_)
 have HD1 := H7 (HD1.out.below hb_)
 have HD2 := H7 (HD2.out.below hb_)
 have HD3 := H7 (HD3.out.below hb_)
 have HD4 := H7 (HD4.out.below hb_)
 clear hb_
 have c0 := HR.out.c0
 have c1 := HR.out.c1
 have c2 := HR.out.c2
 have c3 := HR.out.c3
 go_wp2_with fail
 clear c0 c1 c2 c3
 refine (dPaint_nil redC none 0 0 w7).mono ?_
 rintro e w8 ⟨rfl, hb_⟩
 have HS := H7 (HS.out.below hb_)
 have HR := H7 (HR.out.below hb_)
 have HC := H7 (HC.out.below hb_)
 have HD1 := H7 (HD1.out.below hb_)
 have HD2 := H7 (HD2.out.below hb_)
 have HD3 := H7 (HD3.out.below hb_)
 have HD4 := H7 (HD4.out.below hb_)
 clear hb_
 go_wp2_with fail
 refine (differ_len canE D1 p d1 HK1.out.2.1.symm HK1.out.2.2.symm 4 HK1.out.1 _ HC.out HD1.out).mono ?_
 rintro e w9 ⟨a1, cap1, rfl, hb⟩
 have HS := H7 (HS.out.below hb)
 have HC := H7 (HC.out.below hb)
 have HD2 := H7 (HD2.out.below hb)
 have HD3 := H7 (HD3.out.below hb)
 have HD4 := H7 (HD4.out.below hb)
 clear hb
 go_wp2_with fail
 refine (differ_len canE D2 p d2 HK2.out.2.1.symm HK2.out.2.2.symm 10 HK2.out.1 _ HC.out HD2.out).mono ?_
 rintro e w10 ⟨a2, cap2, rfl, hb⟩
 have HS := H7 (HS.out.below hb)
 have HC := H7 (HC.out.below hb)
 have HD3 := H7 (HD3.out.below hb)
 have HD4 := H7 (HD4.out.below hb)
 clear hb
 go_wp2_with fail
 refine (differ_len canE D3 p d3 HK3.out.2.1.symm HK3.out.2.2.symm 9 HK3.out.1 _ HC.out HD3.out).mono ?_
 rintro e w11 ⟨a3, cap3, rfl, hb⟩
 have HS := H7 (HS.out.below hb)
 have HC := H7 (HC.out.below hb)
 have HD4 := H7 (HD4.out.below hb)
 clear hb
 go_wp2_with fail
 refine (differ_len canE D4 p d4 HK4.out.2.1.symm HK4.out.2.2.symm 8 HK4.out.1 _ HC.out HD4.out).mono ?_
 rintro e w12 ⟨a4, cap4, rfl, hb⟩
 have HS := H7 (HS.out.below hb)
 have HC := H7 (HC.out.below hb)
 clear hb
 go_wp2_with fail
 go_ret
 exact ⟨rfl, HS.out.low⟩
end Go.Proofs.YthcdkkmjnglmjaaGreatDoor
/- What a law of layer 7 is given: its own colour laid. -/
namespace Go.Proofs.YthcdkkmjnglmjaaGreatDoor
open Go.ChangeShapes Go.WideShapes Go.ChangeAt Go.RowKit
def laid3 : List (String × DataW Unit) := [("gesso/gessolaw07.red", Rows.laid_gesso_gessolaw07_red)]
theorem door_met (os : Os) (args : Array Value) : laidMetH Tryz.prog laid3 ((World.doorLaid Tryz.prog 400 os).forCall (fun _ _ => 0) ⟨#[], args, []⟩).memory :=
 laidMetH_of_parts3 (fuel := 8) (laidMet_of_run' 8 (by kernel_rfl) (by kernel_rfl)) (by kernel_rfl) (by kernel_rfl)
theorem take1 {cs : Array Value} {k : Nat} {v : Value} (h : (cs.toList.drop k).take 1 = [v]) : cs[k]? = some v := by
 have h2 := congrArg (fun l => l[0]?) h
 rw [← Array.getElem?_toList]
 simpa [List.getElem?_take, List.getElem?_drop] using h2
set_option maxRecDepth 100000 in
theorem red_of_laid {W : World} (h : laidMetH Tryz.prog laid3 W) : RedAt W := by
 rw [MakeChecks.laidMetH_plain _ _ _ (by kernel_rfl)] at h
 obtain ⟨ps, ⟨g0, t0, cs0, f0, p0, q0, hg0, ht0, hv0, hd0, _, _⟩, _, _⟩ := h
 obtain rfl := Option.some.inj ((show Tryz.prog.globalNamed "gesso/gessolaw07.red" = some 0 by kernel_rfl).symm.trans hg0)
 obtain rfl := Option.some.inj ((show (Tryz.prog.globals[0]?).map (·.type) = some 34 by kernel_rfl).symm.trans ht0)
 obtain ⟨xs, m', -, hx, hl, hxl, hf⟩ := DataW.trod_struct Tryz.underlying34 hd0
 have hc1 : Tryz.prog.cellsOf 5 = 1 := by kernel_rfl
 match xs, hxl with
 | [y0, y1, y2, y3], _ =>
  have f0 := hf 0 _ rfl
  have f1 := hf 1 _ rfl
  have f2 := hf 2 _ rfl
  have f3 := hf 3 _ rfl
  simp only [hc1, List.getElem?_cons_zero, List.getElem?_cons_succ] at f0 f1 f2 f3
  obtain ⟨v0, e0, rfl, -⟩ := DataW.trod_int Tryz.underlying5 f0
  obtain ⟨v1, e1, rfl, -⟩ := DataW.trod_int Tryz.underlying5 f1
  obtain ⟨v2, e2, rfl, -⟩ := DataW.trod_int Tryz.underlying5 f2
  obtain ⟨v3, e3, rfl, -⟩ := DataW.trod_int Tryz.underlying5 f3
  have hx2 := congrArg Prod.fst hx
  simp [Rows.laid_gesso_gessolaw07_red] at hx2
  obtain ⟨rfl, rfl, rfl, rfl⟩ := hx2
  obtain ⟨t, f, hh⟩ : ∃ t f, W.heap[0]? = some (.cells cs0 t f) := by
   have hv := hv0
   unfold World.var? at hv
   rw [show Tryz.prog.globalNamed "gesso/gessolaw07.red" = some 0 by kernel_rfl] at hv
   simp only [Option.bind_some] at hv
   split at hv
   · rename_i c t f hh
     cases hv
     exact ⟨t, f, hh⟩
   · cases hv
  exact ⟨c7b hh (take1 (k := 0) e0), c7b hh (take1 (k := 1) e1), c7b hh (take1 (k := 2) e2), c7b hh (take1 (k := 3) e3)⟩
/- Rows: a brush as an argument. -/
theorem flatBrush : flat Tryz.prog 5 38 = some [.int .u8, .int .u8, .int .u8, .int .u8, .int .i64, .bool] := by kernel_rfl
set_option maxRecDepth 100000 in
theorem open_brush {H : Type} {enc : TypeId × Value → H} {w : World} {r : Reach} {b0 : Nat} {v : Value} {d : DataW H} {ps : List MemPlace} (hv : Value.okWide Tryz.prog w r b0 38 v) (h : DataW.Trod enc Tryz.prog w 0 (fun _ => true) true 38 v d ps) :
 ∃ c : BrT, v = c.val ∧ okC c.c := by
 obtain ⟨f2, h2⟩ := h
 have q2 := (open_flat _ _ _ _ _ _ flatBrush h2).2
 obtain ⟨⟨cs2⟩, rfl, hz2, -⟩ : ∃ cs, v = .agg cs ∧ cs.size = Tryz.prog.cellsOf 38 ∧ Row.okWide Tryz.prog w r b0 38 cs := by simpa [Value.okWide, Tryz.underlying38] using hv
 rw [show Tryz.prog.cellsOf 38 = 6 by kernel_rfl] at hz2
 have hz : cs2.length = 6 := by simpa using hz2
 obtain ⟨v0, e0, n0, rfl, w0⟩ := q2 0 (.int .u8) rfl
 obtain ⟨v1, e1, n1, rfl, w1⟩ := q2 1 (.int .u8) rfl
 obtain ⟨v2, e2, n2, rfl, w2⟩ := q2 2 (.int .u8) rfl
 obtain ⟨v3, e3, n3, rfl, w3⟩ := q2 3 (.int .u8) rfl
 obtain ⟨v4, e4, n4, rfl, w4⟩ := q2 4 (.int .i64) rfl
 obtain ⟨v5, e5, n5, rfl⟩ := q2 5 .bool rfl
 obtain ⟨c0, c1, c2, c3, c4, c5, rfl⟩ : ∃ c0 c1 c2 c3 c4 c5, cs2 = [c0, c1, c2, c3, c4, c5] := by
  rcases cs2 with _ | ⟨c0, _ | ⟨c1, _ | ⟨c2, _ | ⟨c3, _ | ⟨c4, _ | ⟨c5, _ | ⟨c6, l⟩⟩⟩⟩⟩⟩⟩ <;> simp at hz
  exact ⟨c0, c1, c2, c3, c4, c5, rfl⟩
 simp [Value.cells] at e0 e1 e2 e3 e4 e5
 subst e0 e1 e2 e3 e4 e5
 exact ⟨⟨⟨n0, n1, n2, n3⟩, n4, n5⟩, rfl, ⟨bounds_u8 w0, bounds_u8 w1⟩, bounds_u8 w2, bounds_u8 w3⟩
end Go.Proofs.YthcdkkmjnglmjaaGreatDoor
/- canvas.Same of two canvases that show the same. -/
namespace Go.Proofs.YthcdkkmjnglmjaaGreatDoor
open Go.RowKit Go.Shelf
attribute [local go_sem] Oper.semAt_some
/- canvas.Same of two canvases that show the same, whole. -/
end Go.Proofs.YthcdkkmjnglmjaaGreatDoor
/- Layer 7: painting twice, washing with what is not seen through, and with what is not there, plain. -/
namespace Go.Proofs.YthcdkkmjnglmjaaGreatDoor
open Go.RowKit Go.Shelf
/- Layer 7: what a canvas shows once something is drawn, plain: the places of a rectangle, of a frame. -/
/-- A canvas that shows another one with the places of Q turned by f. -/
structure Shown (C : CanT) (Q : PtT → Prop) (f : ColT → ColT) (D : CanT) : Prop where
 ok : okCan D
 wide : D.wide = C.wide
 high : D.high = C.high
 yes : ∀ x y : Nat, x < 8 * C.wide → y < 8 * C.high → Q ⟨(x : Int), (y : Int)⟩ → colC D x y = f (colC C x y)
 no : ∀ x y : Nat, x < 8 * C.wide → y < 8 * C.high → ¬ Q ⟨(x : Int), (y : Int)⟩ → colC D x y = colC C x y
theorem Shown.unique {C D E : CanT} {Q : PtT → Prop} {f : ColT → ColT} (h : Shown C Q f D) (k : Shown C Q f E) : D = E := by
 refine CanT.ext_col h.ok k.ok (h.wide.trans k.wide.symm) (h.high.trans k.high.symm) fun x y hx hy => ?_
 rw [h.wide] at hx
 rw [h.high] at hy
 rcases Classical.em (Q ⟨(x : Int), (y : Int)⟩) with h1 | h1
 · rw [h.yes x y hx hy h1, k.yes x y hx hy h1]
 · rw [h.no x y hx hy h1, k.no x y hx hy h1]
theorem Shown.congr {C D : CanT} {Q Q' : PtT → Prop} {f : ColT → ColT} (h : Shown C Q f D) (e : ∀ p, Q p ↔ Q' p) : Shown C Q' f D :=
 ⟨h.ok, h.wide, h.high, fun x y hx hy h1 => h.yes x y hx hy ((e _).2 h1), fun x y hx hy h1 => h.no x y hx hy (fun h2 => h1 ((e _).1 h2))⟩
theorem Painted.shown {C D : CanT} {Q : PtT → Prop} {f : ColT → ColT} (hC : okCan C) (hf : ∀ c, okC c → okC (f c)) (h : Painted C Q f D) : Shown C Q f D := by
 obtain ⟨M, hM, rfl⟩ := h
 refine ⟨paintC_ok hC M hf, paintC_wide _ _ _, paintC_high _ _ _, fun x y hx hy h1 => ?_, fun x y hx hy h1 => ?_⟩
 · rw [paintC_col hC M hf hx hy, if_pos ((hM.has _).2 h1)]
 · rw [paintC_col hC M hf hx hy, if_neg (fun h2 => h1 ((hM.has _).1 h2))]
/-- Painted on what is painted with the same colour. -/
theorem Shown.more {C D E : CanT} {Q Q' : PtT → Prop} {c : ColT} (h : Shown C Q (fpaint c) D) (k : Shown D Q' (fpaint c) E) : Shown C (fun p => Q p ∨ Q' p) (fpaint c) E := by
 refine ⟨k.ok, k.wide.trans h.wide, k.high.trans h.high, fun x y hx hy h1 => ?_, fun x y hx hy h1 => ?_⟩
 · have hx' : x < 8 * D.wide := by rw [h.wide]; exact hx
   have hy' : y < 8 * D.high := by rw [h.high]; exact hy
   rcases Classical.em (Q' ⟨(x : Int), (y : Int)⟩) with h2 | h2
   · rw [k.yes x y hx' hy' h2]; rfl
   · rw [k.no x y hx' hy' h2, h.yes x y hx hy (h1.resolve_right h2)]
 · have hx' : x < 8 * D.wide := by rw [h.wide]; exact hx
   have hy' : y < 8 * D.high := by rw [h.high]; exact hy
   rw [k.no x y hx' hy' (fun h2 => h1 (.inr h2)), h.no x y hx hy (fun h2 => h1 (.inl h2))]
/- Package draw: each drawing as what the canvas shows then. -/
/-- A canvas that shows another one drawn on, or none and an error. -/
def DrawnS (ok : Bool) (er : Int) (C : CanT) (Q : PtT → Prop) (f : ColT → ColT) (w : World) (e : Ending) (w' : World) : Prop :=
 Below w.heap.size w w' ∧ (ok = true → ∃ d D, e = .returned (.tuple #[.pointer (some ⟨d, 0, none⟩), .int .i64 0]) ∧ CanAt w' d D ∧ Shown C Q f D) ∧ (ok = false → e = .returned (.tuple #[.pointer none, .int .i64 er]))
theorem DrawnP.shownS {ok : Bool} {er : Int} (h0 : er ≠ 0) {C : CanT} {Q : PtT → Prop} {f : ColT → ColT} (hC : okCan C) (hf : ∀ c, okC c → okC (f c)) {w w' : World} {e : Ending} (h : DrawnP (errOf ok er) (Painted C Q f) w e w') : DrawnS ok er C Q f w e w' := by
 refine ⟨h.1, fun h1 => ?_, fun h1 => ?_⟩
 · subst h1
   obtain ⟨d, he, D, hP, hD⟩ := h.2.1 rfl
   exact ⟨d, D, he, hD, hP.shown hC hf⟩
 · subst h1
   exact h.2.2 h0
theorem Drawn.shownS {ok : Bool} {er : Int} (h0 : er ≠ 0) {C D : CanT} {Q : PtT → Prop} {f : ColT → ColT} (hD : ok = true → Shown C Q f D) {w w' : World} {e : Ending} (h : Drawn (errOf ok er) D w e w') : DrawnS ok er C Q f w e w' := by
 refine ⟨h.1, fun h1 => ?_, fun h1 => ?_⟩
 · subst h1
   obtain ⟨d, he, hd⟩ := h.2.1 rfl
   exact ⟨d, D, he, hd, hD rfl⟩
 · subst h1
   exact h.2.2 h0
theorem sLine_any (b : BrT) (hc : okC b.c) (f t : PtT) (p : Nat) (C : CanT) (w : World) (hC : CanAt w p C) :
 Calls Tryz.prog 24 #[.pointer (some ⟨p, 0, none⟩), b.val, f.val, t.val] w (DrawnS (lineOk b f t) 2 C (SwM b.size b.round (lineL f t)) (fpaint b.c) w) :=
 (dLine_any b hc f t p C w hC).mono fun _ _ h => h.shownS (by decide) hC.ok (fpaint_ok hc)
theorem sStroke_any (b : BrT) (hc : okC b.c) (p : Nat) (C : CanT) (a : Option Addr) (m cap : Nat) (L : List PtT) (hlen : L.length = m) (hm : m ≤ 30000) (w : World) (hC : CanAt w p C) (he : Elems w (.slice a m cap) m 2 (rowC encP L)) :
 Calls Tryz.prog 21 #[.pointer (some ⟨p, 0, none⟩), b.val, .slice a m cap] w (DrawnS (sizeB b.size && !L.any (fun p => !drawnB p)) 2 C (SwM b.size b.round L) (fpaint b.c) w) :=
 (dStroke_any b hc p C a m cap L hlen hm w hC he).mono fun _ _ h => h.shownS (by decide) hC.ok (fpaint_ok hc)
end Go.Proofs.YthcdkkmjnglmjaaGreatDoor
/- Layer 5: Set, Alike. -/
namespace Go.Proofs.YthcdkkmjnglmjaaGreatDoor
open Go.RowKit Go.Shelf
attribute [local go_sem] Oper.semAt_some
theorem lay_cloneT : Go.Proofs.SlLaysE0.n41 Tryz.prog ⟨fun | 41 => 55 | n => n, fun | 22 => 22 | 23 => 75 | 4 => 4 | n => n, fun | n => n⟩ := {
 mixed := by kernel_rfl
 f41 := ⟨Tryz.f55.name, by decide, Tryz.func55.trans (congrArg some (by kernel_rfl))⟩
 t22 := Tryz.underlying22
 a22 := Tryz.isAgg22
 z22 := Tryz.sizeOf22
 v22 := Tryz.zeroValue22
 t4 := Tryz.underlying4
 a4 := Tryz.isAgg4
 z4 := Tryz.sizeOf4
 v4 := Tryz.zeroValue4 }
instance : Inhabited TileT := ⟨zeroT⟩
theorem infoTl : (Tryz.prog.info? 75).map (fun i => (i.zero, i.size, i.bytes)) = some (some (.agg Tryz.zeroCells75), 256, 256) := by kernel_rfl
theorem cloneT_any (sv : Value) (l : List TileT) (w : World) (h : Elems w sv l.length 256 (rowC encT l)) (hl : l.length ≤ 1000000) :
 Calls Tryz.prog 55 #[sv] w (Cloned 75 256 l.length (l.flatMap encT) sv w) := by
 obtain ⟨i0, hi, hz0, hz1, hz2⟩ := info_parts infoTl
 exact cloneRows lay_cloneT i0 _ 256 256 hi hz0 hz1 hz2 sizeZ (by omega) Tryz.sizeOf75 encT encT_len encT_one sv l w h (by omega) (by omega)
/- The document's layer 5: what a canvas shows, as values: Right, On, At, Same of alike ones. -/
theorem wrapS {n : Nat} (h : n ≤ 100000) : wrap64 ((n : Int) + 1) = ((n + 1 : Nat) : Int) := by unfold wrap64; omega
theorem tileNeS_run (T : TileT) (w : World) : (binOp .neq 75 (.agg (encT T).toArray) (.agg (encT T).toArray)).run Tryz.prog w = .ok (.bool false) w := by
 rw [tileNe_run, decide_eq_true (rfl : T = T)]
 rfl
set_option maxRecDepth 100000 in
theorem r5Sizes_any (wide high : Int) (w : World) : Calls Tryz.prog 56 #[.int .i64 wide, .int .i64 high] w (Gives (.bool (mayB wide high)) w) := by
 by_cases h1 : 1 ≤ wide <;> by_cases h2 : wide ≤ 4 <;> by_cases h3 : 1 ≤ high <;> by_cases h4 : high ≤ 4 <;> (
  go_enter Tryz.func56, Tryz.ntmps56
  go_wp2_with fail
  go_ret
  exact ⟨ret_bool (by unfold mayB; symm; simp [h1, h2, h3, h4]), B7 _ _⟩)
set_option maxRecDepth 100000 in
set_option maxHeartbeats 1000000 in
theorem r5Right_any (wide high : Int) (a : Option Addr) (n cap : Nat) (w : World) : Calls Tryz.prog 16 #[.agg #[.int .i64 wide, .int .i64 high, .slice a n cap]] w (Gives (.bool (okE wide high n)) w) := by
 have HS := H7 (St.start w)
 have HZ := H7 (fun w' => r5Sizes_any wide high w')
 obtain ⟨m, hm⟩ : ∃ m, mayB wide high = m := ⟨_, rfl⟩
 have HM := H7 hm
 unfold okE
 rw [hm] at HZ ⊢
 clear hm
 go_enter Tryz.func16, Tryz.ntmps16
 repeat ((fail_if_success (with_reducible refine stop_at (id := 1) ?_)); (first | go_values | go_skip | go_guarded | go_step | go_upon | go_back | (simp only [Int.not_lt, Int.not_le] at *; go_simp) | (go_values <;> (try go_simp)) | (go_ite <;> go_prune <;> (try go_simp)) | (split <;> (first | (rename_i hx; exact (hx _ rfl).elim) | go_prune))))
 have hs_ := (HS.out.alloc (.cells #[.int .i64 wide, .int .i64 high, .slice a n cap] 24))
 obtain ⟨w1, hw_⟩ : ∃ w1 : World, (w.alloc (.cells #[.int .i64 wide, .int .i64 high, .slice a n cap] 24)) = w1 := ⟨_, rfl⟩
 rw [hw_] at hs_
 try simp only [World.size_alloc] at hs_
 have HS := H7 hs_
 rw [hw_]
 clear hw_ hs_
 have q0 := h7c HS 0 0 rfl rfl
 have q1 := h7c HS 0 1 rfl rfl
 have q2 := h7c HS 0 2 rfl rfl
 go_wp2_with fail
 refine (HZ.out _).mono ?_
 rintro e w2 ⟨rfl, hb_⟩
 have HS := H7 (HS.out.below hb_)
 clear hb_
 have p0 := h7c HS 0 0 rfl rfl
 have p1 := h7c HS 0 1 rfl rfl
 have p2 := h7c HS 0 2 rfl rfl
 clear q0 q1 q2
 cases m with
 | false =>
  go_wp2_with fail
  go_ret
  exact ⟨rfl, HS.out.low⟩
 | true =>
  have e1 : wrap64 (wide * high) = wide * high := by
   have h1 := mayB_iff.1 HM.out
   obtain ⟨W, rfl⟩ := Int.eq_ofNat_of_zero_le (a := wide) (by omega)
   obtain ⟨H, rfl⟩ := Int.eq_ofNat_of_zero_le (a := high) (by omega)
   have h2 : W * H ≤ 4 * 4 := Nat.mul_le_mul (by omega) (by omega)
   rw [← Int.natCast_mul]
   unfold wrap64
   omega
  go_wp2_with fail
  go_ret
  exact ⟨ret_bool (by by_cases h : (n : Int) = wide * high <;> simp [h]), HS.out.low⟩
set_option maxRecDepth 100000 in
set_option maxHeartbeats 2000000 in
theorem r5On_any (C : CanT) (hC : okCan C) (v : Value) (x y : Int) (w : World) (hv : CanV w C v) : Calls Tryz.prog 93 #[v, .int .i64 x, .int .i64 y] w (Gives (.bool (onB (8 * (C.wide : Int)) (8 * (C.high : Int)) ⟨x, y⟩)) w) := by
 have HS := H7 (St.start w)
 obtain ⟨a, cap, rfl, -, -⟩ := hv
 have HW := H7 (And.intro hC.wide hC.high)
 obtain ⟨wide, high, tiles⟩ := C
 simp only at *
 obtain ⟨n, hn⟩ : ∃ n, tiles.length = n := ⟨_, rfl⟩
 rw [hn]
 obtain ⟨W, hW⟩ : ∃ W : Int, 8 * (wide : Int) = W := ⟨_, rfl⟩
 obtain ⟨H, hH⟩ : ∃ H : Int, 8 * (high : Int) = H := ⟨_, rfl⟩
 have e1 : wrap64 (8 * (wide : Int)) = W := by have := HW.out; unfold wrap64; omega
 have e2 : wrap64 (8 * (high : Int)) = H := by have := HW.out; unfold wrap64; omega
 rw [hW, hH]
 clear hC hn hW hH HW
 unfold onB
 simp only
 by_cases h1 : 0 ≤ x <;> by_cases h2 : x < W <;> by_cases h3 : 0 ≤ y <;> by_cases h4 : y < H <;> (
  go_enter Tryz.func93, Tryz.ntmps93
  repeat ((fail_if_success (with_reducible refine stop_at (id := 1) ?_)); (first | go_values | go_skip | go_guarded | go_step | go_upon | go_back | (simp only [Int.not_lt, Int.not_le] at *; go_simp) | (go_values <;> (try go_simp)) | (go_ite <;> go_prune <;> (try go_simp)) | (split <;> (first | (rename_i hx; exact (hx _ rfl).elim) | go_prune))))
  have hs_ := (HS.out.alloc (.cells #[.int .i64 wide, .int .i64 high, .slice a n cap] 24))
  obtain ⟨w1, hw_⟩ : ∃ w1 : World, (w.alloc (.cells #[.int .i64 wide, .int .i64 high, .slice a n cap] 24)) = w1 := ⟨_, rfl⟩
  rw [hw_] at hs_
  try simp only [World.size_alloc] at hs_
  have HS := H7 hs_
  rw [hw_]
  clear hw_ hs_
  have q0 := h7c HS 0 0 rfl rfl
  have q1 := h7c HS 0 1 rfl rfl
  go_wp2_with fail
  go_ret
  exact ⟨ret_bool (by symm; simp [h1, h2, h3, h4]), HS.out.low⟩)
set_option maxRecDepth 100000 in
set_option maxHeartbeats 2000000 in
theorem r5At_any (C : CanT) (hC : okCan C) (v : Value) (x y : Nat) (hx : x < 8 * C.wide) (hy : y < 8 * C.high) (w : World) (hv : CanV w C v) : Calls Tryz.prog 72 #[v, .int .i64 x, .int .i64 y] w (Gives (colC C x y).val w) := by
 have HS := H7 (St.start w)
 obtain ⟨a, cap, rfl, hcap, he⟩ := hv
 have hlt := tile_lt hx hy
 rw [← hC.many] at hlt
 obtain ⟨b, off, rfl⟩ : ∃ b off, a = some ⟨b, off, none⟩ := by
  rcases he with ⟨e, h⟩ | ⟨b, off, cap', e, -, -⟩
  · omega
  · cases e; exact ⟨b, off, rfl⟩
 have HP := H7 (fun (w' : World) h => pixCells (w := w') (b := b) (off := off) (cap := cap) hC h hx hy)
 have HE := H7 he
 have HB := H7 (And.intro hC.wide (And.intro hC.high hC.len))
 have HXY := H7 (And.intro hx hy)
 have HL := H7 hlt
 obtain ⟨c, hc⟩ : ∃ c, colC C x y = c := ⟨_, rfl⟩
 rw [hc] at HP ⊢
 obtain ⟨wide, high, tiles⟩ := C
 simp only at *
 obtain ⟨n, hn⟩ : ∃ n, tiles.length = n := ⟨_, rfl⟩
 obtain ⟨f, hf⟩ : ∃ f, rowC encT tiles = f := ⟨_, rfl⟩
 rw [hn, hf] at HP HE
 rw [hn] at HL HB ⊢
 clear hC hc hn hf hlt hx hy he hcap
 obtain ⟨r, g, b', a'⟩ := c
 unfold ColT.val
 go_enter Tryz.func72, Tryz.ntmps72
 repeat ((fail_if_success (with_reducible refine stop_at (id := 1) ?_)); (first | go_values | go_skip | go_guarded | go_step | go_upon | go_back | (simp only [Int.not_lt, Int.not_le] at *; go_simp) | (go_values <;> (try go_simp)) | (go_ite <;> go_prune <;> (try go_simp)) | (split <;> (first | (rename_i hx; exact (hx _ rfl).elim) | go_prune))))
 have hs_ := ((HS.out.alloc (.cells #[.int .i64 wide, .int .i64 high, .slice (some ⟨b, off, none⟩) n cap] 24)).alloc (.cells #[.int .u8 0, .int .u8 0, .int .u8 0, .int .u8 0] 34))
 obtain ⟨w1, hw_⟩ : ∃ w1 : World, ((w.alloc (.cells #[.int .i64 wide, .int .i64 high, .slice (some ⟨b, off, none⟩) n cap] 24)).alloc (.cells #[.int .u8 0, .int .u8 0, .int .u8 0, .int .u8 0] 34)) = w1 := ⟨_, rfl⟩
 rw [hw_] at hs_
 try simp only [World.size_alloc] at hs_
 have HS := H7 hs_
 rw [hw_]
 clear hw_ hs_
 obtain ⟨qy, hqy⟩ : ∃ qy, y / 8 = qy := ⟨_, rfl⟩
 obtain ⟨qx, hqx⟩ : ∃ qx, x / 8 = qx := ⟨_, rfl⟩
 obtain ⟨m, hm⟩ : ∃ m, qy * wide = m := ⟨_, rfl⟩
 obtain ⟨i, hi⟩ : ∃ i, m + qx = i := ⟨_, rfl⟩
 obtain ⟨j, hj⟩ : ∃ j, y % 8 * 8 + x % 8 = j := ⟨_, rfl⟩
 rw [hqy, hqx, hm, hi] at HL
 rw [hqy, hqx, hm, hi, hj] at HP
 obtain ⟨e1, e2, e3, e4, e5⟩ := at_nums hqy hqx hm hi hj HXY.out.1 HXY.out.2 HB.out.1.2 HB.out.2.1.2
 have hin : i < n := HL.out
 obtain ⟨i2, hi2⟩ : ∃ i2, i * 256 = i2 := ⟨_, rfl⟩
 obtain ⟨j2, hj2⟩ : ∃ j2, j * 4 = j2 := ⟨_, rfl⟩
 rw [hi2, hj2] at HP
 clear hqy hqx hm hi hj
 have q0 := h7c HS 1 0 rfl rfl
 have q2 := h7c HS 1 2 rfl rfl
 have c0 := HP.out _ (HE.out.below HS.out.low) 0 _ rfl
 have c1 := HP.out _ (HE.out.below HS.out.low) 1 _ rfl
 have c2 := HP.out _ (HE.out.below HS.out.low) 2 _ rfl
 have c3 := HP.out _ (HE.out.below HS.out.low) 3 _ rfl
 rw [Nat.add_zero] at c0
 have k0 := h7c HS 0 0 rfl rfl
 have k1 := h7c HS 0 1 rfl rfl
 have k2 := h7c HS 0 2 rfl rfl
 have k3 := h7c HS 0 3 rfl rfl
 have f0 := f7b (HS.out.blockAt 0 rfl)
 go_wp2_with fail
 refine bodyPost_ret (v := .agg #[.int .u8 r, .int .u8 g, .int .u8 b', .int .u8 a']) (by simp [results, Tryz.results72, go_sem, k0, k1, k2, k3]) rfl ⟨rfl, ?_⟩
 have h0 := HS.out.low
 (repeat (first | exact B7 _ _ | assumption | refine Below.alloc ?_ (by first | omega | (simp; done) | (simp; omega)) _ | refine Below.setCell ?_ (by first | omega | (simp; done) | (simp; omega)) _ | refine Below.drew ?_))
set_option maxRecDepth 100000 in
set_option maxHeartbeats 2000000 in
theorem r5Same_eq (C : CanT) (hl : C.tiles.length ≤ 1000) (v u : Value) (w : World) (hv : CanV w C v) (hu : CanV w C u) : Calls Tryz.prog 25 #[v, u] w (Gives (.bool true) w) := by
 obtain ⟨a, cap, rfl, -, he⟩ := hv
 obtain ⟨a2, cap2, rfl, -, he2⟩ := hu
 have HE := H7 he
 have HE2 := H7 he2
 obtain ⟨n, hn⟩ : ∃ n, C.tiles.length = n := ⟨_, rfl⟩
 rw [hn] at HE HE2 hl ⊢
 have HN := H7 (And.intro hn hl)
 obtain ⟨wide, high, tiles⟩ := C
 simp only at *
 have HS := H7 (St.start w)
 clear he he2 hn
 go_enter Tryz.func25, Tryz.ntmps25
 repeat ((fail_if_success (with_reducible refine stop_at (id := 1) ?_)); (first | go_values | go_skip | go_guarded | go_step | go_upon | go_back | (simp only [Int.not_lt, Int.not_le] at *; go_simp) | (go_values <;> (try go_simp)) | (go_ite <;> go_prune <;> (try go_simp)) | (split <;> (first | (rename_i hx; exact (hx _ rfl).elim) | go_prune))))
 have hs_ := ((HS.out.alloc (.cells #[.int .i64 wide, .int .i64 high, .slice a n cap] 24)).alloc (.cells #[.int .i64 wide, .int .i64 high, .slice a2 n cap2] 24))
 obtain ⟨w1, hw_⟩ : ∃ w1 : World, ((w.alloc (.cells #[.int .i64 wide, .int .i64 high, .slice a n cap] 24)).alloc (.cells #[.int .i64 wide, .int .i64 high, .slice a2 n cap2] 24)) = w1 := ⟨_, rfl⟩
 rw [hw_] at hs_
 try simp only [World.size_alloc] at hs_
 have HS := H7 hs_
 rw [hw_]
 clear hw_ hs_
 have q0 := h7c HS 1 0 rfl rfl
 have q1 := h7c HS 1 1 rfl rfl
 have q2 := h7c HS 1 2 rfl rfl
 have p0 := h7c HS 0 0 rfl rfl
 have p1 := h7c HS 0 1 rfl rfl
 have p2 := h7c HS 0 2 rfl rfl
 go_wp2_with fail
 clear q0 q1 q2 p0 p1 p2
 have HLW := H7 (LowAt.mk (B7 w1.heap.size w1))
 go_loopw [31] (fun i wr => ∃ j : Nat, j ≤ n ∧ i = .int .i64 (j : Int) ∧ LowAt w1 wr) (fun i _ => n - (intOf i).toNat)
 case atStart => exact ⟨0, by omega, rfl, HLW.out⟩
 case round =>
  obtain ⟨j, hj, rfl, hg⟩ := hrel
  clear HLW
  have HG := H7 hg
  clear hg
  by_cases hlt : j < n
  · obtain ⟨t, ht⟩ : ∃ t, tiles[j]? = some t := ⟨_, List.getElem?_eq_getElem (by rw [HN.out.1]; exact hlt)⟩
    obtain ⟨bb, off, rfl⟩ : ∃ bb off, a = some ⟨bb, off, none⟩ := by
     rcases HE.out with ⟨e, h⟩ | ⟨b, off, cap', e, -, -⟩
     · omega
     · cases e; exact ⟨b, off, rfl⟩
    obtain ⟨bb2, off2, rfl⟩ : ∃ bb off, a2 = some ⟨bb, off, none⟩ := by
     rcases HE2.out with ⟨e, h⟩ | ⟨b, off, cap', e, -, -⟩
     · omega
     · cases e; exact ⟨b, off, rfl⟩
    have hs := HS.out.below HG.out.low
    have HR := H7 (elem_range encT_len (HE.out.below hs.low) ht HN.out.1)
    have HSZ := H7 (size_T t)
    have HZ := H7 (encT_all t)
    have HX := H7 (HE2.out.below hs.low)
    have HT := H7 ht
    have HS := H7 hs
    have HSS := H7 (St.start wr)
    have HJ := H7 hlt
    have HE1 := H7 (wrapS (n := j) (by have := HN.out; omega))
    clear ht hj hs
    repeat ((fail_if_success (with_reducible refine stop_at (id := 5) ?_)); (first | go_values | go_skip | go_guarded | go_step | go_upon | go_back | (simp only [Int.not_lt, Int.not_le] at *; go_simp) | (go_values <;> (try go_simp)) | (go_ite <;> go_prune <;> (try go_simp)) | (split <;> (first | (rename_i hx; exact (hx _ rfl).elim) | go_prune))))
    clear hlt
    refine (wpIn_wide (n := 0)).1 ?_
    gi_wp2_with fail
    refine opIn_load_mid 75 _ rfl bb (off + j * 256) rfl (encT t) _ HR.out Tryz.underlying75 rfl (HSZ.out.trans (by rw [List.size_toArray])) ?_
    simp only [Act.put, List.setIfInBounds_toArray, List.set_cons_succ, List.set_cons_zero]
    gi_step
    gi_step
    gi_step
    gi_step
    gi_step
    gi_step
    gi_step
    refine opIn_store 75 _ _ rfl wr.heap.size 75 Tryz.zeroCells75 (encT t).toArray rfl rfl (World.alloc_heap_new _ _) HSZ.out (Eq.trans (b := 256) (by kernel_rfl) (by rw [List.size_toArray, encT_len])) HZ.out ?_
    simp only [Act.put, List.setIfInBounds_toArray, List.set_cons_succ, List.set_cons_zero]
    have hs5 := HSS.out.allocRow Tryz.zeroCells75 (encT t).toArray 75
    obtain ⟨w5, hw5⟩ : ∃ w5, (wr.alloc (.cells Tryz.zeroCells75 75)).setRow wr.heap.size (encT t).toArray = w5 := ⟨_, rfl⟩
    rw [hw5] at hs5
    rw [hw5]
    obtain ⟨B, hB⟩ : ∃ B, wr.heap.size = B := ⟨_, rfl⟩
    have HS := H7 (HS.out.below hs5.low)
    have HX := H7 (HX.out.below hs5.low)
    have hs6 := hs5.blockAt 0 rfl
    rw [hB] at hs6
    have HB := H7 (BlkA.mk hs6)
    have HS5 := H7 hs5.low
    simp only [hB]
    clear hs5 hs6 hw5 HSS HR HZ
    gi_wp2_with fail
    repeat ((fail_if_success (with_reducible refine stop_at (id := 6) ?_)); (first | go_values | go_skip | go_guarded | go_step | go_upon | go_back | (simp only [Int.not_lt, Int.not_le] at *; go_simp) | (go_values <;> (try go_simp)) | (go_ite <;> go_prune <;> (try go_simp)) | (split <;> (first | (rename_i hx; exact (hx _ rfl).elim) | go_prune))))
    refine (wpIn_wide (n := 0)).1 ?_
    apply w7v 7 (Rl := [(fun v_ _ => v_ = (.agg (encT t).toArray : Value)), (eqv _), (eqv _), (eqv _), (eqv _), (fun v_ _ => v_ = (.agg (encT t).toArray : Value)), (fun v_ _ => v_ = (.bool false : Value))]) (C := (fun x y => Below x.heap.size x y))
    case hm => kernel_rfl
    case hk => rfl
    case hCr => exact (fun _ => B7 _ _)
    case hCt => intro _ _ _; exact (fun h k => g7t h k)
    case hst => repeat (first | exact trivial | refine ⟨fun _ _ _ _ h => h, ?_⟩)
    case hfo => kernel_rfl
    case ht => kernel_rfl
    case hC0 => exact (g7d _)
    case hsteps =>
     refine ⟨?_, ?_, ?_, ?_, ?_, ?_, ?_, trivial⟩
     · intro a' w' hA hC hD; have s6 := hA.to 6 (by kernel_rfl) rfl; clear hA hD; refine o7p rfl ?_; intro K hK
       refine opIn_load 75 _ rfl B (by simp [Act.eval, s6]) 75 (encT t).toArray (0, 0) _ (HB.out.below hC).at_ Tryz.underlying75 rfl HSZ.out (hK _ _ rfl (B7 _ _))
     · intro a' w' hA hC hD; have s3 := hA.to 3 (by kernel_rfl) rfl; clear hA hD; refine o7p rfl ?_; intro K hK; gi_wp2; exact hK _ _ rfl (B7 _ _)
     · intro a' w' hA hC hD; obtain ⟨u37, s37, rfl⟩ := hD ⟨1, .data⟩ (by simp) rfl _ rfl
       have z2 := c7b (k := 2) ((HS.out.below hC).blockAt 0 rfl) rfl
       clear hA hD; refine o7p rfl ?_; intro K hK; gi_wp2; exact hK _ _ rfl (B7 _ _)
     · intro a' w' hA hC hD; have s5 := hA.to 5 (by kernel_rfl) rfl; clear hA hD; refine o7p rfl ?_; intro K hK; gi_wp2; exact hK _ _ rfl (B7 _ _)
     · intro a' w' hA hC hD; obtain ⟨u38, s38, rfl⟩ := hD ⟨2, .data⟩ (by simp) rfl _ rfl; obtain ⟨u39, s39, rfl⟩ := hD ⟨3, .data⟩ (by simp) rfl _ rfl
       have hin := HJ.out
       clear hA hD; refine o7p rfl ?_; intro K hK; gi_wp2; exact hK _ _ rfl (B7 _ _)
     · intro a' w' hA hC hD; obtain ⟨u40, s40, rfl⟩ := hD ⟨4, .data⟩ (by simp) rfl _ rfl; clear hA hD; refine o7p rfl ?_; intro K hK
       refine opIn_load_mid 75 _ rfl bb2 (off2 + j * 256) (by simp [Act.eval, s40]) (encT t) _ (elem_range encT_len (HX.out.below hC) HT.out HN.out.1) Tryz.underlying75 rfl (HSZ.out.trans (by rw [List.size_toArray])) (hK _ _ rfl (B7 _ _))
     · intro a' w' hA hC hD; obtain ⟨u36, s36, r36⟩ := hD ⟨0, .data⟩ (by simp) rfl _ rfl; replace r36 : u36 = .agg (encT t).toArray := r36; subst r36; obtain ⟨u41, s41, r41⟩ := hD ⟨5, .data⟩ (by simp) rfl _ rfl; replace r41 : u41 = .agg (encT t).toArray := r41; subst r41; clear hA hD; refine o7p rfl ?_; intro K hK
       refine opIn_bin _ _ _ _ _ rfl (by simp [Act.eval, s36]) (by simp [Act.eval, s41]) (tileG_run _ _ _ _ w') (tileNeS_run t w') (hK _ _ rfl (B7 _ _))
    case hend =>
     intro w6 hC
     simp only [EndFrom, eqv, forall_eq, Act.put, List.length_cons, List.length_nil, List.drop_succ_cons, List.drop_zero, Nat.reduceAdd, List.setIfInBounds_toArray, List.set_cons_succ, List.set_cons_zero]
     have HG := H7 (HG.out.below (HS5.out.trans (hC.mono HS5.out.size)))
     clear hC
     gi_wp2
     go_wp2_with fail
     go_roundw
     case rel => exact ⟨j + 1, HJ.out, by first | exact congrArg (Value.int .i64) HE1.out | exact congrArg (Value.int .i64) (Int.natCast_succ j).symm | (congr 1; omega), HG.out⟩
     case measure => (try rw [HE1.out]); have := HJ.out; simp only [intOf]; omega
  · go_wp2_with fail
    go_ret
    exact ⟨rfl, HS.out.low.trans (HG.out.low.mono HS.out.low.size)⟩
/- Layer 7's laws: own, says; the document's Over. -/
/-- What a clone is, for those who only read it. -/
theorem clone_read {α : Type} {E : TypeId} {k n : Nat} {enc : α → List Value} {L : List α} {sv : Value} {w : World} {e : Ending} {w' : World} (hk : ∀ q, (enc q).length = k) (hn : L.length = n) (h : Cloned E k L.length (L.flatMap enc) sv w e w') :
 ∃ a cap, e = .returned (.slice a n cap) ∧ n ≤ cap ∧ Elems w' (.slice a n cap) n k (rowC enc L) ∧ Below w.heap.size w w' ∧ ∀ ad, a = some ad → w.heap.size ≤ ad.block := by
 obtain ⟨v, rfl, hr, -, hb⟩ := h
 subst hn
 have he := ownsRow_rows hk hr
 rcases hr.2 with ⟨rfl, h0⟩ | ⟨g, cap, cur, rfl, h1, h2, h3, h4⟩
 · exact ⟨none, 0, by rw [h0], by omega, by rw [h0] at he ⊢; exact he, hb, fun ad e => by cases e⟩
 · exact ⟨_, cap, rfl, h3, he, hb, fun ad e => by cases e; exact h1⟩
theorem elems_other {w : World} {a : Option Addr} {n cap k : Nat} {f : Nat → Value} (h : Elems w (.slice a n cap) n k f) {p : Nat} (hp : ∀ ad, a = some ad → ad.block ≠ p) (j : Nat) (v : Value) : Elems (w.setCell ⟨p, j, none⟩ v) (.slice a n cap) n k f := by
 rcases h with h | ⟨b, off, cap', e, hlt, hc⟩
 · exact .inl h
 · cases e
   refine .inr ⟨b, off, cap, rfl, by rw [World.size_setCell]; exact hlt, fun i hi => ?_⟩
   rw [← hc i hi]
   exact World.cell?_of_block (Below.heap_setCell _ _ _ b (hp ⟨b, off, none⟩ rfl))
def GivesOwn (wide high : Int) (us : List TileT) (w : World) (e : Ending) (w' : World) : Prop :=
 ∃ a cap, e = .returned (.agg #[.int .i64 wide, .int .i64 high, .slice a us.length cap]) ∧ us.length ≤ cap ∧ Elems w' (.slice a us.length cap) us.length 256 (rowC encT us) ∧ Below w.heap.size w w'
set_option maxRecDepth 100000 in
set_option maxHeartbeats 1000000 in
theorem own_any (wide high : Int) (a : Option Addr) (n cap : Nat) (ts : List TileT) (hl : ts.length = n) (hc : n ≤ cap) (w : World) (he : Elems w (.slice a n cap) n 256 (rowC encT ts)) :
 Calls Tryz.prog 14 #[.agg #[.int .i64 wide, .int .i64 high, .slice a n cap]] w (GivesOwn wide high (ts.take 17) w) := by
 have HS := H7 (St.start w)
 obtain ⟨k, hk⟩ : ∃ k, min n 17 = k := ⟨_, rfl⟩
 have hkn : k ≤ n := by omega
 have htl : (ts.take 17).length = k := by rw [List.length_take]; omega
 have hte : ts.take 17 = ts.take k := by
  rcases Nat.lt_or_ge n 17 with h | h
  · rw [List.take_of_length_le (by omega), List.take_of_length_le (by omega)]
  · rw [show k = 17 by omega]
 have het := Elems.take encT_len hl he hkn
 rw [← hte] at het
 have e1 : min (n : Int) 17 = (k : Int) := by omega
 obtain ⟨T, hT⟩ : ∃ T, ts.take 17 = T := ⟨_, rfl⟩
 rw [hT] at het htl ⊢
 have hkc : k ≤ cap := by omega
 have HCL := H7 (fun w' (hb : Below w.heap.size w w') => (cloneT_any (.slice a k cap) T w' (by rw [htl]; exact het.below hb) (by omega)).mono fun e w'' h => clone_read encT_len htl h)
 unfold GivesOwn
 rw [htl]
 clear hT het htl hte he hk hl hc
 go_enter Tryz.func14, Tryz.ntmps14
 repeat ((fail_if_success (with_reducible refine stop_at (id := 1) ?_)); (first | go_values | go_skip | go_guarded | go_step | go_upon | go_back | (simp only [Int.not_lt, Int.not_le] at *; go_simp) | (go_values <;> (try go_simp)) | (go_ite <;> go_prune <;> (try go_simp)) | (split <;> (first | (rename_i hx; exact (hx _ rfl).elim) | go_prune))))
 have hs_ := ((HS.out.alloc (.cells #[.int .i64 wide, .int .i64 high, .slice a n cap] 24)).alloc (.cells #[.int .i64 0, .int .i64 0, .slice none 0 0] 24))
 obtain ⟨w1, hw_⟩ : ∃ w1 : World, ((w.alloc (.cells #[.int .i64 wide, .int .i64 high, .slice a n cap] 24)).alloc (.cells #[.int .i64 0, .int .i64 0, .slice none 0 0] 24)) = w1 := ⟨_, rfl⟩
 rw [hw_] at hs_
 try simp only [World.size_alloc] at hs_
 have HS := H7 hs_
 rw [hw_]
 clear hw_ hs_
 have HLT := H7 (show w.heap.size + 1 < w1.heap.size from HS.out.lt 0 rfl)
 have q2 := h7c HS 1 2 rfl rfl
 have f1 := f7b (HS.out.blockAt 1 rfl)
 go_wp2_with fail
 clear q2 f1
 refine (HCL.out w1 HS.out.low).mono ?_
 rintro e w2 ⟨a', c', rfl, hc', he', hb, hnew⟩
 have HS := H7 (HS.out.below hb)
 have hp : ∀ ad, a' = some ad → ad.block ≠ w.heap.size ∧ ad.block ≠ w.heap.size + 1 := fun ad e => by
  have h1 := hnew ad e
  have h2 := HLT.out
  exact ⟨by omega, by omega⟩
 have HE := H7 (And.intro hc' (elems_other he' (fun ad e => (hp ad e).1) 2 (.slice a' k c')))
 have HP := H7 hp
 clear he' hc' hb HCL hnew hp
 have f1 := f7b (HS.out.blockAt 1 rfl)
 have q2 := h7c HS 1 2 rfl rfl
 repeat ((fail_if_success (with_reducible refine stop_at (id := 2) ?_)); (first | go_values | go_skip | go_guarded | go_step | go_upon | go_back | (simp only [Int.not_lt, Int.not_le] at *; go_simp) | (go_values <;> (try go_simp)) | (go_ite <;> go_prune <;> (try go_simp)) | (split <;> (first | (rename_i hx; exact (hx _ rfl).elim) | go_prune))))
 clear f1 q2
 have hs := HS.out.putAt (pre := [_]) (by intro i hi; simp at hi; exact ⟨_, _, hi⟩) 2 (.slice a' k c') rfl
 obtain ⟨w3, hw3⟩ : ∃ w3, w2.setCell ⟨w.heap.size, 2, none⟩ (.slice a' k c') = w3 := ⟨_, rfl⟩
 rw [hw3] at hs HE ⊢
 have HS := H7 hs
 clear hs hw3
 have k0 := h7c HS 1 0 rfl rfl
 have k1 := h7c HS 1 1 rfl rfl
 have k2 := h7c HS 1 2 rfl rfl
 have f0 := f7b (HS.out.blockAt 0 rfl)
 have j0 := h7c HS 0 0 rfl rfl
 have j1 := h7c HS 0 1 rfl rfl
 have j2 := h7c HS 0 2 rfl rfl
 go_wp2_with fail
 have h0 := HS.out.low
 refine bodyPost_ret (v := .agg #[.int .i64 wide, .int .i64 high, .slice a' k c']) (by simp [results, Tryz.results14, go_sem, j0, j1, j2]) rfl ⟨a', c', rfl, HE.out.1, ?_, ?_⟩
 · repeat refine elems_other ?_ (fun ad e => (HP.out ad e).2) _ _
   exact HE.out.2
 · (repeat (first | exact B7 _ _ | assumption | refine Below.alloc ?_ (by first | omega | (simp; done) | (simp; omega)) _ | refine Below.setCell ?_ (by first | omega | (simp; done) | (simp; omega)) _ | refine Below.drew ?_))
set_option maxRecDepth 100000 in
set_option maxHeartbeats 1000000 in
theorem says_yes (D : CanT) (d : Nat) (v : Value) (w : World) (hD : CanAt w d D) (hv : CanV w D v) :
 Calls Tryz.prog 22 #[.pointer (some ⟨d, 0, none⟩), .int .i64 0, v, .int .i64 0] w (Gives (.bool true) w) := by
 have HD := H7 hD
 have HV := H7 hv
 obtain ⟨a, cap, rfl, -, -⟩ := hv
 have HN := H7 (show D.tiles.length ≤ 1000 by have := hD.ok.len; omega)
 have HSM := H7 (fun v u w' h1 h2 => r5Same_eq D HN.out v u w' h1 h2)
 have HS := H7 (St.start w)
 obtain ⟨wi, hwi⟩ : ∃ wi, D.wide = wi := ⟨_, rfl⟩
 obtain ⟨hi, hhi⟩ : ∃ hi, D.high = hi := ⟨_, rfl⟩
 obtain ⟨n, hn⟩ : ∃ n, D.tiles.length = n := ⟨_, rfl⟩
 rw [hwi, hhi, hn] at HV ⊢
 clear hD hwi hhi hn HN
 go_enter Tryz.func22, Tryz.ntmps22
 repeat ((fail_if_success (with_reducible refine stop_at (id := 1) ?_)); (first | go_values | go_skip | go_guarded | go_step | go_upon | go_back | (simp only [Int.not_lt, Int.not_le] at *; go_simp) | (go_values <;> (try go_simp)) | (go_ite <;> go_prune <;> (try go_simp)) | (split <;> (first | (rename_i hx; exact (hx _ rfl).elim) | go_prune))))
 have hs_ := (HS.out.alloc (.cells #[.int .i64 wi, .int .i64 hi, .slice a n cap] 24))
 obtain ⟨w1, hw_⟩ : ∃ w1 : World, (w.alloc (.cells #[.int .i64 wi, .int .i64 hi, .slice a n cap] 24)) = w1 := ⟨_, rfl⟩
 rw [hw_] at hs_
 try simp only [World.size_alloc] at hs_
 have HS := H7 hs_
 rw [hw_]
 clear hw_ hs_
 repeat ((fail_if_success (with_reducible refine stop_at (id := 3) ?_)); (first | go_values | go_skip | go_guarded | go_step | go_upon | go_back | (simp only [Int.not_lt, Int.not_le] at *; go_simp) | (go_values <;> (try go_simp)) | (go_ite <;> go_prune <;> (try go_simp)) | (split <;> (first | (rename_i hx; exact (hx _ rfl).elim) | go_prune))))
 refine (wpIn_wide (n := 0)).1 ?_
 apply w7v 13 (Rl := [(eqv _), (eqv _), (eqv _), (eqv _), (eqv _), (eqv _), (eqv _), (eqv _), (fun v_ w_ => CanV w_ D v_), (eqv _), (eqv _), (eqv _), (eqv _)]) (C := (fun x y => Below x.heap.size x y))
 case hm => kernel_rfl
 case hk => rfl
 case hCr => exact (fun _ => B7 _ _)
 case hCt => intro _ _ _; exact (fun h k => g7t h k)
 case hst => exact ⟨fun _ _ _ _ h => h, fun _ _ _ _ h => h, fun _ _ _ _ h => h, fun _ _ _ _ h => h, fun _ _ _ _ h => h, fun _ _ _ _ h => h, fun _ _ _ _ h => h, fun _ _ _ _ h => h, fun _ _ _ hC h => h.below hC, fun _ _ _ _ h => h, fun _ _ _ _ h => h, fun _ _ _ _ h => h, fun _ _ _ _ h => h, trivial⟩
 case hfo => kernel_rfl
 case ht => kernel_rfl
 case hC0 => exact (g7d _)
 case hsteps =>
  refine ⟨?_, ?_, ?_, ?_, ?_, ?_, ?_, ?_, ?_, ?_, ?_, ?_, ?_, trivial⟩
  · intro a' w' hA hC hD; have s1 := hA.to 1 (by kernel_rfl) rfl; clear hA hD; refine o7p rfl ?_; intro K hK; gi_wp2; exact hK _ _ rfl (B7 _ _)
  · intro a' w' hA hC hD; obtain ⟨u18, s18, rfl⟩ := hD ⟨0, .data⟩ (by simp) rfl _ rfl; clear hA hD; refine o7p rfl ?_; intro K hK; gi_wp2; exact hK _ _ rfl (B7 _ _)
  · intro a' w' hA hC hD; obtain ⟨u19, s19, rfl⟩ := hD ⟨1, .data⟩ (by simp) rfl _ rfl; clear hA hD; refine o7p rfl ?_; intro K hK; gi_wp2; exact hK _ _ rfl (B7 _ _)
  · intro a' w' hA hC hD; have s0 := hA.to 0 (by kernel_rfl) rfl; obtain ⟨u20, s20, rfl⟩ := hD ⟨2, .guard⟩ (by simp) rfl _ rfl; clear hA hD; refine o7w rfl rfl s20 ?_; intro K hK; gi_wp2; exact hK _ _ rfl (B7 _ _)
  · intro a' w' hA hC hD; obtain ⟨u21, s21, rfl⟩ := hD ⟨3, .data⟩ (by simp) rfl _ rfl; obtain ⟨u20, s20, rfl⟩ := hD ⟨2, .guard⟩ (by simp) rfl _ rfl; clear hA hD; refine o7w rfl rfl s20 ?_; intro K hK; gi_wp2; exact hK _ _ rfl (B7 _ _)
  · intro a' w' hA hC hD; obtain ⟨u20, s20, rfl⟩ := hD ⟨2, .data⟩ (by simp) rfl _ rfl; obtain ⟨u22, s22, rfl⟩ := hD ⟨4, .data⟩ (by simp) rfl _ rfl; clear hA hD; refine o7p rfl ?_; intro K hK; gi_wp2; exact hK _ _ rfl (B7 _ _)
  · intro a' w' hA hC hD; obtain ⟨u23, s23, rfl⟩ := hD ⟨5, .data⟩ (by simp) rfl _ rfl; clear hA hD; refine o7p rfl ?_; intro K hK; gi_wp2; exact hK _ _ rfl (B7 _ _)
  · intro a' w' hA hC hD; have s0 := hA.to 0 (by kernel_rfl) rfl; obtain ⟨u24, s24, rfl⟩ := hD ⟨6, .guard⟩ (by simp) rfl _ rfl; clear hA hD; refine o7w rfl rfl s24 ?_; intro K hK; gi_wp2; exact hK _ _ rfl (B7 _ _)
  · intro a' w' hA hC hD; obtain ⟨u25, s25, rfl⟩ := hD ⟨7, .data⟩ (by simp) rfl _ rfl; obtain ⟨u24, s24, rfl⟩ := hD ⟨6, .chain⟩ (by simp) rfl _ rfl; clear hA hD; refine o7w rfl rfl s24 ?_; intro K hK
    gi_wp2_with fail; refine (callsIn_wide.2 (show_any D d _ (HD.out.below ((HS.out.below hC).low)))).mono ?_; rintro e w5 ⟨v5, rfl, hr5, hb5⟩
    exact hK _ _ hr5 hb5
  · intro a' w' hA hC hD; have s6 := hA.to 6 (by kernel_rfl) rfl; obtain ⟨u24, s24, rfl⟩ := hD ⟨6, .guard⟩ (by simp) rfl _ rfl
    have h1_ := (HS.out.below hC).blockAt 0 rfl; have c1_0 := c7b (k := 0) h1_ rfl; have c1_1 := c7b (k := 1) h1_ rfl; have c1_2 := c7b (k := 2) h1_ rfl; clear h1_
    clear hA hD; refine o7w rfl rfl s24 ?_; intro K hK; gi_wp2; exact hK _ _ rfl (B7 _ _)
  · intro a' w' hA hC hD; obtain ⟨u26, s26, r26⟩ := hD ⟨8, .data⟩ (by simp) rfl _ rfl; replace r26 : (fun v_ w_ => CanV w_ D v_) u26 w' := r26; obtain ⟨u27, s27, rfl⟩ := hD ⟨9, .data⟩ (by simp) rfl _ rfl; obtain ⟨u24, s24, rfl⟩ := hD ⟨6, .guard⟩ (by simp) rfl _ rfl; clear hA hD; refine o7w rfl rfl s24 ?_; intro K hK
    gi_wp2_with fail; refine (callsIn_wide.2 (HSM.out _ _ _ r26 (HV.out.below (HS.out.below hC).low))).mono ?_; rintro e w2 ⟨rfl, hb⟩
    exact hK _ _ rfl hb
  · intro a' w' hA hC hD; obtain ⟨u24, s24, rfl⟩ := hD ⟨6, .data⟩ (by simp) rfl _ rfl; obtain ⟨u28, s28, rfl⟩ := hD ⟨10, .data⟩ (by simp) rfl _ rfl; clear hA hD; refine o7p rfl ?_; intro K hK; gi_wp2; exact hK _ _ rfl (B7 _ _)
  · intro a' w' hA hC hD; obtain ⟨u29, s29, rfl⟩ := hD ⟨11, .data⟩ (by simp) rfl _ rfl; clear hA hD; refine o7p rfl ?_; intro K hK; gi_wp2; exact hK _ _ rfl (B7 _ _)
 case hend =>
  intro w40 hC
  simp only [EndFrom, eqv, forall_eq, Act.put, List.length_cons, List.length_nil, List.drop_succ_cons, List.drop_zero, Nat.reduceAdd, List.setIfInBounds_toArray, List.set_cons_succ, List.set_cons_zero]
  have HS := H7 (HS.out.below hC)
  clear hC
  intro v41 hv41
  clear hv41
  gi_wp2
  go_wp2_with fail
  go_ret
  exact ⟨rfl, HS.out.low⟩
set_option maxRecDepth 100000 in
theorem says_no (er : Int) (her : er ≠ 0) (wide high : Int) (a : Option Addr) (n cap : Nat) (w : World) :
 Calls Tryz.prog 22 #[.pointer none, .int .i64 er, .agg #[.int .i64 wide, .int .i64 high, .slice a n cap], .int .i64 er] w (Gives (.bool true) w) := by
 have HS := H7 (St.start w)
 go_enter Tryz.func22, Tryz.ntmps22
 repeat ((fail_if_success (with_reducible refine stop_at (id := 1) ?_)); (first | go_values | go_skip | go_guarded | go_step | go_upon | go_back | (simp only [Int.not_lt, Int.not_le] at *; go_simp) | (go_values <;> (try go_simp)) | (go_ite <;> go_prune <;> (try go_simp)) | (split <;> (first | (rename_i hx; exact (hx _ rfl).elim) | go_prune))))
 have hs_ := (HS.out.alloc (.cells #[.int .i64 wide, .int .i64 high, .slice a n cap] 24))
 obtain ⟨w1, hw_⟩ : ∃ w1 : World, (w.alloc (.cells #[.int .i64 wide, .int .i64 high, .slice a n cap] 24)) = w1 := ⟨_, rfl⟩
 rw [hw_] at hs_
 try simp only [World.size_alloc] at hs_
 have HS := H7 hs_
 rw [hw_]
 clear hw_ hs_
 go_wp2_with fail
 go_ret
 exact ⟨rfl, HS.out.low⟩
end Go.Proofs.YthcdkkmjnglmjaaGreatDoor
