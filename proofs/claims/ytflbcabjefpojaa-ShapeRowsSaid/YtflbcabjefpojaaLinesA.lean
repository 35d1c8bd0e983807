/- ShapeLines: contracts of the calls, as rows that are read; pairs of places. -/
import Derived.Test.YtflbcabjefpojaaSweeps
namespace Go.Proofs.Ytflbcabjefpojaa
set_option linter.unusedSimpArgs false
set_option linter.unusedVariables false
open Go.RowKit Go.Shelf

/-- Two places: four cells. -/
def encPP (x : PtT × PtT) : List Value := [.int .i64 x.1.x, .int .i64 x.1.y, .int .i64 x.2.x, .int .i64 x.2.y]
theorem encPP_len (x : PtT × PtT) : (encPP x).length = 4 := rfl
theorem ppCells {w : World} {a : Option Addr} {n cap : Nat} {l : List (PtT × PtT)} (hn : l.length = n) (h : Elems w (.slice a n cap) n 4 (rowC encPP l)) (k : Nat) (x : PtT × PtT) (hx : l[k]? = some x) :
    ∃ b off, a = some ⟨b, off, none⟩ ∧ b < w.heap.size ∧ w.cell? ⟨b, off + k * 4, none⟩ = some (.int .i64 x.1.x) ∧ w.cell? ⟨b, off + k * 4 + 1, none⟩ = some (.int .i64 x.1.y) ∧ w.cell? ⟨b, off + k * 4 + 2, none⟩ = some (.int .i64 x.2.x) ∧ w.cell? ⟨b, off + k * 4 + 3, none⟩ = some (.int .i64 x.2.y) := by
  subst hn
  have hk := (List.getElem?_eq_some_iff.1 hx).1
  obtain ⟨e, h0⟩ | ⟨b, off, cap', e, hlt, hc⟩ := h
  · omega
  · cases e
    have g := rowElem encPP_len hc hx
    exact ⟨b, off, rfl, hlt, by simpa using g 0 _ rfl, g 1 _ rfl, g 2 _ rfl, g 3 _ rfl⟩

/-- A row to be read, wherever it lies. -/
def GotV {α : Type} (k : Nat) (enc : α → List Value) (L : List α) (n : Nat) (w : World) (e : Ending) (w' : World) : Prop := ∃ v, e = .returned v ∧ Elems w' v n k (rowC enc L) ∧ Below w.heap.size w w'
theorem GivesRow.gotV {α : Type} {k : Nat} {enc : α → List Value} (hk : ∀ q, (enc q).length = k) {E : TypeId} {L : List α} {w : World} {e : Ending} {w' : World} (h : GivesRow E k L.length (L.flatMap enc) w e w') : GotV k enc L L.length w e w' := by
  obtain ⟨v, rfl, hr, hb⟩ := h
  exact ⟨v, rfl, ownsRow_rows hk hr, hb⟩

theorem GivesSet.bad {P : PtT → Prop} {er : Int} {w : World} {e : Ending} {w' : World} (h : GivesSet false P er w e w') : Got 3 encS [] 0 er w e w' := by
  obtain ⟨M, -, h2, -, h4⟩ := h.got
  obtain rfl := h2 rfl
  exact h4
theorem GivesSet.good {P : PtT → Prop} {er : Int} {w : World} {e : Ending} {w' : World} (h : GivesSet true P er w e w') : ∃ M, SetRow P M ∧ M.length ≤ 1000000 ∧ Got 3 encS M M.length 0 w e w' := by
  obtain ⟨M, h1, -, h3, h4⟩ := h.got
  exact ⟨M, h1 rfl, h3, h4⟩

theorem lineL_len (a b : PtT) : (lineL a b).length = (wayMax a b + 1).toNat := lineN_len a b _
theorem lineL_small {a b : PtT} (ha : drawnB a = true) (hb : drawnB b = true) : (lineL a b).length ≤ 1000 := by
  rw [lineL_len]
  have h1 := (drawn_iff a).1 ha
  have h2 := (drawn_iff b).1 hb
  unfold wayMax wayN
  split <;> split <;> omega
theorem rectL_set {a b : PtT} (ha : drawnB a = true) (hb : drawnB b = true) : SetRow (RectP a b) (rectL a b) := by
  have e : rectL a b = rectN a b (max a.y b.y - min a.y b.y + 1).toNat := by unfold rectL; rw [ha, hb]; rfl
  rw [e]
  refine ⟨⟨fun s hs => ?_, ?_⟩, fun p => ?_⟩
  · unfold rectN at hs
    obtain ⟨i, -, rfl⟩ := List.mem_map.1 hs
    simp only
    omega
  · unfold rectN
    refine List.pairwise_map.2 (List.Pairwise.imp ?_ (List.pairwise_lt_range))
    intro i j hij
    unfold ordP
    simp only
    omega
  · rw [hasB_iff]
    unfold RectP rectN
    constructor
    · rintro ⟨s, hs, h1, h2, h3⟩
      obtain ⟨i, hi, rfl⟩ := List.mem_map.1 hs
      have := List.mem_range.1 hi
      simp only at h1 h2 h3
      omega
    · rintro ⟨⟨h1, h2⟩, h3, h4⟩
      refine ⟨⟨min a.y b.y + ((p.y - min a.y b.y).toNat : Int), min a.x b.x, max a.x b.x⟩, List.mem_map.2 ⟨(p.y - min a.y b.y).toNat, List.mem_range.2 (by omega), rfl⟩, by simp only; omega, h1, h2⟩
theorem rectL_small {a b : PtT} (ha : drawnB a = true) (hb : drawnB b = true) : (rectL a b).length ≤ 1000 := by
  have e : rectL a b = rectN a b (max a.y b.y - min a.y b.y + 1).toNat := by unfold rectL; rw [ha, hb]; rfl
  rw [e, rectN_len]
  have h1 := (drawn_iff a).1 ha
  have h2 := (drawn_iff b).1 hb
  omega

theorem lineBad {a b : PtT} (h : (drawnB a && drawnB b) = false) (w : World) : Calls Try.prog 24 #[a.val, b.val] w (Got 2 encP [] 0 2 w) :=
  (shLine_any a b w).mono fun _ _ q => (q.got encP_len).is (by unfold lineE; rw [h]; rfl) rfl (by rw [h]; rfl)
theorem rectBad {a b : PtT} (h : (drawnB a && drawnB b) = false) (w : World) : Calls Try.prog 25 #[a.val, b.val] w (Got 3 encS [] 0 2 w) :=
  (shRect_any a b w).mono fun _ _ q => (q.got encS_len).is (by unfold rectL; rw [h]; rfl) rfl (by rw [h]; rfl)
theorem lineGood {a b : PtT} (ha : drawnB a = true) (hb : drawnB b = true) {L : List PtT} (hL : lineL a b = L) {n : Nat} (hn : L.length = n) (w : World) : Calls Try.prog 24 #[a.val, b.val] w (Got 2 encP L n 0 w) :=
  (shLine_any a b w).mono fun _ _ q => (q.got encP_len).is (by unfold lineE; rw [ha, hb]; exact hL) hn (by rw [ha, hb]; rfl)
theorem rectGood {a b : PtT} (ha : drawnB a = true) (hb : drawnB b = true) {R : List SpT} (hR : rectL a b = R) {n : Nat} (hn : R.length = n) (w : World) : Calls Try.prog 25 #[a.val, b.val] w (Got 3 encS R n 0 w) :=
  (shRect_any a b w).mono fun _ _ q => (q.got encS_len).is hR hn (by rw [ha, hb]; rfl)
theorem refLineGot {a b : PtT} (ha : drawnB a = true) (hb : drawnB b = true) {L : List PtT} (hL : lineL a b = L) {n : Nat} (hn : L.length = n) (w : World) : Calls Try.prog 26 #[a.val, b.val] w (GotV 2 encP L n w) :=
  (refLine_any a b ha hb w).mono fun _ _ q => by
    subst hL hn
    exact q.gotV encP_len
theorem refRectGot {a b : PtT} (ha : drawnB a = true) (hb : drawnB b = true) {R : List SpT} (hR : rectL a b = R) {n : Nat} (hn : R.length = n) (w : World) : Calls Try.prog 27 #[a.val, b.val] w (GotV 3 encS R n w) :=
  (refRect_any a b ha hb w).mono fun _ _ ⟨L, h1, q⟩ => by
    subst hR hn
    obtain rfl := h1.unique (rectL_set ha hb)
    exact q.gotV encS_len
theorem refSweepGot {c : PtT} {size : Int} {round : Bool} (hc : drawnB c = true) (hs : sizeB size = true) {M : List SpT} (hM : SetRow (SwM size round [c]) M) {n : Nat} (hn : M.length = n) (a : Option Addr) (cap : Nat) (w : World) (h : Elems w (.slice a 1 cap) 1 2 (rowC encP [c])) :
    Calls Try.prog 16 #[.slice a 1 cap, .int .i64 size, .bool round] w (GotV 3 encS M n w) :=
  (refSweep_any a 1 cap [c] rfl (by decide) (by simpa using hc) size (of_decide_eq_true hs).1 (of_decide_eq_true hs).2 round w h).mono fun _ _ ⟨L, h1, q⟩ => by
    subst hn
    obtain rfl := h1.unique hM
    exact q.gotV encS_len
theorem discBad {c : PtT} {size : Int} (h : (sizeB size && drawnB c) = false) (w : World) : Calls Try.prog 23 #[c.val, .int .i64 size] w (Got 3 encS [] 0 2 w) :=
  (shDisc_any c size w).mono fun _ _ q => by rw [h] at q; exact q.bad
theorem discGood {c : PtT} {size : Int} (hc : drawnB c = true) (hs : sizeB size = true) (w : World) : Calls Try.prog 23 #[c.val, .int .i64 size] w (fun e w' => ∃ M, SetRow (SwM size true [c]) M ∧ M.length ≤ 1000000 ∧ Got 3 encS M M.length 0 w e w') :=
  (shDisc_any c size w).mono fun _ _ q => by rw [hs, hc] at q; exact q.good

theorem squareBad {c : PtT} {size : Int} (h : (sizeB size && drawnB c) = false) (w : World) : Calls Try.prog 22 #[c.val, .int .i64 size] w (Got 3 encS [] 0 2 w) :=
  (shSquare_any c size w).mono fun _ _ q => by rw [h] at q; exact q.bad
theorem squareGood {c : PtT} {size : Int} (hc : drawnB c = true) (hs : sizeB size = true) (w : World) : Calls Try.prog 22 #[c.val, .int .i64 size] w (fun e w' => ∃ M, SetRow (SwM size false [c]) M ∧ M.length ≤ 1000000 ∧ Got 3 encS M M.length 0 w e w') :=
  (shSquare_any c size w).mono fun _ _ q => by rw [hs, hc] at q; exact q.good
end Go.Proofs.Ytflbcabjefpojaa
