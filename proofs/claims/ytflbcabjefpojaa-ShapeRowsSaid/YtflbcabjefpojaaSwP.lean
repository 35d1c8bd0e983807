/- Layer 6, plain: the spans about a place are the brush's places. -/
import Derived.Test.YtflbcabjefpojaaSwA
namespace Go.Proofs.Ytflbcabjefpojaa
set_option linter.unusedSimpArgs false
set_option linter.unusedVariables false
open Go.RowKit Go.Shelf

theorem wideG_some {size : Int} {round : Bool} {dy : Int} : ∀ {k w : Nat}, wideG size round dy k = some w → inSize size round (w : Int) dy = true ∧ ∀ v : Nat, v < k → inSize size round (v : Int) dy = true → v ≤ w
  | k + 1, w, h => by
    unfold wideG at h
    split at h
    · cases h; exact ⟨by assumption, fun v hv _ => by omega⟩
    · rename_i hn
      obtain ⟨h1, h2⟩ := wideG_some h
      refine ⟨h1, fun v hv hi => ?_⟩
      rcases Nat.lt_or_eq_of_le (Nat.lt_succ_iff.1 hv) with h3 | rfl
      · exact h2 v h3 hi
      · exact absurd hi hn
theorem wideG_none {size : Int} {round : Bool} {dy : Int} : ∀ {k : Nat}, wideG size round dy k = none → ∀ v : Nat, v < k → inSize size round (v : Int) dy = false
  | k + 1, h, v, hv => by
    unfold wideG at h
    split at h
    · cases h
    · rename_i hn
      rcases Nat.lt_or_eq_of_le (Nat.lt_succ_iff.1 hv) with h3 | rfl
      · exact wideG_none h v h3
      · simpa using hn
theorem mem_aboutTo {c : PtT} {size : Int} {round : Bool} {k : Nat} {s : SpT} : s ∈ aboutTo c size round k ↔ ∃ i w : Nat, i < k ∧ wideG size round (-size + (i : Int)) (size.toNat + 1) = some w ∧ s = ⟨c.y + (-size + (i : Int)), c.x - (w : Int), c.x + (w : Int)⟩ := by
  unfold aboutTo aboutRow
  rw [List.mem_flatMap]
  constructor
  · rintro ⟨i, hi, hs⟩
    obtain ⟨w, hw, e⟩ := List.mem_map.1 hs
    exact ⟨i, w, List.mem_range.1 hi, by simpa using hw, e.symm⟩
  · rintro ⟨i, w, hi, hw, e⟩
    exact ⟨i, List.mem_range.2 hi, List.mem_map.2 ⟨w, by simp [hw], e.symm⟩⟩
theorem mem_aboutL {c : PtT} {size : Int} {round : Bool} {s : SpT} (hs0 : 0 ≤ size) (h : s ∈ aboutL c size round) : (c.y - size ≤ s.y ∧ s.y ≤ c.y + size) ∧ (c.x - size ≤ s.f ∧ s.f ≤ s.t ∧ s.t ≤ c.x + size) := by
  obtain ⟨i, w, hi, hw, rfl⟩ := mem_aboutTo.1 h
  have := wideG_lt hw
  simp only
  omega
theorem aboutTo_len (c : PtT) (size : Int) (round : Bool) : ∀ k, (aboutTo c size round k).length ≤ k
  | 0 => by simp [aboutTo]
  | k + 1 => by
    have h := aboutTo_len c size round k
    rw [aboutTo_succ, List.length_append]
    have : (aboutRow c size round (-size + (k : Int))).length ≤ 1 := by
      unfold aboutRow
      cases wideG size round (-size + (k : Int)) (size.toNat + 1) <;> simp
    omega
theorem aboutL_len {c : PtT} {size : Int} {round : Bool} (h : size ≤ 15) : (aboutL c size round).length ≤ 31 := by
  have := aboutTo_len c size round (2 * size + 1).toNat
  unfold aboutL
  omega
theorem sq_le {a b : Int} (h0 : 0 ≤ a) (h : a ≤ b) : a * a ≤ b * b := Int.mul_le_mul h h h0 (by omega)
theorem wayN_sq (a b : Int) : wayN a b * wayN a b = (b - a) * (b - a) := by
  unfold wayN
  split
  · rw [show a - b = -(b - a) by omega, Int.neg_mul_neg]
  · rfl
theorem aboutL_has {c : PtT} {size : Int} {round : Bool} (hs0 : 0 ≤ size) (p : PtT) : hasB (aboutL c size round) p = true ↔ inRef size round c p = true := by
  rw [hasB_iff]
  constructor
  · rintro ⟨s, hs, h1, h2, h3⟩
    obtain ⟨i, w, hi, hw, rfl⟩ := mem_aboutTo.1 hs
    have hlt := wideG_lt hw
    obtain ⟨hin, _⟩ := wideG_some hw
    simp only at h1 h2 h3
    have hX : wayN c.x p.x ≤ (w : Int) := by unfold wayN; split <;> omega
    have hY : wayN c.y p.y ≤ size := by unfold wayN; split <;> omega
    unfold inRef
    cases round
    · simp; omega
    · simp only [cond_true, decide_eq_true_eq]
      have h4 : (w : Int) * w + (-size + (i : Int)) * (-size + (i : Int)) ≤ size * size := by simpa [inSize] using hin
      have h5 := sq_le (wayN_nonneg c.x p.x) hX
      rw [wayN_sq c.y p.y, show p.y - c.y = -size + (i : Int) by omega]
      omega
  · intro h
    obtain ⟨⟨x1, x2⟩, y1, y2⟩ := inRef_in hs0 h
    obtain ⟨X, hX⟩ := Int.eq_ofNat_of_zero_le (wayN_nonneg c.x p.x)
    have hXs : (X : Int) ≤ size := by rw [← hX]; unfold wayN; split <;> omega
    obtain ⟨i, hi⟩ : ∃ i : Nat, p.y - c.y = -size + (i : Int) := ⟨(p.y - c.y + size).toNat, by omega⟩
    have hin : inSize size round (X : Int) (-size + (i : Int)) = true := by
      unfold inSize
      cases round
      · rfl
      · unfold inRef at h
        simp only [cond_true, decide_eq_true_eq] at h
        rw [hX, wayN_sq c.y p.y, hi] at h
        simpa using h
    cases hw : wideG size round (-size + (i : Int)) (size.toNat + 1) with
    | none =>
      have := wideG_none hw X (by omega)
      rw [this] at hin; cases hin
    | some w =>
      have hwx := (wideG_some hw).2 X (by omega) hin
      refine ⟨_, mem_aboutTo.2 ⟨i, w, by omega, hw, rfl⟩, by simp only; omega, ?_, ?_⟩
      · simp only
        have : c.x - p.x ≤ X := by rw [← hX]; unfold wayN; split <;> omega
        omega
      · simp only
        have : p.x - c.x ≤ X := by rw [← hX]; unfold wayN; split <;> omega
        omega
/-- The spans of places. -/
def sweepL (size : Int) (round : Bool) (l : List PtT) : List SpT := l.flatMap fun c => aboutL c size round
theorem sweepL_has {size : Int} {round : Bool} (hs0 : 0 ≤ size) (l : List PtT) (p : PtT) : hasB (sweepL size round l) p = true ↔ SwM size round l p := by
  rw [hasB_iff]
  unfold sweepL SwM
  constructor
  · rintro ⟨s, hs, h⟩
    obtain ⟨c, hc, hs⟩ := List.mem_flatMap.1 hs
    exact ⟨c, hc, (aboutL_has hs0 p).1 ((hasB_iff _ _).2 ⟨s, hs, h⟩)⟩
  · rintro ⟨c, hc, h⟩
    obtain ⟨s, hs, k⟩ := (hasB_iff _ _).1 ((aboutL_has hs0 p).2 h)
    exact ⟨s, List.mem_flatMap.2 ⟨c, hc, hs⟩, k⟩
theorem sweepL_len {size : Int} {round : Bool} (h : size ≤ 15) (l : List PtT) : (sweepL size round l).length ≤ l.length * 31 := by
  induction l with
  | nil => simp [sweepL]
  | cons a l ih =>
    unfold sweepL at *
    rw [List.flatMap_cons, List.length_append, List.length_cons]
    have := aboutL_len (c := a) (round := round) h
    omega
theorem sweepL_in {size : Int} {round : Bool} (hs0 : 0 ≤ size) (hs1 : size ≤ 15) {l : List PtT} (hd : ∀ c ∈ l, drawnB c = true) : ∀ s ∈ sweepL size round l, (-79 ≤ s.y ∧ s.y ≤ 142) ∧ (-79 ≤ s.f ∧ s.f ≤ s.t ∧ s.t ≤ 142) := by
  intro s hs
  obtain ⟨c, hc, hs⟩ := List.mem_flatMap.1 hs
  have h1 := mem_aboutL hs0 hs
  have h2 := (drawn_iff c).1 (hd c hc)
  omega
end Go.Proofs.Ytflbcabjefpojaa
