/- Layer 6, plain: the row of spans of a field of truths, place by place. -/
import Derived.Test.YtflbcabjefpojaaShP
namespace Go.Proofs.Ytflbcabjefpojaa
set_option linter.unusedSimpArgs false
set_option linter.unusedVariables false
open Go.RowKit Go.Shelf

/-- L is the row of spans of the places of a box of which F holds. -/
structure RowOf (x1 y1 : Int) (n m : Nat) (F : Nat → Nat → Bool) (L : List SpT) : Prop where
  row : RowP L
  box : ∀ s ∈ L, y1 ≤ s.y ∧ s.y < y1 + n ∧ x1 ≤ s.f ∧ s.t < x1 + m
  has : ∀ p, hasB L p = true ↔ (y1 ≤ p.y ∧ p.y < y1 + n) ∧ (x1 ≤ p.x ∧ p.x < x1 + m) ∧ F (p.y - y1).toNat (p.x - x1).toNat = true
theorem RowOf.unique {x1 y1 : Int} {n m : Nat} {F : Nat → Nat → Bool} {L M : List SpT} (h : RowOf x1 y1 n m F L) (k : RowOf x1 y1 n m F M) : L = M :=
  rowP_unique h.row k.row fun p => (h.has p).trans (k.has p).symm
/-- So far: j rows, and i places. -/
structure RowTo (x1 y1 : Int) (m : Nat) (F : Nat → Nat → Bool) (L : List SpT) (j i : Nat) : Prop where
  row : RowP L
  box : ∀ s ∈ L, y1 ≤ s.y ∧ s.y ≤ y1 + j ∧ x1 ≤ s.f ∧ s.t < x1 + m ∧ (s.y = y1 + j → s.t < x1 + i)
  has : ∀ p, hasB L p = true ↔ (x1 ≤ p.x ∧ p.x < x1 + m) ∧ y1 ≤ p.y ∧ (p.y < y1 + j ∨ p.y = y1 + j ∧ p.x < x1 + i) ∧ F (p.y - y1).toNat (p.x - x1).toNat = true
/-- Is a span open? -/
def OpenTo (x1 y1 : Int) (L : List SpT) (j i : Nat) : Bool → Prop
  | true => ∃ L0 s, L = L0 ++ [s] ∧ s.y = y1 + (j : Int) ∧ s.t = x1 + (i : Int) - 1
  | false => ∀ s ∈ L, s.y = y1 + (j : Int) → s.t + 1 < x1 + (i : Int)
theorem rowP_nil : RowP [] := ⟨by simp, List.Pairwise.nil⟩
theorem rowTo_start (x1 y1 : Int) (m : Nat) (F : Nat → Nat → Bool) : RowTo x1 y1 m F [] 0 0 :=
  ⟨rowP_nil, by simp, fun p => by simp [hasB]; omega⟩
theorem hasB_app (L M : List SpT) (p : PtT) : hasB (L ++ M) p = (hasB L p || hasB M p) := by simp [hasB]
theorem hasB_one (s : SpT) (p : PtT) : hasB [s] p = inB p s := by simp [hasB]
variable {x1 y1 : Int} {m : Nat} {F : Nat → Nat → Bool} {L : List SpT} {j i : Nat}
theorem RowTo.skip (h : RowTo x1 y1 m F L j i) (hi : i < m) (hF : F j i = false) : RowTo x1 y1 m F L j (i + 1) ∧ OpenTo x1 y1 L j (i + 1) false := by
  refine ⟨⟨h.row, fun s hs => ?_, fun p => ?_⟩, fun s hs e => ?_⟩
  · obtain ⟨a, b, c, d, e⟩ := h.box s hs
    exact ⟨a, b, c, d, fun e' => by have := e e'; omega⟩
  · rw [h.has p]
    constructor
    · rintro ⟨a, b, c, d⟩
      exact ⟨a, b, by omega, d⟩
    · rintro ⟨a, b, c, d⟩
      refine ⟨a, b, ?_, d⟩
      rcases c with c | ⟨c1, c2⟩
      · exact .inl c
      · refine .inr ⟨c1, ?_⟩
        refine Int.not_le.1 fun hle => ?_
        rw [show (p.y - y1).toNat = j by omega, show (p.x - x1).toNat = i by omega, hF] at d
        cases d
  · have := (h.box s hs).2.2.2.2 e
    omega
theorem RowTo.open (h : RowTo x1 y1 m F L j i) (hi : i < m) (hF : F j i = true) {L0 : List SpT} {s : SpT} (hL : L = L0 ++ [s]) (hy : s.y = y1 + (j : Int)) (ht : s.t = x1 + (i : Int) - 1) :
    RowTo x1 y1 m F (L0 ++ [⟨s.y, s.f, x1 + (i : Int)⟩]) j (i + 1) ∧ OpenTo x1 y1 (L0 ++ [⟨s.y, s.f, x1 + (i : Int)⟩]) j (i + 1) true := by
  subst hL
  obtain ⟨h1, h2, h3⟩ := List.pairwise_append.1 h.row.ord
  have hs := h.row.sp s (by simp)
  obtain ⟨b1, b2, b3, b4, b5⟩ := h.box s (by simp)
  have hbefore : ∀ q ∈ L0, q.y < s.y ∨ q.y = s.y ∧ q.t + 1 < s.f := fun q hq => by
    have := h3 q hq s (by simp); unfold ordP at this; exact this
  refine ⟨⟨⟨fun q hq => ?_, ?_⟩, fun q hq => ?_, fun p => ?_⟩, _, _, rfl, hy, by simp; omega⟩
  · rcases List.mem_append.1 hq with hq | hq
    · exact h.row.sp q (by simp [hq])
    · simp at hq; subst hq; simp only; omega
  · refine List.pairwise_append.2 ⟨h1, List.pairwise_singleton _ _, fun q hq r hr => ?_⟩
    simp at hr; subst hr
    have := hbefore q hq
    unfold ordP; simp only; omega
  · rcases List.mem_append.1 hq with hq | hq
    · obtain ⟨a, b, c, d, e⟩ := h.box q (by simp [hq])
      exact ⟨a, b, c, d, fun e' => by have := e e'; omega⟩
    · simp at hq; subst hq
      simp only
      exact ⟨b1, b2, b3, by omega, fun _ => by omega⟩
  · have hp := h.has p
    rw [hasB_app, hasB_one, Bool.or_eq_true] at hp ⊢
    simp only [inB, decide_eq_true_eq] at hp ⊢
    constructor
    · rintro (a | ⟨a1, a2, a3⟩)
      · obtain ⟨c1, c2, c3, c4⟩ := hp.1 (.inl a)
        exact ⟨c1, c2, by omega, c4⟩
      · by_cases e : p.x ≤ s.t
        · obtain ⟨c1, c2, c3, c4⟩ := hp.1 (.inr ⟨a1, a2, e⟩)
          exact ⟨c1, c2, by omega, c4⟩
        · refine ⟨by omega, by omega, by omega, ?_⟩
          rw [show (p.y - y1).toNat = j by omega, show (p.x - x1).toNat = i by omega]
          exact hF
    · rintro ⟨c1, c2, c3, c4⟩
      by_cases e : p.y = y1 + (j : Int) ∧ p.x = x1 + (i : Int)
      · right; omega
      · rcases hp.2 ⟨c1, c2, by omega, c4⟩ with a | a
        · exact .inl a
        · right; omega
theorem RowTo.new (h : RowTo x1 y1 m F L j i) (hi : i < m) (hF : F j i = true) (ho : OpenTo x1 y1 L j i false) :
    RowTo x1 y1 m F (L ++ [⟨y1 + (j : Int), x1 + (i : Int), x1 + (i : Int)⟩]) j (i + 1) ∧ OpenTo x1 y1 (L ++ [⟨y1 + (j : Int), x1 + (i : Int), x1 + (i : Int)⟩]) j (i + 1) true := by
  refine ⟨⟨⟨fun q hq => ?_, ?_⟩, fun q hq => ?_, fun p => ?_⟩, _, _, rfl, rfl, by simp; omega⟩
  · rcases List.mem_append.1 hq with hq | hq
    · exact h.row.sp q hq
    · simp at hq; subst hq; simp
  · refine List.pairwise_append.2 ⟨h.row.ord, List.pairwise_singleton _ _, fun q hq r hr => ?_⟩
    simp at hr; subst hr
    have h1 := h.box q hq
    have h2 := ho q hq
    unfold ordP; simp only; omega
  · rcases List.mem_append.1 hq with hq | hq
    · obtain ⟨a, b, c, d, e⟩ := h.box q hq
      exact ⟨a, b, c, d, fun e' => by have := e e'; omega⟩
    · simp at hq; subst hq
      simp only
      exact ⟨by omega, by omega, by omega, by omega, fun _ => by omega⟩
  · have hp := h.has p
    rw [hasB_app, hasB_one, Bool.or_eq_true, hp]
    simp only [inB, decide_eq_true_eq]
    constructor
    · rintro (⟨c1, c2, c3, c4⟩ | ⟨a1, a2, a3⟩)
      · exact ⟨c1, c2, by omega, c4⟩
      · refine ⟨by omega, by omega, by omega, ?_⟩
        rw [show (p.y - y1).toNat = j by omega, show (p.x - x1).toNat = i by omega]
        exact hF
    · rintro ⟨c1, c2, c3, c4⟩
      by_cases e : p.y = y1 + (j : Int) ∧ p.x = x1 + (i : Int)
      · right; omega
      · left; exact ⟨c1, c2, by omega, c4⟩
theorem RowTo.down (h : RowTo x1 y1 m F L j m) : RowTo x1 y1 m F L (j + 1) 0 ∧ OpenTo x1 y1 L (j + 1) 0 false := by
  refine ⟨⟨h.row, fun s hs => ?_, fun p => ?_⟩, fun s hs e => ?_⟩
  · obtain ⟨a, b, c, d, e⟩ := h.box s hs
    exact ⟨a, by omega, c, d, fun e' => by omega⟩
  · rw [h.has p]
    constructor
    · rintro ⟨a, b, c, d⟩
      exact ⟨a, b, by omega, d⟩
    · rintro ⟨a, b, c, d⟩
      exact ⟨a, b, by omega, d⟩
  · have := (h.box s hs).2.1
    omega
theorem RowTo.rowOf {n : Nat} (h : RowTo x1 y1 m F L n 0) : RowOf x1 y1 n m F L := by
  refine ⟨h.row, fun s hs => ?_, fun p => ?_⟩
  · obtain ⟨a, b, c, d, e⟩ := h.box s hs
    have := h.row.sp s hs
    refine ⟨a, ?_, c, d⟩
    by_cases e' : s.y = y1 + n
    · have := e e'; omega
    · omega
  · rw [h.has p]
    constructor
    · rintro ⟨a, b, c, d⟩
      exact ⟨by omega, a, d⟩
    · rintro ⟨a, b, c⟩
      exact ⟨b, a.1, by omega, c⟩
end Go.Proofs.Ytflbcabjefpojaa
