/- General lemmas, more: a box that is filled in whatever order. -/
import Derived.Test.YtflbcabjefpojaaBase
namespace Go.Proofs.Ytflbcabjefpojaa
set_option linter.unusedSimpArgs false
set_option linter.unusedVariables false
open Go.RowKit Go.Shelf

/-- Nothing that was there changes, but for a block that is Z, which may become S. -/
def FillC (n₀ : Nat) (Z S : Obj) (x y : World) : Prop := Below n₀ x y ∧ ∀ (j : Nat) (ob : Obj), x.heap[j]? = some ob → (y.heap[j]? = some ob ∨ (ob = Z ∧ y.heap[j]? = some S))
theorem FillC.refl (n₀ : Nat) (Z S : Obj) (x : World) : FillC n₀ Z S x x := ⟨Below.refl _ _, fun _ _ h => .inl h⟩
theorem FillC.trans {n₀ : Nat} {Z S : Obj} {x y z : World} (h : FillC n₀ Z S x y) (k : FillC n₀ Z S y z) : FillC n₀ Z S x z :=
  ⟨h.1.trans k.1, fun j ob hj => by
    rcases h.2 j ob hj with h1 | ⟨e, h1⟩
    · exact k.2 j ob h1
    · rcases k.2 j S h1 with h2 | ⟨_, h2⟩
      · exact .inr ⟨e, h2⟩
      · exact .inr ⟨e, h2⟩⟩
theorem FillC.grow {n₀ : Nat} {Z S : Obj} {x y : World} (h : Below x.heap.size x y) (hn : n₀ ≤ x.heap.size) : FillC n₀ Z S x y :=
  ⟨h.mono hn, fun j _ hj => .inl ((h.block j (block_lt hj)).trans hj)⟩
theorem FillC.keep {n₀ : Nat} {Z S : Obj} {x y : World} (h : FillC n₀ Z S x y) {j : Nat} {ob : Obj} (hj : x.heap[j]? = some ob) (hne : ob ≠ Z) : y.heap[j]? = some ob := by
  rcases h.2 j ob hj with h1 | ⟨e, _⟩
  · exact h1
  · exact absurd e hne
theorem FillC.filled {n₀ : Nat} {Z S : Obj} {x y : World} (h : FillC n₀ Z S x y) {j : Nat} (hj : x.heap[j]? = some S) : y.heap[j]? = some S := by
  rcases h.2 j S hj with h1 | ⟨_, h1⟩
  · exact h1
  · exact h1
theorem FillC.either {n₀ : Nat} {Z S : Obj} {x y : World} (h : FillC n₀ Z S x y) {j : Nat} (hj : x.heap[j]? = some Z ∨ x.heap[j]? = some S) : y.heap[j]? = some Z ∨ y.heap[j]? = some S := by
  rcases hj with hj | hj
  · rcases h.2 j Z hj with h1 | ⟨_, h1⟩
    · exact .inl h1
    · exact .inr h1
  · exact .inr (h.filled hj)
theorem FillC.fill {n₀ : Nat} {Z S : Obj} {x y : World} (h : Below n₀ x y) {q : Nat} (hx : x.heap[q]? = some Z ∨ x.heap[q]? = some S) (hy : y.heap[q]? = some S) (ho : ∀ (j : Nat) (ob : Obj), x.heap[j]? = some ob → j ≠ q → y.heap[j]? = some ob) : FillC n₀ Z S x y :=
  ⟨h, fun j ob hj => by
    by_cases e : j = q
    · subst e
      rcases hx with hx | hx
      · rw [hx] at hj; cases hj; exact .inr ⟨rfl, hy⟩
      · rw [hx] at hj; cases hj; exact .inl hy
    · exact .inl (ho j ob hj e)⟩
theorem FillC.size {n₀ : Nat} {Z S : Obj} {x y : World} (h : FillC n₀ Z S x y) : x.heap.size ≤ y.heap.size := h.1.size
/-- It returns a new row. -/
def GivesRow (E size n : Nat) (xs : List Value) (w : World) (e : Ending) (w' : World) : Prop := ∃ v, e = .returned v ∧ w'.ownsRow w.heap.size E size v n xs ∧ Below w.heap.size w w'

end Go.Proofs.Ytflbcabjefpojaa
