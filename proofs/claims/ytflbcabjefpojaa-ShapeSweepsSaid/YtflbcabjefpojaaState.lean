/- What a walk keeps: blocks of its own, and rows that it reads. -/
import Derived.Test.YtflbcabjefpojaaShelf
namespace Go.Proofs.Ytflbcabjefpojaa
set_option linter.unusedSimpArgs false
set_option linter.unusedVariables false
open Go.RowKit Go.Shelf

/-- A thing that is kept: a block, or a row that is read, whose block lies below a place. -/
inductive It where
  | blk (b : Nat) (o : Obj)
  | row (v : Value) (n size : Nat) (c : Nat → Value) (hi : Nat)
/-- The slice's block lies below. -/
def InB (v : Value) (hi : Nat) : Prop := ∀ ad n c, v = .slice (some ad) n c → n = 0 ∨ ad.block < hi
def It.ok (w : World) : It → Prop
  | .blk b o => w.heap[b]? = some o
  | .row v n size c hi => Elems w v n size c ∧ InB v hi
def It.top : It → Nat
  | .blk b _ => b + 1
  | .row _ _ _ _ hi => hi
/-- A block lies behind all that came ahead of it. -/
def ItOrd (w0 : World) : List It → Prop
  | [] => True
  | .blk b _ :: r => w0.heap.size ≤ b ∧ (∀ j ∈ r, j.top ≤ b) ∧ ItOrd w0 r
  | .row _ _ _ _ _ :: r => ItOrd w0 r
/-- Below w0 nothing has changed; these things are kept, the newest first. -/
structure St (w0 : World) (its : List It) (w : World) : Prop where
  low : Below w0.heap.size w0 w
  ok : ∀ i ∈ its, i.ok w
  ord : ItOrd w0 its
  top : ∀ i ∈ its, i.top ≤ w.heap.size

theorem It.ok_below {i : It} {x y : World} (h : i.ok x) (k : Below x.heap.size x y) : i.ok y := by
  cases i with
  | blk b o => exact (k.block _ (block_lt h)).trans h
  | row v n size c hi => exact ⟨h.1.below k, h.2⟩
theorem InB.of {w : World} {v : Value} {n size : Nat} {c : Nat → Value} (h : Elems w v n size c) : InB v w.heap.size := by
  intro ad m cc e
  rcases h with ⟨rfl, _⟩ | ⟨b, off, cap, rfl, hlt, _⟩
  · cases e
  · cases e; exact .inr hlt

namespace St
variable {w0 x y : World} {its : List It}
theorem start (w : World) : St w [] w := ⟨Below.refl _ _, by simp, trivial, by simp⟩
theorem below (h : St w0 its x) (k : Below x.heap.size x y) : St w0 its y :=
  ⟨h.low.trans (k.mono h.low.size), fun i hi => It.ok_below (h.ok i hi) k, h.ord, fun i hi => Nat.le_trans (h.top i hi) k.size⟩
theorem alloc (h : St w0 its x) (o : Obj) : St w0 (.blk x.heap.size o :: its) (x.alloc o) := by
  have h' := h.below ((Below.refl _ _).alloc (Nat.le_refl _) o)
  refine ⟨h'.low, fun i hi => ?_, ⟨h.low.size, h.top, h.ord⟩, fun i hi => ?_⟩
  · rcases List.mem_cons.1 hi with rfl | hi
    · exact World.alloc_heap_new x o
    · exact h'.ok i hi
  · rcases List.mem_cons.1 hi with rfl | hi
    · simp [It.top]
    · exact h'.top i hi
theorem addRow (h : St w0 its x) {v : Value} {n size : Nat} {c : Nat → Value} (he : Elems x v n size c) : St w0 (.row v n size c x.heap.size :: its) x := by
  refine ⟨h.low, fun i hi => ?_, h.ord, fun i hi => ?_⟩
  · rcases List.mem_cons.1 hi with rfl | hi
    · exact ⟨he, InB.of he⟩
    · exact h.ok i hi
  · rcases List.mem_cons.1 hi with rfl | hi
    · exact Nat.le_refl _
    · exact h.top i hi
theorem blockAt (h : St w0 its x) (i : Nat) {b : Nat} {o : Obj} (hi : its[i]? = some (.blk b o)) : x.heap[b]? = some o := h.ok _ (List.mem_of_getElem? hi)
theorem elems (h : St w0 its x) (i : Nat) {v : Value} {n size : Nat} {c : Nat → Value} {hi' : Nat} (hi : its[i]? = some (.row v n size c hi')) : Elems x v n size c := (h.ok _ (List.mem_of_getElem? hi)).1
theorem lt (h : St w0 its x) (i : Nat) {b : Nat} {o : Obj} (hi : its[i]? = some (.blk b o)) : b < x.heap.size := block_lt (h.blockAt i hi)
theorem size (h : St w0 its x) : w0.heap.size ≤ x.heap.size := h.low.size
theorem drop1 {i : It} (h : St w0 (i :: its) x) : St w0 its x := ⟨h.low, fun j hj => h.ok j (by simp [hj]), by have := h.ord; cases i with | blk b o => exact this.2.2 | row v n s c hi => exact this, fun j hj => h.top j (by simp [hj])⟩

theorem ord_low : ∀ {pre post : List It} {p : Nat} {o : Obj}, ItOrd w0 (pre ++ .blk p o :: post) → w0.heap.size ≤ p ∧ (∀ j ∈ post, j.top ≤ p) ∧ (∀ b ob, .blk b ob ∈ pre → p < b)
  | [], _, _, _, h => ⟨h.1, h.2.1, by simp⟩
  | .blk b ob :: pre, post, p, o, h => by
    obtain ⟨h1, h2, h3⟩ := ord_low (pre := pre) h.2.2
    refine ⟨h1, h2, fun b' ob' hm => ?_⟩
    rcases List.mem_cons.1 hm with e | hm
    · cases e
      have := h.2.1 (.blk p o) (by simp)
      simp [It.top] at this
      omega
    · exact h3 b' ob' hm
  | .row _ _ _ _ _ :: pre, post, p, o, h => by
    obtain ⟨h1, h2, h3⟩ := ord_low (pre := pre) h
    refine ⟨h1, h2, fun b' ob' hm => ?_⟩
    rcases List.mem_cons.1 hm with e | hm
    · cases e
    · exact h3 b' ob' hm
theorem ord_set {p : Nat} {o o' : Obj} : ∀ {pre post : List It}, ItOrd w0 (pre ++ .blk p o :: post) → ItOrd w0 (pre ++ .blk p o' :: post)
  | [], _, h => h
  | .blk b ob :: pre, post, h => by
    refine ⟨h.1, fun j hj => ?_, ord_set (pre := pre) h.2.2⟩
    rcases List.mem_append.1 hj with hj | hj
    · exact h.2.1 j (List.mem_append.2 (.inl hj))
    · rcases List.mem_cons.1 hj with rfl | hj
      · exact h.2.1 (.blk p o) (by simp)
      · exact h.2.1 j (List.mem_append.2 (.inr (by simp [hj])))
  | .row _ _ _ _ _ :: pre, post, h => ord_set (pre := pre) h
/-- A block is written; what came behind it are blocks. -/
theorem set {pre post : List It} {p : Nat} {o o' : Obj} (h : St w0 (pre ++ .blk p o :: post) x) (hpre : ∀ i ∈ pre, ∃ b ob, i = .blk b ob) (hp : y.heap[p]? = some o') (hne : ∀ k, k ≠ p → y.heap[k]? = x.heap[k]?) (hl : Below p x y) :
    St w0 (pre ++ .blk p o' :: post) y := by
  obtain ⟨h1, h2, h3⟩ := ord_low h.ord
  refine ⟨h.low.trans (hl.mono h1), fun i hi => ?_, ord_set h.ord, fun i hi => ?_⟩
  · rcases List.mem_append.1 hi with hi | hi
    · obtain ⟨b, ob, rfl⟩ := hpre i hi
      have := h3 b ob hi
      exact (hne b (by omega)).trans (h.ok _ (List.mem_append.2 (.inl hi)))
    · rcases List.mem_cons.1 hi with rfl | hi
      · exact hp
      · have ht := h2 i hi
        have hok := h.ok i (List.mem_append.2 (.inr (by simp [hi])))
        cases i with
        | blk b ob => exact (hne b (by simp [It.top] at ht; omega)).trans hok
        | row v n size c hi' =>
          refine ⟨?_, hok.2⟩
          rcases hok.1 with e | ⟨b, off, cap, rfl, hlt, hc⟩
          · exact .inl e
          · by_cases hn : n = 0
            · subst hn
              exact .inr ⟨b, off, cap, rfl, Nat.lt_of_lt_of_le hlt hl.size, fun j hj => by omega⟩
            · have hb := (hok.2 _ _ _ rfl).resolve_left hn
              simp [It.top] at ht
              exact .inr ⟨b, off, cap, rfl, Nat.lt_of_lt_of_le hlt hl.size, fun j hj => (hl.cell (p := ⟨b, off + j, none⟩) (show b < p by simp at hb; omega)).trans (hc j hj)⟩
  · have : i.top ≤ x.heap.size := by
      rcases List.mem_append.1 hi with hi | hi
      · exact h.top i (List.mem_append.2 (.inl hi))
      · rcases List.mem_cons.1 hi with rfl | hi
        · exact h.top (.blk p o) (by simp)
        · exact h.top i (List.mem_append.2 (.inr (by simp [hi])))
    exact Nat.le_trans this hl.size
end St

/-- The first ones of a row. -/
theorem Elems.take {α : Type} {enc : α → List Value} {k : Nat} (hk : ∀ x, (enc x).length = k) {w : World} {a : Option Addr} {n m cap : Nat} {l : List α} (hn : l.length = n) (h : Elems w (.slice a n cap) n k (rowC enc l)) (hm : m ≤ n) : Elems w (.slice a m cap) m k (rowC enc (l.take m)) := by
  rcases h with ⟨e, h0⟩ | ⟨b, off, cap', e, hlt, hc⟩
  · cases e
    obtain rfl : m = 0 := by omega
    exact .inl ⟨rfl, rfl⟩
  · cases e
    refine .inr ⟨b, off, cap, rfl, hlt, fun j hj => ?_⟩
    have hjn : j < n * k := Nat.lt_of_lt_of_le hj (Nat.mul_le_mul_right k hm)
    rw [hc j hjn]
    unfold rowC
    have e1 : (l.take m).flatMap enc = (l.flatMap enc).take (m * k) := by
      have h1 : l.flatMap enc = (l.take m).flatMap enc ++ (l.drop m).flatMap enc := by rw [← List.flatMap_append, List.take_append_drop]
      have h2 : ((l.take m).flatMap enc).length = m * k := by rw [flat_length hk, List.length_take, Nat.min_eq_left (by omega)]
      rw [h1, ← h2, List.take_left]
    rw [e1, List.getElem?_take_of_lt hj]
end Go.Proofs.Ytflbcabjefpojaa
