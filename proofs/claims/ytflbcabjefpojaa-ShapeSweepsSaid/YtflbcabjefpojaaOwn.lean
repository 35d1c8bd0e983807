/- A row of the call's own that grows, beside the things that are kept. -/
import Derived.Test.YtflbcabjefpojaaAppend
namespace Go.Proofs.Ytflbcabjefpojaa
set_option linter.unusedSimpArgs false
set_option linter.unusedVariables false
open Go.RowKit Go.Shelf

/-- What append asks of a slice type. -/
structure RowT (P : Program) (t e : TypeId) (k bytes : Nat) : Prop where
  un : P.underlying t = some (.slice e)
  info : ∃ i z, P.info? e = some i ∧ i.zero = some z ∧ i.size = k ∧ i.bytes = bytes ∧ z.cells.size = k
  pos : 0 < k

theorem RowT.of {P : Program} {t e : TypeId} {k bytes : Nat} {z : Value} (un : P.underlying t = some (.slice e)) (inf : (P.info? e).map (fun i => (i.zero, i.size, i.bytes)) = some (some z, k, bytes)) (hz : z.cells.size = k) (pos : 0 < k) : RowT P t e k bytes := by
  obtain ⟨i, h1, h2, h3, h4⟩ := info_parts inf
  exact ⟨un, ⟨i, z, h1, h2, h3, h4, hz⟩, pos⟩
theorem St.grown {w0 x y : World} {its : List It} (h : St w0 its x) {base : Nat} {row : Option Nat} (hrow : ∀ j, row = some j → base ≤ j) (hb : w0.heap.size ≤ base) (ht : ∀ i ∈ its, i.top ≤ base) (hg : x.grownBy y row) : St w0 its y := by
  have hblk : ∀ j, j < x.heap.size → j < base → y.heap[j]? = x.heap[j]? := fun j hj hjb => hg.block j hj (fun e => by have := hrow j e.symm; omega)
  refine ⟨h.low.grown hg h.low.size (fun j e => by have := hrow j e; omega), fun i hi => ?_, h.ord, fun i hi => Nat.le_trans (h.top i hi) hg.size⟩
  have hok := h.ok i hi
  have hti := ht i hi
  have htx := h.top i hi
  cases i with
  | blk b o =>
    simp only [It.top] at hti htx
    exact (hblk b (by omega) (by omega)).trans hok
  | row v n size c hi' =>
    refine ⟨?_, hok.2⟩
    rcases hok.1 with e | ⟨b, off, cap, rfl, hlt, hc⟩
    · exact .inl e
    · refine .inr ⟨b, off, cap, rfl, Nat.lt_of_lt_of_le hlt hg.size, fun j hj => ?_⟩
      by_cases hn : n = 0
      · subst hn; omega
      · have hbb := (hok.2 _ _ _ rfl).resolve_left hn
        simp only [It.top] at hti hbb
        rw [← hc j hj]
        exact World.cell?_of_block (hblk b hlt (by omega))

section
variable {α : Type}
/-- Things that are kept, and a row of the call's own that grows. -/
structure StO (w0 : World) (its : List It) (base : Nat) (e : TypeId) (k : Nat) (enc : α → List Value) (v : Value) (L : List α) (x : World) : Prop where
  st : St w0 its x
  row : x.ownsRow base e k v L.length (L.flatMap enc)
  low : w0.heap.size ≤ base
  top : ∀ i ∈ its, i.top ≤ base
  hi : base ≤ x.heap.size
variable {w0 x y : World} {its : List It} {base : Nat} {e : TypeId} {k : Nat} {enc : α → List Value} {v : Value} {L : List α}
theorem StO.start (h : St w0 its x) (e : TypeId) (k : Nat) (enc : α → List Value) : StO w0 its x.heap.size e k enc (.slice none 0 0) [] x :=
  ⟨h, World.ownsRow_nil _ _ _ _, h.size, h.top, Nat.le_refl _⟩
theorem StO.below (h : StO w0 its base e k enc v L x) (hb : Below x.heap.size x y) : StO w0 its base e k enc v L y :=
  ⟨h.st.below hb, ownsRow_below h.row hb, h.low, h.top, Nat.le_trans h.hi hb.size⟩
theorem StO.shape (h : StO w0 its base e k enc v L x) : ∃ a cap, v = .slice a L.length cap ∧ (L.length = 0 ∨ ∃ g, a = some ⟨g, 0, none⟩) := by
  rcases h.row.2 with ⟨rfl, h0⟩ | ⟨g, cap, cur, rfl, _⟩
  · exact ⟨none, 0, by rw [h0], .inl h0⟩
  · exact ⟨_, cap, rfl, .inr ⟨g, rfl⟩⟩
theorem StO.elems (h : StO w0 its base e k enc v L x) (hk : ∀ q, (enc q).length = k) : Elems x v L.length k (rowC enc L) := ownsRow_rows hk h.row
variable {P : Program} {t : TypeId} {bytes : Nat}
/-- append(row, q). -/
theorem wpList_app1 {ops : Array Oper} {rest : List Oper} {o : Oper} {a : Act} {Q : Exit → Act → World → Prop} (R : RowT P t e k bytes) (hk : ∀ q, (enc q).length = k) (h1 : ∀ q, ∀ u ∈ enc q, u.oneCell' = true)
    (HO : StO w0 its base e k enc v L x) (hb : Below x.heap.size x y) (q : α) (n : Nat) (hn : L.length = n) (hmax : n < 1000000000) (hby : bytes ≤ 1000)
    (s u : Operand) (hgd : o.guard = none) (ho : o.op = .call { callee := .builtin .append, args := #[s, u], argTypes := #[t, t] })
    (hs : a.eval s = v) (g : Nat) (hu : a.eval u = .slice (some ⟨g, 0, none⟩) 1 1) (hg : y.heap.size = g)
    (h : ∀ v' w', StO w0 its base e k enc v' (L ++ [q]) w' → (∃ ad cap, v' = .slice (some ad) (n + 1) cap) → wpList P ops Q rest (a.put o.dst v') w') :
    wpList P ops Q (o :: rest) a (y.alloc (.cells (enc q).toArray e (0, 0))) := by
  obtain ⟨i, z, hi, hz0, hz1, hz2, hz3⟩ := R.info
  subst hn
  subst hg
  have HY := HO.below hb
  have hbytes : (L.length + 1) * bytes ≤ 140737488355328 := Nat.le_trans (Nat.mul_le_mul (show L.length + 1 ≤ 1000000000 by omega) hby) (by omega)
  refine wpList_append_own _ hgd s u t ho base e i z k bytes R.un hi hz0 hz1 hz2 hz3 R.pos v L.length _ hs (HY.row.alloc _) ⟨y.heap.size, 0, none⟩ 1 1 (enc q) hu (by rw [hk, Nat.one_mul])
    (fun j x hx => cells_of_block (newBlock y (.cells (enc q).toArray e (0, 0)) _ rfl) j x (by simpa using hx)) (h1 q) (by unfold maxLen; omega) hbytes (by have := HY.hi; simp; omega) ?_
  intro v' w' hown hgrow _
  refine h v' w' ⟨(HY.st.below ((Below.refl _ _).alloc (Nat.le_refl _) _)).grown (fun j e => (HY.row.lt j e).1) HY.low HY.top hgrow, ?_, HY.low, HY.top, ?_⟩ ?_
  · rw [List.length_append, List.flatMap_append]; simpa using hown
  · have := hgrow.size; have := HY.hi; simp at *; omega
  · rcases hown.2 with ⟨_, h0⟩ | ⟨g, cap, cur, rfl, _⟩
    · omega
    · exact ⟨_, cap, rfl⟩
/-- The same in a fence. -/
theorem wpListIn_app1 {F : Fence} {N : Nat} {ops : Array Oper} {rest : List Oper} {o : Oper} {a : Act} {Q : Exit → Act → World → Prop} (R : RowT P t e k bytes) (hk : ∀ q, (enc q).length = k) (h1 : ∀ q, ∀ u ∈ enc q, u.oneCell' = true)
    (HO : StO w0 its base e k enc v L x) (hb : Below x.heap.size x y) (q : α) (n : Nat) (hn : L.length = n) (hmax : n < 1000000000) (hby : bytes ≤ 1000)
    (s u : Operand) (hgd : o.guard = none) (ho : o.op = .call { callee := .builtin .append, args := #[s, u], argTypes := #[t, t] })
    (hs : a.eval s = v) (g : Nat) (hu : a.eval u = .slice (some ⟨g, 0, none⟩) 1 1) (hg : y.heap.size = g)
    (h : ∀ v' w', StO w0 its base e k enc v' (L ++ [q]) w' → (∃ ad cap, v' = .slice (some ad) (n + 1) cap) → wpListIn F N P ops Q rest (a.put o.dst v') w') :
    wpListIn F N P ops Q (o :: rest) a (y.alloc (.cells (enc q).toArray e (0, 0))) := by
  obtain ⟨i, z, hi, hz0, hz1, hz2, hz3⟩ := R.info
  subst hn
  subst hg
  have HY := HO.below hb
  have hbytes : (L.length + 1) * bytes ≤ 140737488355328 := Nat.le_trans (Nat.mul_le_mul (show L.length + 1 ≤ 1000000000 by omega) hby) (by omega)
  refine wpListIn_append_own _ hgd s u t ho base e i z k bytes R.un hi hz0 hz1 hz2 hz3 R.pos v L.length _ hs (HY.row.alloc _) ⟨y.heap.size, 0, none⟩ 1 1 (enc q) hu (by rw [hk, Nat.one_mul])
    (fun j x hx => cells_of_block (newBlock y (.cells (enc q).toArray e (0, 0)) _ rfl) j x (by simpa using hx)) (h1 q) (by unfold maxLen; omega) hbytes (by have := HY.hi; simp; omega) ?_
  intro v' w' hown hgrow _
  refine h v' w' ⟨(HY.st.below ((Below.refl _ _).alloc (Nat.le_refl _) _)).grown (fun j e => (HY.row.lt j e).1) HY.low HY.top hgrow, ?_, HY.low, HY.top, ?_⟩ ?_
  · rw [List.length_append, List.flatMap_append]; simpa using hown
  · have := hgrow.size; have := HY.hi; simp at *; omega
  · rcases hown.2 with ⟨_, h0⟩ | ⟨g, cap, cur, rfl, _⟩
    · omega
    · exact ⟨_, cap, rfl⟩
end
end Go.Proofs.Ytflbcabjefpojaa
