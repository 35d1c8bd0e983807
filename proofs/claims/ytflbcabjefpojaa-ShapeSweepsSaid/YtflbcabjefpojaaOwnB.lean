/- Rows of the call's own, more: what append leaves alone; an element that is written. -/
import Derived.Test.YtflbcabjefpojaaOwn
import Derived.Test.YtflbcabjefpojaaIter
namespace Go.Proofs.Ytflbcabjefpojaa
set_option linter.unusedSimpArgs false
set_option linter.unusedVariables false
open Go.RowKit Go.Shelf

theorem grownBy_setCellAt (W : World) (b k : Nat) (v : Value) : W.grownBy (W.setCell ⟨b, k, none⟩ v) (some b) :=
  ⟨rfl, rfl, rfl, by rw [World.size_setCell]; exact Nat.le_refl _, fun j _ hj => Below.heap_setCell _ _ _ j (fun e => hj (by rw [e]))⟩
theorem grownTrans {a b c : World} {row : Option Nat} (h : a.grownBy b row) (k : b.grownBy c row) : a.grownBy c row :=
  ⟨k.os.trans h.os, k.tape.trans h.tape, k.output.trans h.output, Nat.le_trans h.size k.size, fun i hi hr => (k.block i (Nat.lt_of_lt_of_le hi h.size) hr).trans (h.block i hi hr)⟩

section
variable {w : World} {base : Nat} {e : TypeId} {size : Nat} {g n cap : Nat} {xs : List Value}
theorem ownsRow_set (h : w.ownsRow base e size (.slice (some ⟨g, 0, none⟩) n cap) n xs) (j : Nat) (hj : j < n * size) (u : Value) : (w.setCell ⟨g, j, none⟩ u).ownsRow base e size (.slice (some ⟨g, 0, none⟩) n cap) n (xs.set j u) := by
  refine ⟨by rw [List.length_set]; exact h.1, ?_⟩
  rcases h.2 with ⟨e1, _⟩ | ⟨g', cap', cur, e1, hb, hg, h1, h2, h3, h4⟩
  · cases e1
  · cases e1
    refine .inr ⟨g, cap, cur.setIfInBounds j u, rfl, hb, heap_set_same hg u, h1, h2, by simpa using h3, ?_⟩
    rw [← h4, Array.toList_setIfInBounds, List.take_set]
theorem ownsRow_free (h : w.ownsRow base e size (.slice (some ⟨g, 0, none⟩) n cap) n xs) (j : Nat) : w.frozen? ⟨g, j, none⟩ = false := by
  rcases h.2 with ⟨e1, _⟩ | ⟨g', cap', cur, e1, hb, hg, _⟩
  · cases e1
  · cases e1; exact free_of_block hg j
theorem ownsRow_cell (h : w.ownsRow base e size (.slice (some ⟨g, 0, none⟩) n cap) n xs) {j : Nat} {u : Value} (hu : xs[j]? = some u) : w.cell? ⟨g, j, none⟩ = some u := by
  rcases h.2 with ⟨e1, _⟩ | ⟨g', cap', cur, e1, hb, hg, h1, h2, h3, h4⟩
  · cases e1
  · cases e1
    refine cell_of_block hg ?_
    rw [← h4] at hu
    have hlt : j < n * size := by
      have := (List.getElem?_eq_some_iff.1 hu).1
      simp at this
      omega
    rw [List.getElem?_take_of_lt hlt] at hu
    simpa using hu
theorem ownsRow_block (h : w.ownsRow base e size (.slice (some ⟨g, 0, none⟩) n cap) n xs) : base ≤ g ∧ g < w.heap.size ∧ ∃ cur, w.heap[g]? = some (.cells cur e (0, 0)) := by
  rcases h.2 with ⟨e1, _⟩ | ⟨g', cap', cur, e1, hb, hg, _⟩
  · cases e1
  · cases e1; exact ⟨hb, block_lt hg, cur, hg⟩
end

theorem flatMap_set {α : Type} {enc : α → List Value} {k : Nat} (hk : ∀ q, (enc q).length = k) : ∀ (L : List α) (j : Nat) (q q' : α) (c : Nat) (u : Value), L[j]? = some q → c < k → (enc q).set c u = enc q' → (L.set j q').flatMap enc = (L.flatMap enc).set (j * k + c) u
  | [], _, _, _, _, _, h, _, _ => by simp at h
  | x :: L, 0, q, q', c, u, h, hc, hs => by
    simp only [List.getElem?_cons_zero, Option.some.injEq] at h
    subst h
    simp only [List.set_cons_zero, List.flatMap_cons, Nat.zero_mul, Nat.zero_add]
    rw [← hs, List.set_append_left _ _ (by rw [hk]; exact hc)]
  | x :: L, j + 1, q, q', c, u, h, hc, hs => by
    simp only [List.getElem?_cons_succ] at h
    simp only [List.set_cons_succ, List.flatMap_cons]
    rw [flatMap_set hk L j q q' c u h hc hs, List.set_append_right _ _ (by rw [hk, Nat.add_one_mul]; omega), hk]
    congr 2
    rw [Nat.add_one_mul]; omega

section
variable {α : Type} {w0 x y : World} {its : List It} {base : Nat} {e : TypeId} {k : Nat} {enc : α → List Value} {v : Value} {L : List α}
/-- An element's cell is written. -/
theorem StO.set {g n cap : Nat} (h : StO w0 its base e k enc (.slice (some ⟨g, 0, none⟩) n cap) L x) (hk : ∀ q, (enc q).length = k) (j : Nat) (q q' : α) (c : Nat) (u : Value) (hq : L[j]? = some q) (hc : c < k) (hs : (enc q).set c u = enc q') :
    StO w0 its base e k enc (.slice (some ⟨g, 0, none⟩) n cap) (L.set j q') (x.setCell ⟨g, j * k + c, none⟩ u) := by
  have hn : n = L.length := by
    rcases h.row.2 with ⟨e1, _⟩ | ⟨g', cap', cur, e1, _⟩
    · cases e1
    · cases e1; rfl
  subst hn
  have hb := ownsRow_block h.row
  have hj := (List.getElem?_eq_some_iff.1 hq).1
  have hlt : j * k + c < L.length * k := by
    have : (j + 1) * k ≤ L.length * k := Nat.mul_le_mul_right k hj
    rw [Nat.add_one_mul] at this
    omega
  refine ⟨h.st.grown (base := base) (row := some g) (fun j e => by cases e; exact hb.1) h.low h.top (grownBy_setCellAt x g _ u), ?_, h.low, h.top, by rw [World.size_setCell]; exact h.hi⟩
  rw [List.length_set, flatMap_set hk L j q q' c u hq hc hs]
  exact ownsRow_set h.row _ hlt u
theorem StO.free {g n cap : Nat} (h : StO w0 its base e k enc (.slice (some ⟨g, 0, none⟩) n cap) L x) (j : Nat) : x.frozen? ⟨g, j, none⟩ = false := by
  have hn : n = L.length := by
    rcases h.row.2 with ⟨e1, _⟩ | ⟨g', cap', cur, e1, _⟩
    · cases e1
    · cases e1; rfl
  subst hn
  exact ownsRow_free h.row j
theorem StO.cell {g n cap : Nat} (h : StO w0 its base e k enc (.slice (some ⟨g, 0, none⟩) n cap) L x) (hk : ∀ q, (enc q).length = k) (j : Nat) (q : α) (c : Nat) (u : Value) (hq : L[j]? = some q) (hu : (enc q)[c]? = some u) : x.cell? ⟨g, j * k + c, none⟩ = some u := by
  have hn : n = L.length := by
    rcases h.row.2 with ⟨e1, _⟩ | ⟨g', cap', cur, e1, _⟩
    · cases e1
    · cases e1; rfl
  subst hn
  refine ownsRow_cell h.row ?_
  rw [flat_get hk L j c (by rw [← hk q]; exact (List.getElem?_eq_some_iff.1 hu).1), hq]
  exact hu
theorem StO.head {ad : Addr} {n cap : Nat} (h : StO w0 its base e k enc (.slice (some ad) n cap) L x) : ∃ g, ad = ⟨g, 0, none⟩ ∧ n = L.length := by
  rcases h.row.2 with ⟨e1, _⟩ | ⟨g', cap', cur, e1, _⟩
  · cases e1
  · cases e1; exact ⟨g', rfl, rfl⟩
/-- The last element's cell is written. -/
theorem StO.setLast {g n cap : Nat} {L0 : List α} {q : α} (h : StO w0 its base e k enc (.slice (some ⟨g, 0, none⟩) n cap) (L0 ++ [q]) x) (hk : ∀ q, (enc q).length = k) (q' : α) (c : Nat) (u : Value) (hc : c < k) (hs : (enc q).set c u = enc q') :
    StO w0 its base e k enc (.slice (some ⟨g, 0, none⟩) n cap) (L0 ++ [q']) (x.setCell ⟨g, L0.length * k + c, none⟩ u) := by
  have := h.set hk L0.length q q' c u (by simp) hc hs
  rwa [show (L0 ++ [q]).set L0.length q' = L0 ++ [q'] by simp] at this
variable {P : Program} {t : TypeId} {bytes : Nat}
/-- append(row, q); what else there was lies as it lay. -/
theorem wpList_app1g {ops : Array Oper} {rest : List Oper} {o : Oper} {a : Act} {Q : Exit → Act → World → Prop} (R : RowT P t e k bytes) (hk : ∀ q, (enc q).length = k) (h1 : ∀ q, ∀ u ∈ enc q, u.oneCell' = true)
    (HO : StO w0 its base e k enc v L x) (hb : Below x.heap.size x y) (q : α) (n : Nat) (hn : L.length = n) (hmax : n < 1000000000) (hby : bytes ≤ 1000)
    (s u : Operand) (hgd : o.guard = none) (ho : o.op = .call { callee := .builtin .append, args := #[s, u], argTypes := #[t, t] })
    (hs : a.eval s = v) (g : Nat) (hu : a.eval u = .slice (some ⟨g, 0, none⟩) 1 1) (hg : y.heap.size = g)
    (h : ∀ v' w', StO w0 its base e k enc v' (L ++ [q]) w' → (∃ ad cap, v' = .slice (some ad) (n + 1) cap) → y.grownBy w' v.ownBlock → wpList P ops Q rest (a.put o.dst v') w') :
    wpList P ops Q (o :: rest) a (y.alloc (.cells (enc q).toArray e (0, 0))) := by
  obtain ⟨i, z, hi, hz0, hz1, hz2, hz3⟩ := R.info
  subst hn
  subst hg
  have HY := HO.below hb
  have hbytes : (L.length + 1) * bytes ≤ 140737488355328 := Nat.le_trans (Nat.mul_le_mul (show L.length + 1 ≤ 1000000000 by omega) hby) (by omega)
  refine wpList_append_own _ hgd s u t ho base e i z k bytes R.un hi hz0 hz1 hz2 hz3 R.pos v L.length _ hs (HY.row.alloc _) ⟨y.heap.size, 0, none⟩ 1 1 (enc q) hu (by rw [hk, Nat.one_mul])
    (fun j x hx => cells_of_block (newBlock y (.cells (enc q).toArray e (0, 0)) _ rfl) j x (by simpa using hx)) (h1 q) (by unfold maxLen; omega) hbytes (by have := HY.hi; simp; omega) ?_
  intro v' w' hown hgrow _
  refine h v' w' ⟨(HY.st.below ((Below.refl _ _).alloc (Nat.le_refl _) _)).grown (fun j e => (HY.row.lt j e).1) HY.low HY.top hgrow, ?_, HY.low, HY.top, ?_⟩ ?_ (grownTrans (World.grownBy_alloc y _ _) hgrow)
  · rw [List.length_append, List.flatMap_append]; simpa using hown
  · have := hgrow.size; have := HY.hi; simp at *; omega
  · rcases hown.2 with ⟨_, h0⟩ | ⟨g, cap, cur, rfl, _⟩
    · omega
    · exact ⟨_, cap, rfl⟩
end
end Go.Proofs.Ytflbcabjefpojaa
