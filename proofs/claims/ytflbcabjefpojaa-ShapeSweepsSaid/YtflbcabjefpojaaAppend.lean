/- append, of a source that may be nil; onto an empty row without room. -/
import Derived.Test.YtflbcabjefpojaaState
import Derived.ArgAppend
namespace Go.Proofs.Ytflbcabjefpojaa
set_option linter.unusedSimpArgs false
set_option linter.unusedVariables false
open Go.RowKit Go.Shelf

/-- A slice of m elements with these cells. -/
def Src (w : World) (size : Nat) (u : Value) (m : Nat) (news : List Value) : Prop :=
  news.length = m * size ∧ ((u = .slice none 0 0 ∧ m = 0) ∨ ∃ ad c, u = .slice (some ad) m c ∧ ∀ (j : Nat) (x : Value), news[j]? = some x → w.cell? (ad.add j) = some x)

section
variable {P : Program} {w : World}
theorem run_append_src (base : Nat) (t ty e : TypeId) (i : TypeInfo) (z : Value) (size bytes : Nat) (ht : P.underlying t = some (.slice e)) (hi : P.info? e = some i) (hz : i.zero = some z)
    (hsize : i.size = size) (hby : i.bytes = bytes) (hzs : z.cells.size = size) (hsz : 0 < size)
    (v : Value) (n : Nat) (xs : List Value) (hown : w.ownsRow base e size v n xs) (u : Value) (m : Nat) (news : List Value) (hs : Src w size u m news) (h1 : ∀ x ∈ news, x.oneCell' = true)
    (h63 : n + m ≤ maxLen) (hbytes : (n + m) * bytes ≤ 140737488355328) (hbase : base ≤ w.heap.size) :
    ∃ v' w', (Builtin.append_ #[t, t] ty #[v, u]).run P w = .ok v' w' ∧ w'.ownsRow base e size v' (n + m) (xs ++ news) ∧ w.grownBy w' v.ownBlock ∧ (0 < n + m → v' ≠ .slice none 0 0) := by
  obtain ⟨hl, ⟨rfl, rfl⟩ | ⟨ad, c, rfl, hc⟩⟩ := hs
  · obtain rfl : news = [] := List.eq_nil_of_length_eq_zero (by simpa using hl)
    refine ⟨v, w, run_append_owned_none (P := P) (w := w) base t ty e i size ht hi v n xs hown, by simpa using hown, ⟨rfl, rfl, rfl, Nat.le_refl _, fun _ _ _ => rfl⟩, fun h0 hv => ?_⟩
    rcases hown.2 with ⟨_, h⟩ | ⟨g, cap, cur, rfl, _⟩
    · omega
    · cases hv
  · obtain ⟨v', w', hrun, r1, r2, r3⟩ := run_append_own (P := P) w base t ty e i z size bytes ht hi hz hsize hby hzs hsz v n xs hown ad m c news hl hc h1 h63 hbytes hbase
    refine ⟨v', w', hrun, r1, r2, fun h0 hv => ?_⟩
    obtain ⟨h2, h3⟩ := r3.1 hv
    rcases hown.2 with ⟨_, h⟩ | ⟨g, cap, cur, rfl, _⟩
    · omega
    · cases h2

/-- Onto an empty row without room: a new row, and nothing that was there has changed. -/
theorem run_append_fresh (base : Nat) (t ty e : TypeId) (i : TypeInfo) (z : Value) (size bytes : Nat) (ht : P.underlying t = some (.slice e)) (hi : P.info? e = some i) (hz : i.zero = some z)
    (hsize : i.size = size) (hby : i.bytes = bytes) (hzs : z.cells.size = size) (hsz : 0 < size)
    (g : Nat) (hg : base ≤ g) (hb : w.heap[g]? = some (.cells #[] e (0, 0))) (u : Value) (m : Nat) (news : List Value) (hs : Src w size u m news) (h1 : ∀ x ∈ news, x.oneCell' = true)
    (h63 : m ≤ maxLen) (hbytes : m * bytes ≤ 140737488355328) (hbase : base ≤ w.heap.size) :
    ∃ v' w', (Builtin.append_ #[t, t] ty #[.slice (some ⟨g, 0, none⟩) 0 0, u]).run P w = .ok v' w' ∧ w'.ownsRow base e size v' m news ∧ Below w.heap.size w w' ∧ v' ≠ .slice none 0 0 := by
  have hown : w.ownsRow base e size (.slice (some ⟨g, 0, none⟩) 0 0) 0 [] := ⟨by simp, .inr ⟨g, 0, #[], rfl, hg, hb, Nat.le_refl _, by simp, by simp, by simp⟩⟩
  by_cases hm : m = 0
  · subst hm
    obtain ⟨hl, ⟨rfl, _⟩ | ⟨ad, c, rfl, hc⟩⟩ := hs
    · obtain rfl : news = [] := List.eq_nil_of_length_eq_zero (by simpa using hl)
      exact ⟨_, w, run_append_owned_none (P := P) (w := w) base t ty e i size ht hi _ 0 [] hown, hown, Below.refl _ _, by simp⟩
    · obtain rfl : news = [] := List.eq_nil_of_length_eq_zero (by simpa using hl)
      have hr := run_append_room_cells (P := P) w t ty e i ht hi g 0 0 0 ad 0 c [] (by simp) (by simp) (by simp) (Nat.le_refl _) (by simp) (by simp)
      refine ⟨_, _, hr, ?_, ?_, by simp⟩
      · simpa [World.setCells] using hown
      · simpa [World.setCells] using Below.refl _ _
  · obtain ⟨hl, ⟨_, h⟩ | ⟨ad, c, rfl, hc⟩⟩ := hs
    · exact absurd h hm
    · obtain ⟨v', w', hrun, r1, r2⟩ := run_append_arg_grows (P := P) w t ty e i z size bytes ht hi hz hsize hby hzs hsz ⟨g, 0, none⟩ 0 0 [] (by simp) (by simp) ad m c news hl hc (by omega) (by simpa using h63) (by simpa using hbytes)
      simp only [Nat.zero_add, List.nil_append] at r1
      refine ⟨v', w', hrun, ownsRow_mono r1 hbase, (Below.refl _ _).grown r2 (Nat.le_refl _) (fun k e => by cases e), fun hv => ?_⟩
      rcases r1.2 with ⟨_, h⟩ | ⟨g', cap, cur, e', _⟩
      · exact hm h
      · rw [e'] at hv; cases hv
end

/-- One operation: append. -/
theorem opIn_append {F : Fence} {n : Nat} {P : Program} {w w' : World} {o : Oper} {a : Act} {K : Act → World → Prop} {Q : Exit → Act → World → Prop} (s x : Operand) (t : TypeId) (hop : o.op = Op.call { callee := Callee.builtin Builtin.append, args := #[s, x], argTypes := #[t, t] })
    {v u v' : Value} (hs : a.eval s = v) (hx : a.eval x = u) (hrun : (Builtin.append_ #[t, t] o.type #[v, u]).run P w = .ok v' w') (hK : K (a.put o.dst v') w') : o.wpIn F n P a w K Q := by
  unfold Oper.wpIn
  refine ⟨?_, ?_⟩
  · simp [Oper.about, hop, resolve, Target.leads, Sem.run_pure]
  · rw [Oper.semAt_plain F _ _ (by rw [hop]; intro c hc'; cases hc')]
    simp [execOp, hop, resolve, invoke, builtin, hs, hx, hrun, Result.andThen]
    exact hK
theorem wpListIn_append_src {F : Fence} {n : Nat} {P : Program} (w : World) {ops : Array Oper} {rest : List Oper} {o : Oper} {a : Act} {Q : Exit → Act → World → Prop}
    (hg : o.guard = none) (s x : Operand) (t : TypeId) (hop : o.op = Op.call { callee := Callee.builtin Builtin.append, args := #[s, x], argTypes := #[t, t] })
    (base : Nat) (e : TypeId) (i : TypeInfo) (z : Value) (size bytes : Nat) (h1 : P.underlying t = some (.slice e)) (h2 : P.info? e = some i) (h3 : i.zero = some z) (h4 : i.size = size) (h5 : i.bytes = bytes) (h6 : z.cells.size = size) (h7 : 0 < size)
    (v : Value) (k : Nat) (xs : List Value) (hs : a.eval s = v) (hown : w.ownsRow base e size v k xs) (u : Value) (m : Nat) (news : List Value) (hx : a.eval x = u) (hsrc : Src w size u m news) (h1c : ∀ x ∈ news, x.oneCell' = true) (b1 : k + m ≤ maxLen) (b2 : (k + m) * bytes ≤ 140737488355328) (b3 : base ≤ w.heap.size)
    (hK : ∀ v' w', w'.ownsRow base e size v' (k + m) (xs ++ news) → w.grownBy w' v.ownBlock → (0 < k + m → v' ≠ .slice none 0 0) → wpListIn F n P ops Q rest (a.put o.dst v') w') :
    wpListIn F n P ops Q (o :: rest) a w := by
  refine wpListIn_plain hg fun K hK' => ?_
  obtain ⟨v', w', hrun, r1, r2, r3⟩ := run_append_src (P := P) (w := w) base t o.type e i z size bytes h1 h2 h3 h4 h5 h6 h7 v k xs hown u m news hsrc h1c b1 b2 b3
  exact opIn_append s x t hop hs hx hrun (hK' _ _ (hK v' w' r1 r2 r3))
end Go.Proofs.Ytflbcabjefpojaa
