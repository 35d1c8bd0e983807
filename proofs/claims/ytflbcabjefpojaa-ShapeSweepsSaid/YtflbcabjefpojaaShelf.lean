/- The shelf's generic functions at rows of structs, in this seat's words: slices.Equal, slices.Clone. -/
import Derived.Test.YtflbcabjefpojaaBaseD
import Derived.Shelf.SlicesQ.Equal
import Derived.Shelf.SlicesE.Clone
namespace Go.Proofs.Ytflbcabjefpojaa
set_option linter.unusedSimpArgs false
set_option linter.unusedVariables false
open Go.RowKit Go.Shelf

section rows
variable {α : Type}
/-- The cells of a row. -/
def rowC (enc : α → List Value) (l : List α) (j : Nat) : Value := ((l.flatMap enc)[j]?).getD undef
theorem flat_length {enc : α → List Value} {k : Nat} (hk : ∀ x, (enc x).length = k) (l : List α) : (l.flatMap enc).length = l.length * k := by
  induction l with
  | nil => simp
  | cons x l ih => rw [List.flatMap_cons, List.length_append, ih, hk, List.length_cons, Nat.succ_mul]; omega
theorem flat_get {enc : α → List Value} {k : Nat} (hk : ∀ x, (enc x).length = k) : ∀ (l : List α) (i r : Nat), r < k → (l.flatMap enc)[i * k + r]? = (l[i]?).bind fun x => (enc x)[r]?
  | [], i, r, _ => by simp
  | x :: l, 0, r, hr => by
    rw [List.flatMap_cons, Nat.zero_mul, Nat.zero_add, List.getElem?_append_left (by rw [hk]; exact hr)]
    simp
  | x :: l, i + 1, r, hr => by
    have e : (i + 1) * k + r - k = i * k + r := by rw [Nat.succ_mul]; omega
    rw [List.flatMap_cons, List.getElem?_append_right (by rw [hk, Nat.succ_mul]; omega), hk, e, flat_get hk l i r hr]
    simp
theorem rowElem {enc : α → List Value} {k : Nat} (hk : ∀ x, (enc x).length = k) {w : World} {b off : Nat} {l : List α} (hc : ∀ j, j < l.length * k → w.cell? ⟨b, off + j, none⟩ = some (rowC enc l j)) {i : Nat} {x : α} (hi : l[i]? = some x) :
    ∀ r u, (enc x)[r]? = some u → w.cell? ⟨b, off + i * k + r, none⟩ = some u := by
  intro r u hr
  have hlt : i < l.length := (List.getElem?_eq_some_iff.1 hi).1
  have hrk : r < k := by have := (List.getElem?_eq_some_iff.1 hr).1; rw [hk] at this; exact this
  have hm : i * k + r < l.length * k := by
    have : (i + 1) * k ≤ l.length * k := Nat.mul_le_mul_right k hlt
    rw [Nat.succ_mul] at this
    omega
  have h := hc (i * k + r) hm
  rw [← Nat.add_assoc] at h
  rw [h]
  unfold rowC
  rw [flat_get hk l i r hrk, hi]
  show some (((enc x)[r]?).getD undef) = some u
  rw [hr]
  rfl
theorem ownsRow_rows {enc : α → List Value} {k : Nat} (hk : ∀ x, (enc x).length = k) {w : World} {base : Nat} {e : TypeId} {v : Value} {l : List α} (h : w.ownsRow base e k v l.length (l.flatMap enc)) : Elems w v l.length k (rowC enc l) :=
  ownsRow_elems h fun j hj => by
    unfold rowC
    rw [List.getElem?_eq_getElem (by rw [flat_length hk]; exact hj)]
    rfl
theorem allEq_self (eq : α → α → Bool) (h : ∀ x, eq x x = true) : ∀ l : List α, Lib.allEq eq l l = true
  | [] => rfl
  | x :: l => by simp [Lib.allEq, h, allEq_self eq h l]
theorem allEq_iff (eq : α → α → Bool) (h : ∀ x y, eq x y = true ↔ x = y) : ∀ l m : List α, Lib.allEq eq l m = true ↔ l = m
  | [], [] => by simp [Lib.allEq]
  | [], _ :: _ => by simp [Lib.allEq]
  | _ :: _, [] => by simp [Lib.allEq]
  | x :: l, y :: m => by simp [Lib.allEq, h, allEq_iff eq h l m]
/-- Whether two rows are alike, where '==' is equality. -/
def sameB [DecidableEq α] (l m : List α) : Bool := decide (l = m)
theorem allEq_sameB [DecidableEq α] (eq : α → α → Bool) (h : ∀ x y, eq x y = true ↔ x = y) (l m : List α) : Lib.allEq eq l m = sameB l m := by
  unfold sameB
  rw [Bool.eq_iff_iff, allEq_iff eq h, decide_eq_true_iff]

theorem below_drewN {n₀ : Nat} {w w' : World} (h : Below n₀ w w') : ∀ q, Below n₀ w (w'.drewN q)
  | 0 => h
  | q + 1 => (below_drewN h q).drew
variable {P : Program} {ρ : Ren}
set_option maxHeartbeats 1000000 in
set_option maxRecDepth 100000 in
theorem eqRows_lens (L : SlLaysQ.n8 P ρ) (a1 a2 : Option Addr) (n c m d : Nat) (w : World) (hne : n ≠ m) : Calls P (ρ.f 8) #[.slice a1 n c, .slice a2 m d] w (Gives (.bool false) w) := by
  have mixed := L.mixed; have t0 := L.t0; have a0 := L.a0; have z0 := L.z0; have v0 := L.v0; have t3 := L.t3; have a3 := L.a3; have z3 := L.z3; have v3 := L.v3; have t4 := L.t4; have a4 := L.a4; have z4 := L.z4; have v4 := L.v4; have t22 := L.t22; have a22 := L.a22; have z22 := L.z22; have v22 := L.v22
  have hnm' : ¬ (n : Int) = (m : Int) := by omega
  obtain ⟨_, _, FG⟩ := L.f8
  go_enter FG, SlBodyQ.n8_ntmps ρ
  go_wp2
  go_ret
  exact ⟨rfl, Below.refl _ _⟩
set_option maxHeartbeats 1000000 in
set_option maxRecDepth 100000 in
theorem eqRows_none (L : SlLaysQ.n8 P ρ) (a1 a2 : Option Addr) (c d : Nat) (w : World) : Calls P (ρ.f 8) #[.slice a1 0 c, .slice a2 0 d] w (Gives (.bool true) w) := by
  have mixed := L.mixed; have t0 := L.t0; have a0 := L.a0; have z0 := L.z0; have v0 := L.v0; have t3 := L.t3; have a3 := L.a3; have z3 := L.z3; have v3 := L.v3; have t4 := L.t4; have a4 := L.a4; have z4 := L.z4; have v4 := L.v4; have t22 := L.t22; have a22 := L.a22; have z22 := L.z22; have v22 := L.v22
  obtain ⟨_, _, FG⟩ := L.f8
  go_enter FG, SlBodyQ.n8_ntmps ρ
  go_wp2
  go_loopw [13] (fun i wr => i = .int .i64 0 ∧ w = wr) (fun _ _ => 0)
  case atStart => exact ⟨rfl, rfl⟩
  case round =>
    obtain ⟨rfl, rfl⟩ := hrel
    go_wp2
    go_ret
    exact ⟨rfl, Below.refl _ _⟩

/-- slices.Equal at rows of structs. -/
theorem eqRows [Inhabited α] (L : SlLaysQ.n8 P ρ) (k : Nat) (aE : ∀ w, (isAgg (ρ.t 24)).run P w = .ok true w) (zE : ∀ w, (Go.sizeOf (ρ.t 24)).run P w = .ok k w) (enc : α → List Value) (hk : ∀ x, (enc x).length = k) (eq : α → α → Bool) (hne : NeqAt P (ρ.t 24) (fun x => .agg (enc x).toArray) eq)
    (s1 s2 : Value) (l m : List α) (w : World) (h1 : Elems w s1 l.length k (rowC enc l)) (h2 : Elems w s2 m.length k (rowC enc m)) (hl : l.length ≤ 1000000000) : Calls P (ρ.f 8) #[s1, s2] w (Gives (.bool (Lib.allEq eq l m)) w) := by
  obtain ⟨a1, c1, rfl, g1⟩ := h1.shape
  obtain ⟨a2, c2, rfl, g2⟩ := h2.shape
  by_cases hlen : l.length = m.length
  · by_cases h0 : l.length = 0
    · have e1 : l = [] := List.length_eq_zero_iff.1 h0
      have e2 : m = [] := List.length_eq_zero_iff.1 (hlen ▸ h0)
      subst e1; subst e2
      exact eqRows_none L a1 a2 c1 c2 w
    · obtain ⟨b1, o1, rfl, hl1, hc1⟩ := g1.resolve_left h0
      obtain ⟨b2, o2, rfl, hl2, hc2⟩ := g2.resolve_left (by omega)
      have key : ∀ (b off : Nat) (l : List α), (∀ j, j < l.length * k → w.cell? ⟨b, off + j, none⟩ = some (rowC enc l j)) → ∀ j, j < l.length → ∀ i v, (enc l[j]!)[i]? = some v → w.cell? ⟨b, off + j * k + i, none⟩ = some v := by
        intro b off l hc j hj
        exact rowElem hk hc (x := l[j]!) (by rw [getElem!_pos l j hj, List.getElem?_eq_getElem hj])
      refine (AnyQ.slices_Equal L k aE zE enc hk eq hne b1 o1 l.length c1 b2 o2 m.length c2 l m w (Nat.le_refl _) (Nat.le_refl _) (by omega) (by omega) (key _ _ _ hc1) (key _ _ _ hc2)).mono ?_
      rintro e w' ⟨rfl, q, rfl⟩
      refine ⟨by rw [List.take_length, List.take_length], ?_⟩
      exact below_drewN (Below.refl _ _) q
  · rw [Lib.allEq_len eq l m hlen]
    exact eqRows_lens L a1 a2 _ _ _ _ w hlen

/-- A slice that is a new row, nil just where the old one was. -/
def Cloned (E size n : Nat) (xs : List Value) (sv : Value) (w : World) (e : Ending) (w' : World) : Prop := ∃ v, e = .returned v ∧ w'.ownsRow w.heap.size E size v n xs ∧ (sv = .slice none 0 0 → v = .slice none 0 0) ∧ Below w.heap.size w w'
/-- slices.Clone. -/
theorem cloneRows (L : SlLaysE0.n41 P ρ) (i0 : TypeInfo) (z : Value) (k bytes : Nat) (hi : P.info? (ρ.t 23) = some i0) (hz0 : i0.zero = some z) (hz1 : i0.size = k) (hz2 : i0.bytes = bytes) (hzs : z.cells.size = k) (hsz : 0 < k)
    (z23 : ∀ w, (Go.sizeOf (ρ.t 23)).run P w = .ok k w) (enc : α → List Value) (hk : ∀ x, (enc x).length = k) (h1 : ∀ x, ∀ u ∈ enc x, u.oneCell' = true) (sv : Value) (l : List α) (w : World) (he : Elems w sv l.length k (rowC enc l)) (hl : l.length ≤ 1000000000) (hb : l.length * bytes ≤ 140737488355328) :
    Calls P (ρ.f 41) #[sv] w (Cloned (ρ.t 23) k l.length (l.flatMap enc) sv w) := by
  rcases he with ⟨rfl, h0⟩ | ⟨b, off, cap, rfl, hlt, hc⟩
  · refine (AnyE.slices_Clone_nil L 0 0 w).mono ?_
    rintro e w' ⟨rfl, rfl⟩
    have e1 : l = [] := List.length_eq_zero_iff.1 h0
    subst e1
    exact ⟨_, rfl, World.ownsRow_nil _ _ _ _, fun _ => rfl, Below.refl _ _⟩
  · refine (AnyE.slices_Clone L i0 z k bytes hi hz0 hz1 hz2 hzs hsz z23 b off l.length cap (l.flatMap enc) w (flat_length hk l) (by unfold maxLen; omega) hb ?_ ?_).mono ?_
    · intro j u hj
      have hjl : j < l.length * k := by rw [← flat_length hk l]; exact (List.getElem?_eq_some_iff.1 hj).1
      rw [hc j hjl]
      unfold rowC
      rw [hj]
      rfl
    · intro u hu
      obtain ⟨x, _, hx⟩ := List.mem_flatMap.1 hu
      exact h1 x u hx
    · rintro e w' ⟨v', rfl, hown, hnn, hbl⟩
      exact ⟨v', rfl, hown, fun e => by simp at e, hbl⟩
end rows
end Go.Proofs.Ytflbcabjefpojaa
