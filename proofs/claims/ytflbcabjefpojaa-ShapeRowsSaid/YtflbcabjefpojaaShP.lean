/- Layer 6, plain: a right row is determined by its places. -/
import Derived.Test.YtflbcabjefpojaaShF
namespace Go.Proofs.Ytflbcabjefpojaa
set_option linter.unusedSimpArgs false
set_option linter.unusedVariables false
open Go.RowKit Go.Shelf

def ordP (a b : SpT) : Prop := a.y < b.y ∨ a.y = b.y ∧ a.t + 1 < b.f
structure RowP (l : List SpT) : Prop where
  sp : ∀ s ∈ l, s.f ≤ s.t
  ord : l.Pairwise ordP
theorem ordP_trans {a b c : SpT} (hb : b.f ≤ b.t) (h : ordP a b) (k : ordP b c) : ordP a c := by
  unfold ordP at *
  omega
theorem RightP.tail {s : SpT} {l : List SpT} (h : RightP (s :: l)) : RightP l :=
  ⟨fun k hk => by have := h.sp (k + 1) (by simp; omega); simpa using this, fun k hk => by have := h.ord (k + 1) (by simp; omega); simpa using this⟩
theorem spB_iff (s : SpT) : spB s = true ↔ (-256 ≤ s.y ∧ s.y ≤ 255) ∧ (-256 ≤ s.f ∧ s.f ≤ 255) ∧ (-256 ≤ s.t ∧ s.t ≤ 255) ∧ s.f ≤ s.t := by
  simp [spB, reachB]
theorem RightP.rowP : ∀ {l : List SpT}, RightP l → RowP l
  | [], _ => ⟨by simp, List.Pairwise.nil⟩
  | s :: l, h => by
    have hl := h.tail.rowP
    have hs := (spB_iff s).1 (by have := h.sp 0 (by simp); simpa using this)
    refine ⟨fun q hq => ?_, List.Pairwise.cons (fun q hq => ?_) hl.ord⟩
    · rcases List.mem_cons.1 hq with rfl | hq
      · omega
      · exact hl.sp q hq
    · cases l with
      | nil => cases hq
      | cons r l' =>
        have h1 : ordP s r := by
          have := h.ord 0 (by simp)
          simpa [ordB, ordP] using this
        rcases List.mem_cons.1 hq with rfl | hq
        · exact h1
        · exact ordP_trans (hl.sp r (by simp)) h1 ((List.pairwise_cons.1 hl.ord).1 q hq)
theorem hasB_iff (l : List SpT) (p : PtT) : hasB l p = true ↔ ∃ s ∈ l, s.y = p.y ∧ s.f ≤ p.x ∧ p.x ≤ s.t := by
  simp [hasB, List.any_eq_true, inB]
theorem rowP_unique : ∀ {l m : List SpT}, RowP l → RowP m → (∀ p, hasB l p = true ↔ hasB m p = true) → l = m
  | [], [], _, _, _ => rfl
  | [], r :: m, _, hm, h => by
    have h1 := hm.sp r (by simp)
    have := (h ⟨r.f, r.y⟩).2 ((hasB_iff _ _).2 ⟨r, by simp, rfl, Int.le_refl _, h1⟩)
    simp [hasB] at this
  | s :: l, [], hl, _, h => by
    have h1 := hl.sp s (by simp)
    have := (h ⟨s.f, s.y⟩).1 ((hasB_iff _ _).2 ⟨s, by simp, rfl, Int.le_refl _, h1⟩)
    simp [hasB] at this
  | s :: l, r :: m, hl, hm, h => by
    have s1 := hl.sp s (by simp)
    have r1 := hm.sp r (by simp)
    obtain ⟨so, lo⟩ := List.pairwise_cons.1 hl.ord
    obtain ⟨ro, mo⟩ := List.pairwise_cons.1 hm.ord
    have a1 := (hasB_iff _ _).1 ((h ⟨s.f, s.y⟩).1 ((hasB_iff _ _).2 ⟨s, by simp, rfl, Int.le_refl _, s1⟩))
    have a2 := (hasB_iff _ _).1 ((h ⟨r.f, r.y⟩).2 ((hasB_iff _ _).2 ⟨r, by simp, rfl, Int.le_refl _, r1⟩))
    have hge : ∀ q ∈ r :: m, r.y < q.y ∨ r.y = q.y ∧ r.f ≤ q.f := fun q hq => by
      rcases List.mem_cons.1 hq with rfl | hq
      · omega
      · have := ro q hq; unfold ordP at this; omega
    have hge' : ∀ q ∈ s :: l, s.y < q.y ∨ s.y = q.y ∧ s.f ≤ q.f := fun q hq => by
      rcases List.mem_cons.1 hq with rfl | hq
      · omega
      · have := so q hq; unfold ordP at this; omega
    obtain ⟨q, hq, q1, q2, q3⟩ := a1
    obtain ⟨q', hq', q1', q2', q3'⟩ := a2
    simp only at q1 q2 q3 q1' q2' q3'
    have b1 := hge q hq
    have b2 := hge' q' hq'
    have ey : s.y = r.y := by omega
    have ef : s.f = r.f := by omega
    have et1 : r.t ≤ s.t := by
      refine Int.not_lt.1 fun hlt => ?_
      obtain ⟨z, hz, z1, z2, z3⟩ := (hasB_iff _ _).1 ((h ⟨s.t + 1, s.y⟩).2 ((hasB_iff _ _).2 ⟨r, by simp, ey.symm, by simp only; omega, by simp only; omega⟩))
      simp only at z1 z2 z3
      rcases List.mem_cons.1 hz with rfl | hz
      · omega
      · have := so z hz; unfold ordP at this; omega
    have et2 : s.t ≤ r.t := by
      refine Int.not_lt.1 fun hlt => ?_
      obtain ⟨z, hz, z1, z2, z3⟩ := (hasB_iff _ _).1 ((h ⟨r.t + 1, r.y⟩).1 ((hasB_iff _ _).2 ⟨s, by simp, ey, by simp only; omega, by simp only; omega⟩))
      simp only at z1 z2 z3
      rcases List.mem_cons.1 hz with rfl | hz
      · omega
      · have := ro z hz; unfold ordP at this; omega
    have e : s = r := by
      cases s; cases r
      simp only at ey ef et1 et2
      rw [ey, ef, Int.le_antisymm et2 et1]
    subst e
    have := rowP_unique (l := l) (m := m) ⟨fun q hq => hl.sp q (by simp [hq]), lo⟩ ⟨fun q hq => hm.sp q (by simp [hq]), mo⟩ (fun p => by
      have key : ∀ {k : List SpT}, (∀ q ∈ k, ordP s q) → (hasB k p = true ↔ hasB (s :: k) p = true ∧ ¬ (s.y = p.y ∧ s.f ≤ p.x ∧ p.x ≤ s.t)) := by
        intro k hk
        rw [hasB_iff, hasB_iff]
        constructor
        · rintro ⟨q, hq, q1, q2, q3⟩
          refine ⟨⟨q, by simp [hq], q1, q2, q3⟩, fun hs => ?_⟩
          have := hk q hq; unfold ordP at this; omega
        · rintro ⟨⟨q, hq, q1, q2, q3⟩, hn⟩
          rcases List.mem_cons.1 hq with e | hq
          · rw [e] at q1 q2 q3
            exact absurd (And.intro q1 (And.intro q2 q3)) hn
          · exact ⟨q, hq, q1, q2, q3⟩
      rw [key so, key ro, h p])
    rw [this]
theorem right_unique {l m : List SpT} (hl : RightP l) (hm : RightP m) (h : ∀ p, hasB l p = true ↔ hasB m p = true) : l = m := rowP_unique hl.rowP hm.rowP h
end Go.Proofs.Ytflbcabjefpojaa
