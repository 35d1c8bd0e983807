/- ShapeUnions: the plain law. -/
import Derived.Test.YtflbcabjefpojaaStepsA
namespace Go.Proofs.Ytflbcabjefpojaa
set_option linter.unusedSimpArgs false
set_option linter.unusedVariables false
open Go.RowKit Go.Shelf

theorem mem_spPts {s : SpT} {p : PtT} : p ∈ spPts s ↔ s.y = p.y ∧ s.f ≤ p.x ∧ p.x ≤ s.t := by
  unfold spPts
  rw [List.mem_map]
  constructor
  · rintro ⟨i, hi, rfl⟩
    have := List.mem_range.1 hi
    exact ⟨rfl, by simp only; omega, by simp only; omega⟩
  · rintro ⟨h1, h2, h3⟩
    refine ⟨(p.x - s.f).toNat, List.mem_range.2 (by omega), ?_⟩
    obtain ⟨x, y⟩ := p
    simp only at *
    rw [h1]
    congr 1
    omega
theorem mem_ptsL {l : List SpT} {p : PtT} : p ∈ ptsL l ↔ hasB l p = true := by
  rw [hasB_iff]
  unfold ptsL
  rw [List.mem_flatMap]
  constructor
  · rintro ⟨s, hs, hp⟩; exact ⟨s, hs, mem_spPts.1 hp⟩
  · rintro ⟨s, hs, hp⟩; exact ⟨s, hs, mem_spPts.2 hp⟩
theorem ptsL_nodup {l : List SpT} (h : RowP l) : (ptsL l).Nodup := by
  refine List.pairwise_flatMap.2 ⟨fun s _ => ?_, h.ord.imp ?_⟩
  · unfold spPts
    refine List.pairwise_map.2 (List.pairwise_lt_range.imp ?_)
    intro i j hij he
    have := congrArg PtT.x he
    simp only at this
    omega
  · intro a b hab x hx y hy he
    subst he
    have h1 := mem_spPts.1 hx
    have h2 := mem_spPts.1 hy
    unfold ordP at hab
    omega
theorem hasB_append (l m : List SpT) (p : PtT) : hasB (l ++ m) p = (hasB l p || hasB m p) := by unfold hasB; rw [List.any_append]
theorem union_count {la lb M : List SpT} (ha : RowP la) (hb : RowP lb) (hM : SetRow (fun p => hasB (la ++ lb) p = true) M) :
    (ptsL M).length + (ptsL la).countP (hasB lb) = (ptsL la).length + (ptsL lb).length := by
  have hp : (ptsL M).Perm (ptsL lb ++ (ptsL la).filter (fun p => !hasB lb p)) := by
    refine (List.perm_ext_iff_of_nodup (ptsL_nodup hM.row) ?_).2 fun p => ?_
    · refine List.nodup_append.2 ⟨ptsL_nodup hb, (ptsL_nodup ha).sublist List.filter_sublist, ?_⟩
      rintro x hx y hy rfl
      have h1 := mem_ptsL.1 hx
      have h2 := (List.mem_filter.1 hy).2
      rw [h1] at h2
      cases h2
    · rw [mem_ptsL, hM.has p, hasB_append, List.mem_append, List.mem_filter, mem_ptsL, mem_ptsL]
      cases hasB la p <;> cases hasB lb p <;> simp
  have h1 := hp.length_eq
  rw [List.length_append, ← List.countP_eq_length_filter] at h1
  have h2 := List.length_eq_countP_add_countP (hasB lb) (l := ptsL la)
  have h3 : (ptsL la).countP (fun p => !hasB lb p) = (ptsL la).countP (fun a => decide ¬hasB lb a = true) := by
    congr 1
    funext p
    cases hasB lb p <;> simp
  omega
theorem right_reach {l : List SpT} (h : rightB l = true) {p : PtT} (hp : hasB l p = true) : (-256 ≤ p.x ∧ p.x ≤ 255) ∧ (-256 ≤ p.y ∧ p.y ≤ 255) := by
  obtain ⟨s, hs, h1, h2, h3⟩ := (hasB_iff _ _).1 hp
  have := (spB_iff s).1 (((rightB_iff l).1 h).mem hs)
  omega
theorem allL_right {l : List SpT} (h : rightB l = true) : allL l = ptsL l := by unfold allL; rw [h]; rfl
theorem ptsL_le {l : List SpT} (h : rightB l = true) : (ptsL l).length ≤ 512 * l.length := by
  have h1 := (rightB_iff l).1 h
  unfold ptsL
  rw [List.length_flatMap]
  have : ∀ m : List SpT, (∀ s ∈ m, spB s = true) → (m.map fun s => (spPts s).length).sum ≤ 512 * m.length := by
    intro m
    induction m with
    | nil => simp
    | cons s m ih =>
      intro hm
      have h2 := ih fun s hs => hm s (by simp [hs])
      have h3 := (spB_iff s).1 (hm s (by simp))
      simp only [List.map_cons, List.sum_cons, List.length_cons, spPts_len]
      simp only [spPts_len] at h2
      omega
  exact this l fun s hs => h1.mem hs
theorem len_le_pts : ∀ {l : List SpT}, (∀ s ∈ l, s.f ≤ s.t) → l.length ≤ (ptsL l).length
  | [], _ => by simp
  | s :: l, h => by
    have h1 := len_le_pts (l := l) fun s hs => h s (by simp [hs])
    have h2 := h s (by simp)
    unfold ptsL at h1 ⊢
    rw [List.flatMap_cons, List.length_append, spPts_len, List.length_cons]
    omega
theorem union_small {la lb M : List SpT} (ha : rightB la = true) (hb : rightB lb = true) (hM : SetRow (fun p => hasB [la, lb].flatten p = true) M) : M.length ≤ 512 * (la.length + lb.length) ∧ (ptsL M).length ≤ 512 * (la.length + lb.length) := by
  have h0 : SetRow (fun p => hasB (la ++ lb) p = true) M := hM.congr fun p => by simp
  have h1 := union_count ((rightB_iff _).1 ha).rowP ((rightB_iff _).1 hb).rowP h0
  have h2 := len_le_pts hM.row.sp
  have h3 := ptsL_le ha
  have h4 := ptsL_le hb
  omega
end Go.Proofs.Ytflbcabjefpojaa
