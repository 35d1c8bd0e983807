/- The plain law: clipped twice. -/
import Derived.Test.YtflbcabjefpojaaFew
namespace Go.Proofs.Ytflbcabjefpojaa
set_option linter.unusedSimpArgs false
set_option linter.unusedVariables false
open Go.RowKit Go.Shelf

theorem RightP.of {l : List SpT} (h1 : ∀ s ∈ l, spB s = true) (h2 : l.Pairwise ordP) : RightP l :=
  ⟨fun k h => h1 _ (List.getElem_mem h), fun k h => by
    have := List.pairwise_iff_getElem.1 h2 k (k + 1) (by omega) h (by omega)
    unfold ordB
    unfold ordP at this
    simpa using this⟩
theorem RightP.mem {l : List SpT} (h : RightP l) {s : SpT} (hs : s ∈ l) : spB s = true := by
  obtain ⟨k, hk, rfl⟩ := List.getElem_of_mem hs
  exact h.sp k hk
theorem clip1_some {b : BxT} {s t : SpT} (h : clip1 b s = some t) : (max s.f b.x ≤ min s.t b.x2 ∧ b.y ≤ s.y ∧ s.y ≤ b.y2) ∧ t = ⟨s.y, max s.f b.x, min s.t b.x2⟩ := by
  unfold clip1 at h
  split at h
  · rename_i hc
    exact ⟨hc, (Option.some.inj h).symm⟩
  · cases h
theorem right_clip {l : List SpT} (h : RightP l) (b : BxT) : RightP (clipL b l) := by
  refine RightP.of (fun t ht => ?_) ?_
  · obtain ⟨s, hs, hst⟩ := List.mem_filterMap.1 ht
    have := h.mem hs
    obtain ⟨h1, rfl⟩ := clip1_some hst
    unfold spB reachB at *
    simp at this ⊢
    omega
  · refine List.Pairwise.filterMap (clip1 b) (R := ordP) (fun a a' haa c hc c' hc' => ?_) h.rowP.ord
    obtain ⟨h1, rfl⟩ := clip1_some hc
    obtain ⟨h2, rfl⟩ := clip1_some hc'
    unfold ordP at *
    simp only
    omega
theorem clip_swap (b c : BxT) (l : List SpT) : clipL c (clipL b l) = clipL b (clipL c l) := by
  unfold clipL
  rw [List.filterMap_filterMap, List.filterMap_filterMap]
  congr 1
  funext s
  unfold clip1
  by_cases h0 : max s.f b.x ≤ min s.t b.x2 ∧ b.y ≤ s.y ∧ s.y ≤ b.y2 <;> by_cases h1 : max s.f c.x ≤ min s.t c.x2 ∧ c.y ≤ s.y ∧ s.y ≤ c.y2
  · rw [if_pos h0, if_pos h1]
    simp only [Option.bind_some]
    by_cases h2 : max (max s.f b.x) c.x ≤ min (min s.t b.x2) c.x2 ∧ c.y ≤ s.y ∧ s.y ≤ c.y2
    · rw [if_pos h2, if_pos (by omega)]
      congr 2 <;> omega
    · rw [if_neg h2, if_neg (by omega)]
  · rw [if_pos h0, if_neg h1]
    simp only [Option.bind_some, Option.bind_none]
    rw [if_neg (by omega)]
  · rw [if_neg h0, if_pos h1]
    simp only [Option.bind_some, Option.bind_none]
    rw [if_neg (by omega)]
  · rw [if_neg h0, if_neg h1]; rfl
theorem clip_again (b : BxT) (l : List SpT) : clipL b (clipL b l) = clipL b l := by
  unfold clipL
  rw [List.filterMap_filterMap]
  congr 1
  funext s
  unfold clip1
  by_cases h0 : max s.f b.x ≤ min s.t b.x2 ∧ b.y ≤ s.y ∧ s.y ≤ b.y2
  · rw [if_pos h0]
    simp only [Option.bind_some]
    rw [if_pos (by omega)]
    congr 2 <;> omega
  · rw [if_neg h0]
    rfl
theorem clipR_right {l : List SpT} (h : rightB l = true) (b : BxT) : clipR b l = clipL b l := by unfold clipR; rw [h]; rfl
theorem rightB_clip {l : List SpT} (h : rightB l = true) (b : BxT) : rightB (clipL b l) = true := (rightB_iff _).2 (right_clip ((rightB_iff _).1 h) b)
theorem swm_twice {size : Int} {round : Bool} {c p : PtT} : SwM size round [c, c] p ↔ SwM size round [c] p := by unfold SwM; simp

/-- Calls of the statements, as rows that are read. -/
theorem clipGot (a : Option Addr) (n cap : Nat) (l : List SpT) (hl : l.length = n) (hn : n ≤ 100000000) (hr : rightB l = true) (b : BxT) (w : World) (h : Elems w (.slice a n cap) n 3 (rowC encS l)) :
    Calls Try.prog 20 #[.slice a n cap, b.val] w (Got 3 encS (clipL b l) (clipL b l).length 0 w) :=
  (shClip_any a n cap l hl (by omega) b w h).mono fun _ _ h => (h.got encS_len).is (clipR_right hr b) rfl (by rw [hr]; rfl)
theorem clipBad (a : Option Addr) (n cap : Nat) (l : List SpT) (hl : l.length = n) (hn : n ≤ 100000000) (hr : rightB l = false) (b : BxT) (w : World) (h : Elems w (.slice a n cap) n 3 (rowC encS l)) :
    Calls Try.prog 20 #[.slice a n cap, b.val] w (Got 3 encS [] 0 160 w) :=
  (shClip_any a n cap l hl (by omega) b w h).mono fun _ _ h => (h.got encS_len).is (by unfold clipR; rw [hr]; rfl) rfl (by rw [hr]; rfl)
end Go.Proofs.Ytflbcabjefpojaa
