/- The document's answer for ids: Sorted. -/
import Derived.Test.YtppaheekpmgifaaDoorIdD
namespace Go.Proofs.YtppaheekpmgifaaDoor
set_option linter.unusedSimpArgs false
set_option linter.unusedVariables false
open Go.RowKit Go.Shelf

/-- How many of the first ones an id does not stand ahead of. -/
def cutAt (i : IdT) : List IdT → Nat
  | [] => 0
  | o :: r => if idLess i o = true then 0 else cutAt i r + 1
theorem cutAt_le (i : IdT) : ∀ l : List IdT, cutAt i l ≤ l.length
  | [] => Nat.le_refl _
  | o :: r => by unfold cutAt; split <;> simp [cutAt_le i r]
theorem cutAt_before (i : IdT) : ∀ (l : List IdT) (k : Nat) (o : IdT), k < cutAt i l → l[k]? = some o → idLess i o = false
  | [], k, o, h, _ => by simp [cutAt] at h
  | x :: r, k, o, h, hk => by
    unfold cutAt at h
    split at h
    · omega
    · rename_i hx
      cases k with
      | zero => simp at hk; subst hk; simpa using hx
      | succ k => exact cutAt_before i r k o (by omega) (by simpa using hk)
theorem cutAt_here (i : IdT) : ∀ (l : List IdT) (o : IdT), l[cutAt i l]? = some o → idLess i o = true
  | [], o, h => by simp at h
  | x :: r, o, h => by
    unfold cutAt at h
    split at h
    · rename_i hx; simp at h; subst h; exact hx
    · exact cutAt_here i r o (by simpa using h)
theorem cutAt_unique (i : IdT) : ∀ (l : List IdT) (k : Nat), k ≤ l.length → (∀ j o, j < k → l[j]? = some o → idLess i o = false) → (∀ o, l[k]? = some o → idLess i o = true) → k = cutAt i l
  | [], k, h, _, _ => by simp at h; simp [cutAt, h]
  | x :: r, 0, h, _, h2 => by have := h2 x (by simp); simp [cutAt, this]
  | x :: r, k + 1, h, h1, h2 => by
    have hx := h1 0 x (by omega) (by simp)
    unfold cutAt
    rw [if_neg (by simp [hx])]
    rw [cutAt_unique i r k (by simpa using h) (fun j o hj ho => h1 (j + 1) o (by omega) (by simpa using ho)) (fun o ho => h2 o (by simpa using ho))]
/-- An id put into a row where it stands. -/
def insId (i : IdT) (l : List IdT) : List IdT := l.take (cutAt i l) ++ i :: l.drop (cutAt i l)
def insTo (l : List IdT) : Nat → List IdT
  | 0 => []
  | k + 1 => match l[k]? with | some i => insId i (insTo l k) | none => insTo l k
theorem insId_perm (i : IdT) (l : List IdT) : (insId i l).Perm (i :: l) := by
  unfold insId
  refine List.perm_middle.trans ?_
  rw [List.take_append_drop]
theorem insTo_perm (l : List IdT) : ∀ k, k ≤ l.length → (insTo l k).Perm (l.take k)
  | 0, _ => by simp [insTo]
  | k + 1, h => by
    unfold insTo
    rw [List.getElem?_eq_getElem (by omega)]
    dsimp only
    rw [List.take_succ_eq_append_getElem (by omega)]
    exact (insId_perm _ _).trans (((insTo_perm l k (by omega)).cons _).trans (List.perm_append_singleton _ _).symm)
theorem insId_sorted (i : IdT) (l : List IdT) (h : l.Pairwise fun x y => (!idLess y x) = true) : (insId i l).Pairwise fun x y => (!idLess y x) = true := by
  unfold insId
  have h1 : l = l.take (cutAt i l) ++ l.drop (cutAt i l) := (List.take_append_drop _ _).symm
  rw [h1, List.pairwise_append] at h
  rw [List.pairwise_append]
  have hb : ∀ a ∈ l.take (cutAt i l), idLess i a = false := by
    intro a ha
    obtain ⟨j, hj, rfl⟩ := List.mem_iff_getElem.1 ha
    have hj' : j < cutAt i l := by have := hj; rw [List.length_take] at this; omega
    refine cutAt_before i l j _ hj' ?_
    rw [List.getElem_take, List.getElem?_eq_getElem]
  have ha : ∀ a ∈ l.drop (cutAt i l), idLess a i = false := by
    intro a ha
    obtain ⟨j, hj, rfl⟩ := List.mem_iff_getElem.1 ha
    have hlt : cutAt i l < l.length := by rw [List.length_drop] at hj; omega
    have h0 := cutAt_here i l l[cutAt i l] (List.getElem?_eq_getElem hlt)
    have hle : idLess ((l.drop (cutAt i l))[j]) l[cutAt i l] = false := by
      cases j with
      | zero =>
        have e : (l.drop (cutAt i l))[0]'hj = l[cutAt i l] := by simp
        rw [e]
        have := swoId.irrefl l[cutAt i l]
        rwa [ltId] at this
      | succ j =>
        have hd : l.drop (cutAt i l) = l[cutAt i l] :: l.drop (cutAt i l + 1) := List.drop_eq_getElem_cons hlt
        have hp := h.2.1
        rw [hd, List.pairwise_cons] at hp
        have := hp.1 ((l.drop (cutAt i l))[j + 1]) (by
          have e : (l.drop (cutAt i l))[j + 1]'hj = (l.drop (cutAt i l + 1))[j]'(by simp at hj ⊢; omega) := by simp [List.getElem_drop]; congr 1; omega
          rw [e]; exact List.getElem_mem _)
        simpa using this
    cases hx : idLess ((l.drop (cutAt i l))[j]) i with
    | false => rfl
    | true =>
      have := swoId.trans _ _ _ (show ltOf cmpId _ _ = true by rw [ltId]; exact hx) (show ltOf cmpId i l[cutAt i l] = true by rw [ltId]; exact h0)
      rw [ltId, hle] at this
      cases this
  refine ⟨h.1, ?_, ?_⟩
  · rw [List.pairwise_cons]
    exact ⟨fun a hm => by rw [ha a hm]; rfl, h.2.1⟩
  · intro a hm b hmb
    rcases List.mem_cons.1 hmb with rfl | hmb
    · rw [hb a hm]; rfl
    · exact h.2.2 a hm b hmb
theorem insTo_sorted (l : List IdT) : ∀ k, (insTo l k).Pairwise fun x y => (!idLess y x) = true
  | 0 => by simp [insTo]
  | k + 1 => by
    unfold insTo
    split
    · exact insId_sorted _ _ (insTo_sorted l k)
    · exact insTo_sorted l k
theorem insTo_all (l : List IdT) : insTo l l.length = sortIds l := by
  refine List.Perm.eq_of_pairwise (le := fun x y => (!idLess y x) = true) (fun a b _ _ h1 h2 => ?_) (insTo_sorted l _) ?_ ?_
  · exact idLess_total a b (by simpa using h2) (by simpa using h1)
  · refine List.pairwise_mergeSort (fun a b c h1 h2 => ?_) (fun a b => ?_) l
    · have := swoId.ntrans c b a (by rw [ltId]; simpa using h2) (by rw [ltId]; simpa using h1)
      rw [ltId] at this
      rw [this]; rfl
    · cases hx : idLess b a with
      | false => rfl
      | true =>
        cases hy : idLess a b with
        | false => simp
        | true =>
          have h3 := swoId.trans a b a (by rw [ltId]; exact hy) (by rw [ltId]; exact hx)
          rw [swoId.irrefl] at h3
          cases h3
  · refine (insTo_perm l _ (Nat.le_refl _)).trans ?_
    rw [List.take_length]
    exact (List.mergeSort_perm l _).symm
theorem insTo_length (l : List IdT) (k : Nat) (h : k ≤ l.length) : (insTo l k).length = k := by rw [(insTo_perm l k h).length_eq, List.length_take]; omega
theorem sortIds_length (l : List IdT) : (sortIds l).length = l.length := by unfold sortIds; exact List.length_mergeSort l
end Go.Proofs.YtppaheekpmgifaaDoor
