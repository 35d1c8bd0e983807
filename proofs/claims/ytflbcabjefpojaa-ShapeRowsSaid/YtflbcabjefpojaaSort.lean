/- slices.SortFunc at a row of structs of the call's own. -/
import Derived.Test.YtflbcabjefpojaaGrow
namespace Go.Proofs.Ytflbcabjefpojaa
set_option linter.unusedSimpArgs false
set_option linter.unusedVariables false
open Go.RowKit Go.Shelf

section
variable {α : Type} [Inhabited α]
theorem flatK_get {enc : α → List Value} {k : Nat} (hk : ∀ x, (enc x).length = k) (d : List α) (j : Nat) (h : j < d.length * k) : (l_ : List Value) → l_ = d.flatMap enc → l_[j]? = some ((Sort.flatK enc k d.toArray)[j]!) := by
  rintro _ rfl
  have hk0 : 0 < k := Nat.pos_of_ne_zero (fun e => by subst e; simp at h)
  have hdiv : j / k < d.length := Nat.div_lt_of_lt_mul (by rw [Nat.mul_comm]; exact h)
  have hmod : j % k < k := Nat.mod_lt _ hk0
  have hjk : j / k * k + j % k = j := by rw [Nat.mul_comm]; exact Nat.div_add_mod j k
  have h2 := flat_get hk d (j / k) (j % k) hmod
  rw [hjk, List.getElem?_eq_getElem hdiv] at h2
  rw [h2, Sort.get_flatK _ _ _ _ (by simpa using h)]
  have e : d.toArray[j / k]! = d[j / k] := by rw [getElem!_pos d.toArray (j / k) (by simpa using hdiv)]; simp
  rw [e]
  show (enc d[j / k])[j % k]? = some _
  rw [getElem!_pos (enc d[j / k]) (j % k) (by rw [hk]; exact hmod), List.getElem?_eq_getElem (by rw [hk]; exact hmod)]

variable {P : Program} {ρ : Ren}
theorem sortRows (L : SlLaysF0.n6 P ρ) (k : Nat) (aE : ∀ w, (isAgg (ρ.t 24)).run P w = .ok true w) (zE : ∀ w, (Go.sizeOf (ρ.t 24)).run P w = .ok k w) (enc : α → List Value) (hk : ∀ x, (enc x).length = k) (h1 : ∀ x, ∀ v ∈ enc x, v.oneCell' = true)
    (cf : α → α → Int) (hO : Sort.SWO (ltOf cf)) (g : Nat) (cb : Array Value) (eg : ∀ args w, (callFunc g args).run P w = .ok (.enter g args) w)
    (hcmp : ∀ x y w, Calls P g (#[.agg (enc x).toArray, .agg (enc y).toArray] ++ cb) w (GivesG (.int .i64 (cf x y)) w)) (hT : ∀ x y, (ltOf cf) x y = false → (ltOf cf) y x = false → x = y)
    (sv : Value) (l : List α) (base : Nat) (w : World) (hrow : w.ownsRow base (ρ.t 24) k sv l.length (l.flatMap enc)) (hbase : base ≤ w.heap.size) (hsz : l.length ≤ 1000000000) :
    Calls P (ρ.f 6) #[sv, .func (.func g) #[] cb] w fun e w' => e = .returned (.tuple #[]) ∧ w'.ownsRow base (ρ.t 24) k sv l.length ((l.mergeSort fun x y => !(ltOf cf) y x).flatMap enc) ∧ Below base w w' := by
  have hrow' := hrow
  obtain ⟨hlen, ⟨rfl, h0⟩ | ⟨b, cap, cur, rfl, hb, hblk, hcap, hmax, hcur, htake⟩⟩ := hrow
  · have e1 : l = [] := List.length_eq_zero_iff.1 h0
    subst e1
    refine (AnyF.slices_SortFunc_none L none 0 (.func (.func g) #[] cb) w).mono ?_
    rintro e w' ⟨rfl, rfl⟩
    exact ⟨rfl, by simpa using hrow', Below.refl _ _⟩
  · by_cases hl0 : l.length = 0
    · have e1 : l = [] := List.length_eq_zero_iff.1 hl0
      subst e1
      refine (AnyF.slices_SortFunc_none L (some ⟨b, 0, none⟩) cap (.func (.func g) #[] cb) w).mono ?_
      rintro e w' ⟨rfl, rfl⟩
      exact ⟨rfl, by simpa using hrow', Below.refl _ _⟩
    have hlt := block_lt hblk
    have hH : Sort.HoldsK enc k w b 0 l.toArray := by
      intro j hj
      have hj' : j < l.length * k := by simpa using hj
      refine ⟨?_, free_of_block hblk _⟩
      refine cell_of_block hblk ?_
      rw [Nat.zero_add]
      have h2 := flatK_get hk l j hj' _ htake
      rw [List.getElem?_take_of_lt hj'] at h2
      simpa using h2
    have hcon := AnyQ.slices_SortFunc_total L k aE zE enc hk h1 cf hO g cb b 0 cap l.toArray w eg (fun m os dk _ x y => (hcmp x y _).mono fun e w' h => ⟨h.1, h.2⟩) hH hlt (by simp; omega) hT
    simp only [List.size_toArray] at hcon
    refine hcon.mono ?_
    rintro e w' ⟨rfl, n, os, rfl⟩
    generalize hs : (l.mergeSort fun x y => !(ltOf cf) y x) = s
    have hsl : s.length = l.length := by rw [← hs]; exact List.length_mergeSort l
    have hgrow : ∀ j, j < w.heap.size → (sortWorldK enc k w b 0 n s.toArray os).heap[j]? = (w.heap.modify b (Sort.onCells (Sort.putCells id 0 (Sort.flatK enc k s.toArray))))[j]? := by
      intro j hj
      show ((w.heap.modify b (Sort.onCells (Sort.putCells id 0 (Sort.flatK enc k s.toArray)))) ++ os)[j]? = _
      exact Array.getElem?_append_left (by simpa using hj)
    refine ⟨rfl, ⟨by rw [flat_length hk, hsl], .inr ⟨b, cap, Sort.putCells id 0 (Sort.flatK enc k s.toArray) cur, rfl, hb, ?_, hcap, hmax, by simp [Sort.putCells, hcur], ?_⟩⟩, rfl, rfl, rfl, ?_, ?_⟩
    · rw [hgrow b hlt, Array.getElem?_modify, if_pos rfl, hblk]
      rfl
    · apply List.ext_getElem?
      intro j
      by_cases hj : j < l.length * k
      · have h2 := flatK_get hk s j (by rw [hsl]; exact hj) _ rfl
        have h3 : l.length * k ≤ cur.size := by rw [hcur]; exact Nat.mul_le_mul_right k hcap
        rw [List.getElem?_take_of_lt hj, h2]
        simp only [Sort.putCells, Array.getElem?_toList, Array.getElem?_mapIdx]
        rw [Array.getElem?_eq_getElem (by omega)]
        simp [hsl, hj]
      · rw [List.getElem?_eq_none (by simp; omega), List.getElem?_eq_none (by rw [flat_length hk, hsl]; omega)]
    · show w.heap.size ≤ ((w.heap.modify b (Sort.onCells (Sort.putCells id 0 (Sort.flatK enc k s.toArray)))) ++ os).size
      simp
    · intro j hj
      rw [hgrow j (by omega), Array.getElem?_modify, if_neg (by omega)]
end
end Go.Proofs.Ytflbcabjefpojaa
