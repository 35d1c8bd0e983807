/- slices.SortFunc at a row of structs, with what it leaves alone; slices.Sort at a row of ints. -/
import Derived.Test.YtflbcabjefpojaaSort
import Derived.Test.YtflbcabjefpojaaBase
import Derived.Shelf.SortM.Plain
import Derived.Shelf.SortM.SortNone
namespace Go.Proofs.Ytflbcabjefpojaa
set_option linter.unusedSimpArgs false
set_option linter.unusedVariables false
open Go.RowKit Go.Shelf

section
variable {α : Type} [Inhabited α] {P : Program} {ρ : Ren}
/-- 'sortRows', and what it leaves alone. -/
theorem sortRowsG (L : SlLaysF0.n6 P ρ) (k : Nat) (aE : ∀ w, (isAgg (ρ.t 24)).run P w = .ok true w) (zE : ∀ w, (Go.sizeOf (ρ.t 24)).run P w = .ok k w) (enc : α → List Value) (hk : ∀ x, (enc x).length = k) (h1 : ∀ x, ∀ v ∈ enc x, v.oneCell' = true)
    (cf : α → α → Int) (hO : Sort.SWO (ltOf cf)) (g : Nat) (cb : Array Value) (eg : ∀ args w, (callFunc g args).run P w = .ok (.enter g args) w)
    (hcmp : ∀ x y w, Calls P g (#[.agg (enc x).toArray, .agg (enc y).toArray] ++ cb) w (GivesG (.int .i64 (cf x y)) w)) 
    (sv : Value) (l : List α) (base : Nat) (w : World) (hrow : w.ownsRow base (ρ.t 24) k sv l.length (l.flatMap enc)) (hsz : l.length ≤ 1000000000) :
    Calls P (ρ.f 6) #[sv, .func (.func g) #[] cb] w fun e w' => e = .returned (.tuple #[]) ∧ ∃ s : List α, s.Perm l ∧ s.Pairwise (fun x y => ltOf cf y x = false) ∧ w'.ownsRow base (ρ.t 24) k sv l.length (s.flatMap enc) ∧ w.grownBy w' sv.ownBlock := by
  have hrow' := hrow
  obtain ⟨hlen, ⟨rfl, h0⟩ | ⟨b, cap, cur, rfl, hb, hblk, hcap, hmax, hcur, htake⟩⟩ := hrow
  · have e1 : l = [] := List.length_eq_zero_iff.1 h0
    subst e1
    refine (AnyF.slices_SortFunc_none L none 0 (.func (.func g) #[] cb) w).mono ?_
    rintro e w' ⟨rfl, rfl⟩
    exact ⟨rfl, [], .refl _, .nil, by simpa using hrow', World.grownBy.refl _ _⟩
  · by_cases hl0 : l.length = 0
    · have e1 : l = [] := List.length_eq_zero_iff.1 hl0
      subst e1
      refine (AnyF.slices_SortFunc_none L (some ⟨b, 0, none⟩) cap (.func (.func g) #[] cb) w).mono ?_
      rintro e w' ⟨rfl, rfl⟩
      exact ⟨rfl, [], .refl _, .nil, by simpa using hrow', World.grownBy.refl _ _⟩
    have hlt := block_lt hblk
    have hH : Sort.HoldsK enc k w b 0 l.toArray := by
      intro j hj
      have hj' : j < l.length * k := by simpa using hj
      refine ⟨?_, free_of_block hblk _⟩
      refine cell_of_block hblk ?_
      rw [Nat.zero_add]
      have h2 := flatK_get hk l j hj' _ htake
      rw [List.getElem?_take_of_lt hj'] at h2
      simpa using h2
    have hcon := AnyQ.slices_SortFunc L k aE zE enc hk h1 cf hO g cb b 0 cap l.toArray w eg (fun m os dk _ x y => (hcmp x y _).mono fun e w' h => ⟨h.1, h.2⟩) hH hlt (by simp; omega)
    simp only [List.size_toArray] at hcon
    refine hcon.mono ?_
    rintro e w' ⟨rfl, d', n, os, ⟨hsz', _, hperm⟩, hsort, rfl⟩
    obtain ⟨s, rfl⟩ : ∃ s : List α, d' = s.toArray := ⟨d'.toList, by simp⟩
    simp only [List.size_toArray] at hsz' hsort hperm
    have hp : s.Perm l := by
      have e1 : s.toArray.extract 0 l.length = s.toArray := by rw [← hsz']; simp
      have e2 : l.toArray.extract 0 l.length = l.toArray := by simp
      rw [e1, e2] at hperm
      exact hperm
    have hsl : s.length = l.length := hsz'
    have hpw : s.Pairwise (fun x y => ltOf cf y x = false) := by
      rw [List.pairwise_iff_getElem]
      intro i j hi hj hij
      have := hsort i j (Nat.zero_le _) hij (by omega)
      rw [getElem!_pos s.toArray i (by simpa using hi), getElem!_pos s.toArray j (by simpa using hj)] at this
      simpa using this
    have hgrow : ∀ j, j < w.heap.size → (sortWorldK enc k w b 0 n s.toArray os).heap[j]? = (w.heap.modify b (Sort.onCells (Sort.putCells id 0 (Sort.flatK enc k s.toArray))))[j]? := by
      intro j hj
      show ((w.heap.modify b (Sort.onCells (Sort.putCells id 0 (Sort.flatK enc k s.toArray)))) ++ os)[j]? = _
      exact Array.getElem?_append_left (by simpa using hj)
    refine ⟨rfl, s, hp, hpw, ⟨by rw [flat_length hk, hsl], .inr ⟨b, cap, Sort.putCells id 0 (Sort.flatK enc k s.toArray) cur, rfl, hb, ?_, hcap, hmax, by simp [Sort.putCells, hcur], ?_⟩⟩, rfl, rfl, rfl, ?_, ?_⟩
    · rw [hgrow b hlt, Array.getElem?_modify, if_pos rfl, hblk]
      rfl
    · apply List.ext_getElem?
      intro j
      by_cases hj : j < l.length * k
      · have h2 := flatK_get hk s j (by rw [hsl]; exact hj) _ rfl
        have h3 : l.length * k ≤ cur.size := by rw [hcur]; exact Nat.mul_le_mul_right k hcap
        rw [List.getElem?_take_of_lt hj, h2]
        simp only [Sort.putCells, Array.getElem?_toList, Array.getElem?_mapIdx]
        rw [Array.getElem?_eq_getElem (by omega)]
        simp [hsl, hj]
      · rw [List.getElem?_eq_none (by simp; omega), List.getElem?_eq_none (by rw [flat_length hk, hsl]; omega)]
    · show w.heap.size ≤ ((w.heap.modify b (Sort.onCells (Sort.putCells id 0 (Sort.flatK enc k s.toArray)))) ++ os).size
      simp
    · intro j hj hne
      rw [hgrow j hj, Array.getElem?_modify, if_neg (fun e => hne (by rw [e]; rfl))]
end

section
variable {P : Program} {ρ : Ren}
theorem sortInts (L : SlLaysM.n5 P ρ) (sv : Value) (l : List Int) (base : Nat) (w : World) (hrow : w.ownsRow base (ρ.t 25) 1 sv l.length (l.map (Value.int .i64))) (hsz : l.length ≤ 1000000000) :
    Calls P (ρ.f 5) #[sv] w fun e w' => e = .returned (.tuple #[]) ∧ w'.ownsRow base (ρ.t 25) 1 sv l.length ((l.mergeSort fun x y => decide (x ≤ y)).map (Value.int .i64)) ∧ w.grownBy w' sv.ownBlock := by
  have hrow' := hrow
  obtain ⟨hlen, ⟨rfl, h0⟩ | ⟨b, cap, cur, rfl, hb, hblk, hcap, hmax, hcur, htake⟩⟩ := hrow
  · have e1 : l = [] := List.length_eq_zero_iff.1 h0
    subst e1
    refine (AnyM.slices_Sort_int_none L none 0 w).mono ?_
    rintro e w' ⟨rfl, rfl⟩
    exact ⟨rfl, by simpa using hrow', World.grownBy.refl _ _⟩
  · have hlt := block_lt hblk
    have hH : Sort.Holds (Value.int .i64) w b 0 l.toArray := by
      intro j hj
      have hj' : j < l.length := by simpa using hj
      refine ⟨?_, free_of_block hblk _⟩
      refine cell_of_block hblk ?_
      rw [Nat.zero_add]
      have h2 : (l.map (Value.int .i64))[j]? = some (.int .i64 l[j]) := by simp [hj']
      rw [← htake, List.getElem?_take_of_lt (by omega)] at h2
      have e : l.toArray[j]! = l[j] := by rw [getElem!_pos l.toArray j (by simpa using hj)]; simp
      rw [e]
      simpa using h2
    refine (AnyM.slices_Sort_int L b 0 cap l w hH hlt (by omega)).mono ?_
    rintro e w' ⟨rfl, n, os, rfl⟩
    generalize hs : (l.mergeSort fun x y => decide (x ≤ y)) = s
    have hsl : s.length = l.length := by rw [← hs]; exact List.length_mergeSort l
    have hgrow : ∀ j, j < w.heap.size → (Sort.grow (Sort.putRow (Value.int .i64) (Sort.ahead w n) b 0 s.toArray) os).heap[j]? = (w.heap.modify b (Sort.onCells (Sort.putCells (Value.int .i64) 0 s.toArray)))[j]? := by
      intro j hj
      show ((w.heap.modify b (Sort.onCells (Sort.putCells (Value.int .i64) 0 s.toArray))) ++ os)[j]? = _
      exact Array.getElem?_append_left (by simpa using hj)
    refine ⟨rfl, ⟨by rw [List.length_map, hsl]; omega, .inr ⟨b, cap, Sort.putCells (Value.int .i64) 0 s.toArray cur, rfl, hb, ?_, hcap, hmax, by simp [Sort.putCells, hcur], ?_⟩⟩, rfl, rfl, rfl, ?_, ?_⟩
    · rw [hgrow b hlt, Array.getElem?_modify, if_pos rfl, hblk]
      rfl
    · apply List.ext_getElem?
      intro j
      by_cases hj : j < l.length * 1
      · have h3 : l.length ≤ cur.size := by rw [hcur]; omega
        rw [List.getElem?_take_of_lt hj]
        simp only [Sort.putCells, Array.getElem?_toList, Array.getElem?_mapIdx]
        rw [Array.getElem?_eq_getElem (by omega)]
        have hjs : j < s.length := by omega
        simp [hjs]
      · rw [List.getElem?_eq_none (by simp; omega), List.getElem?_eq_none (by rw [List.length_map, hsl]; omega)]
    · show w.heap.size ≤ ((w.heap.modify b (Sort.onCells (Sort.putCells (Value.int .i64) 0 s.toArray))) ++ os).size
      simp
    · intro j hj hne
      rw [hgrow j hj, Array.getElem?_modify, if_neg (fun e => hne (by rw [e]; rfl))]
end
end Go.Proofs.Ytflbcabjefpojaa
