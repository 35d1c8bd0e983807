/- VectorFills: the plain law. -/
import Derived.Test.YtppaheekpmgifaaBounds
namespace Go.Proofs.Ytppaheekpmgifaa
set_option linter.unusedSimpArgs false
set_option linter.unusedVariables false
open Go.RowKit Go.Shelf

/-- Of a row of stretches the first k filled. -/
def fillTo (a b : Nat → Int) (l : List StrT) (k : Nat) : Nat → Int := fun s => if (l.take k).any (fun t => t.site == (s : Int)) then b s else a s
theorem fillTo_zero (a b : Nat → Int) (l : List StrT) : fillTo a b l 0 = a := by funext s; simp [fillTo]
theorem fillTo_succ (a b : Nat → Int) {l : List StrT} {k : Nat} {t : StrT} (hk : l[k]? = some t) (s : Nat) : fillTo a b l (k + 1) s = if t.site = (s : Int) then b s else fillTo a b l k s := by
  unfold fillTo
  rw [List.take_add_one, hk]
  simp only [Option.toList_some, List.any_append, List.any_cons, List.any_nil, Bool.or_false, Bool.or_eq_true, beq_iff_eq]
  by_cases h1 : t.site = (s : Int) <;> by_cases h2 : (l.take k).any (fun t => t.site == (s : Int)) = true <;> simp [h1, h2]

section lacksIs
variable {a b : Nat → Int}
theorem lackOf_mem {l : List (Fin 8)} {t : StrT} (h : t ∈ lackOf a b l) : 1 ≤ t.site ∧ t.site ≤ 8 ∧ t.fr = a t.site.toNat + 1 ∧ t.upto = b t.site.toNat ∧ a t.site.toNat < b t.site.toNat := by
  unfold lackOf at h
  simp only [List.mem_map, List.mem_filter] at h
  obtain ⟨x, ⟨_, hx⟩, rfl⟩ := h
  have h8 := x.2
  simp only [Int.toNat_natCast]
  simp only [decide_eq_true_eq] at hx
  exact ⟨by omega, by omega, trivial, trivial, hx⟩
theorem lackOf_sorted : (lackOf a b (List.finRange 8)).Pairwise (fun s t => s.site < t.site) := by
  unfold lackOf
  rw [List.pairwise_map]
  refine List.Pairwise.filter _ ?_
  have : (List.finRange 8).Pairwise (fun x y : Fin 8 => x.1 < y.1) := by decide
  refine this.imp ?_
  intro x y h
  dsimp only
  omega
theorem lackOf_has {s : Nat} (h1 : 1 ≤ s) (h8 : s ≤ 8) (h : a s < b s) : ∃ t ∈ lackOf a b (List.finRange 8), t.site = (s : Int) := by
  unfold lackOf
  refine ⟨⟨((s : Nat) : Int), a s + 1, b s⟩, ?_, rfl⟩
  refine List.mem_map.2 ⟨⟨s - 1, by omega⟩, List.mem_filter.2 ⟨List.mem_finRange _, ?_⟩, ?_⟩
  · simp only [show s - 1 + 1 = s from by omega, h, decide_true]
  · simp only [show s - 1 + 1 = s from by omega]
theorem fillTo_here {k : Nat} {t : StrT} (hk : (lackOf a b (List.finRange 8))[k]? = some t) : fillTo a b (lackOf a b (List.finRange 8)) k t.site.toNat = a t.site.toNat := by
  have hs := lackOf_sorted (a := a) (b := b)
  have hm := lackOf_mem (List.mem_of_getElem? hk)
  unfold fillTo
  rw [if_neg]
  intro h
  rw [List.any_eq_true] at h
  obtain ⟨x, hx, he⟩ := h
  obtain ⟨j, hj, hjx⟩ := List.mem_take_iff_getElem.1 hx
  obtain ⟨hkl, hke⟩ := List.getElem?_eq_some_iff.1 hk
  have := List.pairwise_iff_getElem.1 hs j k (by omega) hkl (by omega)
  rw [hjx, hke] at this
  simp only [beq_iff_eq] at he
  omega
theorem fillTo_all (ha : vecOk a = true) (hb : vecOk b = true) (s : Nat) (hs : s < 9) : fillTo a b (lackOf a b (List.finRange 8)) (lackOf a b (List.finRange 8)).length s = max (a s) (b s) := by
  unfold fillTo
  rw [List.take_length]
  rw [vecOk_iff] at ha hb
  by_cases h : (lackOf a b (List.finRange 8)).any (fun t => t.site == (s : Int)) = true
  · rw [if_pos h]
    rw [List.any_eq_true] at h
    obtain ⟨x, hx, he⟩ := h
    have hm := lackOf_mem hx
    simp only [beq_iff_eq] at he
    rw [he] at hm
    simp only [Int.toNat_natCast] at hm
    omega
  · rw [if_neg h]
    rcases Nat.eq_zero_or_pos s with rfl | h1
    · omega
    · rcases Int.lt_or_le (a s) (b s) with hlt | hle
      · exfalso
        obtain ⟨t, ht, he⟩ := lackOf_has h1 (by omega) hlt
        exact h (List.any_eq_true.2 ⟨t, ht, by simp [he]⟩)
      · omega
theorem lacks_covers (ha : vecOk a = true) (hb : vecOk b = true) : covers a b = ((lacks a b).length == 0) := by
  unfold lacks
  rw [if_pos ⟨ha, hb⟩, Bool.eq_iff_iff, covers_iff]
  simp only [beq_iff_eq, List.length_eq_zero_iff]
  constructor
  · rintro ⟨_, _, h⟩
    refine List.eq_nil_iff_forall_not_mem.2 fun t ht => ?_
    have hm := lackOf_mem ht
    have := h t.site.toNat (by omega)
    omega
  · intro h
    refine ⟨ha, hb, fun k hk => ?_⟩
    rcases Nat.eq_zero_or_pos k with rfl | h1
    · rw [vecOk_iff] at ha hb; omega
    · rcases Int.lt_or_le (a k) (b k) with hlt | hle
      · obtain ⟨t, ht, _⟩ := lackOf_has h1 (by omega) hlt
        rw [h] at ht
        cases ht
      · exact hle
end lacksIs

theorem manyTo_le {l : List StrT} (h : StrOk l) : ∀ (n k : Nat), k ≤ n → manyTo l k ≤ manyTo l n := by
  intro n
  induction n with
  | zero => intro k hk; rw [show k = 0 from by omega]; exact Int.le_refl _
  | succ n ih =>
    intro k hk
    rcases Nat.lt_or_eq_of_le hk with h' | rfl
    · refine Int.le_trans (ih k (by omega)) ?_
      have hbd := manyTo_bd h n
      simp only [manyTo]
      cases hn : l[n]? with
      | none => simp only [Option.map_none, Option.getD_none]; omega
      | some s =>
        have := h s (List.mem_of_getElem? hn)
        simp only [Option.map_some, Option.getD_some]; omega
    · exact Int.le_refl _
theorem manyTo_step {l : List StrT} (h : StrOk l) (h60 : manyOf l ≤ 60) {k : Nat} {s : StrT} (hk : l[k]? = some s) : manyTo l (k + 1) = manyTo l k + (s.upto - s.fr + 1) ∧ manyTo l (k + 1) ≤ 60 ∧ 0 ≤ manyTo l k := by
  have hlt := (List.getElem?_eq_some_iff.1 hk).1
  have h1 := manyTo_le h l.length (k + 1) hlt
  have h0 := (manyTo_bd h k).1
  unfold manyOf at h60
  have he : manyTo l (k + 1) = min (manyTo l k + (s.upto - s.fr + 1)) MaxT := by simp only [manyTo, hk, Option.map_some, Option.getD_some]
  unfold MaxT at he
  omega
theorem many_zero {l : List StrT} (h : StrOk l) : (manyOf l == 0) = (l.length == 0) := by
  rw [Bool.eq_iff_iff]
  simp only [beq_iff_eq]
  cases l with
  | nil => simp [manyOf, manyTo]
  | cons s l =>
    have h1 := manyTo_le h (s :: l).length 1 (by simp)
    have hs := h s (by simp)
    have he : manyTo (s :: l) 1 = min (0 + (s.upto - s.fr + 1)) MaxT := by simp [manyTo]
    unfold MaxT at *
    unfold manyOf
    simp only [List.length_cons] at *
    omega

/-- One id more. -/
theorem fill_step {u b : Nat → Int} {site t : Int} (hu : vecOk u = true) (hb : vecOk b = true) (h1 : 1 ≤ site) (h8 : site ≤ 8) (h0 : ∀ k, 0 ≤ u k) (ht : u site.toNat = t - 1) (htb : t ≤ b site.toNat) :
    hasB u ⟨9, site, t⟩ = false ∧ nextB u ⟨9, site, t⟩ = true ∧ hasB b ⟨9, site, t⟩ = true ∧ withB u (fun _ => ⟨9, site, t⟩) 1 = .ok (upd u site.toNat t) ∧
      hasB (upd u site.toNat t) ⟨9, site, t⟩ = true ∧ covers (upd u site.toNat t) u = true ∧ vecOk (upd u site.toNat t) = true ∧ (∀ k, 0 ≤ upd u site.toNat t k) := by
  have hn := h0 site.toNat
  have hb' := (vecOk_iff b).1 hb
  have hu' := (vecOk_iff u).1 hu
  have hbm := hb'.2 site.toNat (by omega) (by omega)
  have hid : idOk ⟨9, site, t⟩ = true := by
    rw [idOk_iff]
    unfold MaxT at *
    dsimp only
    omega
  have hself : upd u site.toNat t site.toNat = t := by simp [upd]
  have hok : vecOk (upd u site.toNat t) = true := by
    rw [vecOk_iff]
    refine ⟨?_, fun k k1 k9 => ?_⟩
    · unfold upd; rw [if_neg (by omega)]; exact hu'.1
    · unfold upd; split
      · omega
      · exact hu'.2 k k1 k9
  have hhas : hasB u ⟨9, site, t⟩ = false := by
    unfold hasB
    simp only [Bool.and_eq_false_iff, decide_eq_false_iff_not]
    exact .inr (by omega)
  have hnext : nextB u ⟨9, site, t⟩ = true := by
    unfold nextB bothOk
    rw [hu, hid]
    simp only [Bool.and_self, Bool.true_and, beq_iff_eq]
    omega
  refine ⟨hhas, hnext, ?_, ?_, ?_, ?_, hok, ?_⟩
  · unfold hasB bothOk
    rw [hb, hid]
    simp only [Bool.and_self, Bool.true_and, decide_eq_true_eq]
    exact htb
  · unfold withB
    rw [if_pos hu]
    simp only [withTo]
    unfold takeB
    rw [if_neg (by simp [hid]), if_neg (by simp [hhas]), if_neg (by simp [hnext])]
    dsimp only
    rw [show u site.toNat + 1 = t from by omega]
  · unfold hasB bothOk
    rw [hok, hid]
    simp only [Bool.and_self, Bool.true_and, decide_eq_true_eq]
    omega
  · rw [covers_iff]
    refine ⟨hok, hu, fun k _ => ?_⟩
    unfold upd
    split
    · rename_i e; rw [e]; omega
    · exact Int.le_refl _
  · intro k
    unfold upd
    split
    · omega
    · exact h0 k
end Go.Proofs.Ytppaheekpmgifaa
