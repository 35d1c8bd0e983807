/- The document's reading of an id's text: the plain law: cut at the dots, three numerals. -/
import Derived.Test.YtppaheekpmgifaaDoorIdZ
import Derived.Test.YtppaheekpmgifaaDoorByte
namespace Go.Proofs.YtppaheekpmgifaaDoor
set_option linter.unusedSimpArgs false
set_option linter.unusedVariables false
open Go.RowKit Go.Shelf Go.Lib

/-- The pieces up to a place, and where the next one begins. -/
def cuts (s : ByteArray) : Nat → List ByteArray × Nat
  | 0 => ([], 0)
  | k + 1 => if k = s.size ∨ byteAt s k = 46 then ((cuts s k).1 ++ [s.extract (cuts s k).2 k], k + 1) else cuts s k
theorem cuts_le (s : ByteArray) : ∀ k, (cuts s k).2 ≤ k
  | 0 => Nat.le_refl _
  | k + 1 => by
    unfold cuts
    split
    · exact Nat.le_refl _
    · have := cuts_le s k; omega
theorem cuts_length (s : ByteArray) : ∀ k, (cuts s k).1.length ≤ k
  | 0 => Nat.le_refl _
  | k + 1 => by
    unfold cuts
    split
    · have := cuts_length s k; simp; omega
    · have := cuts_length s k; omega
theorem cuts_size (s : ByteArray) : ∀ k, k ≤ s.size + 1 → ∀ p ∈ (cuts s k).1, p.size ≤ s.size
  | 0, _, p, hp => by simp [cuts] at hp
  | k + 1, hk, p, hp => by
    unfold cuts at hp
    split at hp
    · rcases List.mem_append.1 hp with hp | hp
      · exact cuts_size s k (by omega) p hp
      · simp at hp
        subst hp
        simp
        omega
    · exact cuts_size s k (by omega) p hp
theorem byteAt_list (l : List UInt8) (j : Nat) : byteAt ⟨l.toArray⟩ j = (l[j]?.getD 0).toNat := by simp [byteAt]
theorem cuts_skip (s : ByteArray) (f : Nat) (L : List ByteArray) (h : cuts s f = (L, f)) : ∀ n, (∀ j, f ≤ j → j < f + n → j < s.size ∧ byteAt s j ≠ 46) → cuts s (f + n) = (L, f)
  | 0, _ => h
  | n + 1, hj => by
    have h1 := cuts_skip s f L h n fun j a b => hj j a (by omega)
    have h2 := hj (f + n) (by omega) (by omega)
    rw [Nat.add_succ]
    show (if _ then _ else _) = _
    rw [if_neg (by omega), h1]
theorem cuts_hit (s : ByteArray) (f : Nat) (L : List ByteArray) (h : cuts s f = (L, f)) (n : Nat) (hj : ∀ j, f ≤ j → j < f + n → j < s.size ∧ byteAt s j ≠ 46) (he : f + n = s.size ∨ byteAt s (f + n) = 46) :
    cuts s (f + n + 1) = (L ++ [s.extract f (f + n)], f + n + 1) := by
  show (if _ then _ else _) = _
  rw [if_pos he, cuts_skip s f L h n hj]
theorem getD_mem_ne {l : List UInt8} (h : ∀ c ∈ l, c.toNat ≠ 46) (j : Nat) : (l[j]?.getD 0).toNat ≠ 46 := by
  rcases hx : l[j]? with _ | c
  · simp
  · exact h c (List.mem_of_getElem? hx)
theorem cuts_three (A B C : List UInt8) (hA : ∀ c ∈ A, c.toNat ≠ 46) (hB : ∀ c ∈ B, c.toNat ≠ 46) (hC : ∀ c ∈ C, c.toNat ≠ 46) (s : ByteArray) (hs : s = ⟨(A ++ (46 :: (B ++ (46 :: C)))).toArray⟩) :
    (cuts s (s.size + 1)).1 = [⟨A.toArray⟩, ⟨B.toArray⟩, ⟨C.toArray⟩] := by
  have hsize : s.size = A.length + 1 + B.length + 1 + C.length := by subst hs; show (List.toArray _).size = _; simp; omega
  have hb : ∀ j, byteAt s j = (((A ++ (46 :: (B ++ (46 :: C)))))[j]?.getD 0).toNat := fun j => by subst hs; exact byteAt_list _ j
  have gA : ∀ j, j < A.length → byteAt s j ≠ 46 := fun j hj => by
    rw [hb, List.getElem?_append_left hj]; exact getD_mem_ne hA j
  have gA' : byteAt s A.length = 46 := by rw [hb]; simp
  have gB : ∀ j, j < B.length → byteAt s (A.length + 1 + j) ≠ 46 := fun j hj => by
    rw [hb, List.getElem?_append_right (by omega), show A.length + 1 + j - A.length = j + 1 by omega, List.getElem?_cons_succ, List.getElem?_append_left hj]; exact getD_mem_ne hB j
  have gB' : byteAt s (A.length + 1 + B.length) = 46 := by
    rw [hb, List.getElem?_append_right (by omega), show A.length + 1 + B.length - A.length = B.length + 1 by omega, List.getElem?_cons_succ, List.getElem?_append_right (by omega)]; simp
  have gC : ∀ j, j < C.length → byteAt s (A.length + 1 + B.length + 1 + j) ≠ 46 := fun j hj => by
    rw [hb, List.getElem?_append_right (by omega), show A.length + 1 + B.length + 1 + j - A.length = (B.length + 1 + j) + 1 by omega, List.getElem?_cons_succ, List.getElem?_append_right (by omega), show B.length + 1 + j - B.length = j + 1 by omega, List.getElem?_cons_succ]; exact getD_mem_ne hC j
  have c1 := cuts_hit s 0 [] rfl A.length (fun j _ h2 => ⟨by omega, gA j (by omega)⟩) (.inr (by simpa using gA'))
  rw [Nat.zero_add] at c1
  have c2 := cuts_hit s (A.length + 1) _ c1 B.length (fun j h1 h2 => ⟨by omega, by have := gB (j - (A.length + 1)) (by omega); rwa [show A.length + 1 + (j - (A.length + 1)) = j by omega] at this⟩) (.inr gB')
  have c3 := cuts_hit s (A.length + 1 + B.length + 1) _ c2 C.length (fun j h1 h2 => ⟨by omega, by have := gC (j - (A.length + 1 + B.length + 1)) (by omega); rwa [show A.length + 1 + B.length + 1 + (j - (A.length + 1 + B.length + 1)) = j by omega] at this⟩) (.inl hsize.symm)
  rw [hsize, c3]
  have ex : ∀ a b, s.extract a b = ⟨(((A ++ (46 :: (B ++ (46 :: C)))).drop a).take (b - a)).toArray⟩ := fun a b => by
    subst hs
    apply ByteArray.ext
    simp [List.extract]
  simp only [List.nil_append, List.cons_append, ex]
  congr 1
  · congr 1; simp
  congr 1
  · congr 2
    rw [List.drop_append, List.drop_eq_nil_of_le (by omega), show A.length + 1 - A.length = 1 by omega]
    simp
  congr 1
  · congr 2
    rw [List.drop_append, List.drop_eq_nil_of_le (by omega), show A.length + 1 + B.length + 1 - A.length = (B.length + 1) + 1 by omega]
    simp
theorem decDigits_digit : ∀ (k u : Nat), u < k → ∀ c ∈ decDigits u, 48 ≤ c.toNat ∧ c.toNat ≤ 57
  | 0, _, h, _, _ => by omega
  | k + 1, u, h, c, hc => by
    unfold decDigits at hc
    by_cases h1 : u < 10
    · rw [dif_pos h1] at hc
      simp only [List.mem_singleton] at hc
      subst hc
      rw [digit_nat u h1]
      omega
    · rw [dif_neg h1] at hc
      rcases List.mem_append.1 hc with hc | hc
      · exact decDigits_digit k (u / 10) (by omega) c hc
      · simp only [List.mem_singleton] at hc
        subst hc
        rw [digit_nat (u % 10) (by omega)]
        omega
theorem partN_append (l : List UInt8) (c : UInt8) : ∀ k, k ≤ l.length → partN ⟨(l ++ [c]).toArray⟩ k = partN ⟨l.toArray⟩ k
  | 0, _ => rfl
  | k + 1, h => by
    unfold partN
    rw [partN_append l c k (by omega), byteAt_list, byteAt_list, List.getElem?_append_left (by omega)]
theorem partN_digits : ∀ (k u : Nat), u < k → (decDigits u).length ≤ 19 → partN ⟨(decDigits u).toArray⟩ (decDigits u).length = u
  | 0, _, h, _ => by omega
  | k + 1, u, h, h19 => by
    by_cases h1 : u < 10
    · have e : decDigits u = [UInt8.ofNat (48 + u)] := by unfold decDigits; rw [dif_pos h1]
      rw [e]
      show (if _ then _ else _) = _
      rw [if_pos (by decide), byteAt_list]
      show 10 * 0 + ((UInt8.ofNat (48 + u)).toNat - 48) = u
      rw [digit_nat u h1]
      omega
    · have e : decDigits u = decDigits (u / 10) ++ [UInt8.ofNat (48 + u % 10)] := by
        rw [decDigits, dif_neg h1]
      rw [e, List.length_append, List.length_singleton]
      rw [e, List.length_append, List.length_singleton] at h19
      show (if _ then _ else _) = _
      rw [if_pos (by omega), partN_append _ _ _ (Nat.le_refl _), partN_digits k (u / 10) (by omega) (by omega), byteAt_list, List.getElem?_append_right (Nat.le_refl _)]
      simp only [Nat.sub_self, List.getElem?_cons_zero, Option.getD_some]
      rw [digit_nat (u % 10) (by omega)]
      omega
theorem nDigits_le : ∀ (k u : Nat), u < 10 ^ k → 1 ≤ k → nDigits u ≤ k
  | 0, _, _, h => by omega
  | k + 1, u, h, _ => by
    by_cases h1 : u < 10
    · rw [nDigits_small h1]; omega
    · rw [nDigits_big h1]
      have hk : 1 ≤ k := by
        rcases Nat.eq_zero_or_pos k with rfl | h0
        · simp at h; omega
        · exact h0
      have := nDigits_le k (u / 10) (by rw [Nat.pow_succ] at h; omega) hk
      omega
/-- A numeral of at most 19 digits is read as its number. -/
theorem part_digits (u : Nat) (h : u ≤ 4611686018427387904) (s : ByteArray) (hs : s = ⟨(decDigits u).toArray⟩) : (∀ j, j < s.size → digAt s j) ∧ partN s s.size = u ∧ 1 ≤ s.size ∧ s.size ≤ 19 := by
  have hsz : s.size = (decDigits u).length := by subst hs; show (List.toArray _).size = _; simp
  have h19 : (decDigits u).length ≤ 19 := by
    rw [decDigits_length]
    exact nDigits_le 19 u (by have : (10 : Nat) ^ 19 = 10000000000000000000 := by decide
                              omega) (by omega)
  have h1 : 1 ≤ (decDigits u).length := by rw [decDigits_length]; exact nDigits_pos u
  refine ⟨fun j hj => ?_, ?_, by omega, by omega⟩
  · subst hs
    unfold digAt
    rw [byteAt_list, List.getElem?_eq_getElem (by omega)]
    exact decDigits_digit (u + 1) u (by omega) _ (List.getElem_mem _)
  · rw [hsz]; subst hs; exact partN_digits (u + 1) u (by omega) h19
/-- The document's reading, of the three pieces. -/
theorem cuts_text (i : IdT) (h : idOk i = true) (s : ByteArray) (hs : s = ⟨(idText i).toArray⟩) :
    (cuts s (s.size + 1)).1 = [⟨(decDigits i.time.toNat).toArray⟩, ⟨(decDigits i.site.toNat).toArray⟩, ⟨(decDigits i.seq.toNat).toArray⟩] := by
  obtain ⟨⟨h1, h2⟩, ⟨h3, h4⟩, h5, h6⟩ := (idOk_iff i).1 h
  have ne : ∀ u, ∀ c ∈ decDigits u, c.toNat ≠ 46 := fun u c hc => by have := decDigits_digit (u + 1) u (by omega) c hc; omega
  refine cuts_three _ _ _ (ne _) (ne _) (ne _) s ?_
  rw [hs]
  unfold idText
  have e : Lib.itoa i.site = decDigits i.site.toNat := by
    conv => lhs; rw [show i.site = ((i.site.toNat : Nat) : Int) by omega]
    exact Lib.itoa_nonneg _
  rw [e]
end Go.Proofs.YtppaheekpmgifaaDoor
