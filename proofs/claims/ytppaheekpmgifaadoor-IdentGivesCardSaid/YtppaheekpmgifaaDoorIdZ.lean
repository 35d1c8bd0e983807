/- Reading an id's text: the plain law. A machine that takes a byte at a time comes to an id's numbers on the id's own text. -/
import Derived.Test.YtppaheekpmgifaaDoorIdH
namespace Go.Proofs.YtppaheekpmgifaaDoor
set_option linter.unusedSimpArgs false
set_option linter.unusedVariables false
open Go.RowKit Go.Shelf Go.Lib

structure Rd where
  at_ : Nat
  n0 : Nat
  n1 : Nat
  n2 : Nat
def Rd.get (r : Rd) : Nat := if r.at_ = 0 then r.n0 else if r.at_ = 1 then r.n1 else r.n2
def Rd.put (r : Rd) (v : Nat) : Rd := if r.at_ = 0 then ⟨0, v, r.n1, r.n2⟩ else if r.at_ = 1 then ⟨1, r.n0, v, r.n2⟩ else ⟨r.at_, r.n0, r.n1, v⟩
def Rd.step (r : Rd) (c : Nat) : Option Rd :=
  if c = 46 ∧ r.at_ < 2 then some ⟨r.at_ + 1, r.n0, r.n1, r.n2⟩
  else if 48 ≤ c ∧ c ≤ 57 ∧ r.get ≤ 1844674407370955160 then some (r.put (10 * r.get + (c - 48))) else none
def Rd.run (r : Rd) : List Nat → Option Rd
  | [] => some r
  | c :: l => (r.step c).bind fun r' => r'.run l
theorem Rd.run_append (r : Rd) : ∀ (l m : List Nat) , r.run (l ++ m) = (r.run l).bind fun r' => r'.run m := by
  intro l
  induction l generalizing r with
  | nil => intro m; rfl
  | cons c l ih =>
    intro m
    show (r.step c).bind _ = ((r.step c).bind _).bind _
    cases r.step c with
    | none => rfl
    | some r' => exact ih r' m
/-- The place and the numbers are such as may be. -/
structure Rd.Ok (r : Rd) : Prop where
  at_ : r.at_ ≤ 2
  b0 : r.n0 < 18446744073709551616
  b1 : r.n1 < 18446744073709551616
  b2 : r.n2 < 18446744073709551616
theorem Rd.Ok.step {r r' : Rd} {c : Nat} (h : r.Ok) (hs : r.step c = some r') : r'.Ok := by
  obtain ⟨k, n0, n1, n2⟩ := r
  obtain ⟨h1, h2, h3, h4⟩ := h
  simp only at h1 h2 h3 h4
  unfold Rd.step at hs
  dsimp only at hs
  split at hs
  · cases hs; exact ⟨by dsimp only; omega, h2, h3, h4⟩
  · split at hs
    · rename_i hx hy
      obtain ⟨y1, y2, y3⟩ := hy
      cases hs
      have y3' := y3
      unfold Rd.put Rd.get at *
      dsimp only at *
      by_cases k0 : k = 0
      · subst k0
        simp only [if_true] at *
        exact ⟨by simp, by simp only; omega, h3, h4⟩
      · by_cases k1 : k = 1
        · subst k1
          simp only [if_true, Nat.one_ne_zero, if_false] at *
          exact ⟨by simp, h2, by simp only; omega, h4⟩
        · simp only [k0, k1, if_false] at *
          exact ⟨h1, h2, h3, by simp only; omega⟩
    · cases hs
theorem Rd.put_at (r : Rd) (v : Nat) : (r.put v).at_ = r.at_ := by
  obtain ⟨k, n0, n1, n2⟩ := r
  unfold Rd.put
  by_cases k0 : k = 0 <;> by_cases k1 : k = 1 <;> simp [k0, k1]
theorem Rd.get_put (r : Rd) (v : Nat) : (r.put v).get = v := by
  obtain ⟨k, n0, n1, n2⟩ := r
  unfold Rd.put Rd.get
  by_cases k0 : k = 0 <;> by_cases k1 : k = 1 <;> simp [k0, k1]
theorem Rd.put_put (r : Rd) (u v : Nat) : (r.put u).put v = r.put v := by
  obtain ⟨k, n0, n1, n2⟩ := r
  unfold Rd.put
  by_cases k0 : k = 0 <;> by_cases k1 : k = 1 <;> simp [k0, k1]
def nats (l : List UInt8) : List Nat := l.map UInt8.toNat
theorem nats_append (l m : List UInt8) : nats (l ++ m) = nats l ++ nats m := List.map_append ..
theorem digit_nat (d : Nat) (h : d < 10) : (UInt8.ofNat (48 + d)).toNat = 48 + d := by
  simp
  omega
/-- A number's digits are read as that number. -/
theorem Rd.run_digits (r : Rd) (h0 : r.get = 0) : ∀ (k u : Nat), u < k → u ≤ 4611686018427387904 → r.run (nats (decDigits u)) = some (r.put u)
  | 0, _, h, _ => by omega
  | k + 1, u, h, hu => by
    have hstep : ∀ (r' : Rd) (d : Nat), d < 10 → r'.get ≤ 1844674407370955160 → r'.step (48 + d) = some (r'.put (10 * r'.get + d)) := by
      intro r' d hd hg
      unfold Rd.step
      rw [if_neg (by omega), if_pos ⟨by omega, by omega, hg⟩]
      congr 3
      omega
    unfold decDigits
    by_cases h1 : u < 10
    · rw [dif_pos h1]
      show ((r.step _).bind _) = _
      rw [digit_nat u h1, hstep r u h1 (by omega), h0]
      simp [Rd.run]
    · rw [dif_neg h1, nats_append, Rd.run_append, Rd.run_digits r h0 k (u / 10) (by omega) (by omega)]
      show (((r.put (u / 10)).step _).bind _) = _
      rw [digit_nat (u % 10) (by omega), hstep _ _ (by omega) (by rw [Rd.get_put]; omega), Rd.get_put, Rd.put_put]
      simp [Rd.run]
      congr 1
      omega
def rd0 : Rd := ⟨0, 0, 0, 0⟩
/-- An id's text is read as the id. -/
theorem rd_text (i : IdT) (h : idOk i = true) : rd0.run (nats (idText i)) = some ⟨2, i.time.toNat, i.site.toNat, i.seq.toNat⟩ := by
  obtain ⟨⟨h1, h2⟩, ⟨h3, h4⟩, h5, h6⟩ := (idOk_iff i).1 h
  rw [maxT_eq] at h2 h6
  obtain ⟨t, s, q⟩ := i
  simp only at h1 h2 h3 h4 h5 h6
  obtain ⟨m, rfl⟩ : ∃ m : Nat, s = m := ⟨s.toNat, by omega⟩
  unfold idText
  dsimp only
  rw [Lib.itoa_nonneg, nats_append, Rd.run_append, Rd.run_digits rd0 rfl (t.toNat + 1) t.toNat (by omega) (by omega)]
  have e1 : (some (rd0.put t.toNat)).bind (fun r' => r'.run (nats (46 :: (decDigits m ++ 46 :: decDigits q.toNat)))) = (⟨1, t.toNat, 0, 0⟩ : Rd).run (nats (decDigits m ++ (46 :: decDigits q.toNat))) := rfl
  rw [e1, nats_append, Rd.run_append, Rd.run_digits ⟨1, t.toNat, 0, 0⟩ rfl (m + 1) m (by omega) (by omega)]
  have e2 : (some ((⟨1, t.toNat, 0, 0⟩ : Rd).put m)).bind (fun r' => r'.run (nats (46 :: decDigits q.toNat))) = (⟨2, t.toNat, m, 0⟩ : Rd).run (nats (decDigits q.toNat)) := rfl
  rw [e2, Rd.run_digits ⟨2, t.toNat, m, 0⟩ rfl (q.toNat + 1) q.toNat (by omega) (by omega)]
  simp [Rd.put]
theorem idText_inj {i j : IdT} (hi : idOk i = true) (hj : idOk j = true) (h : idText i = idText j) : i = j := by
  have a := rd_text i hi
  have b := rd_text j hj
  rw [h, b] at a
  simp only [Option.some.injEq, Rd.mk.injEq, true_and] at a
  obtain ⟨⟨h1, h2⟩, ⟨h3, h4⟩, h5, h6⟩ := (idOk_iff i).1 hi
  obtain ⟨⟨k1, k2⟩, ⟨k3, k4⟩, k5, k6⟩ := (idOk_iff j).1 hj
  obtain ⟨t, s, q⟩ := i
  obtain ⟨t', s', q'⟩ := j
  simp only at *
  congr 1 <;> omega
end Go.Proofs.YtppaheekpmgifaaDoor
