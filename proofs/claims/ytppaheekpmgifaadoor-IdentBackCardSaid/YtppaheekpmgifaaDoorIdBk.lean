/- gessolaw11.IdentBack: Text and Read are each other's way back. -/
import Derived.Test.YtppaheekpmgifaaDoorIdWk
namespace Go.Proofs.YtppaheekpmgifaaDoor
set_option linter.unusedSimpArgs false
set_option linter.unusedVariables false
open Go.RowKit Go.Shelf Go.Lib

def valL (l : List UInt8) : Nat := l.foldl (fun a c => 10 * a + (c.toNat - 48)) 0
theorem valL_digits : ∀ (k u : Nat), u < k → valL (decDigits u) = u
  | 0, _, h => by omega
  | k + 1, u, h => by
    unfold decDigits
    by_cases h1 : u < 10
    · rw [dif_pos h1]
      show 10 * 0 + ((UInt8.ofNat (48 + u)).toNat - 48) = u
      rw [digit_nat u h1]
      omega
    · rw [dif_neg h1]
      unfold valL
      rw [List.foldl_append]
      show 10 * valL (decDigits (u / 10)) + ((UInt8.ofNat (48 + u % 10)).toNat - 48) = u
      rw [valL_digits k (u / 10) (by omega), digit_nat (u % 10) (by omega)]
      omega
theorem decDigits_inj {u v : Nat} (h : decDigits u = decDigits v) : u = v := by
  rw [← valL_digits (u + 1) u (by omega), ← valL_digits (v + 1) v (by omega), h]
theorem decDigits_ne {u : Nat} : ∀ c ∈ decDigits u, c ≠ 46 := fun c hc e => by
  have := decDigits_digit (u + 1) u (by omega) c hc
  subst e
  exact absurd this.1 (by decide)
theorem split_dot : ∀ {A A' R R' : List UInt8}, (∀ c ∈ A, c ≠ 46) → (∀ c ∈ A', c ≠ 46) → A ++ 46 :: R = A' ++ 46 :: R' → A = A' ∧ R = R'
  | [], [], _, _, _, _, h => by simpa using h
  | [], c :: A', R, R', _, h2, h => by
    simp only [List.nil_append, List.cons_append, List.cons.injEq] at h
    exact absurd h.1.symm (h2 c (by simp))
  | c :: A, [], R, R', h1, _, h => by
    simp only [List.nil_append, List.cons_append, List.cons.injEq] at h
    exact absurd h.1 (h1 c (by simp))
  | c :: A, c' :: A', R, R', h1, h2, h => by
    simp only [List.cons_append, List.cons.injEq] at h
    obtain ⟨e1, e2⟩ := split_dot (fun d hd => h1 d (by simp [hd])) (fun d hd => h2 d (by simp [hd])) h.2
    exact ⟨by rw [h.1, e1], e2⟩
theorem itoa_ne (n : Int) : ∀ c ∈ itoa n, c ≠ 46 := by
  intro c hc
  unfold itoa at hc
  split at hc
  · rcases List.mem_cons.1 hc with rfl | hc
    · decide
    · exact decDigits_ne c hc
  · exact decDigits_ne c hc
theorem itoa_inj {m n : Int} (h : itoa m = itoa n) : m = n := by
  have hd : ∀ (u v : Nat), 45 :: decDigits u ≠ decDigits v := by
    intro u v e
    have h45 : (45 : UInt8) ∈ decDigits v := by rw [← e]; simp
    exact absurd (decDigits_digit (v + 1) v (by omega) 45 h45).1 (by decide)
  unfold itoa at h
  by_cases h1 : m < 0 <;> by_cases h2 : n < 0
  · rw [if_pos h1, if_pos h2] at h
    have := decDigits_inj (List.cons.inj h).2
    omega
  · rw [if_pos h1, if_neg h2] at h
    exact absurd h (hd _ _)
  · rw [if_neg h1, if_pos h2] at h
    exact absurd h.symm (hd _ _)
  · rw [if_neg h1, if_neg h2] at h
    have := decDigits_inj h
    omega
/-- Ids of one text are one. -/
theorem idText_inj_fits {i j : IdT} (hi : i.Fits) (hj : j.Fits) (h : idText i = idText j) : i = j := by
  unfold idText at h
  obtain ⟨e1, h⟩ := split_dot decDigits_ne decDigits_ne h
  obtain ⟨e2, h⟩ := split_dot (itoa_ne _) (itoa_ne _) h
  have k1 := decDigits_inj e1
  have k2 := itoa_inj e2
  have k3 := decDigits_inj h
  obtain ⟨⟨a1, _⟩, _, a3, _⟩ := hi
  obtain ⟨⟨b1, _⟩, _, b3, _⟩ := hj
  obtain ⟨t, s, q⟩ := i
  obtain ⟨t', s', q'⟩ := j
  simp only at *
  congr 1 <;> omega
theorem fits_of_ok {i : IdT} (h : idOk i = true) : i.Fits := by
  obtain ⟨⟨h1, h2⟩, ⟨h3, h4⟩, h5, h6⟩ := (idOk_iff i).1 h
  rw [maxT_eq] at h2 h6
  unfold IdT.Fits
  omega
/-- What an id's own text is read as. -/
theorem isRead_own {i : IdT} (hi : i.Fits) {o : Option IdT} (h : IsRead ⟨(idText i).toArray⟩ o) : o = if idOk i = true then some i else none := by
  by_cases hk : idOk i = true
  · rw [if_pos hk]
    exact h.unique (isRead_text i hk)
  · rw [if_neg hk]
    cases o with
    | none => rfl
    | some j =>
      have e := congrArg (fun b : ByteArray => b.data.toList) h.2
      have := idText_inj_fits hi (fits_of_ok h.1) (by simpa using e)
      subst this
      exact absurd h.1 hk

set_option maxRecDepth 100000 in
set_option maxHeartbeats 2000000 in
theorem identBack_any (a : IdT) (ha : a.Fits) (s : ByteArray) (w : World) (ht : Tab w) : Calls Tryd.prog 4 #[a.val, .string s] w (Gives (.bool true) w) := by
  have HT := Lib.hid ht
  have HA := Lib.hid ha
  clear ht ha
  obtain ⟨a1, a2, a3⟩ := a
  have HS := Lib.hid (St.start w)
  unfold IdT.val
  go_enter Tryd.func4, Tryd.ntmps4
  repeat ((fail_if_success (with_reducible refine stop_at (id := 1) ?_)); (first | go_values | go_skip | go_guarded | go_step | go_upon | go_back | (simp only [Int.not_lt, Int.not_le] at *; go_simp) | (go_values <;> (try go_simp)) | (go_ite <;> go_prune <;> (try go_simp)) | (split <;> (first | (rename_i hx; exact (hx _ rfl).elim) | go_prune))))
  have hs_ := (HS.out.alloc (.cells #[.int .u64 a1, .int .i64 a2, .int .u64 a3] 27))
  obtain ⟨w1, hw_⟩ : ∃ w1 : World, (w.alloc (.cells #[.int .u64 a1, .int .i64 a2, .int .u64 a3] 27)) = w1 := ⟨_, rfl⟩
  rw [hw_] at hs_
  try simp only [World.size_alloc] at hs_
  have HS := Lib.hid hs_
  rw [hw_]
  clear hw_ hs_
  go_wp2_with fail
  refine (wakes_any _ (HT.out.below HS.out.low)).mono ?_
  rintro e w2 ⟨rfl, hb_⟩
  have HS := Lib.hid (HS.out.below hb_)
  clear hb_
  have k0 := cell_of_block (k := 0) (HS.out.blockAt 0 rfl) rfl
  have k1 := cell_of_block (k := 1) (HS.out.blockAt 0 rfl) rfl
  have k2 := cell_of_block (k := 2) (HS.out.blockAt 0 rfl) rfl
  go_wp2_with fail
  clear k0 k1 k2
  refine (text_any ⟨a1, a2, a3⟩ HA.out _ (HT.out.below HS.out.low)).mono ?_
  rintro e w3 ⟨rfl, hb_⟩
  have HS := Lib.hid (HS.out.below hb_)
  clear hb_
  obtain ⟨T, hT1, hT2⟩ : ∃ T : ByteArray, str (idText ⟨a1, a2, a3⟩) = .string T ∧ T = ⟨(idText ⟨a1, a2, a3⟩).toArray⟩ := ⟨_, rfl, rfl⟩
  rw [hT1]
  have HT2 := Lib.hid hT2
  clear hT1 hT2
  go_wp2_with fail
  refine (identRead_any _ _ (HT.out.below HS.out.low)).mono ?_
  rintro e w4 ⟨⟨o, ho, rfl⟩, hb_⟩
  have HS := Lib.hid (HS.out.below hb_)
  rw [HT2.out] at ho
  obtain rfl := isRead_own HA.out ho
  clear ho hb_
  cases hk : idOk ⟨a1, a2, a3⟩
  · simp only [hk, Bool.false_eq_true, if_false, readVal, Option.getD_none, Option.isSome_none, errOf, zeroId, IdT.val]
    have HK := Lib.hid hk
    clear hk
    repeat ((fail_if_success (with_reducible refine stop_at (id := 4) ?_)); (first | go_values | go_skip | go_guarded | go_step | go_upon | go_back | (simp only [Int.not_lt, Int.not_le] at *; go_simp) | (go_values <;> (try go_simp)) | (go_ite <;> go_prune <;> (try go_simp)) | (split <;> (first | (rename_i hx; exact (hx _ rfl).elim) | go_prune))))
    have hs_ := (HS.out.alloc (.cells #[.int .u64 0, .int .i64 0, .int .u64 0] 27))
    obtain ⟨w5, hw_⟩ : ∃ w5 : World, (w4.alloc (.cells #[.int .u64 0, .int .i64 0, .int .u64 0] 27)) = w5 := ⟨_, rfl⟩
    rw [hw_] at hs_
    try simp only [World.size_alloc] at hs_
    have HS := Lib.hid hs_
    rw [hw_]
    clear hw_ hs_
    have k0 := cell_of_block (k := 0) (HS.out.blockAt 1 rfl) rfl
    have k1 := cell_of_block (k := 1) (HS.out.blockAt 1 rfl) rfl
    have k2 := cell_of_block (k := 2) (HS.out.blockAt 1 rfl) rfl
    go_wp2_with fail
    clear k0 k1 k2
    refine (idCheck_any ⟨a1, a2, a3⟩ _).mono ?_
    rintro e w5b ⟨rfl, hb_⟩
    have HS := Lib.hid (HS.out.below hb_)
    clear hb_
    rw [HK.out]
    simp only [errOf, Bool.false_eq_true, if_false]
    go_wp2_with fail
    refine (identRead_any _ _ (HT.out.below HS.out.low)).mono ?_
    rintro e w6 ⟨⟨o, ho, rfl⟩, hb_⟩
    have HS := Lib.hid (HS.out.below hb_)
    clear hb_
    cases o with
    | none =>
      clear ho
      simp only [readVal, Option.getD_none, Option.isSome_none, errOf, zeroId, IdT.val, Bool.false_eq_true, if_false]
      have hr := w_eq 0 0 0
      go_wp2_with fail
      go_ret
      exact ⟨rfl, HS.out.low.alloc HS.out.size _⟩
    | some j =>
      obtain ⟨hj, hs⟩ := ho
      obtain ⟨j1, j2, j3⟩ := j
      have HJ := Lib.hid hj
      have HSJ := Lib.hid hs
      clear hj hs
      simp only [readVal, Option.getD_some, Option.isSome_some, errOf, IdT.val, if_true]
      repeat ((fail_if_success (with_reducible refine stop_at (id := 10) ?_)); (first | go_values | go_skip | go_guarded | go_step | go_upon | go_back | (simp only [Int.not_lt, Int.not_le] at *; go_simp) | (go_values <;> (try go_simp)) | (go_ite <;> go_prune <;> (try go_simp)) | (split <;> (first | (rename_i hx; exact (hx _ rfl).elim) | go_prune))))
      have hs_ := (HS.out.alloc (.cells #[.int .u64 j1, .int .i64 j2, .int .u64 j3] 27))
      obtain ⟨w7, hw_⟩ : ∃ w7 : World, (w6.alloc (.cells #[.int .u64 j1, .int .i64 j2, .int .u64 j3] 27)) = w7 := ⟨_, rfl⟩
      rw [hw_] at hs_
      try simp only [World.size_alloc] at hs_
      have HS := Lib.hid hs_
      rw [hw_]
      clear hw_ hs_
      have k0 := cell_of_block (k := 0) (HS.out.blockAt 0 rfl) rfl
      have k1 := cell_of_block (k := 1) (HS.out.blockAt 0 rfl) rfl
      have k2 := cell_of_block (k := 2) (HS.out.blockAt 0 rfl) rfl
      go_wp2_with fail
      clear k0 k1 k2
      refine (text_any ⟨j1, j2, j3⟩ (fits_of_ok HJ.out) _ (HT.out.below HS.out.low)).mono ?_
      rintro e w8 ⟨rfl, hb_⟩
      have HS := Lib.hid (HS.out.below hb_)
      clear hb_
      obtain ⟨T, hT1, hT2⟩ : ∃ T : ByteArray, str (idText ⟨j1, j2, j3⟩) = .string T ∧ T = ⟨(idText ⟨j1, j2, j3⟩).toArray⟩ := ⟨_, rfl, rfl⟩
      rw [hT1]
      have heq : T = s := hT2.trans HSJ.out.symm
      clear hT1 hT2
      subst heq
      have k0 := cell_of_block (k := 0) (HS.out.blockAt 0 rfl) rfl
      have k1 := cell_of_block (k := 1) (HS.out.blockAt 0 rfl) rfl
      have k2 := cell_of_block (k := 2) (HS.out.blockAt 0 rfl) rfl
      go_wp2_with fail
      clear k0 k1 k2
      refine (idCheck_any ⟨j1, j2, j3⟩ _).mono ?_
      rintro e w9 ⟨rfl, hb_⟩
      have HS := Lib.hid (HS.out.below hb_)
      clear hb_
      rw [HJ.out]
      simp only [errOf, if_true]
      go_wp2_with fail
      go_ret
      exact ⟨rfl, by have OB := HS.out.low; (repeat (first | exact Below.refl _ _ | assumption | refine Below.alloc ?_ (by first | omega | (simp; done) | (simp; omega)) _ | refine Below.setCell ?_ (by first | omega | (simp; done) | (simp; omega)) _ | refine Below.drew ?_))⟩
  · simp only [hk, if_true, readVal, Option.getD_some, Option.isSome_some, errOf, IdT.val]
    have HK := Lib.hid hk
    clear hk
    repeat ((fail_if_success (with_reducible refine stop_at (id := 4) ?_)); (first | go_values | go_skip | go_guarded | go_step | go_upon | go_back | (simp only [Int.not_lt, Int.not_le] at *; go_simp) | (go_values <;> (try go_simp)) | (go_ite <;> go_prune <;> (try go_simp)) | (split <;> (first | (rename_i hx; exact (hx _ rfl).elim) | go_prune))))
    have hs_ := (HS.out.alloc (.cells #[.int .u64 a1, .int .i64 a2, .int .u64 a3] 27))
    obtain ⟨w5, hw_⟩ : ∃ w5 : World, (w4.alloc (.cells #[.int .u64 a1, .int .i64 a2, .int .u64 a3] 27)) = w5 := ⟨_, rfl⟩
    rw [hw_] at hs_
    try simp only [World.size_alloc] at hs_
    have HS := Lib.hid hs_
    rw [hw_]
    clear hw_ hs_
    have k0 := cell_of_block (k := 0) (HS.out.blockAt 1 rfl) rfl
    have k1 := cell_of_block (k := 1) (HS.out.blockAt 1 rfl) rfl
    have k2 := cell_of_block (k := 2) (HS.out.blockAt 1 rfl) rfl
    go_wp2_with fail
    clear k0 k1 k2
    refine (idCheck_any ⟨a1, a2, a3⟩ _).mono ?_
    rintro e w5b ⟨rfl, hb_⟩
    have HS := Lib.hid (HS.out.below hb_)
    clear hb_
    rw [HK.out]
    simp only [errOf, if_true]
    have k0 := cell_of_block (k := 0) (HS.out.blockAt 1 rfl) rfl
    have k1 := cell_of_block (k := 1) (HS.out.blockAt 1 rfl) rfl
    have k2 := cell_of_block (k := 2) (HS.out.blockAt 1 rfl) rfl
    have m0 := cell_of_block (k := 0) (HS.out.blockAt 0 rfl) rfl
    have m1 := cell_of_block (k := 1) (HS.out.blockAt 0 rfl) rfl
    have m2 := cell_of_block (k := 2) (HS.out.blockAt 0 rfl) rfl
    have hr := fun w => run_neq_id w a1 a2 a3 a1 a2 a3
    rw [show idEqB ⟨a1, a2, a3⟩ ⟨a1, a2, a3⟩ = true from (idEqB_iff _ _).2 rfl] at hr
    go_wp2_with fail
    clear k0 k1 k2 m0 m1 m2 hr
    refine (identRead_any _ _ (HT.out.below HS.out.low)).mono ?_
    rintro e w6 ⟨⟨o, ho, rfl⟩, hb_⟩
    have HS := Lib.hid (HS.out.below hb_)
    clear hb_
    cases o with
    | none =>
      clear ho
      simp only [readVal, Option.getD_none, Option.isSome_none, errOf, zeroId, IdT.val, Bool.false_eq_true, if_false]
      have hr := w_eq 0 0 0
      go_wp2_with fail
      go_ret
      exact ⟨rfl, HS.out.low.alloc HS.out.size _⟩
    | some j =>
      obtain ⟨hj, hs⟩ := ho
      obtain ⟨j1, j2, j3⟩ := j
      have HJ := Lib.hid hj
      have HSJ := Lib.hid hs
      clear hj hs
      simp only [readVal, Option.getD_some, Option.isSome_some, errOf, IdT.val, if_true]
      repeat ((fail_if_success (with_reducible refine stop_at (id := 10) ?_)); (first | go_values | go_skip | go_guarded | go_step | go_upon | go_back | (simp only [Int.not_lt, Int.not_le] at *; go_simp) | (go_values <;> (try go_simp)) | (go_ite <;> go_prune <;> (try go_simp)) | (split <;> (first | (rename_i hx; exact (hx _ rfl).elim) | go_prune))))
      have hs_ := (HS.out.alloc (.cells #[.int .u64 j1, .int .i64 j2, .int .u64 j3] 27))
      obtain ⟨w7, hw_⟩ : ∃ w7 : World, (w6.alloc (.cells #[.int .u64 j1, .int .i64 j2, .int .u64 j3] 27)) = w7 := ⟨_, rfl⟩
      rw [hw_] at hs_
      try simp only [World.size_alloc] at hs_
      have HS := Lib.hid hs_
      rw [hw_]
      clear hw_ hs_
      have k0 := cell_of_block (k := 0) (HS.out.blockAt 0 rfl) rfl
      have k1 := cell_of_block (k := 1) (HS.out.blockAt 0 rfl) rfl
      have k2 := cell_of_block (k := 2) (HS.out.blockAt 0 rfl) rfl
      go_wp2_with fail
      clear k0 k1 k2
      refine (text_any ⟨j1, j2, j3⟩ (fits_of_ok HJ.out) _ (HT.out.below HS.out.low)).mono ?_
      rintro e w8 ⟨rfl, hb_⟩
      have HS := Lib.hid (HS.out.below hb_)
      clear hb_
      obtain ⟨T, hT1, hT2⟩ : ∃ T : ByteArray, str (idText ⟨j1, j2, j3⟩) = .string T ∧ T = ⟨(idText ⟨j1, j2, j3⟩).toArray⟩ := ⟨_, rfl, rfl⟩
      rw [hT1]
      have heq : T = s := hT2.trans HSJ.out.symm
      clear hT1 hT2
      subst heq
      have k0 := cell_of_block (k := 0) (HS.out.blockAt 0 rfl) rfl
      have k1 := cell_of_block (k := 1) (HS.out.blockAt 0 rfl) rfl
      have k2 := cell_of_block (k := 2) (HS.out.blockAt 0 rfl) rfl
      go_wp2_with fail
      clear k0 k1 k2
      refine (idCheck_any ⟨j1, j2, j3⟩ _).mono ?_
      rintro e w9 ⟨rfl, hb_⟩
      have HS := Lib.hid (HS.out.below hb_)
      clear hb_
      rw [HJ.out]
      simp only [errOf, if_true]
      go_wp2_with fail
      go_ret
      exact ⟨rfl, by have OB := HS.out.low; (repeat (first | exact Below.refl _ _ | assumption | refine Below.alloc ?_ (by first | omega | (simp; done) | (simp; omega)) _ | refine Below.setCell ?_ (by first | omega | (simp; done) | (simp; omega)) _ | refine Below.drew ?_))⟩
end Go.Proofs.YtppaheekpmgifaaDoor
