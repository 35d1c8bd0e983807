/- The plain law of the pen: its places are the line's. -/
import Derived.Test.YtflbcabjefpojaaShK
import Derived.Test.YtflbcabjefpojaaCmp
import Derived.ScopeJumps
namespace Go.Proofs.Ytflbcabjefpojaa
set_option linter.unusedSimpArgs false
set_option linter.unusedVariables false
open Go.RowKit Go.Shelf

def restN (n m i : Int) : Int := n + 2 * m * i - 2 * n * lessN n m i
theorem less_next {n m i : Int} (hn : 0 < n) (hm : 0 ≤ m) (hmn : m ≤ n) :
    (0 ≤ restN n m i ∧ restN n m i < 2 * n) ∧ (2 * n ≤ restN n m i + 2 * m → lessN n m (i + 1) = lessN n m i + 1 ∧ restN n m (i + 1) = restN n m i + 2 * m - 2 * n) ∧
      (restN n m i + 2 * m < 2 * n → lessN n m (i + 1) = lessN n m i ∧ restN n m (i + 1) = restN n m i + 2 * m) := by
  obtain ⟨q, hq⟩ : ∃ q, lessN n m i = q := ⟨_, rfl⟩
  obtain ⟨q', hq'⟩ : ∃ q', lessN n m (i + 1) = q' := ⟨_, rfl⟩
  unfold restN
  rw [hq, hq']
  unfold lessN at hq hq'
  rw [if_pos hn] at hq hq'
  obtain ⟨A, hA⟩ : ∃ A, 2 * i * m + n = A := ⟨_, rfl⟩
  have e1 : 2 * (i + 1) * m + n = A + 2 * m := by rw [← hA]; grind
  have e2 : n + 2 * m * i = A := by rw [← hA]; grind
  have e3 : n + 2 * m * (i + 1) = A + 2 * m := by rw [← hA]; grind
  have e4 : 2 * n * (q + 1) = 2 * n * q + 2 * n := by grind
  rw [hA] at hq
  rw [e1] at hq'
  rw [e2, e3]
  have h1 := Int.mul_ediv_add_emod A (2 * n)
  have h2 := Int.emod_nonneg A (show 2 * n ≠ 0 by omega)
  have h3 := Int.emod_lt_of_pos A (show 0 < 2 * n by omega)
  rw [hq] at h1
  obtain ⟨r, hr⟩ : ∃ r, A % (2 * n) = r := ⟨_, rfl⟩
  rw [hr] at h1 h2 h3
  obtain ⟨Z, hZ⟩ : ∃ Z, 2 * n * q = Z := ⟨_, rfl⟩
  rw [hZ] at h1 e4 ⊢
  refine ⟨by omega, fun hge => ?_, fun hlt => ?_⟩
  · have : q' = q + 1 := by
      rw [← hq']
      apply Int.le_antisymm
      · exact Int.lt_add_one_iff.1 (Int.ediv_lt_of_lt_mul (by omega) (by have : (q + 1 + 1) * (2 * n) = Z + 2 * n + 2 * n := (by grind); omega))
      · exact (Int.le_ediv_iff_mul_le (by omega)).2 (by have : (q + 1) * (2 * n) = Z + 2 * n := (by grind); omega)
    subst this
    rw [e4]
    omega
  · have : q' = q := by
      rw [← hq']
      apply Int.le_antisymm
      · exact Int.lt_add_one_iff.1 (Int.ediv_lt_of_lt_mul (by omega) (by have : (q + 1) * (2 * n) = Z + 2 * n := (by grind); omega))
      · exact (Int.le_ediv_iff_mul_le (by omega)).2 (by have : q * (2 * n) = Z := (by grind); omega)
    subst this
    rw [hZ]
    omega
theorem less_last {n m : Int} (hn : 0 < n) : lessN n m n = m := by
  unfold lessN
  rw [if_pos hn]
  have e : 2 * n * m + n = n + m * (2 * n) := by grind
  rw [e, Int.add_mul_ediv_right _ _ (by omega), Int.ediv_eq_zero_of_lt (by omega) (by omega)]
  omega
theorem less_zero (n m : Int) : lessN n m 0 = 0 := by
  unfold lessN
  split
  · rw [Int.mul_zero, Int.zero_mul, Int.zero_add]; exact Int.ediv_eq_zero_of_lt (by omega) (by omega)
  · rfl
theorem less_le {n m i : Int} (hn : 0 < n) (hm : 0 ≤ m) (hmn : m ≤ n) (hi : 0 ≤ i) : 0 ≤ lessN n m i ∧ lessN n m i ≤ i := by
  unfold lessN
  rw [if_pos hn]
  have h0 : 0 ≤ i * m := Int.mul_nonneg hi hm
  have h1 : i * m ≤ i * n := Int.mul_le_mul_of_nonneg_left hmn hi
  have e0 : 2 * i * m = 2 * (i * m) := by grind
  refine ⟨Int.ediv_nonneg (by omega) (by omega), ?_⟩
  have e2 : (i + 1) * (2 * n) = 2 * (i * n) + 2 * n := by grind
  have := Int.ediv_lt_of_lt_mul (a := 2 * i * m + n) (b := i + 1) (by omega : 0 < 2 * n) (by omega)
  omega

theorem less_le_m {n m i : Int} (hm : 0 ≤ m) (hmn : m ≤ n) (hi : 0 ≤ i) (hin : i ≤ n) : 0 ≤ lessN n m i ∧ lessN n m i ≤ m := by
  by_cases hn : 0 < n
  · refine ⟨(less_le hn hm hmn hi).1, ?_⟩
    unfold lessN
    rw [if_pos hn]
    have h2 : i * m ≤ n * m := Int.mul_le_mul_of_nonneg_right hin hm
    have e0 : 2 * i * m = 2 * (i * m) := by grind
    have e2 : (m + 1) * (2 * n) = 2 * (n * m) + 2 * n := by grind
    have := Int.ediv_lt_of_lt_mul (a := 2 * i * m + n) (b := m + 1) (by omega : 0 < 2 * n) (by omega)
    omega
  · unfold lessN; rw [if_neg hn]; omega
theorem less_top {n m : Int} (hm : 0 ≤ m) (hmn : m ≤ n) : lessN n m n = m := by
  by_cases hn : 0 < n
  · exact less_last hn
  · unfold lessN; rw [if_neg hn]; omega
/-- What a pen keeps of its line. -/
structure LineD (a b : PtT) (lx ly sx sy n m : Int) : Prop where
  top : n = wayMax a b
  mle : 0 ≤ m ∧ m ≤ n
  unit : (-1 ≤ lx ∧ lx ≤ 1) ∧ (-1 ≤ ly ∧ ly ≤ 1) ∧ (-1 ≤ sx ∧ sx ≤ 1) ∧ (-1 ≤ sy ∧ sy ≤ 1)
  pt : ∀ i : Int, 0 ≤ i → i ≤ n → linePt a b i = ⟨a.x + lx * i + sx * lessN n m i, a.y + ly * i + sy * lessN n m i⟩
  fin : ∀ i : Int, 0 ≤ i → i ≤ n → (linePt a b i = b ↔ i = n)
theorem dir_side {a b i : Int} (h0 : 0 ≤ i) (h1 : i ≤ wayN a b) : sideN a b * i = Lib.compareInt (b - a) 0 * i := by
  unfold sideN Lib.compareInt
  unfold wayN at h1
  by_cases h : b < a
  · rw [if_pos h, if_pos (by omega)]
  · rw [if_neg h] at h1
    rw [if_neg h, if_neg (by omega)]
    by_cases h2 : b - a > 0
    · rw [if_pos h2]
    · obtain rfl : i = 0 := by omega
      simp
theorem side_way (a b : Int) : a + sideN a b * wayN a b = b := by
  unfold sideN wayN
  by_cases h : b < a
  · rw [if_pos h, if_pos h]; omega
  · rw [if_neg h, if_neg h]; omega
theorem side_inj {a b i : Int} (h : a + sideN a b * i = b) (h0 : 0 ≤ i) (h1 : i ≤ wayN a b) : i = wayN a b := by
  unfold sideN at h
  unfold wayN at h1 ⊢
  by_cases h2 : b < a
  · rw [if_pos h2] at h h1 ⊢; omega
  · rw [if_neg h2] at h h1 ⊢; omega
theorem dir_unit (d : Int) : -1 ≤ Lib.compareInt d 0 ∧ Lib.compareInt d 0 ≤ 1 := by unfold Lib.compareInt; split; omega; split <;> omega
theorem lineD_flat {a b : PtT} (h : ¬ wayN a.x b.x < wayN a.y b.y) : LineD a b (Lib.compareInt (b.x - a.x) 0) 0 0 (Lib.compareInt (b.y - a.y) 0) (wayN a.x b.x) (wayN a.y b.y) := by
  have hp : ∀ i, linePt a b i = ⟨a.x + sideN a.x b.x * i, a.y + sideN a.y b.y * lessN (wayN a.x b.x) (wayN a.y b.y) i⟩ := fun i => by unfold linePt; rw [decide_eq_false h]; rfl
  have hle := fun i h0 h1 => less_le_m (n := wayN a.x b.x) (m := wayN a.y b.y) (i := i) (wayN_nonneg _ _) (by omega) h0 h1
  refine ⟨by unfold wayMax; omega, ⟨wayN_nonneg _ _, by omega⟩, ⟨dir_unit _, by omega, by omega, dir_unit _⟩, fun i h0 h1 => ?_, fun i h0 h1 => ⟨fun he => ?_, fun he => ?_⟩⟩
  · rw [hp, dir_side h0 h1, dir_side (hle i h0 h1).1 (hle i h0 h1).2]
    simp
  · rw [hp] at he
    exact side_inj (congrArg PtT.x he) h0 h1
  · subst he
    rw [hp, side_way, less_top (wayN_nonneg _ _) (by omega), side_way]
theorem lineD_steep {a b : PtT} (h : wayN a.x b.x < wayN a.y b.y) : LineD a b 0 (Lib.compareInt (b.y - a.y) 0) (Lib.compareInt (b.x - a.x) 0) 0 (wayN a.y b.y) (wayN a.x b.x) := by
  have hp : ∀ i, linePt a b i = ⟨a.x + sideN a.x b.x * lessN (wayN a.y b.y) (wayN a.x b.x) i, a.y + sideN a.y b.y * i⟩ := fun i => by unfold linePt; rw [decide_eq_true h]; rfl
  have hle := fun i h0 h1 => less_le_m (n := wayN a.y b.y) (m := wayN a.x b.x) (i := i) (wayN_nonneg _ _) (by omega) h0 h1
  refine ⟨by unfold wayMax; omega, ⟨wayN_nonneg _ _, by omega⟩, ⟨by omega, dir_unit _, dir_unit _, by omega⟩, fun i h0 h1 => ?_, fun i h0 h1 => ⟨fun he => ?_, fun he => ?_⟩⟩
  · rw [hp, dir_side (a := a.y) h0 h1, dir_side (hle i h0 h1).1 (hle i h0 h1).2]
    simp
  · rw [hp] at he
    exact side_inj (congrArg PtT.y he) h0 h1
  · subst he
    rw [hp, side_way, less_top (wayN_nonneg _ _) (by omega), side_way]

/-- A coordinate of a line lies not far. -/
theorem unit_mul {u i : Int} (hu : -1 ≤ u ∧ u ≤ 1) (h0 : 0 ≤ i) : -i ≤ u * i ∧ u * i ≤ i := by
  rcases (by omega : u = -1 ∨ u = 0 ∨ u = 1) with rfl | rfl | rfl <;> omega
theorem LineD.near {a b : PtT} {lx ly sx sy n m : Int} (h : LineD a b lx ly sx sy n m) (hn : n ≤ 200) (ha : (-64 ≤ a.x ∧ a.x ≤ 127) ∧ (-64 ≤ a.y ∧ a.y ≤ 127)) {i : Int} (h0 : 0 ≤ i) (h1 : i ≤ n) :
    (-1000 ≤ a.x + lx * i + sx * lessN n m i ∧ a.x + lx * i + sx * lessN n m i ≤ 1000) ∧ (-1000 ≤ a.y + ly * i + sy * lessN n m i ∧ a.y + ly * i + sy * lessN n m i ≤ 1000) := by
  have hl := less_le_m (n := n) (m := m) (i := i) h.mle.1 h.mle.2 h0 h1
  have := h.mle
  have e1 := unit_mul h.unit.1 h0
  have e2 := unit_mul h.unit.2.1 h0
  have e3 := unit_mul h.unit.2.2.1 hl.1
  have e4 := unit_mul h.unit.2.2.2 hl.1
  omega

section
variable {P : Program} {a : Act} {w : World} {Q : Exit → Act → World → Prop}
/-- A scope with a label: what is behind the label is walked once. -/
theorem wp_scope_loop {c B : Code} (l : Nat) (J : Act → World → Prop) (μ : Act → World → Nat) (hf : findLabel c l = some (.seq .skip B))
    (pass : ∀ a w, J a w → B.wp P (Exit.jump l (fun a' w' => J a' w' ∧ μ a' w' < μ a w) Q) a w)
    (first : (∀ a w, J a w → B.wp P (Exit.jump l J Q) a w) → c.wp P (Exit.jump l J Q) a w) : (Code.scope c).wp P Q a w :=
  wp_scope_jumps l J μ hf (first fun a w hJ => wp_mono (pass a w hJ) fun e a' w' h => by
    cases e <;> first | exact h | exact ⟨h.1, h.2.1⟩) fun a w hJ => wp_seq (wp_skip (pass a w hJ))
end
end Go.Proofs.Ytflbcabjefpojaa
