/- Layer 6: the document's Line. -/
import Derived.Test.YtflbcabjefpojaaShI
namespace Go.Proofs.Ytflbcabjefpojaa
set_option linter.unusedSimpArgs false
set_option linter.unusedVariables false
open Go.RowKit Go.Shelf

def lessN (n m i : Int) : Int := if 0 < n then (2 * i * m + n) / (2 * n) else 0
/-- The i-th place of a line. -/
def linePt (a b : PtT) (i : Int) : PtT :=
  bif decide (wayN a.x b.x < wayN a.y b.y) then ⟨a.x + sideN a.x b.x * lessN (wayN a.y b.y) (wayN a.x b.x) i, a.y + sideN a.y b.y * i⟩
  else ⟨a.x + sideN a.x b.x * i, a.y + sideN a.y b.y * lessN (wayN a.x b.x) (wayN a.y b.y) i⟩
def lineN (a b : PtT) (k : Nat) : List PtT := (List.range k).map fun (i : Nat) => linePt a b (i : Int)
theorem lineN_succ (a b : PtT) (k : Nat) : lineN a b (k + 1) = lineN a b k ++ [linePt a b (k : Int)] := by
  unfold lineN
  rw [List.range_succ, List.map_append]
  rfl
theorem lineN_len (a b : PtT) (k : Nat) : (lineN a b k).length = k := by simp [lineN]
def wayMax (a b : PtT) : Int := max (wayN a.x b.x) (wayN a.y b.y)
def lineL (a b : PtT) : List PtT := lineN a b (wayMax a b + 1).toNat

theorem mul_small {a b : Int} (h1 : 0 ≤ a) (h2 : a ≤ 1000) (h3 : 0 ≤ b) (h4 : b ≤ 1000) : 0 ≤ a * b ∧ a * b ≤ 1000000 :=
  ⟨Int.mul_nonneg h1 h3, by have : a * b ≤ 1000 * 1000 := Int.mul_le_mul h2 h4 h3 (by omega); omega⟩
theorem less_facts {n m i : Int} (hn : 0 < n) (hn2 : n ≤ 400) (hm : 0 ≤ m) (hm2 : m ≤ n) (hi : 0 ≤ i) (hi2 : i ≤ n) :
    wrap64 (2 * i) = 2 * i ∧ wrap64 (2 * i * m) = 2 * i * m ∧ wrap64 (2 * i * m + n) = 2 * i * m + n ∧ wrap64 (2 * n) = 2 * n ∧ Int.tdiv (2 * i * m + n) (2 * n) = lessN n m i ∧ 0 ≤ lessN n m i ∧ lessN n m i ≤ i := by
  obtain ⟨p, q⟩ := mul_small (a := 2 * i) (b := m) (by omega) (by omega) hm (by omega)
  have e : lessN n m i = (2 * i * m + n) / (2 * n) := by unfold lessN; rw [if_pos hn]
  have h1 : i * m ≤ i * n := Int.mul_le_mul_of_nonneg_left hm2 hi
  refine ⟨by unfold wrap64; omega, by unfold wrap64; omega, by unfold wrap64; omega, by unfold wrap64; omega, ?_, ?_, ?_⟩
  · rw [e, Int.tdiv_eq_ediv_of_nonneg (by omega)]
  · rw [e]; exact Int.ediv_nonneg (by omega) (by omega)
  · rw [e]
    have h2 : 2 * i * m + n < (i + 1) * (2 * n) := by
      have e1 : 2 * i * m = 2 * (i * m) := by rw [Int.mul_assoc]
      have e2 : (i + 1) * (2 * n) = 2 * (i * n) + 2 * n := by rw [Int.add_mul, Int.one_mul, Int.mul_left_comm]
      rw [e1, e2]
      omega
    have := Int.ediv_lt_of_lt_mul (by omega : 0 < 2 * n) h2
    omega

theorem side_facts {S z L : Int} (hS : S = 1 ∨ S = -1) (hz : -400 ≤ z ∧ z ≤ 400) (hL : 0 ≤ L ∧ L ≤ 400) : wrap64 (S * L) = S * L ∧ wrap64 (z + S * L) = z + S * L := by
  rcases hS with rfl | rfl <;> unfold wrap64 <;> omega
theorem sideN_or (a b : Int) : sideN a b = 1 ∨ sideN a b = -1 := by unfold sideN; split <;> simp
theorem wayN_nonneg (a b : Int) : 0 ≤ wayN a b := by unfold wayN; split <;> omega

set_option maxRecDepth 100000 in
set_option maxHeartbeats 4000000 in
theorem refLine_any (a b : PtT) (ha : drawnB a = true) (hb : drawnB b = true) (w : World) : Calls Try.prog 26 #[a.val, b.val] w (GivesRow 28 2 (lineL a b).length ((lineL a b).flatMap encP) w) := by
  have ha' := of_decide_eq_true ha
  have hb' := of_decide_eq_true hb
  obtain ⟨ax, ay⟩ := a
  obtain ⟨bx, by'⟩ := b
  simp only at ha' hb'
  have HXB := (wayN_small (a := ax) (b := bx) (by omega) (by omega))
  have HYB := (wayN_small (a := ay) (b := by') (by omega) (by omega))
  have hX2 : wayN ax bx ≤ 400 := by unfold wayN; split <;> omega
  have hY2 : wayN ay by' ≤ 400 := by unfold wayN; split <;> omega
  have HAX := Lib.hid (fun w => refAway_any ax bx w)
  have HAY := Lib.hid (fun w => refAway_any ay by' w)
  simp only [HXB.1] at HAX
  simp only [HYB.1] at HAY
  have hX0 := wayN_nonneg ax bx
  have hY0 := wayN_nonneg ay by'
  have hSX := sideN_or ax bx
  have hSY := sideN_or ay by'
  have hpt : ∀ i, linePt ⟨ax, ay⟩ ⟨bx, by'⟩ i = bif decide (wayN ax bx < wayN ay by') then ⟨ax + sideN ax bx * lessN (wayN ay by') (wayN ax bx) i, ay + sideN ay by' * i⟩ else ⟨ax + sideN ax bx * i, ay + sideN ay by' * lessN (wayN ax bx) (wayN ay by') i⟩ := fun i => rfl
  have hll : lineL ⟨ax, ay⟩ ⟨bx, by'⟩ = lineN ⟨ax, ay⟩ ⟨bx, by'⟩ (max (wayN ax bx) (wayN ay by') + 1).toNat := rfl
  obtain ⟨P, hP⟩ : ∃ P, PtT.mk ax ay = P := ⟨_, rfl⟩
  obtain ⟨Q, hQ⟩ : ∃ Q, PtT.mk bx by' = Q := ⟨_, rfl⟩
  have e1 : (PtT.mk ax ay).val = .agg #[.int .i64 ax, .int .i64 ay] := rfl
  have e2 : (PtT.mk bx by').val = .agg #[.int .i64 bx, .int .i64 by'] := rfl
  rw [e1, e2]
  rw [hP, hQ] at hll ⊢
  simp only [hP, hQ] at hpt
  clear hP hQ e1 e2 ha hb HXB HYB
  generalize wayN ax bx = X at *
  generalize wayN ay by' = Y at *
  generalize sideN ax bx = SX at *
  generalize sideN ay by' = SY at *
  have HPT := Lib.hid hpt
  have HLL := Lib.hid hll
  have HR := Lib.hid (And.intro ha' (And.intro hb' (And.intro hX2 (And.intro hY2 (And.intro hX0 (And.intro hY0 (And.intro hSX hSY)))))))
  have HS := Lib.hid (St.start w)
  clear hpt hll ha' hb' hX2 hY2 hX0 hY0 hSX hSY
  go_enter Try.func26, Try.ntmps26
  repeat ((fail_if_success (with_reducible refine stop_at (id := 1) ?_)); (first | go_values | go_skip | go_guarded | go_step | go_upon | go_back | (simp only [Int.not_lt, Int.not_le] at *; go_simp) | (go_values <;> (try go_simp)) | (go_ite <;> go_prune <;> (try go_simp)) | (split <;> (first | (rename_i hx; exact (hx _ rfl).elim) | go_prune))))
  have hs_ := ((HS.out.alloc (.cells #[.int .i64 ax, .int .i64 ay] 28)).alloc (.cells #[.int .i64 bx, .int .i64 by'] 28))
  obtain ⟨w1, hw_⟩ : ∃ w1 : World, ((w.alloc (.cells #[.int .i64 ax, .int .i64 ay] 28)).alloc (.cells #[.int .i64 bx, .int .i64 by'] 28)) = w1 := ⟨_, rfl⟩
  rw [hw_] at hs_
  try simp only [World.size_alloc] at hs_
  have HS := Lib.hid hs_
  rw [hw_]
  clear hw_ hs_
  have k0 := cell_of_block (k := 0) (HS.out.blockAt 1 rfl) rfl
  have e0 := cell_of_block (k := 0) (HS.out.blockAt 0 rfl) rfl
  go_wp2_with fail
  clear k0 e0
  refine (HAX.out _).mono ?_
  rintro e w2 ⟨rfl, hb_⟩
  have HS := Lib.hid (HS.out.below hb_)
  clear hb_
  have k0 := cell_of_block (k := 1) (HS.out.blockAt 1 rfl) rfl
  have e0 := cell_of_block (k := 1) (HS.out.blockAt 0 rfl) rfl
  go_wp2_with fail
  clear k0 e0
  refine (HAY.out _).mono ?_
  rintro e w3 ⟨rfl, hb_⟩
  have HS := Lib.hid (HS.out.below hb_)
  clear hb_
  have HO := Lib.hid (StO.start HS.out 28 2 encP)
  obtain ⟨N1, hN1⟩ : ∃ N1, w3.heap.size = N1 := ⟨_, rfl⟩
  rw [hN1] at HO
  clear HAX HAY hN1 HS
  by_cases g : X < Y
  · have HG := Lib.hid g
    obtain ⟨NN, hNN⟩ : ∃ NN, wrap64 (Y + 1) = NN := ⟨_, rfl⟩
    have HNN := Lib.hid (show NN = Y + 1 by rw [← hNN]; have := HR.out; unfold wrap64; omega)
    go_wp2_with fail
    try rw [hNN]
    clear hNN
    go_loopw [11, 39] (fun v i wr => ∃ k : Nat, (k : Int) ≤ NN ∧ i = .int .i64 (k : Int) ∧ StO w [.blk (w.heap.size + 1) (.cells #[.int .i64 bx, .int .i64 by'] 28), .blk w.heap.size (.cells #[.int .i64 ax, .int .i64 ay] 28)] N1 28 2 encP v (lineN P Q k) wr) (fun _ i _ => (NN - intOf i).toNat)
    case atStart => exact ⟨0, by have := HR.out; have := HNN.out; omega, rfl, HO.out⟩
    case round =>
      obtain ⟨k, hk, rfl, ho⟩ := hrel
      clear HO
      have HO := Lib.hid ho
      clear ho
      by_cases hlt : (k : Int) < NN
      · have wk : wrap64 ((k : Int) + 1) = ((k + 1 : Nat) : Int) := by have := HR.out; have := HNN.out; unfold wrap64; omega
        have HLEN := Lib.hid (lineN_len P Q k)
        have HT := Lib.hid (lineN_succ P Q k)
        have k0 := cell_of_block (k := 0) (HO.out.st.blockAt 1 rfl) rfl
        have k1 := cell_of_block (k := 1) (HO.out.st.blockAt 1 rfl) rfl
        have hlN : (k : Int) ≤ Y ∧ Y ≤ 400 := by have := HR.out; have := HNN.out; omega
        by_cases h0 : 0 < Y
        · have LF := less_facts (n := Y) (m := X) (i := (k : Int)) h0 (by have := HR.out; omega) (by have := HR.out; omega) (by have := HR.out; have := HG.out; omega) (by omega) (by omega)
          obtain ⟨L, hL⟩ : ∃ L, lessN Y X (k : Int) = L := ⟨_, rfl⟩
          rw [hL] at LF
          obtain ⟨f1, f2, f3, f4, f5, f6, f7⟩ := LF
          obtain ⟨x1, x2⟩ := side_facts (S := SX) (z := ax) (L := L) (by have := HR.out; omega) (by have := HR.out; omega) (by have := HR.out; omega)
          obtain ⟨y1, y2⟩ := side_facts (S := SY) (z := ay) (L := (k : Int)) (by have := HR.out; omega) (by have := HR.out; omega) (by have := HR.out; omega)
          have f8 : wrap64 L = L := by have := HR.out; unfold wrap64; omega
          have HQ := Lib.hid (show linePt P Q (k : Int) = ⟨ax + SX * L, ay + SY * (k : Int)⟩ by rw [HPT.out, show decide (X < Y) = true from decide_eq_true HG.out, cond_true, hL])
          have hz : ¬ 2 * Y = 0 := by omega
          clear hL
          go_wp2_with (at_builtin; refine wpList_app1 rowP encP_len encP_one HO.out (Below.refl _ _) ⟨ax + SX * L, ay + SY * (k : Int)⟩ _ rfl (by have := HLEN.out; omega) (by decide) _ _ rfl rfl rfl _ rfl (by simp) ?_; intro v' w5 ho5 hsh; have HO5 := Lib.hid ho5; clear ho5 hsh)
          go_roundw
          case rel => exact ⟨k + 1, by omega, by simp, by rw [HT.out, HQ.out]; exact HO5.out⟩
          case measure => simp [intOf]; omega
        · exfalso; have := HR.out; have := HG.out; omega
      · have HE := Lib.hid (show (max X Y + 1).toNat = k by have := HG.out; have := HNN.out; omega)
        clear hk
        go_wp2_with fail
        go_ret
        refine ⟨_, rfl, ?_, HO.out.st.low⟩
        rw [HLL.out, HE.out]
        exact ownsRow_mono HO.out.row HO.out.low
  · have HG := Lib.hid g
    obtain ⟨NN, hNN⟩ : ∃ NN, wrap64 (X + 1) = NN := ⟨_, rfl⟩
    have HNN := Lib.hid (show NN = X + 1 by rw [← hNN]; have := HR.out; unfold wrap64; omega)
    go_wp2_with fail
    try rw [hNN]
    clear hNN
    go_loopw [11, 39] (fun v i wr => ∃ k : Nat, (k : Int) ≤ NN ∧ i = .int .i64 (k : Int) ∧ StO w [.blk (w.heap.size + 1) (.cells #[.int .i64 bx, .int .i64 by'] 28), .blk w.heap.size (.cells #[.int .i64 ax, .int .i64 ay] 28)] N1 28 2 encP v (lineN P Q k) wr) (fun _ i _ => (NN - intOf i).toNat)
    case atStart => exact ⟨0, by have := HR.out; have := HNN.out; omega, rfl, HO.out⟩
    case round =>
      obtain ⟨k, hk, rfl, ho⟩ := hrel
      clear HO
      have HO := Lib.hid ho
      clear ho
      by_cases hlt : (k : Int) < NN
      · have wk : wrap64 ((k : Int) + 1) = ((k + 1 : Nat) : Int) := by have := HR.out; have := HNN.out; unfold wrap64; omega
        have HLEN := Lib.hid (lineN_len P Q k)
        have HT := Lib.hid (lineN_succ P Q k)
        have k0 := cell_of_block (k := 0) (HO.out.st.blockAt 1 rfl) rfl
        have k1 := cell_of_block (k := 1) (HO.out.st.blockAt 1 rfl) rfl
        have hlN : (k : Int) ≤ X ∧ X ≤ 400 := by have := HR.out; have := HNN.out; omega
        by_cases h0 : 0 < X
        · have LF := less_facts (n := X) (m := Y) (i := (k : Int)) h0 (by have := HR.out; omega) (by have := HR.out; omega) (by have := HR.out; have := HG.out; omega) (by omega) (by omega)
          obtain ⟨L, hL⟩ : ∃ L, lessN X Y (k : Int) = L := ⟨_, rfl⟩
          rw [hL] at LF
          obtain ⟨f1, f2, f3, f4, f5, f6, f7⟩ := LF
          obtain ⟨x1, x2⟩ := side_facts (S := SX) (z := ax) (L := (k : Int)) (by have := HR.out; omega) (by have := HR.out; omega) (by have := HR.out; omega)
          obtain ⟨y1, y2⟩ := side_facts (S := SY) (z := ay) (L := L) (by have := HR.out; omega) (by have := HR.out; omega) (by have := HR.out; omega)
          have f8 : wrap64 L = L := by have := HR.out; unfold wrap64; omega
          have HQ := Lib.hid (show linePt P Q (k : Int) = ⟨ax + SX * (k : Int), ay + SY * L⟩ by rw [HPT.out, show decide (X < Y) = false from decide_eq_false (Int.not_lt.2 HG.out), cond_false, hL])
          have hz : ¬ 2 * X = 0 := by omega
          clear hL
          go_wp2_with (at_builtin; refine wpList_app1 rowP encP_len encP_one HO.out (Below.refl _ _) ⟨ax + SX * (k : Int), ay + SY * L⟩ _ rfl (by have := HLEN.out; omega) (by decide) _ _ rfl rfl rfl _ rfl (by simp) ?_; intro v' w5 ho5 hsh; have HO5 := Lib.hid ho5; clear ho5 hsh)
          go_roundw
          case rel => exact ⟨k + 1, by omega, by simp, by rw [HT.out, HQ.out]; exact HO5.out⟩
          case measure => simp [intOf]; omega
        · have HQ := Lib.hid (show linePt P Q (k : Int) = ⟨ax, ay⟩ by have h9 := HR.out; have hk0 : k = 0 := (by omega); have hN0 : X = 0 := (by omega); rw [HPT.out, show decide (X < Y) = false from decide_eq_false (Int.not_lt.2 HG.out), cond_false, hk0, hN0]; simp [lessN])
          have hk0 : k = 0 := by have := HR.out; omega
          subst hk0
          have f1 : wrap64 ax = ax := by have := HR.out; unfold wrap64; omega
          have f2 : wrap64 ay = ay := by have := HR.out; unfold wrap64; omega
          skip
          go_wp2_with (at_builtin; refine wpList_app1 rowP encP_len encP_one HO.out (Below.refl _ _) ⟨ax, ay⟩ _ rfl (by have := HLEN.out; omega) (by decide) _ _ rfl rfl rfl _ rfl (by simp) ?_; intro v' w5 ho5 hsh; have HO5 := Lib.hid ho5; clear ho5 hsh)
          go_roundw
          case rel => exact ⟨0 + 1, by omega, by simp, by rw [HT.out, HQ.out]; exact HO5.out⟩
          case measure => simp [intOf]; omega
      · have HE := Lib.hid (show (max X Y + 1).toNat = k by have := HG.out; have := HNN.out; omega)
        clear hk
        go_wp2_with fail
        go_ret
        refine ⟨_, rfl, ?_, HO.out.st.low⟩
        rw [HLL.out, HE.out]
        exact ownsRow_mono HO.out.row HO.out.low
end Go.Proofs.Ytflbcabjefpojaa
