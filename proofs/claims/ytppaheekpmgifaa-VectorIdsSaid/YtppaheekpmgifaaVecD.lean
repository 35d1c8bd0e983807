/- Package vector: Join, Meet: what the numbers of vectors come to. -/
import Derived.Test.YtppaheekpmgifaaVecC
namespace Go.Proofs.Ytppaheekpmgifaa
set_option linter.unusedSimpArgs false
set_option linter.unusedVariables false
open Go.RowKit Go.Shelf

theorem max_fn (a b : Int) (w : World) : Calls Try.prog 36 #[.int .u64 a, .int .u64 b] w fun e w' => e = .returned (.int .u64 (max a b)) ∧ w = w' := by
  go_enter Try.func36, Try.ntmps36
  go_wp2
  all_goals
    go_ret
    exact ⟨ret_int (by omega), rfl⟩

theorem min_fn (a b : Int) (w : World) : Calls Try.prog 39 #[.int .u64 a, .int .u64 b] w fun e w' => e = .returned (.int .u64 (min a b)) ∧ w = w' := by
  go_enter Try.func39, Try.ntmps39
  go_wp2
  all_goals
    go_ret
    exact ⟨ret_int (by omega), rfl⟩

theorem same_fn (a : Int) (w : World) : Calls Try.prog 37 #[.int .u64 a] w fun e w' => e = .returned (.int .u64 a) ∧ w = w' := by
  go_enter Try.func37, Try.ntmps37
  go_wp2
  go_ret
  exact ⟨rfl, rfl⟩

/-- A row of vectors: element i's number of site k. -/
def vecCells (x : Nat → Nat → Int) (j : Nat) : Value := .int .u64 (x (j / 9) (j % 9))

theorem vecElem {w : World} {b off n : Nat} {x : Nat → Nat → Int} (hc : ∀ j, j < n * 9 → w.cell? ⟨b, off + j, none⟩ = some (vecCells x j)) {k : Nat} (hk : k < n) :
    w.cell? ⟨b, off + k * 9, none⟩ = some (.int .u64 (x k 0)) ∧ w.cell? ⟨b, off + k * 9 + 1, none⟩ = some (.int .u64 (x k 1)) ∧ w.cell? ⟨b, off + k * 9 + 2, none⟩ = some (.int .u64 (x k 2)) ∧
    w.cell? ⟨b, off + k * 9 + 3, none⟩ = some (.int .u64 (x k 3)) ∧ w.cell? ⟨b, off + k * 9 + 4, none⟩ = some (.int .u64 (x k 4)) ∧ w.cell? ⟨b, off + k * 9 + 5, none⟩ = some (.int .u64 (x k 5)) ∧
    w.cell? ⟨b, off + k * 9 + 6, none⟩ = some (.int .u64 (x k 6)) ∧ w.cell? ⟨b, off + k * 9 + 7, none⟩ = some (.int .u64 (x k 7)) ∧ w.cell? ⟨b, off + k * 9 + 8, none⟩ = some (.int .u64 (x k 8)) := by
  have key : ∀ j, j < 9 → w.cell? ⟨b, off + k * 9 + j, none⟩ = some (.int .u64 (x k j)) := by
    intro j hj
    have h := hc (k * 9 + j) (by omega)
    rw [← Nat.add_assoc] at h
    rw [h]
    unfold vecCells
    rw [show (k * 9 + j) / 9 = k from by omega, show (k * 9 + j) % 9 = j from by omega]
  exact ⟨key 0 (by omega), key 1 (by omega), key 2 (by omega), key 3 (by omega), key 4 (by omega), key 5 (by omega), key 6 (by omega), key 7 (by omega), key 8 (by omega)⟩

set_option maxRecDepth 100000 in
set_option maxHeartbeats 2000000 in
theorem merged_no (ft : Nat) (v : Nat → Int) (sv : Value) (n : Nat) (x : Nat → Nat → Int) (w : World) (hn : n ≤ 1000000) (he : Elems w sv n 9 (vecCells x))
    (hno : ¬ (vecOk v = true ∧ ∀ i, i < n → vecOk (x i) = true)) :
    Calls Try.prog 35 #[vecV v, sv, .func (.func ft) #[] #[], .func (.func 37) #[] #[]] w (Raises 230 w) := by
  cases hv : vecOk v
  · go_enter Try.func35, Try.ntmps35
    simp only [vecV, lit9]
    go_wp2_with (first | (go_at_call 12; refine (vecCheck_any v _).mono ?_; rintro e w1 ⟨rfl, hb⟩; simp only [errOf, hv]) | (go_at_call 43; refine (need_no _ _).mono ?_; rintro e w' ⟨rfl, rfl⟩))
    exact ⟨rfl, rfl, ((((Below.refl w.heap.size w).alloc (Nat.le_refl _) _).alloc (by simp) _).trans (hb.mono (by simp; omega)))⟩
  · have hno' : ∃ i, i < n ∧ vecOk (x i) = false := by
      rcases Classical.em (∃ i, i < n ∧ vecOk (x i) = false) with h | h
      · exact h
      · exfalso
        refine hno ⟨hv, fun i hi => ?_⟩
        cases hb : vecOk (x i) with
        | true => rfl
        | false => exact absurd ⟨i, hi, hb⟩ h
    have Hno := Lib.hid hno'
    clear hno hno'
    rcases he with ⟨rfl, rfl⟩ | ⟨b, off, cap, rfl, hlt, hc⟩
    · obtain ⟨i, hi, _⟩ := Hno.out
      omega
    · go_enter Try.func35, Try.ntmps35
      simp only [vecV, lit9]
      go_wp2_with (first | (go_at_call 12; refine (vecCheck_any v _).mono ?_; rintro e w1 ⟨rfl, hb⟩; simp only [errOf, hv]) | (go_at_call 43; refine (need_ok _ _).mono ?_; rintro e w' ⟨rfl, rfl⟩))
      have hB : Below w.heap.size w w1 := ((((Below.refl w.heap.size w).alloc (Nat.le_refl _) _).alloc (by simp) _).trans (hb.mono (by simp; omega)))
      have hc1 : ∀ j, j < n * 9 → w1.cell? ⟨b, off + j, none⟩ = some (vecCells x j) := fun j hj => (hB.cell (p := ⟨b, off + j, none⟩) hlt).trans (hc j hj)
      have hlt1 : b < w1.heap.size := Nat.lt_of_lt_of_le hlt hB.size
      have HB := Lib.hid hB
      have HC := Lib.hid hc1
      clear hB hb hc hc1 hlt
      go_loopw [20] (fun i wr => ∃ k : Nat, k ≤ n ∧ i = .int .i64 k ∧ (∀ j, j < k → vecOk (x j) = true) ∧ Below w1.heap.size w1 wr) (fun i _ => n - (intOf i).toNat)
      case atStart => exact ⟨0, Nat.zero_le _, rfl, fun j hj => absurd hj (Nat.not_lt_zero _), Below.refl _ _⟩
      case round =>
        obtain ⟨k, hk, rfl, hok, hbr⟩ := hrel
        have Hok := Lib.hid hok
        have Hbr := Lib.hid hbr
        clear hok hbr
        by_cases hkn : k < n
        · obtain ⟨e0, e1, e2, e3, e4, e5, e6, e7, e8⟩ := vecElem (fun j hj => (Hbr.out.cell (p := ⟨b, off + j, none⟩) hlt1).trans (HC.out j hj)) hkn
          go_wp2_with fail
          refine (vecCheck_any (x k) _).mono ?_
          rintro e w2 ⟨rfl, hb2⟩
          have hw2 := (Hbr.out.alloc Hbr.out.size _).trans (hb2.mono (by have := Hbr.out.size; simp; omega))
          have Hw2 := Lib.hid hw2
          clear hw2 hb2
          cases hxk : vecOk (x k)
          · simp only [errOf]
            go_wp2_with (go_at_call 43; refine (need_no _ _).mono ?_; rintro e w' ⟨rfl, rfl⟩)
            exact ⟨rfl, rfl, HB.out.trans (Hw2.out.mono HB.out.size)⟩
          · simp only [errOf]
            go_wp2_with (go_at_call 43; refine (need_ok _ _).mono ?_; rintro e w' ⟨rfl, rfl⟩)
            go_roundw
            case rel =>
              refine ⟨k + 1, by omega, by go_num, fun j hj => ?_, Hw2.out⟩
              rcases Nat.lt_or_eq_of_le (Nat.lt_succ_iff.1 hj) with h | rfl
              · exact Hok.out j h
              · exact hxk
            case measure => simp [intOf]; omega
        · exfalso
          obtain ⟨i, hi, hi2⟩ := Hno.out
          have := Hok.out i (by omega)
          rw [this] at hi2
          cases hi2
end Go.Proofs.Ytppaheekpmgifaa
