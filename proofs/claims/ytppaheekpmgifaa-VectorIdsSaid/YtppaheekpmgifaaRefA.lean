/- The document's answer for vectors: Right. -/
import Derived.Test.YtppaheekpmgifaaBounds
namespace Go.Proofs.Ytppaheekpmgifaa
set_option linter.unusedSimpArgs false
set_option linter.unusedVariables false
open Go.RowKit Go.Shelf

/-- What Right asks of one site. -/
def siteRight (v : Nat → Int) (k : Nat) : Prop := v k ≤ MaxT ∧ (k = 0 → v k = 0)
theorem right_iff (v : Nat → Int) : vecOk v = true ↔ ∀ k, k < 9 → siteRight v k := by
  rw [vecOk_iff]
  unfold siteRight MaxT
  constructor
  · rintro ⟨h0, h⟩ k hk
    rcases Nat.eq_zero_or_pos k with rfl | h1
    · omega
    · have := h k h1 hk; omega
  · intro h
    refine ⟨(h 0 (by omega)).2 rfl, fun k h1 h9 => (h k h9).1⟩

set_option maxRecDepth 100000 in
set_option maxHeartbeats 1000000 in
theorem right_any (v : Nat → Int) (w : World) : Calls Try.prog 27 #[vecV v] w (Gives (.bool (vecOk v)) w) := by
  go_enter Try.func27, Try.ntmps27
  simp only [vecV, lit9]
  go_wp2_with fail
  have hB : Below w.heap.size w (w.alloc (.cells (lit9 v) 24)) := (Below.refl _ _).alloc (Nat.le_refl _) _
  have HB := Lib.hid hB
  clear hB
  go_loopw [6] (fun i wr => ∃ k : Nat, k ≤ 9 ∧ i = .int .i64 k ∧ (∀ j, j < k → siteRight v j) ∧ Below w.heap.size w wr) (fun i _ => 9 - (intOf i).toNat)
  case atStart => exact ⟨0, Nat.zero_le _, rfl, (fun j hj => absurd hj (by omega)), HB.out⟩
  case round =>
    obtain ⟨k, hk, rfl, hall, hb⟩ := hrel
    clear HB
    have HB := Lib.hid hb
    have Hall := Lib.hid hall
    clear hb hall
    by_cases hk9 : k < 9
    · obtain ⟨i0, hin, _, hz1, _⟩ := info_parts info22
      have hg := fun w => run_index_int w 24 22 9 .u64 i0 Try.underlying24 Try.underlying22 hin hz1 _ k _ hk9 (lit9_get v k hk9)
      unfold lit9 at hg
      have hki : (k : Int) < 9 := by omega
      by_cases h1 : 4611686018427387904 < v k
      · have hno : vecOk v = false := by
          cases h : vecOk v with
          | false => rfl
          | true => have := ((right_iff v).1 h k hk9).1; unfold MaxT at this; omega
        have Hno := Lib.hid hno
        clear hno
        go_wp2_with fail
        go_ret
        exact ⟨by rw [Hno.out]; rfl, HB.out⟩
      · have h1' : ¬ 4611686018427387904 < v k := h1
        by_cases h2 : k = 0
        · subst h2
          have hg0 : ∀ w, (Instr.index 24 (.agg (lit9 v)) (.int .i64 0)).run Try.prog w = .ok (.int .u64 (v 0)) w := fun w => run_index9 v 0 (by omega) w
          unfold lit9 at hg0
          clear hg
          by_cases h3 : v 0 = 0
          · rw [h3] at hg0
            go_wp2_with fail
            go_roundw
            case rel => exact ⟨1, by omega, by go_num, fun j hj => by rw [show j = 0 from by omega]; unfold siteRight MaxT; omega, HB.out⟩
            case measure => simp [intOf]
          · have hno : vecOk v = false := by
              cases h : vecOk v with
              | false => rfl
              | true => have := ((right_iff v).1 h 0 hk9).2 rfl; omega
            have Hno := Lib.hid hno
            clear hno
            go_wp2_with fail
            go_ret
            exact ⟨by rw [Hno.out]; rfl, HB.out⟩
        · have h2i : ¬ (k : Int) = 0 := by omega
          go_wp2_with fail
          go_roundw
          case rel => exact ⟨k + 1, by omega, by go_num, fun j hj => by rcases Nat.lt_or_eq_of_le (Nat.lt_succ_iff.1 hj) with h | rfl; exact Hall.out j h; unfold siteRight MaxT; omega, HB.out⟩
          case measure => simp [intOf]; omega
    · obtain rfl : k = 9 := by omega
      have hyes : vecOk v = true := (right_iff v).2 Hall.out
      have Hyes := Lib.hid hyes
      clear hyes
      go_wp2_with fail
      go_ret
      exact ⟨by rw [Hyes.out]; rfl, HB.out⟩
end Go.Proofs.Ytppaheekpmgifaa
