/- The document's answer for vectors: Covers. -/
import Derived.Test.YtppaheekpmgifaaRefA
namespace Go.Proofs.Ytppaheekpmgifaa
set_option linter.unusedSimpArgs false
set_option linter.unusedVariables false
open Go.RowKit Go.Shelf

set_option maxRecDepth 100000 in
set_option maxHeartbeats 1000000 in
theorem refCovers_any (a b : Nat → Int) (w : World) : Calls Try.prog 22 #[vecV a, vecV b] w (Gives (.bool (covers a b)) w) := by
  go_enter Try.func22, Try.ntmps22
  simp only [vecV, lit9]
  go_wp2_with fail
  have hB : Below w.heap.size w ((w.alloc (.cells (lit9 a) 24)).alloc (.cells (lit9 b) 24)) := ((Below.refl _ _).alloc (Nat.le_refl _) _).alloc (by simp) _
  have ha := heap_alloc_keeps (World.alloc_heap_new w (.cells (lit9 a) 24)) (.cells (lit9 b) 24)
  have hb := newBlock (w.alloc (.cells (lit9 a) 24)) (.cells (lit9 b) 24) (w.heap.size + 1) (by simp)
  have HB := Lib.hid hB
  have HA := Lib.hid ha
  have Hb := Lib.hid hb
  clear hB ha hb
  go_loopw [8] (fun i wr => ∃ k : Nat, k ≤ 9 ∧ i = .int .i64 k ∧ (∀ j, j < k → b j ≤ a j) ∧ Below w.heap.size w wr ∧ wr.heap[w.heap.size]? = some (.cells (lit9 a) 24 (0, 0)) ∧ wr.heap[w.heap.size + 1]? = some (.cells (lit9 b) 24 (0, 0))) (fun i _ => 9 - (intOf i).toNat)
  case atStart => exact ⟨0, Nat.zero_le _, rfl, (fun j hj => absurd hj (by omega)), HB.out, HA.out, Hb.out⟩
  case round =>
    obtain ⟨k, hk, rfl, hall, hB, ha, hb⟩ := hrel
    clear HB HA Hb
    have HB := Lib.hid hB
    have HA := Lib.hid ha
    have Hb := Lib.hid hb
    have Hall := Lib.hid hall
    clear hB ha hb hall
    by_cases hk9 : k < 9
    · have hg := fun w => run_index9 b k hk9 w
      unfold lit9 at hg
      have ck := cell_of_block HA.out (lit9_get a k hk9)
      have hki : (k : Int) < 9 := by omega
      by_cases h1 : a k < b k
      · have hno : covers a b = false := by
          cases h : covers a b with
          | false => rfl
          | true => have := ((covers_iff a b).1 h).2.2 k hk9; omega
        have Hno := Lib.hid hno
        clear hno
        go_wp2_with fail
        go_ret
        exact ⟨by rw [Hno.out]; rfl, HB.out⟩
      · go_wp2_with fail
        go_roundw
        case rel => exact ⟨k + 1, by omega, by go_num, fun j hj => by rcases Nat.lt_or_eq_of_le (Nat.lt_succ_iff.1 hj) with h | rfl; exact Hall.out j h; omega, HB.out, HA.out, Hb.out⟩
        case measure => simp [intOf]; omega
    · obtain rfl : k = 9 := by omega
      have ha := HA.out
      have hb := Hb.out
      obtain ⟨a0, a1, a2, a3, a4, a5, a6, a7, a8⟩ := vec9 ha
      clear ha hb
      have hcov : covers a b = (vecOk a && vecOk b) := by
        rw [Bool.eq_iff_iff, covers_iff, Bool.and_eq_true]
        exact ⟨fun h => ⟨h.1, h.2.1⟩, fun h => ⟨h.1, h.2, Hall.out⟩⟩
      have Hcov := Lib.hid hcov
      clear hcov
      go_wp2_with fail
      refine (right_any a _).mono ?_
      rintro e w2 ⟨rfl, hb2⟩
      have hb := (hb2.block _ (block_lt Hb.out)).trans Hb.out
      have HB := Lib.hid (HB.out.trans (hb2.mono HB.out.size))
      obtain ⟨b0, b1, b2, b3, b4, b5, b6, b7, b8⟩ := vec9 hb
      clear a0 a1 a2 a3 a4 a5 a6 a7 a8 hb hb2
      cases hva : vecOk a
      · go_wp2_with fail
        go_ret
        exact ⟨by rw [Hcov.out, hva]; rfl, HB.out⟩
      · go_wp2_with fail
        refine (right_any b _).mono ?_
        rintro e w3 ⟨rfl, hb3⟩
        go_wp2_with fail
        go_ret
        exact ⟨by rw [Hcov.out, hva]; rfl, HB.out.trans (hb3.mono HB.out.size)⟩
end Go.Proofs.Ytppaheekpmgifaa
