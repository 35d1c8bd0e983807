/- The document's part: the number of a row of digits. -/
import Derived.Test.YtppaheekpmgifaaDoorIdS
import Derived.Test.YtppaheekpmgifaaDoorByte
namespace Go.Proofs.YtppaheekpmgifaaDoor
set_option linter.unusedSimpArgs false
set_option linter.unusedVariables false
open Go.RowKit Go.Shelf

set_option maxRecDepth 100000 in
set_option maxHeartbeats 1000000 in
theorem refPart_any (s : ByteArray) (hs : s.size ≤ 1000000000) (w : World) : Calls Tryd.prog 38 #[.string s] w fun e w' =>
    (((∀ j, j < s.size → digAt s j) ∧ e = .returned (.tuple #[.int .u64 (partN s s.size : Int), .bool (decide (1 ≤ s.size) && decide (s.size ≤ 19))])) ∨ ((¬ ∀ j, j < s.size → digAt s j) ∧ e = .returned (.tuple #[.int .u64 0, .bool false]))) ∧ Below w.heap.size w w' := by
  go_enter Tryd.func38, Tryd.ntmps38
  go_wp2_with fail
  go_loopw [4, 8] (fun m i wr => ∃ k : Nat, k ≤ s.size ∧ i = .int .i64 k ∧ m = .int .u64 (partN s k : Int) ∧ (∀ j, j < k → digAt s j) ∧ Below w.heap.size w wr) (fun _ i _ => s.size - (intOf i).toNat)
  case atStart => exact ⟨0, Nat.zero_le _, rfl, rfl, (fun j hj => absurd hj (by omega)), Below.refl _ _⟩
  case round =>
    obtain ⟨k, hk, rfl, rfl, hall, hb⟩ := hrel
    have HA := Lib.hid hall
    have HB := Lib.hid hb
    have HP := Lib.hid (partN_lt s k hall).1
    clear hall hb
    by_cases hkn : k < s.size
    · have hg := run_index_byte s k hkn
      have HG := Lib.hid hg
      have hstep : partN s (k + 1) = if k < 19 then 10 * partN s k + (byteAt s k - 48) else partN s k := rfl
      have HS := Lib.hid hstep
      clear hstep
      clear hg
      by_cases hd : digAt s k
      · have HD := Lib.hid hd
        have g1 : decide ((byteAt s k : Int) < 48) = false := by have := hd.1; simp; omega
        have g2 : decide ((57 : Int) < (byteAt s k : Int)) = false := by have := hd.2; simp; omega
        have hb1 : 48 ≤ byteAt s k := hd.1
        have hb2 : byteAt s k ≤ 57 := hd.2
        clear hd
        have hg := fun w => HG.out w
        by_cases hk19 : k < 19
        · have hp : partN s k < 10 ^ 18 := Nat.lt_of_lt_of_le ((partN_lt s k HA.out).2 (by omega)) (Nat.pow_le_pow_right (by omega) (by omega))
          have hS : partN s (k + 1) = 10 * partN s k + (byteAt s k - 48) := by rw [HS.out, if_pos hk19]
          have HS2 := Lib.hid hS
          have u1 : IntKind.u64.wrap (10 * (partN s k : Int)) = 10 * (partN s k : Int) := by rw [IntKind.wrap_u64]; omega
          have u2 : IntKind.u8.wrap ((byteAt s k : Int) - 48) = (byteAt s k : Int) - 48 := by rw [IntKind.wrap_u8]; omega
          have u3 : IntKind.u64.wrap ((byteAt s k : Int) - 48) = (byteAt s k : Int) - 48 := by rw [IntKind.wrap_u64]; omega
          have u4 : IntKind.u64.wrap (10 * (partN s k : Int) + ((byteAt s k : Int) - 48)) = 10 * (partN s k : Int) + ((byteAt s k : Int) - 48) := by rw [IntKind.wrap_u64]; omega
          have HB1 := Lib.hid hb1
          clear hp hS hb1 hb2
          go_wp2_with fail
          go_roundw
          case rel =>
            refine ⟨k + 1, hkn, by go_num, ?_, fun j hj => ?_, HB.out⟩
            · rw [HS2.out]
              have := HB1.out
              congr 1
              omega
            · rcases Nat.lt_or_ge j k with h | h
              · exact HA.out j h
              · obtain rfl : j = k := by omega
                exact HD.out
          case measure => simp [intOf]; omega
        · have hS : partN s (k + 1) = partN s k := by rw [HS.out, if_neg hk19]
          have HS2 := Lib.hid hS
          have g3 : decide ((k : Int) < 19) = false := by simp; omega
          clear hS hk19 hb1 hb2
          go_wp2_with fail
          go_roundw
          case rel =>
            refine ⟨k + 1, hkn, by go_num, by rw [HS2.out], fun j hj => ?_, HB.out⟩
            rcases Nat.lt_or_ge j k with h | h
            · exact HA.out j h
            · obtain rfl : j = k := by omega
              exact HD.out
          case measure => simp [intOf]; omega
      · have HN := Lib.hid (show ¬ ∀ j, j < s.size → digAt s j from fun h => hd (h k hkn))
        have hg := fun w => HG.out w
        by_cases hlo : byteAt s k < 48
        · have g1 : decide ((byteAt s k : Int) < 48) = true := by simp; omega
          clear hd hlo
          go_wp2_with fail
          exact bodyPost_ret (v := .tuple #[.int .u64 0, .bool false]) (by simp [results, Tryd.results38, go_sem]) rfl ⟨.inr ⟨HN.out, rfl⟩, HB.out⟩
        · have g1 : decide ((byteAt s k : Int) < 48) = false := by simp; omega
          have g2 : decide ((57 : Int) < (byteAt s k : Int)) = true := by unfold digAt at hd; simp; omega
          clear hd hlo
          go_wp2_with fail
          exact bodyPost_ret (v := .tuple #[.int .u64 0, .bool false]) (by simp [results, Tryd.results38, go_sem]) rfl ⟨.inr ⟨HN.out, rfl⟩, HB.out⟩
    · have hks : k = s.size := by omega
      have HKS := Lib.hid hks
      clear hk
      by_cases z1 : 1 ≤ s.size
      · by_cases z2 : s.size ≤ 19
        · have HZ := Lib.hid (show (decide (1 ≤ s.size) && decide (s.size ≤ 19)) = true by simp [z1, z2])
          have y1 : decide ((1 : Int) ≤ (s.size : Int)) = true := by simp; omega
          have y2 : decide ((s.size : Int) ≤ 19) = true := by simp; omega
          clear z1 z2
          go_wp2_with fail
          refine bodyPost_ret (v := .tuple #[.int .u64 (partN s k : Int), .bool true]) (by simp [results, Tryd.results38, go_sem]) rfl ⟨.inl ⟨fun j hj => HA.out j (by have := HKS.out; omega), by rw [HZ.out, HKS.out]⟩, HB.out⟩
        · have HZ := Lib.hid (show (decide (1 ≤ s.size) && decide (s.size ≤ 19)) = false by simp [z2])
          have y1 : decide ((1 : Int) ≤ (s.size : Int)) = true := by simp; omega
          have y2 : decide ((s.size : Int) ≤ 19) = false := by simp; omega
          clear z1 z2
          go_wp2_with fail
          refine bodyPost_ret (v := .tuple #[.int .u64 (partN s k : Int), .bool false]) (by simp [results, Tryd.results38, go_sem]) rfl ⟨.inl ⟨fun j hj => HA.out j (by have := HKS.out; omega), by rw [HZ.out, HKS.out]⟩, HB.out⟩
      · have HZ := Lib.hid (show (decide (1 ≤ s.size) && decide (s.size ≤ 19)) = false by simp [z1])
        have y1 : decide ((1 : Int) ≤ (s.size : Int)) = false := by simp; omega
        clear z1
        go_wp2_with fail
        refine bodyPost_ret (v := .tuple #[.int .u64 (partN s k : Int), .bool false]) (by simp [results, Tryd.results38, go_sem]) rfl ⟨.inl ⟨fun j hj => HA.out j (by have := HKS.out; omega), by rw [HZ.out, HKS.out]⟩, HB.out⟩
end Go.Proofs.YtppaheekpmgifaaDoor
