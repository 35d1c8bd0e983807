/- The document's answer for vectors: Many. -/
import Derived.Test.YtppaheekpmgifaaRefB
import Derived.Test.YtppaheekpmgifaaFillsA
namespace Go.Proofs.Ytppaheekpmgifaa
set_option linter.unusedSimpArgs false
set_option linter.unusedVariables false
open Go.RowKit Go.Shelf

set_option maxRecDepth 100000 in
set_option maxHeartbeats 1000000 in
theorem refMany_any (l : List StrT) (hso : StrOk l) (hlen : l.length ≤ 1000000) (sv : Value) (w : World) (he : Elems w sv l.length 3 (strCells l)) :
    Calls Try.prog 24 #[sv] w (Gives (.int .u64 (manyOf l)) w) := by
  obtain ⟨sa, cap, rfl, hs⟩ := he.shape
  have Hs := Lib.hid hs
  have Hso := Lib.hid hso
  clear hs hso he
  go_enter Try.func24, Try.ntmps24
  go_wp2_with fail
  go_loopw [3, 9] (fun s i wr => ∃ k : Nat, k ≤ l.length ∧ i = .int .i64 k ∧ s = .int .u64 (MaxT - manyTo l k) ∧ Below w.heap.size w wr) (fun _ i _ => l.length - (intOf i).toNat)
  case atStart => exact ⟨0, Nat.zero_le _, rfl, rfl, Below.refl _ _⟩
  case round =>
    obtain ⟨k, hk, rfl, rfl, hbl⟩ := hrel
    have Hbl := Lib.hid hbl
    clear hbl
    by_cases hkn : k < l.length
    · obtain ⟨b', off, rfl, hlt, hc⟩ := Hs.out.resolve_left (by omega)
      have hk' : l[k]? = some l[k] := List.getElem?_eq_getElem hkn
      obtain ⟨f0, f1, f2⟩ := strElem (fun j hj => (Hbl.out.cell (p := ⟨b', off + j, none⟩) hlt).trans (hc j hj)) hk'
      have hs1 := Hso.out _ (List.getElem_mem hkn)
      have hmb := manyTo_bd Hso.out k
      have hms : manyTo l (k + 1) = min (manyTo l k + (l[k].upto - l[k].fr + 1)) MaxT := by
        simp only [manyTo, hk', Option.map_some, Option.getD_some]
      have hle := manyTo_le Hso.out l.length (k + 1) hkn
      have hup := (manyTo_bd Hso.out l.length).2
      unfold MaxT at hms hmb hs1 hup
      generalize l[k] = s at *
      obtain ⟨s1, s2, s3⟩ := s
      dsimp only at f0 f1 f2 hs1 hms
      obtain ⟨q1, q2, q3⟩ := hs1
      obtain ⟨m1, m2⟩ := hmb
      have Hms := Lib.hid hms
      have Hle := Lib.hid hle
      have Hup := Lib.hid hup
      clear hc hk' hms hle hup
      unfold MaxT
      by_cases hge : 4611686018427387904 - manyTo l k ≤ s3 - s2 + 1
      · have hfull : manyOf l = 4611686018427387904 := by unfold manyOf; have := Hms.out; have := Hle.out; have := Hup.out; omega
        have Hf := Lib.hid hfull
        clear hfull
        go_wp2_with fail
        go_ret
        exact ⟨by rw [Hf.out]; rfl, Hbl.out.alloc Hbl.out.size _⟩
      · go_wp2_with fail
        go_roundw
        case rel =>
          refine ⟨k + 1, hkn, by go_num, ?_, Hbl.out.alloc Hbl.out.size _⟩
          congr 1
          have := Hms.out
          omega
        case measure => simp [intOf]; omega
    · obtain rfl : k = l.length := by omega
      have hmb := manyTo_bd Hso.out l.length
      unfold MaxT at hmb
      unfold MaxT
      go_wp2_with fail
      go_ret
      refine ⟨?_, Hbl.out⟩
      show Ending.returned (.int .u64 (4611686018427387904 - (4611686018427387904 - manyTo l l.length))) = _
      rw [show (4611686018427387904 : Int) - (4611686018427387904 - manyTo l l.length) = manyOf l from by unfold manyOf; omega]
end Go.Proofs.Ytppaheekpmgifaa
