/- The document's digits. -/
import Derived.Test.YtppaheekpmgifaaDoorIdR
namespace Go.Proofs.YtppaheekpmgifaaDoor
set_option linter.unusedSimpArgs false
set_option linter.unusedVariables false
open Go.RowKit Go.Shelf Go.Sort Go.Lib

set_option maxRecDepth 100000 in
set_option maxHeartbeats 1000000 in
theorem refDigits_any (u : Nat) : ∀ (hu : u < 18446744073709551616) (w : World), Calls Tryd.prog 37 #[.int .u64 (u : Int)] w (Gives (str (Lib.decDigits u)) w) := by
  induction u using Nat.strongRecOn with
  | ind u ih =>
    intro hu w
    have HU := Lib.hid hu
    have IH := Lib.hid ih
    clear hu ih
    have hd : (u % 10) < 10 := Nat.mod_lt _ (by omega)
    have hcv : (convert 88 9 (.slice (some ⟨w.heap.size, 0, none⟩) 1 1)).run Tryd.prog (w.alloc (.cells #[.int .u8 (48 + (u : Int) % 10)] 5)) = .ok (.string ⟨[UInt8.ofNat (48 + u % 10)].toArray⟩) (w.alloc (.cells #[.int .u8 (48 + (u : Int) % 10)] 5)) := by
      refine run_convert_bytes_back (P := Tryd.prog) (w.alloc (.cells #[.int .u8 (48 + (u : Int) % 10)] 5)) 88 9 5 ⟨w.heap.size, 0, none⟩ 1 [UInt8.ofNat (48 + u % 10)] (by kernel_rfl) (by kernel_rfl) (by kernel_rfl) (fun j hj => ?_)
      obtain rfl : j = 0 := by simp at hj; omega
      rw [Lib.add_plain, World.cell?_alloc_new]
      simp
      omega
    by_cases h9 : u < 10
    · have hdd : Lib.decDigits u = [UInt8.ofNat (48 + u % 10)] := by rw [Lib.decDigits_one h9, show u % 10 = u from by omega]
      have h9' : decide ((9 : Int) < (u : Int)) = false := by simp; omega
      clear h9
      generalize UInt8.ofNat (48 + u % 10) = D at *
      have Hd := Lib.hid hdd
      clear hdd
      go_enter Tryd.func37, Tryd.ntmps37
      go_wp2_with fail
      go_ret
      exact ⟨by rw [Hd.out]; rfl, by (repeat (first | exact Below.refl _ _ | assumption | refine Below.alloc ?_ (by first | omega | (simp; done) | (simp; omega)) _ | refine Below.setCell ?_ (by first | omega | (simp; done) | (simp; omega)) _ | refine Below.drew ?_))⟩
    · have hdd : Lib.decDigits u = Lib.decDigits (u / 10) ++ [UInt8.ofNat (48 + u % 10)] := by rw [Lib.decDigits, dif_neg h9]
      have h9' : decide ((9 : Int) < (u : Int)) = true := by simp; omega
      generalize UInt8.ofNat (48 + u % 10) = D at *
      have Hd := Lib.hid hdd
      have hlt := Lib.hid (show u / 10 < u by omega)
      have hl20 := Lib.hid (show (Lib.decDigits (u / 10)).length ≤ 20 by rw [Lib.decDigits_length]; exact Lib.nDigits_le20 _ (by have := HU.out; omega))
      have hq : IntKind.u64.wrap ((u : Int) / 10) = ((u / 10 : Nat) : Int) := by rw [IntKind.wrap_u64]; have := HU.out; omega
      have HQ := Lib.hid hq
      clear h9 hdd hq
      go_enter Tryd.func37, Tryd.ntmps37
      go_wp2_with fail
      rw [HQ.out]
      refine (IH.out (u / 10) hlt.out (by have := HU.out; omega) _).mono ?_
      rintro e w2 ⟨rfl, hb⟩
      have HB := Lib.hid (((Below.refl w.heap.size w).alloc (Nat.le_refl _) (.cells #[.int .u8 (48 + (u : Int) % 10)] 5)).trans (hb.mono (by simp)))
      clear hb hcv
      go_wp2_with fail
      · exfalso
        rename_i hx
        have := hl20.out
        (try simp at hx)
        omega
      · go_ret
        refine ⟨?_, HB.out⟩
        rw [Hd.out]
        simp
        apply ByteArray.ext
        simp
end Go.Proofs.YtppaheekpmgifaaDoor
