/- Package ident: hand.see, See. -/
import Derived.Test.YtppaheekpmgifaaDoorIdN
namespace Go.Proofs.YtppaheekpmgifaaDoor
set_option linter.unusedSimpArgs false
set_option linter.unusedVariables false
open Go.RowKit Go.Shelf

set_option maxRecDepth 100000 in
set_option maxHeartbeats 1000000 in
theorem handSee_ok (H : Nat) (c : ClkT) (t : Int) (ht : t ≤ 4611686018427387904) (w : World) (hH : w.heap[H]? = some (.cells c.cells 92 (0, 0))) :
    Calls Tryd.prog 44 #[.pointer (some ⟨H, 0, none⟩), .int .u64 t] w fun e w' => e = .returned (.tuple #[]) ∧ w'.heap[H]? = some (.cells (ClkT.cells ⟨c.site, max c.time t, c.seq⟩) 92 (0, 0)) ∧ But H w.heap.size w w' := by
  obtain ⟨c1, c2, c3⟩ := c
  have HH := Lib.hid hH
  have c1' := cell_of_block (k := 1) (v := .int .u64 c2) hH rfl
  have fH := free_of_block hH
  clear hH
  have lH := Lib.hid (block_lt HH.out)
  go_enter Tryd.func44, Tryd.ntmps44
  go_wp2_with fail
  refine (iNeed_ok _ _).mono ?_
  rintro e w2 ⟨rfl, rfl⟩
  go_wp2_with fail
  go_end0
  exact ⟨rfl, heap_set_same (k := 1) HH.out _, Below.setCell (Below.refl _ _) (Nat.zero_le _) _, fun k hk hkp => Below.heap_setCell _ _ _ _ hkp⟩

set_option maxRecDepth 100000 in
theorem handSee_no (H : Nat) (t : Int) (ht : decide (t ≤ 4611686018427387904) = false) (w : World) :
    Calls Tryd.prog 44 #[.pointer (some ⟨H, 0, none⟩), .int .u64 t] w fun e w' => Panics 2 e ∧ w = w' := by
  go_enter Tryd.func44, Tryd.ntmps44
  go_wp2_with fail
  refine (iNeed_no _ _).mono ?_
  rintro e w2 ⟨rfl, rfl⟩
  refine ⟨rfl, ?_, rfl⟩
  unfold Panics
  rfl

def seeTo (ts : Nat → Int) (t0 : Int) : Nat → Int
  | 0 => t0
  | k + 1 => max (seeTo ts t0 k) (ts k)
def timesOk (ts : Nat → Int) (n : Nat) : Prop := ∀ j, j < n → ts j ≤ 4611686018427387904

set_option maxRecDepth 100000 in
set_option maxHeartbeats 1000000 in
theorem seeFn_any (H p n cap : Nat) (a : Option Addr) (hne : p ≠ H) (hn : n ≤ 1000000000) (ts : Nat → Int) (c : ClkT) (w : World) (hH : w.heap[H]? = some (.cells c.cells 92 (0, 0)))
    (hp : w.heap[p]? = some (.cells #[.slice a n cap] 38 (0, 0)))
    (hE : ∀ wr, But H w.heap.size w wr → Elems wr (.slice a n cap) n 1 (fun j => .int .u64 (ts j))) :
    Calls Tryd.prog 43 #[.pointer (some ⟨H, 0, none⟩), .pointer (some ⟨p, 0, none⟩)] w fun e w' =>
      ((timesOk ts n ∧ e = .returned (.tuple #[]) ∧ w'.heap[H]? = some (.cells (ClkT.cells ⟨c.site, seeTo ts c.time n, c.seq⟩) 92 (0, 0))) ∨ (¬ timesOk ts n ∧ Panics 2 e)) ∧ But H w.heap.size w w' := by
  have hmf : ∀ (fn : Fn) (first cap : Array Value) (w : World), (Instr.makeFunc fn first cap).run Tryd.prog w = .ok (.func fn first cap) w := fun _ _ _ _ => rfl
  have lH := Lib.hid (block_lt hH)
  have HH := Lib.hid hH
  have HE := Lib.hid hE
  have HP := Lib.hid hp
  have d0 := cell_of_block (k := 0) (v := .slice a n cap) hp rfl
  clear hH hE hp
  obtain ⟨c1, c2, c3⟩ := c
  go_enter Tryd.func43, Tryd.ntmps43
  go_wp2_with fail
  clear d0
  go_loopw [10] (fun i wr => ∃ k : Nat, k ≤ n ∧ i = .int .i64 k ∧ (∀ j, j < k → ts j ≤ 4611686018427387904) ∧ wr.heap[H]? = some (.cells (ClkT.cells ⟨c1, seeTo ts c2 k, c3⟩) 92 (0, 0)) ∧ But H w.heap.size w wr) (fun i _ => n - (intOf i).toNat)
  case atStart => exact ⟨0, Nat.zero_le _, rfl, (fun j hj => absurd hj (by omega)), HH.out, Below.refl _ _, fun _ _ _ => rfl⟩
  case round =>
    obtain ⟨k, hk, rfl, hall, hh, hb⟩ := hrel
    have HA := Lib.hid hall
    have HK := Lib.hid hh
    have HB := Lib.hid hb
    clear hall hh hb
    by_cases hkn : k < n
    · obtain ⟨b', off, cap', e, hlt, hc⟩ := (HE.out _ HB.out).resolve_left (fun h => by omega)
      cases e
      have f0 := hc k (by omega)
      clear hc
      have l' := Lib.hid (block_lt HK.out)
      by_cases ht : ts k ≤ 4611686018427387904
      · have Ht := Lib.hid ht
        clear ht
        go_wp2_with fail
        refine (handSee_ok H _ _ Ht.out _ HK.out).mono ?_
        rintro e w2 ⟨rfl, h1, h2, h3⟩
        have K1 := Lib.hid h1
        have K2 := Lib.hid h2
        have K3 := Lib.hid h3
        clear h1 h2 h3
        go_wp2_with fail
        go_roundw
        case rel =>
          refine ⟨k + 1, hkn, by go_num, fun j hj => ?_, K1.out, HB.out.1.trans K2.out, fun q hq hqH => (K3.out q (by have := HB.out.1.size; omega) hqH).trans (HB.out.2 q hq hqH)⟩
          rcases Nat.lt_or_ge j k with h | h
          · exact HA.out j h
          · obtain rfl : j = k := by omega
            exact Ht.out
        case measure => simp [intOf]; omega
      · have Ht := Lib.hid (show ¬ timesOk ts n from fun h => ht (h k hkn))
        have Hd := Lib.hid (show decide (ts k ≤ 4611686018427387904) = false by simpa using ht)
        clear ht
        go_wp2_with fail
        refine (handSee_no H _ Hd.out _).mono ?_
        rintro e w2 ⟨he, rfl⟩
        unfold Panics at he
        subst he
        exact ⟨rfl, .inr ⟨Ht.out, rfl⟩, HB.out⟩
    · obtain rfl : k = n := by omega
      go_wp2_with fail
      go_end0
      exact ⟨.inl ⟨HA.out, rfl, HK.out⟩, HB.out⟩
end Go.Proofs.YtppaheekpmgifaaDoor
