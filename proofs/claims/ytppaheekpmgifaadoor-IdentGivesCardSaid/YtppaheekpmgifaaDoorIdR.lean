/- The document's See. -/
import Derived.Test.YtppaheekpmgifaaDoorIdQ
namespace Go.Proofs.YtppaheekpmgifaaDoor
set_option linter.unusedSimpArgs false
set_option linter.unusedVariables false
open Go.RowKit Go.Shelf

set_option maxRecDepth 100000 in
set_option maxHeartbeats 1000000 in
theorem refSee_any (c : ClkT) (ts : Nat → Int) (n : Nat) (sv : Value) (hn : n ≤ 1000000000) (w : World) (hE : Elems w sv n 1 (fun j => .int .u64 (ts j))) :
    Calls Tryd.prog 23 #[c.val, sv] w (Gives (.tuple #[ClkT.val (if timesB ts n then ⟨c.site, seeTo ts c.time n, c.seq⟩ else clk0), .bool (timesB ts n)]) w) := by
  obtain ⟨a, cap, rfl, hs⟩ := hE.shape
  clear hs
  have lE := Lib.hid hE
  clear hE
  obtain ⟨c1, c2, c3⟩ := c
  obtain ⟨V, hV⟩ : ∃ V, Value.tuple #[ClkT.val (if timesB ts n then ⟨c1, seeTo ts c2 n, c3⟩ else clk0), .bool (timesB ts n)] = V := ⟨_, rfl⟩
  rw [hV]
  have HV := Lib.hid hV
  clear hV
  unfold ClkT.val
  go_enter Tryd.func23, Tryd.ntmps23
  go_wp2_with fail
  have HB := Lib.hid (((Below.refl w.heap.size w).alloc (Nat.le_refl _) (.cells #[.int .i64 c1, .int .u64 c2, .int .u64 c3] 41)).alloc (by simp) (.cells #[.int .i64 0, .int .u64 0, .int .u64 0] 41))
  have H0 := Lib.hid (heap_alloc_keeps (World.alloc_heap_new w (.cells #[.int .i64 c1, .int .u64 c2, .int .u64 c3] 41)) (.cells #[.int .i64 0, .int .u64 0, .int .u64 0] 41))
  have H1 := Lib.hid (newBlock (w.alloc (.cells #[.int .i64 c1, .int .u64 c2, .int .u64 c3] 41)) (.cells #[.int .i64 0, .int .u64 0, .int .u64 0] 41) (w.heap.size + 1) (by simp))
  go_loopw [10] (fun i wr => ∃ k : Nat, k ≤ n ∧ i = .int .i64 k ∧ (∀ j, j < k → ts j ≤ 4611686018427387904) ∧ wr.heap[w.heap.size]? = some (.cells #[.int .i64 c1, .int .u64 (seeTo ts c2 k), .int .u64 c3] 41 (0, 0)) ∧ wr.heap[w.heap.size + 1]? = some (.cells #[.int .i64 0, .int .u64 0, .int .u64 0] 41 (0, 0)) ∧ Below w.heap.size w wr) (fun i _ => n - (intOf i).toNat)
  case atStart => exact ⟨0, Nat.zero_le _, rfl, (fun j hj => absurd hj (by omega)), H0.out, H1.out, HB.out⟩
  case round =>
    obtain ⟨k, hk, rfl, hall, hh, hg, hb⟩ := hrel
    clear HB H0 H1
    have HA := Lib.hid hall
    have HK := Lib.hid hh
    have HG := Lib.hid hg
    have HB := Lib.hid hb
    clear hall hb
    have e0 := cell_of_block (k := 0) (v := .int .i64 0) hg rfl
    have e1 := cell_of_block (k := 1) (v := .int .u64 0) hg rfl
    have e2 := cell_of_block (k := 2) (v := .int .u64 0) hg rfl
    have fy := free_of_block hg
    have d0 := cell_of_block (k := 0) (v := .int .i64 c1) hh rfl
    have d1 := cell_of_block (k := 1) (v := .int .u64 (seeTo ts c2 k)) hh rfl
    have d2 := cell_of_block (k := 2) (v := .int .u64 c3) hh rfl
    have fz := free_of_block hh
    clear hh hg
    by_cases hkn : k < n
    · obtain ⟨b', off, cap', e, hlt, hc⟩ := (lE.out.below HB.out).resolve_left (fun h => by omega)
      cases e
      have f0 := hc k (by omega)
      clear hc
      by_cases ht : ts k ≤ 4611686018427387904
      · have Ht := Lib.hid ht
        have ht' : decide (4611686018427387904 < ts k) = false := by simpa using ht
        by_cases hm : seeTo ts c2 k < ts k
        · have hmx : seeTo ts c2 (k + 1) = ts k := by show max _ _ = _; omega
          have Hmx := Lib.hid hmx
          clear hmx ht
          go_wp2_with fail
          go_roundw
          case rel =>
            refine ⟨k + 1, hkn, by go_num, fun j hj => ?_, ?_, heap_set_other HG.out (by omega) _, Below.setCell HB.out (Nat.le_refl _) _⟩
            · rcases Nat.lt_or_ge j k with h | h
              · exact HA.out j h
              · obtain rfl : j = k := by omega
                exact Ht.out
            · rw [Hmx.out]
              exact heap_set_same (k := 1) HK.out _
          case measure => simp [intOf]; omega
        · have hmx : seeTo ts c2 (k + 1) = seeTo ts c2 k := by show max _ _ = _; omega
          have Hmx := Lib.hid hmx
          have hm' : decide (seeTo ts c2 k < ts k) = false := by simpa using hm
          clear hmx ht hm
          go_wp2_with fail
          go_roundw
          case rel =>
            refine ⟨k + 1, hkn, by go_num, fun j hj => ?_, ?_, HG.out, HB.out⟩
            · rcases Nat.lt_or_ge j k with h | h
              · exact HA.out j h
              · obtain rfl : j = k := by omega
                exact Ht.out
            · rw [Hmx.out]
              exact HK.out
          case measure => simp [intOf]; omega
      · have ht2 : timesB ts n = false := by
          cases h : timesB ts n with
          | false => rfl
          | true => exact absurd ((timesB_iff ts n).1 h k hkn) ht
        have Ht := Lib.hid ht2
        have ht' : decide (4611686018427387904 < ts k) = true := by simpa using ht
        clear ht ht2
        go_wp2_with fail
        refine bodyPost_ret (v := .tuple #[.agg #[.int .i64 0, .int .u64 0, .int .u64 0], .bool false]) (by simp [results, Tryd.results23, go_sem, e0, e1, e2]) rfl ⟨by rw [← HV.out, Ht.out]; rfl, ?_⟩
        exact below_set3 HB.out (by omega)
    · obtain rfl : k = n := by omega
      have ht2 : timesB ts k = true := (timesB_iff ts k).2 HA.out
      have Ht := Lib.hid ht2
      clear ht2
      go_wp2_with fail
      refine bodyPost_ret (v := .tuple #[.agg #[.int .i64 c1, .int .u64 (seeTo ts c2 k), .int .u64 c3], .bool true]) (by simp [results, Tryd.results23, go_sem, e0, e1, e2]) rfl ⟨by rw [← HV.out, Ht.out]; rfl, ?_⟩
      exact below_set3 HB.out (by omega)
end Go.Proofs.YtppaheekpmgifaaDoor
