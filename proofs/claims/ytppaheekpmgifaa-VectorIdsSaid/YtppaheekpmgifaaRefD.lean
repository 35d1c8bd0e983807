/- The document's answer for vectors: Join, Meet. -/
import Derived.Test.YtppaheekpmgifaaRefC
import Derived.Test.YtppaheekpmgifaaVecF
namespace Go.Proofs.Ytppaheekpmgifaa
set_option linter.unusedSimpArgs false
set_option linter.unusedVariables false
open Go.RowKit Go.Shelf

/-- Are a vector, and the first k of a row, vectors that may be? -/
def okTo (v : Nat → Int) (x : Nat → Nat → Int) : Nat → Bool
  | 0 => vecOk v
  | k + 1 => okTo v x k && vecOk (x k)
theorem okTo_iff (v : Nat → Int) (x : Nat → Nat → Int) (n : Nat) : okTo v x n = true ↔ vecOk v = true ∧ ∀ i, i < n → vecOk (x i) = true := by
  induction n with
  | zero => simp [okTo]
  | succ n ih =>
    rw [okTo, Bool.and_eq_true, ih]
    constructor
    · rintro ⟨⟨h, h1⟩, h2⟩
      refine ⟨h, fun i hi => ?_⟩
      rcases Nat.lt_or_eq_of_le (Nat.lt_succ_iff.1 hi) with hl | rfl
      · exact h1 i hl
      · exact h2
    · rintro ⟨h, h1⟩
      exact ⟨⟨h, fun i hi => h1 i (by omega)⟩, h1 n (by omega)⟩
theorem mergeTo_keep (f : Int → Int → Int) (v : Nat → Int) (x : Nat → Nat → Int) (i j : Nat) (h : f (mergeN f v x i j) (x i j) = mergeN f v x i j) : mergeTo f v x i j = mergeTo f v x i (j + 1) := by
  rw [← mergeTo_succ]
  funext s
  unfold upd
  by_cases hs : s = j
  · subst hs; rw [if_pos rfl, mergeTo_here, h]
  · rw [if_neg hs]

set_option maxRecDepth 100000 in
set_option maxHeartbeats 4000000 in
theorem refJoin_any (v : Nat → Int) (sv : Value) (n : Nat) (x : Nat → Nat → Int) (w : World) (hn : n ≤ 1000000) (he : Elems w sv n 9 (vecCells x)) :
    Calls Try.prog 19 #[vecV v, sv] w (Gives (.tuple #[vecV (mergeN max v x n), .bool (okTo v x n)]) w) := by
  obtain ⟨sa, cap, rfl, hs⟩ := he.shape
  have Hs := Lib.hid hs
  clear hs he
  go_enter Try.func19, Try.ntmps19
  simp only [vecV, lit9]
  go_wp2_with fail
  have hbv := heap_alloc_keeps (World.alloc_heap_new w (.cells (lit9 v) 24)) (.cells (lit9 fun _ => 0) 24)
  obtain ⟨b0, b1, b2, b3, b4, b5, b6, b7, b8⟩ := vec9 hbv
  have hbr := newBlock (w.alloc (.cells (lit9 v) 24)) (.cells (lit9 fun _ => 0) 24) (w.heap.size + 1) (by simp)
  have Hbv := Lib.hid hbv
  have Hbr := Lib.hid hbr
  clear hbv hbr
  go_wp2_with fail
  refine (right_any v _).mono ?_
  rintro e w1 ⟨rfl, hb⟩
  have hB : Below w.heap.size w w1 := (((Below.refl w.heap.size w).alloc (Nat.le_refl _) _).alloc (by simp) _).trans (hb.mono (by simp; omega))
  have hbv : w1.heap[w.heap.size]? = some (.cells (lit9 (mergeN max v x 0)) 24 (0, 0)) := (hb.block _ (block_lt Hbv.out)).trans Hbv.out
  have hbr : w1.heap[w.heap.size + 1]? = some (.cells (lit9 fun _ => 0) 24 (0, 0)) := (hb.block _ (block_lt Hbr.out)).trans Hbr.out
  clear b0 b1 b2 b3 b4 b5 b6 b7 b8 hb Hbv Hbr
  have HB := Lib.hid hB
  have Hbv := Lib.hid hbv
  have Hbr := Lib.hid hbr
  clear hB hbv hbr
  go_wp2_with fail
  go_loopw [6, 15] (fun o i wr => ∃ k : Nat, k ≤ n ∧ i = .int .i64 k ∧ o = .bool (okTo v x k) ∧ Below w.heap.size w wr ∧ wr.heap[w.heap.size]? = some (.cells (lit9 (mergeN max v x k)) 24 (0, 0)) ∧ wr.heap[w.heap.size + 1]? = some (.cells (lit9 fun _ => 0) 24 (0, 0))) (fun _ i _ => n - (intOf i).toNat)
  case atStart => exact ⟨0, Nat.zero_le _, rfl, rfl, HB.out, Hbv.out, Hbr.out⟩
  case round =>
    obtain ⟨k, hk, rfl, rfl, hA, hbv, hbr⟩ := hrel
    clear HB Hbv Hbr
    have HA := Lib.hid hA
    have Hbv := Lib.hid hbv
    have Hbr := Lib.hid hbr
    clear hA hbv hbr
    by_cases hkn : k < n
    · obtain ⟨b, off, rfl, hlt, hc⟩ := Hs.out.resolve_left (by omega)
      obtain ⟨e0, e1, e2, e3, e4, e5, e6, e7, e8⟩ := vecElem (fun j hj => (HA.out.cell (p := ⟨b, off + j, none⟩) hlt).trans (hc j hj)) hkn
      obtain ⟨wo, hwo⟩ : ∃ wo : World, wo = wr := ⟨_, rfl⟩
      rw [← hwo] at HA Hbv Hbr e0 e1 e2 e3 e4 e5 e6 e7 e8 ⊢
      clear hwo hc
      have hcase : ∃ ok, okTo v x k = ok := ⟨_, rfl⟩
      obtain ⟨ok, hok⟩ := hcase
      have hok1 : okTo v x (k + 1) = (ok && vecOk (x k)) := by rw [okTo, hok]
      rw [hok]
      have Hok1 := Lib.hid hok1
      clear hok hok1
      have rest : ∀ (w2 : World), Below w.heap.size w w2 → True := fun _ _ => trivial
      clear rest
      cases ok
      case' false =>
        simp only [Bool.false_and] at Hok1
        go_wp2_with fail
        have hA2 := HA.out.alloc HA.out.size (.cells (lit9 (x k)) 24)
        have hbv2 := heap_alloc_keeps Hbv.out (.cells (lit9 (x k)) 24)
        have hbr2 := heap_alloc_keeps Hbr.out (.cells (lit9 (x k)) 24)
      case' true =>
        simp only [Bool.true_and] at Hok1
        go_wp2_with fail
        refine (right_any (x k) _).mono ?_
        rintro e w2 ⟨rfl, hb2⟩
        have hA2 := (HA.out.alloc HA.out.size (.cells (lit9 (x k)) 24)).trans (hb2.mono (by have := HA.out.size; simp; omega))
        have hbv2 := (hb2.block _ (by simp; have := block_lt Hbv.out; omega)).trans (heap_alloc_keeps Hbv.out (.cells (lit9 (x k)) 24))
        have hbr2 := (hb2.block _ (by simp; have := block_lt Hbr.out; omega)).trans (heap_alloc_keeps Hbr.out (.cells (lit9 (x k)) 24))
        have hbx2 := (hb2.block _ (by simp)).trans (World.alloc_heap_new wo (.cells (lit9 (x k)) 24))
        obtain ⟨x0, x1, x2, x3, x4, x5, x6, x7, x8⟩ := vec9 hbx2
        clear hb2 hbx2
        go_wp2_with fail
        clear x0 x1 x2 x3 x4 x5 x6 x7 x8
      all_goals
        clear HA Hbv Hbr e0 e1 e2 e3 e4 e5 e6 e7 e8
        have HA := Lib.hid hA2
        have Hbv := Lib.hid hbv2
        have Hbr := Lib.hid hbr2
        clear hA2 hbv2 hbr2
        go_loopw [25] (fun j wr => ∃ m : Nat, m ≤ 9 ∧ j = .int .i64 m ∧ Below w.heap.size w wr ∧ wr.heap[w.heap.size]? = some (.cells (lit9 (mergeTo max v x k m)) 24 (0, 0)) ∧ wr.heap[w.heap.size + 1]? = some (.cells (lit9 fun _ => 0) 24 (0, 0))) (fun i _ => 9 - (intOf i).toNat)
        case atStart => exact ⟨0, Nat.zero_le _, rfl, HA.out, by rw [mergeTo_zero]; exact Hbv.out, Hbr.out⟩
        case round =>
          obtain ⟨m, hm, rfl, hA, hbv, hbr⟩ := hrel
          clear HA Hbv Hbr
          have HA := Lib.hid hA
          have Hbv := Lib.hid hbv
          have Hbr := Lib.hid hbr
          clear hA hbv hbr
          by_cases hm9 : m < 9
          · have hg := fun w => run_index9 (x k) m hm9 w
            unfold lit9 at hg
            have cv := cell_of_block Hbv.out (lit9_get _ m hm9)
            rw [mergeTo_here] at cv
            have fv := free_of_block Hbv.out m
            have hmi : (m : Int) < 9 := by omega
            by_cases hlt2 : mergeN max v x k m < x k m
            · go_wp2_with fail
              go_roundw
              case rel =>
                refine ⟨m + 1, by omega, by go_num, HA.out.setCell (p := ⟨w.heap.size, m, none⟩) (Nat.le_refl _) _, ?_, heap_set_other Hbr.out (by omega) _⟩
                rw [heap_set_same Hbv.out, lit9_set _ _ _ hm9, ← mergeTo_succ, show max (mergeN max v x k m) (x k m) = x k m from by omega]
              case measure => simp [intOf]; omega
            · go_wp2_with fail
              go_roundw
              case rel => exact ⟨m + 1, by omega, by go_num, HA.out, by rw [← mergeTo_keep _ _ _ _ _ (by omega)]; exact Hbv.out, Hbr.out⟩
              case measure => simp [intOf]; omega
          · obtain rfl : m = 9 := by omega
            go_wp2_with fail
            go_roundw
            case rel =>
              refine ⟨k + 1, by omega, by go_num, by rw [Hok1.out], HA.out, ?_, Hbr.out⟩
              rw [← mergeTo_last]
              exact Hbv.out
            case measure => simp [intOf]; omega
    · obtain rfl : n = k := by omega
      have hbv := Hbv.out
      have hbr := Hbr.out
      obtain ⟨c0, c1, c2, c3, c4, c5, c6, c7, c8⟩ := vec9 hbv
      obtain ⟨d0, d1, d2, d3, d4, d5, d6, d7, d8⟩ := vec9 hbr
      have fr := free_of_block hbr
      clear hbv hbr
      go_wp2_with fail
      refine bodyPost_ret (v := .tuple #[vecV (mergeN max v x n), .bool (okTo v x n)]) (by simp [vecV, lit9, results, Try.results19, go_sem, d0, d1, d2, d3, d4, d5, d6, d7, d8]) rfl ⟨rfl, ?_⟩
      exact below_set9 _ HA.out (by omega)

set_option maxRecDepth 100000 in
set_option maxHeartbeats 4000000 in
theorem refMeet_any (v : Nat → Int) (sv : Value) (n : Nat) (x : Nat → Nat → Int) (w : World) (hn : n ≤ 1000000) (he : Elems w sv n 9 (vecCells x)) :
    Calls Try.prog 20 #[vecV v, sv] w (Gives (.tuple #[vecV (mergeN min v x n), .bool (okTo v x n)]) w) := by
  obtain ⟨sa, cap, rfl, hs⟩ := he.shape
  have Hs := Lib.hid hs
  clear hs he
  go_enter Try.func20, Try.ntmps20
  simp only [vecV, lit9]
  go_wp2_with fail
  have hbv := heap_alloc_keeps (World.alloc_heap_new w (.cells (lit9 v) 24)) (.cells (lit9 fun _ => 0) 24)
  obtain ⟨b0, b1, b2, b3, b4, b5, b6, b7, b8⟩ := vec9 hbv
  have hbr := newBlock (w.alloc (.cells (lit9 v) 24)) (.cells (lit9 fun _ => 0) 24) (w.heap.size + 1) (by simp)
  have Hbv := Lib.hid hbv
  have Hbr := Lib.hid hbr
  clear hbv hbr
  go_wp2_with fail
  refine (right_any v _).mono ?_
  rintro e w1 ⟨rfl, hb⟩
  have hB : Below w.heap.size w w1 := (((Below.refl w.heap.size w).alloc (Nat.le_refl _) _).alloc (by simp) _).trans (hb.mono (by simp; omega))
  have hbv : w1.heap[w.heap.size]? = some (.cells (lit9 (mergeN min v x 0)) 24 (0, 0)) := (hb.block _ (block_lt Hbv.out)).trans Hbv.out
  have hbr : w1.heap[w.heap.size + 1]? = some (.cells (lit9 fun _ => 0) 24 (0, 0)) := (hb.block _ (block_lt Hbr.out)).trans Hbr.out
  clear b0 b1 b2 b3 b4 b5 b6 b7 b8 hb Hbv Hbr
  have HB := Lib.hid hB
  have Hbv := Lib.hid hbv
  have Hbr := Lib.hid hbr
  clear hB hbv hbr
  go_wp2_with fail
  go_loopw [6, 15] (fun o i wr => ∃ k : Nat, k ≤ n ∧ i = .int .i64 k ∧ o = .bool (okTo v x k) ∧ Below w.heap.size w wr ∧ wr.heap[w.heap.size]? = some (.cells (lit9 (mergeN min v x k)) 24 (0, 0)) ∧ wr.heap[w.heap.size + 1]? = some (.cells (lit9 fun _ => 0) 24 (0, 0))) (fun _ i _ => n - (intOf i).toNat)
  case atStart => exact ⟨0, Nat.zero_le _, rfl, rfl, HB.out, Hbv.out, Hbr.out⟩
  case round =>
    obtain ⟨k, hk, rfl, rfl, hA, hbv, hbr⟩ := hrel
    clear HB Hbv Hbr
    have HA := Lib.hid hA
    have Hbv := Lib.hid hbv
    have Hbr := Lib.hid hbr
    clear hA hbv hbr
    by_cases hkn : k < n
    · obtain ⟨b, off, rfl, hlt, hc⟩ := Hs.out.resolve_left (by omega)
      obtain ⟨e0, e1, e2, e3, e4, e5, e6, e7, e8⟩ := vecElem (fun j hj => (HA.out.cell (p := ⟨b, off + j, none⟩) hlt).trans (hc j hj)) hkn
      obtain ⟨wo, hwo⟩ : ∃ wo : World, wo = wr := ⟨_, rfl⟩
      rw [← hwo] at HA Hbv Hbr e0 e1 e2 e3 e4 e5 e6 e7 e8 ⊢
      clear hwo hc
      have hcase : ∃ ok, okTo v x k = ok := ⟨_, rfl⟩
      obtain ⟨ok, hok⟩ := hcase
      have hok1 : okTo v x (k + 1) = (ok && vecOk (x k)) := by rw [okTo, hok]
      rw [hok]
      have Hok1 := Lib.hid hok1
      clear hok hok1
      have rest : ∀ (w2 : World), Below w.heap.size w w2 → True := fun _ _ => trivial
      clear rest
      cases ok
      case' false =>
        simp only [Bool.false_and] at Hok1
        go_wp2_with fail
        have hA2 := HA.out.alloc HA.out.size (.cells (lit9 (x k)) 24)
        have hbv2 := heap_alloc_keeps Hbv.out (.cells (lit9 (x k)) 24)
        have hbr2 := heap_alloc_keeps Hbr.out (.cells (lit9 (x k)) 24)
      case' true =>
        simp only [Bool.true_and] at Hok1
        go_wp2_with fail
        refine (right_any (x k) _).mono ?_
        rintro e w2 ⟨rfl, hb2⟩
        have hA2 := (HA.out.alloc HA.out.size (.cells (lit9 (x k)) 24)).trans (hb2.mono (by have := HA.out.size; simp; omega))
        have hbv2 := (hb2.block _ (by simp; have := block_lt Hbv.out; omega)).trans (heap_alloc_keeps Hbv.out (.cells (lit9 (x k)) 24))
        have hbr2 := (hb2.block _ (by simp; have := block_lt Hbr.out; omega)).trans (heap_alloc_keeps Hbr.out (.cells (lit9 (x k)) 24))
        have hbx2 := (hb2.block _ (by simp)).trans (World.alloc_heap_new wo (.cells (lit9 (x k)) 24))
        obtain ⟨x0, x1, x2, x3, x4, x5, x6, x7, x8⟩ := vec9 hbx2
        clear hb2 hbx2
        go_wp2_with fail
        clear x0 x1 x2 x3 x4 x5 x6 x7 x8
      all_goals
        clear HA Hbv Hbr e0 e1 e2 e3 e4 e5 e6 e7 e8
        have HA := Lib.hid hA2
        have Hbv := Lib.hid hbv2
        have Hbr := Lib.hid hbr2
        clear hA2 hbv2 hbr2
        go_loopw [25] (fun j wr => ∃ m : Nat, m ≤ 9 ∧ j = .int .i64 m ∧ Below w.heap.size w wr ∧ wr.heap[w.heap.size]? = some (.cells (lit9 (mergeTo min v x k m)) 24 (0, 0)) ∧ wr.heap[w.heap.size + 1]? = some (.cells (lit9 fun _ => 0) 24 (0, 0))) (fun i _ => 9 - (intOf i).toNat)
        case atStart => exact ⟨0, Nat.zero_le _, rfl, HA.out, by rw [mergeTo_zero]; exact Hbv.out, Hbr.out⟩
        case round =>
          obtain ⟨m, hm, rfl, hA, hbv, hbr⟩ := hrel
          clear HA Hbv Hbr
          have HA := Lib.hid hA
          have Hbv := Lib.hid hbv
          have Hbr := Lib.hid hbr
          clear hA hbv hbr
          by_cases hm9 : m < 9
          · have hg := fun w => run_index9 (x k) m hm9 w
            unfold lit9 at hg
            have cv := cell_of_block Hbv.out (lit9_get _ m hm9)
            rw [mergeTo_here] at cv
            have fv := free_of_block Hbv.out m
            have hmi : (m : Int) < 9 := by omega
            by_cases hlt2 : x k m < mergeN min v x k m
            · go_wp2_with fail
              go_roundw
              case rel =>
                refine ⟨m + 1, by omega, by go_num, HA.out.setCell (p := ⟨w.heap.size, m, none⟩) (Nat.le_refl _) _, ?_, heap_set_other Hbr.out (by omega) _⟩
                rw [heap_set_same Hbv.out, lit9_set _ _ _ hm9, ← mergeTo_succ, show min (mergeN min v x k m) (x k m) = x k m from by omega]
              case measure => simp [intOf]; omega
            · go_wp2_with fail
              go_roundw
              case rel => exact ⟨m + 1, by omega, by go_num, HA.out, by rw [← mergeTo_keep _ _ _ _ _ (by omega)]; exact Hbv.out, Hbr.out⟩
              case measure => simp [intOf]; omega
          · obtain rfl : m = 9 := by omega
            go_wp2_with fail
            go_roundw
            case rel =>
              refine ⟨k + 1, by omega, by go_num, by rw [Hok1.out], HA.out, ?_, Hbr.out⟩
              rw [← mergeTo_last]
              exact Hbv.out
            case measure => simp [intOf]; omega
    · obtain rfl : n = k := by omega
      have hbv := Hbv.out
      have hbr := Hbr.out
      obtain ⟨c0, c1, c2, c3, c4, c5, c6, c7, c8⟩ := vec9 hbv
      obtain ⟨d0, d1, d2, d3, d4, d5, d6, d7, d8⟩ := vec9 hbr
      have fr := free_of_block hbr
      clear hbv hbr
      go_wp2_with fail
      refine bodyPost_ret (v := .tuple #[vecV (mergeN min v x n), .bool (okTo v x n)]) (by simp [vecV, lit9, results, Try.results20, go_sem, d0, d1, d2, d3, d4, d5, d6, d7, d8]) rfl ⟨rfl, ?_⟩
      exact below_set9 _ HA.out (by omega)
end Go.Proofs.Ytppaheekpmgifaa
