/- VectorFills: the walk, where both are vectors. -/
import Derived.Test.YtppaheekpmgifaaFills
namespace Go.Proofs.Ytppaheekpmgifaa
set_option linter.unusedSimpArgs false
set_option linter.unusedVariables false
open Go.RowKit Go.Shelf

/-- A slice's cells, in a later world. -/
theorem slice_below {w w' : World} {a : Option Addr} {n size : Nat} {c : Nat → Value} (h : n = 0 ∨ ∃ b off, a = some ⟨b, off, none⟩ ∧ b < w.heap.size ∧ ∀ j, j < n * size → w.cell? ⟨b, off + j, none⟩ = some (c j)) (hb : Below w.heap.size w w') :
    n = 0 ∨ ∃ b off, a = some ⟨b, off, none⟩ ∧ b < w'.heap.size ∧ ∀ j, j < n * size → w'.cell? ⟨b, off + j, none⟩ = some (c j) := by
  rcases h with h | ⟨b, off, e, hlt, hc⟩
  · exact .inl h
  · exact .inr ⟨b, off, e, Nat.lt_of_lt_of_le hlt hb.size, fun j hj => (hb.cell (p := ⟨b, off + j, none⟩) hlt).trans (hc j hj)⟩

theorem heap_set9_eq {w : World} {p b : Nat} (x : Nat → Int) (hne : b ≠ p) : (((((((((w.setCell ⟨p, 0, none⟩ (.int .u64 (x 0))).setCell ⟨p, 1, none⟩ (.int .u64 (x 1))).setCell ⟨p, 2, none⟩ (.int .u64 (x 2))).setCell ⟨p, 3, none⟩ (.int .u64 (x 3))).setCell ⟨p, 4, none⟩ (.int .u64 (x 4))).setCell ⟨p, 5, none⟩ (.int .u64 (x 5))).setCell ⟨p, 6, none⟩ (.int .u64 (x 6))).setCell ⟨p, 7, none⟩ (.int .u64 (x 7))).setCell ⟨p, 8, none⟩ (.int .u64 (x 8))).heap[b]? = w.heap[b]? := by
  exact (Below.heap_setCell _ ⟨p, 8, none⟩ _ _ hne).trans ((Below.heap_setCell _ ⟨p, 7, none⟩ _ _ hne).trans ((Below.heap_setCell _ ⟨p, 6, none⟩ _ _ hne).trans ((Below.heap_setCell _ ⟨p, 5, none⟩ _ _ hne).trans ((Below.heap_setCell _ ⟨p, 4, none⟩ _ _ hne).trans ((Below.heap_setCell _ ⟨p, 3, none⟩ _ _ hne).trans ((Below.heap_setCell _ ⟨p, 2, none⟩ _ _ hne).trans ((Below.heap_setCell _ ⟨p, 1, none⟩ _ _ hne).trans (Below.heap_setCell _ ⟨p, 0, none⟩ _ _ hne))))))))
theorem upd_self {v : Nat → Int} {k : Nat} {x : Int} (h : v k = x) : upd v k x = v := by
  funext j
  unfold upd
  split
  · rename_i e; rw [e, h]
  · rfl
theorem upd_upd (v : Nat → Int) (k : Nat) (x y : Int) : upd (upd v k x) k y = upd v k y := by
  funext j
  unfold upd
  split <;> rfl
theorem upd_at (v : Nat → Int) (k : Nat) (x : Int) : upd v k x k = x := by simp [upd]
/-- What stays while a row of stretches is filled; the vector in box p6 is u. -/
structure FillRel (a b : Nat → Int) (L : List StrT) (sa : Option Addr) (w : World) (p6 : Nat) (u : Nat → Int) (wr : World) : Prop where
  low : Below w.heap.size w wr
  ha : wr.heap[w.heap.size]? = some (.cells (lit9 a) 24 (0, 0))
  hb : wr.heap[w.heap.size + 1]? = some (.cells (lit9 b) 24 (0, 0))
  h6 : wr.heap[p6]? = some (.cells (lit9 u) 24 (0, 0))
  hs : L.length = 0 ∨ ∃ bl off, sa = some ⟨bl, off, none⟩ ∧ bl < p6 ∧ ∀ j, j < L.length * 3 → wr.cell? ⟨bl, off + j, none⟩ = some (strCells L j)
  lt : w.heap.size + 1 < p6
  ok : vecOk u = true
  nn : ∀ j, 0 ≤ u j
theorem FillRel.below {a b : Nat → Int} {L : List StrT} {sa : Option Addr} {w : World} {p6 : Nat} {u : Nat → Int} {x y : World} (h : FillRel a b L sa w p6 u x) (k : Below x.heap.size x y) : FillRel a b L sa w p6 u y where
  low := h.low.trans (k.mono h.low.size)
  ha := (k.block _ (block_lt h.ha)).trans h.ha
  hb := (k.block _ (block_lt h.hb)).trans h.hb
  h6 := (k.block _ (block_lt h.h6)).trans h.h6
  hs := by
    have h6 := block_lt h.h6
    rcases h.hs with h1 | ⟨bl, off, e, hlt, hc⟩
    · exact .inl h1
    · exact .inr ⟨bl, off, e, hlt, fun j hj => (k.cell (p := ⟨bl, off + j, none⟩) (Nat.lt_trans hlt h6)).trans (hc j hj)⟩
  lt := h.lt
  ok := h.ok
  nn := h.nn
theorem FillRel.store {a b : Nat → Int} {L : List StrT} {sa : Option Addr} {w : World} {p6 : Nat} {u : Nat → Int} {wr : World} (h : FillRel a b L sa w p6 u wr) (x : Nat → Int) (hok : vecOk x = true) (hnn : ∀ j, 0 ≤ x j) : FillRel a b L sa w p6 x (((((((((wr.setCell ⟨p6, 0, none⟩ (.int .u64 (x 0))).setCell ⟨p6, 1, none⟩ (.int .u64 (x 1))).setCell ⟨p6, 2, none⟩ (.int .u64 (x 2))).setCell ⟨p6, 3, none⟩ (.int .u64 (x 3))).setCell ⟨p6, 4, none⟩ (.int .u64 (x 4))).setCell ⟨p6, 5, none⟩ (.int .u64 (x 5))).setCell ⟨p6, 6, none⟩ (.int .u64 (x 6))).setCell ⟨p6, 7, none⟩ (.int .u64 (x 7))).setCell ⟨p6, 8, none⟩ (.int .u64 (x 8))) where
  low := below_set9 x h.low (by have := h.lt; omega)
  ha := (heap_set9_eq x (by have := h.lt; omega)).trans h.ha
  hb := (heap_set9_eq x (by have := h.lt; omega)).trans h.hb
  h6 := heap_set9 x h.h6
  hs := by
    rcases h.hs with h1 | ⟨bl, off, e, hlt, hc⟩
    · exact .inl h1
    · exact .inr ⟨bl, off, e, hlt, fun j hj => (World.cell?_of_block (w := wr) (a := ⟨bl, off + j, none⟩) (heap_set9_eq x (Nat.ne_of_lt hlt))).trans (hc j hj)⟩
  lt := h.lt
  ok := hok
  nn := hnn

set_option maxRecDepth 100000 in
set_option maxHeartbeats 2000000 in
theorem fills_good (a b : Nat → Int) (ha0 : ∀ k, 0 ≤ a k) (hb0 : ∀ k, 0 ≤ b k) (w : World) (hva : vecOk a = true) (hvb : vecOk b = true) : Calls Try.prog 4 #[vecV a, vecV b] w (Gives (.bool true) w) := by
  have hso := lacks_ok a b ha0
  have hcov := lacks_covers hva hvb
  have hLl : lacks a b = lackOf a b (List.finRange 8) := if_pos ⟨hva, hvb⟩
  obtain ⟨L, hL⟩ : ∃ L, lacks a b = L := ⟨_, rfl⟩
  rw [hL] at hso hcov hLl
  have hm0 := many_zero hso
  have hlen : L.length ≤ 8 := by
    rw [hLl]
    unfold lackOf
    rw [List.length_map]
    exact Nat.le_trans (List.length_filter_le _ _) (by simp)
  have H0 := Lib.hid ha0
  have Hb0 := Lib.hid hb0
  have HLe := Lib.hid hL
  have HLl := Lib.hid hLl
  have Hso := Lib.hid hso
  have Hcov := Lib.hid hcov
  have Hm0 := Lib.hid hm0
  have Hlen := Lib.hid hlen
  have Hva := Lib.hid hva
  have Hvb := Lib.hid hvb
  clear ha0 hb0 hL hLl hso hcov hm0 hlen hva hvb
  go_enter Try.func4, Try.ntmps4
  simp only [vecV, lit9]
  go_wp2_with fail
  refine (wakes_any _).mono ?_
  rintro e w1 ⟨rfl, hb⟩
  have h0 := ((Below.refl w.heap.size w).alloc (Nat.le_refl _) (.cells (lit9 a) 24)).alloc (by simp) (.cells (lit9 b) 24)
  have hB := h0.trans (hb.mono (by simp; omega))
  have ha' := (hb.block w.heap.size (by simp; omega)).trans (heap_alloc_keeps (World.alloc_heap_new w (.cells (lit9 a) 24)) (.cells (lit9 b) 24))
  have hb' := (hb.block (w.heap.size + 1) (by simp)).trans (newBlock (w.alloc (.cells (lit9 a) 24)) (.cells (lit9 b) 24) (w.heap.size + 1) (by simp))
  clear hb h0
  obtain ⟨a0, a1, a2, a3, a4, a5, a6, a7, a8⟩ := vec9 ha'
  obtain ⟨b0, b1, b2, b3, b4, b5, b6, b7, b8⟩ := vec9 hb'
  have HA := Lib.hid ha'
  have Hb := Lib.hid hb'
  have HB := Lib.hid hB
  clear ha' hb' hB
  go_wp2_with fail
  refine (lacks_any a b H0.out _).mono ?_
  rintro e w2 ⟨sv, rfl, hrow, hb⟩
  have HA := Lib.hid ((hb.block _ (block_lt HA.out)).trans HA.out)
  have Hb := Lib.hid ((hb.block _ (block_lt Hb.out)).trans Hb.out)
  have HB := Lib.hid (HB.out.trans (hb.mono HB.out.size))
  clear a0 a1 a2 a3 a4 a5 a6 a7 a8 b0 b1 b2 b3 b4 b5 b6 b7 b8
  obtain ⟨sa, cap, rfl, hs⟩ := (ownsRow_strs hrow).shape
  have HS := Lib.hid hs
  clear hrow hb hs
  rw [HLe.out]
  rw [HLe.out] at HS
  repeat ((fail_if_success (with_reducible refine stop_at (id := 4) ?_)); (first | go_values | go_skip | go_guarded | go_step | go_upon | go_back | (simp only [Int.not_lt, Int.not_le] at *; go_simp) | (go_values <;> (try go_simp)) | (go_ite <;> go_prune <;> (try go_simp)) | (split <;> (first | (rename_i hx; exact (hx _ rfl).elim) | go_prune))))
  refine (wpIn_wide (n := 0)).1 ?_
  refine wp_region_text [(fun v_ _ => v_ = (vecV a : Value)), (fun v_ _ => v_ = (.int .i64 0 : Value)), (fun v_ _ => v_ = (.bool false : Value)), (fun v_ _ => v_ = (.bool false : Value)), (fun v_ _ => v_ = (vecV b : Value)), (fun v_ _ => v_ = (.int .i64 0 : Value)), (fun v_ _ => v_ = (.bool false : Value)), (fun v_ _ => v_ = (.bool false : Value))] (fun x y => Below x.heap.size x y) (fun _ => Below.refl _ _) (fun h k => grows_trans h k) ⟨fun _ _ _ _ h => h, fun _ _ _ _ h => h, fun _ _ _ _ h => h, fun _ _ _ _ h => h, fun _ _ _ _ h => h, fun _ _ _ _ h => h, fun _ _ _ _ h => h, fun _ _ _ _ h => h, trivial⟩ (by kernel_rfl) ?steps ?fin
  case steps =>
    refine ⟨?_, ?_, ?_, ?_, ?_, ?_, ?_, ?_, trivial⟩
    · -- 0
      intro a' w' hA hC hD
      have s2 : a'.tmps[2]? = some (.pointer (some ⟨w.heap.size, 0, none⟩)) := (hA.at 2 (by kernel_rfl)).trans rfl
      obtain ⟨c0, c1, c2, c3, c4, c5, c6, c7, c8⟩ := vec9 ((hC.block _ (block_lt HA.out)).trans HA.out)
      clear hA hD
      refine stepOk_plain rfl ?_
      intro K hK
      gi_wp2
      exact hK (vecV a) _ rfl ((fun _ => Below.refl _ _) _)
    · -- 1
      intro a' w' hA hC hD
      obtain ⟨u21, s21, r21⟩ := hD ⟨0, .data⟩ (by simp) rfl _ rfl
      replace r21 : u21 = vecV a := r21
      subst r21
      clear hA hD
      refine stepOk_plain rfl ?_
      intro K hK
      gi_wp2_with fail; refine (callsIn_wide.2 (vecCheck_any a _)).mono ?_; rintro e w2 ⟨rfl, hb⟩
      exact hK _ _ (show _ = (.int .i64 0 : Value) from by first | (simp only [Hva.out, errOf_true, cond_true, cond_false, Bool.true_and, Bool.false_and, Bool.not_true, Bool.not_false, beq_self_eq_true]; try rfl) | rfl) hb
    · -- 2
      intro a' w' hA hC hD
      obtain ⟨u22, s22, r22⟩ := hD ⟨1, .data⟩ (by simp) rfl _ rfl
      replace r22 : u22 = .int .i64 0 := r22
      subst r22
      clear hA hD
      refine stepOk_plain rfl ?_
      intro K hK
      gi_wp2
      exact hK (.bool false) _ rfl ((fun _ => Below.refl _ _) _)
    · -- 3
      intro a' w' hA hC hD
      obtain ⟨u23, s23, r23⟩ := hD ⟨2, .data⟩ (by simp) rfl _ rfl
      replace r23 : u23 = .bool false := r23
      subst r23
      clear hA hD
      refine stepOk_plain rfl ?_
      intro K hK
      gi_wp2
      exact hK (.bool false) _ rfl ((fun _ => Below.refl _ _) _)
    · -- 4
      intro a' w' hA hC hD
      have s3 : a'.tmps[3]? = some (.pointer (some ⟨w.heap.size + 1, 0, none⟩)) := (hA.at 3 (by kernel_rfl)).trans rfl
      obtain ⟨u24, s24, r24⟩ := hD ⟨3, .guard⟩ (by simp) rfl _ rfl
      replace r24 : u24 = .bool false := r24
      subst r24
      obtain ⟨c0, c1, c2, c3, c4, c5, c6, c7, c8⟩ := vec9 ((hC.block _ (block_lt Hb.out)).trans Hb.out)
      clear hA hD
      refine stepOk_want rfl rfl s24 ?_
      intro K hK
      gi_wp2
      exact hK (vecV b) _ rfl ((fun _ => Below.refl _ _) _)
    · -- 5
      intro a' w' hA hC hD
      obtain ⟨u25, s25, r25⟩ := hD ⟨4, .data⟩ (by simp) rfl _ rfl
      replace r25 : u25 = vecV b := r25
      subst r25
      obtain ⟨u24, s24, r24⟩ := hD ⟨3, .chain⟩ (by simp) rfl _ rfl
      replace r24 : u24 = .bool false := r24
      subst r24
      clear hA hD
      refine stepOk_want rfl rfl s24 ?_
      intro K hK
      gi_wp2_with fail; refine (callsIn_wide.2 (vecCheck_any b _)).mono ?_; rintro e w2 ⟨rfl, hb⟩
      exact hK _ _ (show _ = (.int .i64 0 : Value) from by first | (simp only [Hvb.out, errOf_true, cond_true, cond_false, Bool.true_and, Bool.false_and, Bool.not_true, Bool.not_false, beq_self_eq_true]; try rfl) | rfl) hb
    · -- 6
      intro a' w' hA hC hD
      obtain ⟨u26, s26, r26⟩ := hD ⟨5, .data⟩ (by simp) rfl _ rfl
      replace r26 : u26 = .int .i64 0 := r26
      subst r26
      obtain ⟨u24, s24, r24⟩ := hD ⟨3, .guard⟩ (by simp) rfl _ rfl
      replace r24 : u24 = .bool false := r24
      subst r24
      clear hA hD
      refine stepOk_want rfl rfl s24 ?_
      intro K hK
      gi_wp2
      exact hK (.bool false) _ rfl ((fun _ => Below.refl _ _) _)
    · -- 7
      intro a' w' hA hC hD
      obtain ⟨u24, s24, r24⟩ := hD ⟨3, .data⟩ (by simp) rfl _ rfl
      replace r24 : u24 = .bool false := r24
      subst r24
      obtain ⟨u27, s27, r27⟩ := hD ⟨6, .data⟩ (by simp) rfl _ rfl
      replace r27 : u27 = .bool false := r27
      subst r27
      clear hA hD
      refine stepOk_plain rfl ?_
      intro K hK
      gi_wp2
      exact hK (.bool false) _ rfl ((fun _ => Below.refl _ _) _)
  case fin =>
    intro w3 hC
    simp only [EndFrom, forall_eq, Act.put, List.length_cons, List.length_nil, List.drop_succ_cons, List.drop_zero, Nat.reduceAdd, List.setIfInBounds_toArray, List.set_cons_succ, List.set_cons_zero]
    have HS := Lib.hid (slice_below HS.out hC)
    have HA := Lib.hid ((hC.block _ (block_lt HA.out)).trans HA.out)
    have Hb := Lib.hid ((hC.block _ (block_lt Hb.out)).trans Hb.out)
    have HB := Lib.hid (HB.out.trans (hC.mono HB.out.size))
    clear hC
    gi_wp2
    repeat ((fail_if_success (with_reducible refine stop_at (id := 6) ?_)); (first | go_values | go_skip | go_guarded | go_step | go_upon | go_back | (simp only [Int.not_lt, Int.not_le] at *; go_simp) | (go_values <;> (try go_simp)) | (go_ite <;> go_prune <;> (try go_simp)) | (split <;> (first | (rename_i hx; exact (hx _ rfl).elim) | go_prune))))
    refine (wpIn_wide (n := 0)).1 ?_
    refine wp_region_text [(fun v_ _ => v_ = (vecV a : Value)), (fun v_ _ => v_ = (vecV b : Value)), (fun v_ _ => v_ = (.bool (L.length == 0) : Value)), (fun v_ _ => v_ = (.slice sa L.length cap : Value)), (fun v_ _ => v_ = (.int .i64 (L.length : Int) : Value)), (fun v_ _ => v_ = (.bool (L.length == 0) : Value)), (fun v_ _ => v_ = (.bool false : Value)), (fun v_ _ => v_ = (.bool false : Value)), (fun v_ _ => v_ = (vecV a : Value)), (fun v_ _ => v_ = (vecV b : Value)), (fun v_ _ => v_ = (.int .u64 (manyOf L) : Value)), (fun v_ _ => v_ = (.bool (L.length == 0) : Value)), (fun v_ _ => v_ = (.slice sa L.length cap : Value)), (fun v_ _ => v_ = (.int .i64 (L.length : Int) : Value)), (fun v_ _ => v_ = (.bool (L.length == 0) : Value)), (fun v_ _ => v_ = (.bool false : Value)), (fun v_ _ => v_ = (.bool false : Value))] (fun x y => Below x.heap.size x y) (fun _ => Below.refl _ _) (fun h k => grows_trans h k) ⟨fun _ _ _ _ h => h, fun _ _ _ _ h => h, fun _ _ _ _ h => h, fun _ _ _ _ h => h, fun _ _ _ _ h => h, fun _ _ _ _ h => h, fun _ _ _ _ h => h, fun _ _ _ _ h => h, fun _ _ _ _ h => h, fun _ _ _ _ h => h, fun _ _ _ _ h => h, fun _ _ _ _ h => h, fun _ _ _ _ h => h, fun _ _ _ _ h => h, fun _ _ _ _ h => h, fun _ _ _ _ h => h, fun _ _ _ _ h => h, trivial⟩ (by kernel_rfl) ?steps ?fin
    case steps =>
      refine ⟨?_, ?_, ?_, ?_, ?_, ?_, ?_, ?_, ?_, ?_, ?_, ?_, ?_, ?_, ?_, ?_, ?_, trivial⟩
      · -- 0
        intro a' w' hA hC hD
        have s2 : a'.tmps[2]? = some (.pointer (some ⟨w.heap.size, 0, none⟩)) := (hA.at 2 (by kernel_rfl)).trans rfl
        obtain ⟨c0, c1, c2, c3, c4, c5, c6, c7, c8⟩ := vec9 ((hC.block _ (block_lt HA.out)).trans HA.out)
        clear hA hD
        refine stepOk_plain rfl ?_
        intro K hK
        gi_wp2
        exact hK (vecV a) _ rfl ((fun _ => Below.refl _ _) _)
      · -- 1
        intro a' w' hA hC hD
        have s3 : a'.tmps[3]? = some (.pointer (some ⟨w.heap.size + 1, 0, none⟩)) := (hA.at 3 (by kernel_rfl)).trans rfl
        obtain ⟨c0, c1, c2, c3, c4, c5, c6, c7, c8⟩ := vec9 ((hC.block _ (block_lt Hb.out)).trans Hb.out)
        clear hA hD
        refine stepOk_plain rfl ?_
        intro K hK
        gi_wp2
        exact hK (vecV b) _ rfl ((fun _ => Below.refl _ _) _)
      · -- 2
        intro a' w' hA hC hD
        obtain ⟨u44, s44, r44⟩ := hD ⟨0, .data⟩ (by simp) rfl _ rfl
        replace r44 : u44 = vecV a := r44
        subst r44
        obtain ⟨u45, s45, r45⟩ := hD ⟨1, .data⟩ (by simp) rfl _ rfl
        replace r45 : u45 = vecV b := r45
        subst r45
        clear hA hD
        refine stepOk_plain rfl ?_
        intro K hK
        gi_wp2_with fail; refine (callsIn_wide.2 (covers_any a b _)).mono ?_; rintro e w2 ⟨rfl, hb⟩
        exact hK _ _ (show _ = (.bool (L.length == 0) : Value) from by first | (simp only [Hcov.out, cond_true, cond_false, Bool.true_and, Bool.false_and, Bool.not_true, Bool.not_false, beq_self_eq_true]; try rfl) | rfl) hb
      · -- 3
        intro a' w' hA hC hD
        have s5 : a'.tmps[5]? = some (.slice sa L.length cap) := (hA.at 5 (by kernel_rfl)).trans rfl
        clear hA hD
        refine stepOk_plain rfl ?_
        intro K hK
        gi_wp2
        exact hK (.slice sa L.length cap) _ rfl ((fun _ => Below.refl _ _) _)
      · -- 4
        intro a' w' hA hC hD
        obtain ⟨u47, s47, r47⟩ := hD ⟨3, .data⟩ (by simp) rfl _ rfl
        replace r47 : u47 = .slice sa L.length cap := r47
        subst r47
        clear hA hD
        refine stepOk_plain rfl ?_
        intro K hK
        gi_wp2
        exact hK (.int .i64 (L.length : Int)) _ rfl ((fun _ => Below.refl _ _) _)
      · -- 5
        intro a' w' hA hC hD
        obtain ⟨u48, s48, r48⟩ := hD ⟨4, .data⟩ (by simp) rfl _ rfl
        replace r48 : u48 = .int .i64 (L.length : Int) := r48
        subst r48
        clear hA hD
        refine stepOk_plain rfl ?_
        intro K hK
        gi_wp2; exact hK _ _ (show _ = (Value.bool (L.length == 0)) from by congr 1; rw [Bool.eq_iff_iff]; simp) (Below.refl _ _)
      · -- 6
        intro a' w' hA hC hD
        obtain ⟨u46, s46, r46⟩ := hD ⟨2, .data⟩ (by simp) rfl _ rfl
        replace r46 : u46 = .bool (L.length == 0) := r46
        subst r46
        obtain ⟨u49, s49, r49⟩ := hD ⟨5, .data⟩ (by simp) rfl _ rfl
        replace r49 : u49 = .bool (L.length == 0) := r49
        subst r49
        clear hA hD
        refine stepOk_plain rfl ?_
        intro K hK
        gi_wp2; exact hK _ _ (show _ = (Value.bool false) from by simp) (Below.refl _ _)
      · -- 7
        intro a' w' hA hC hD
        obtain ⟨u50, s50, r50⟩ := hD ⟨6, .data⟩ (by simp) rfl _ rfl
        replace r50 : u50 = .bool false := r50
        subst r50
        clear hA hD
        refine stepOk_plain rfl ?_
        intro K hK
        gi_wp2
        exact hK (.bool false) _ rfl ((fun _ => Below.refl _ _) _)
      · -- 8
        intro a' w' hA hC hD
        have s2 : a'.tmps[2]? = some (.pointer (some ⟨w.heap.size, 0, none⟩)) := (hA.at 2 (by kernel_rfl)).trans rfl
        obtain ⟨u51, s51, r51⟩ := hD ⟨7, .guard⟩ (by simp) rfl _ rfl
        replace r51 : u51 = .bool false := r51
        subst r51
        obtain ⟨c0, c1, c2, c3, c4, c5, c6, c7, c8⟩ := vec9 ((hC.block _ (block_lt HA.out)).trans HA.out)
        clear hA hD
        refine stepOk_want rfl rfl s51 ?_
        intro K hK
        gi_wp2
        exact hK (vecV a) _ rfl ((fun _ => Below.refl _ _) _)
      · -- 9
        intro a' w' hA hC hD
        have s3 : a'.tmps[3]? = some (.pointer (some ⟨w.heap.size + 1, 0, none⟩)) := (hA.at 3 (by kernel_rfl)).trans rfl
        obtain ⟨u51, s51, r51⟩ := hD ⟨7, .guard⟩ (by simp) rfl _ rfl
        replace r51 : u51 = .bool false := r51
        subst r51
        obtain ⟨c0, c1, c2, c3, c4, c5, c6, c7, c8⟩ := vec9 ((hC.block _ (block_lt Hb.out)).trans Hb.out)
        clear hA hD
        refine stepOk_want rfl rfl s51 ?_
        intro K hK
        gi_wp2
        exact hK (vecV b) _ rfl ((fun _ => Below.refl _ _) _)
      · -- 10
        intro a' w' hA hC hD
        obtain ⟨u52, s52, r52⟩ := hD ⟨8, .data⟩ (by simp) rfl _ rfl
        replace r52 : u52 = vecV a := r52
        subst r52
        obtain ⟨u53, s53, r53⟩ := hD ⟨9, .data⟩ (by simp) rfl _ rfl
        replace r53 : u53 = vecV b := r53
        subst r53
        obtain ⟨u51, s51, r51⟩ := hD ⟨7, .chain⟩ (by simp) rfl _ rfl
        replace r51 : u51 = .bool false := r51
        subst r51
        clear hA hD
        refine stepOk_want rfl rfl s51 ?_
        intro K hK
        gi_wp2_with fail; refine (callsIn_wide.2 (many_any a b H0.out _)).mono ?_; rintro e w2 ⟨rfl, hb⟩
        exact hK _ _ (show _ = (.int .u64 (manyOf L) : Value) from by first | (simp only [HLe.out, cond_true, cond_false, Bool.true_and, Bool.false_and, Bool.not_true, Bool.not_false, beq_self_eq_true]; try rfl) | rfl) hb
      · -- 11
        intro a' w' hA hC hD
        obtain ⟨u54, s54, r54⟩ := hD ⟨10, .data⟩ (by simp) rfl _ rfl
        replace r54 : u54 = .int .u64 (manyOf L) := r54
        subst r54
        obtain ⟨u51, s51, r51⟩ := hD ⟨7, .guard⟩ (by simp) rfl _ rfl
        replace r51 : u51 = .bool false := r51
        subst r51
        clear hA hD
        refine stepOk_want rfl rfl s51 ?_
        intro K hK
        gi_wp2
        exact hK _ _ (show _ = (.bool (L.length == 0) : Value) from by first | (simp only [Hm0.out, cond_true, cond_false, Bool.true_and, Bool.false_and, Bool.not_true, Bool.not_false, beq_self_eq_true]; try rfl) | rfl) ((fun _ => Below.refl _ _) _)
      · -- 12
        intro a' w' hA hC hD
        have s5 : a'.tmps[5]? = some (.slice sa L.length cap) := (hA.at 5 (by kernel_rfl)).trans rfl
        obtain ⟨u51, s51, r51⟩ := hD ⟨7, .guard⟩ (by simp) rfl _ rfl
        replace r51 : u51 = .bool false := r51
        subst r51
        clear hA hD
        refine stepOk_want rfl rfl s51 ?_
        intro K hK
        gi_wp2
        exact hK (.slice sa L.length cap) _ rfl ((fun _ => Below.refl _ _) _)
      · -- 13
        intro a' w' hA hC hD
        obtain ⟨u56, s56, r56⟩ := hD ⟨12, .data⟩ (by simp) rfl _ rfl
        replace r56 : u56 = .slice sa L.length cap := r56
        subst r56
        obtain ⟨u51, s51, r51⟩ := hD ⟨7, .guard⟩ (by simp) rfl _ rfl
        replace r51 : u51 = .bool false := r51
        subst r51
        clear hA hD
        refine stepOk_want rfl rfl s51 ?_
        intro K hK
        gi_wp2
        exact hK (.int .i64 (L.length : Int)) _ rfl ((fun _ => Below.refl _ _) _)
      · -- 14
        intro a' w' hA hC hD
        obtain ⟨u57, s57, r57⟩ := hD ⟨13, .data⟩ (by simp) rfl _ rfl
        replace r57 : u57 = .int .i64 (L.length : Int) := r57
        subst r57
        obtain ⟨u51, s51, r51⟩ := hD ⟨7, .guard⟩ (by simp) rfl _ rfl
        replace r51 : u51 = .bool false := r51
        subst r51
        clear hA hD
        refine stepOk_want rfl rfl s51 ?_
        intro K hK
        gi_wp2; exact hK _ _ (show _ = (Value.bool (L.length == 0)) from by congr 1; rw [Bool.eq_iff_iff]; simp) (Below.refl _ _)
      · -- 15
        intro a' w' hA hC hD
        obtain ⟨u55, s55, r55⟩ := hD ⟨11, .data⟩ (by simp) rfl _ rfl
        replace r55 : u55 = .bool (L.length == 0) := r55
        subst r55
        obtain ⟨u58, s58, r58⟩ := hD ⟨14, .data⟩ (by simp) rfl _ rfl
        replace r58 : u58 = .bool (L.length == 0) := r58
        subst r58
        obtain ⟨u51, s51, r51⟩ := hD ⟨7, .guard⟩ (by simp) rfl _ rfl
        replace r51 : u51 = .bool false := r51
        subst r51
        clear hA hD
        refine stepOk_want rfl rfl s51 ?_
        intro K hK
        gi_wp2; exact hK _ _ (show _ = (Value.bool false) from by simp) (Below.refl _ _)
      · -- 16
        intro a' w' hA hC hD
        obtain ⟨u51, s51, r51⟩ := hD ⟨7, .data⟩ (by simp) rfl _ rfl
        replace r51 : u51 = .bool false := r51
        subst r51
        obtain ⟨u59, s59, r59⟩ := hD ⟨15, .data⟩ (by simp) rfl _ rfl
        replace r59 : u59 = .bool false := r59
        subst r59
        clear hA hD
        refine stepOk_plain rfl ?_
        intro K hK
        gi_wp2
        exact hK (.bool false) _ rfl ((fun _ => Below.refl _ _) _)
    case fin =>
      intro w4 hC
      simp only [EndFrom, forall_eq, Act.put, List.length_cons, List.length_nil, List.drop_succ_cons, List.drop_zero, Nat.reduceAdd, List.setIfInBounds_toArray, List.set_cons_succ, List.set_cons_zero]
      have HS := Lib.hid (slice_below HS.out hC)
      have HA := Lib.hid ((hC.block _ (block_lt HA.out)).trans HA.out)
      have Hb := Lib.hid ((hC.block _ (block_lt Hb.out)).trans Hb.out)
      have HB := Lib.hid (HB.out.trans (hC.mono HB.out.size))
      clear hC
      gi_wp2
      by_cases h60 : 60 < manyOf L
      · repeat ((fail_if_success (with_reducible refine stop_at (id := 8) ?_)); (first | go_values | go_skip | go_guarded | go_step | go_upon | go_back | (simp only [Int.not_lt, Int.not_le] at *; go_simp) | (go_values <;> (try go_simp)) | (go_ite <;> go_prune <;> (try go_simp)) | (split <;> (first | (rename_i hx; exact (hx _ rfl).elim) | go_prune))))
        refine (wpIn_wide (n := 0)).1 ?_
        refine wp_region_text [(fun v_ _ => v_ = (vecV a : Value)), (fun v_ _ => v_ = (vecV b : Value)), (fun v_ _ => v_ = (.int .u64 (manyOf L) : Value)), (fun v_ _ => v_ = (.bool true : Value))] (fun x y => Below x.heap.size x y) (fun _ => Below.refl _ _) (fun h k => grows_trans h k) ⟨fun _ _ _ _ h => h, fun _ _ _ _ h => h, fun _ _ _ _ h => h, fun _ _ _ _ h => h, trivial⟩ (by kernel_rfl) ?steps ?fin
        case steps =>
          refine ⟨?_, ?_, ?_, ?_, trivial⟩
          · -- 0
            intro a' w' hA hC hD
            have s2 : a'.tmps[2]? = some (.pointer (some ⟨w.heap.size, 0, none⟩)) := (hA.at 2 (by kernel_rfl)).trans rfl
            obtain ⟨c0, c1, c2, c3, c4, c5, c6, c7, c8⟩ := vec9 ((hC.block _ (block_lt HA.out)).trans HA.out)
            clear hA hD
            refine stepOk_plain rfl ?_
            intro K hK
            gi_wp2
            exact hK (vecV a) _ rfl ((fun _ => Below.refl _ _) _)
          · -- 1
            intro a' w' hA hC hD
            have s3 : a'.tmps[3]? = some (.pointer (some ⟨w.heap.size + 1, 0, none⟩)) := (hA.at 3 (by kernel_rfl)).trans rfl
            obtain ⟨c0, c1, c2, c3, c4, c5, c6, c7, c8⟩ := vec9 ((hC.block _ (block_lt Hb.out)).trans Hb.out)
            clear hA hD
            refine stepOk_plain rfl ?_
            intro K hK
            gi_wp2
            exact hK (vecV b) _ rfl ((fun _ => Below.refl _ _) _)
          · -- 2
            intro a' w' hA hC hD
            obtain ⟨u61, s61, r61⟩ := hD ⟨0, .data⟩ (by simp) rfl _ rfl
            replace r61 : u61 = vecV a := r61
            subst r61
            obtain ⟨u62, s62, r62⟩ := hD ⟨1, .data⟩ (by simp) rfl _ rfl
            replace r62 : u62 = vecV b := r62
            subst r62
            clear hA hD
            refine stepOk_plain rfl ?_
            intro K hK
            gi_wp2_with fail; refine (callsIn_wide.2 (many_any a b H0.out _)).mono ?_; rintro e w2 ⟨rfl, hb⟩
            exact hK _ _ (show _ = (.int .u64 (manyOf L) : Value) from by first | (simp only [HLe.out, cond_true, cond_false, Bool.true_and, Bool.false_and, Bool.not_true, Bool.not_false, beq_self_eq_true]; try rfl) | rfl) hb
          · -- 3
            intro a' w' hA hC hD
            obtain ⟨u63, s63, r63⟩ := hD ⟨2, .data⟩ (by simp) rfl _ rfl
            replace r63 : u63 = .int .u64 (manyOf L) := r63
            subst r63
            clear hA hD
            refine stepOk_plain rfl ?_
            intro K hK
            gi_wp2
            exact hK (.bool true) _ rfl ((fun _ => Below.refl _ _) _)
        case fin =>
          intro w5 hC
          simp only [EndFrom, forall_eq, Act.put, List.length_cons, List.length_nil, List.drop_succ_cons, List.drop_zero, Nat.reduceAdd, List.setIfInBounds_toArray, List.set_cons_succ, List.set_cons_zero]
          gi_wp2
          go_wp2
          go_ret
          exact ⟨rfl, HB.out.trans (hC.mono HB.out.size)⟩
      · repeat ((fail_if_success (with_reducible refine stop_at (id := 8) ?_)); (first | go_values | go_skip | go_guarded | go_step | go_upon | go_back | (simp only [Int.not_lt, Int.not_le] at *; go_simp) | (go_values <;> (try go_simp)) | (go_ite <;> go_prune <;> (try go_simp)) | (split <;> (first | (rename_i hx; exact (hx _ rfl).elim) | go_prune))))
        refine (wpIn_wide (n := 0)).1 ?_
        refine wp_region_text [(fun v_ _ => v_ = (vecV a : Value)), (fun v_ _ => v_ = (vecV b : Value)), (fun v_ _ => v_ = (.int .u64 (manyOf L) : Value)), (fun v_ _ => v_ = (.bool false : Value))] (fun x y => Below x.heap.size x y) (fun _ => Below.refl _ _) (fun h k => grows_trans h k) ⟨fun _ _ _ _ h => h, fun _ _ _ _ h => h, fun _ _ _ _ h => h, fun _ _ _ _ h => h, trivial⟩ (by kernel_rfl) ?steps ?fin
        case steps =>
          refine ⟨?_, ?_, ?_, ?_, trivial⟩
          · -- 0
            intro a' w' hA hC hD
            have s2 : a'.tmps[2]? = some (.pointer (some ⟨w.heap.size, 0, none⟩)) := (hA.at 2 (by kernel_rfl)).trans rfl
            obtain ⟨c0, c1, c2, c3, c4, c5, c6, c7, c8⟩ := vec9 ((hC.block _ (block_lt HA.out)).trans HA.out)
            clear hA hD
            refine stepOk_plain rfl ?_
            intro K hK
            gi_wp2
            exact hK (vecV a) _ rfl ((fun _ => Below.refl _ _) _)
          · -- 1
            intro a' w' hA hC hD
            have s3 : a'.tmps[3]? = some (.pointer (some ⟨w.heap.size + 1, 0, none⟩)) := (hA.at 3 (by kernel_rfl)).trans rfl
            obtain ⟨c0, c1, c2, c3, c4, c5, c6, c7, c8⟩ := vec9 ((hC.block _ (block_lt Hb.out)).trans Hb.out)
            clear hA hD
            refine stepOk_plain rfl ?_
            intro K hK
            gi_wp2
            exact hK (vecV b) _ rfl ((fun _ => Below.refl _ _) _)
          · -- 2
            intro a' w' hA hC hD
            obtain ⟨u61, s61, r61⟩ := hD ⟨0, .data⟩ (by simp) rfl _ rfl
            replace r61 : u61 = vecV a := r61
            subst r61
            obtain ⟨u62, s62, r62⟩ := hD ⟨1, .data⟩ (by simp) rfl _ rfl
            replace r62 : u62 = vecV b := r62
            subst r62
            clear hA hD
            refine stepOk_plain rfl ?_
            intro K hK
            gi_wp2_with fail; refine (callsIn_wide.2 (many_any a b H0.out _)).mono ?_; rintro e w2 ⟨rfl, hb⟩
            exact hK _ _ (show _ = (.int .u64 (manyOf L) : Value) from by first | (simp only [HLe.out, cond_true, cond_false, Bool.true_and, Bool.false_and, Bool.not_true, Bool.not_false, beq_self_eq_true]; try rfl) | rfl) hb
          · -- 3
            intro a' w' hA hC hD
            obtain ⟨u63, s63, r63⟩ := hD ⟨2, .data⟩ (by simp) rfl _ rfl
            replace r63 : u63 = .int .u64 (manyOf L) := r63
            subst r63
            clear hA hD
            refine stepOk_plain rfl ?_
            intro K hK
            gi_wp2
            exact hK (.bool false) _ rfl ((fun _ => Below.refl _ _) _)
        case fin =>
          intro w5 hC
          simp only [EndFrom, forall_eq, Act.put, List.length_cons, List.length_nil, List.drop_succ_cons, List.drop_zero, Nat.reduceAdd, List.setIfInBounds_toArray, List.set_cons_succ, List.set_cons_zero]
          have HS := Lib.hid (slice_below HS.out hC)
          have HA := Lib.hid ((hC.block _ (block_lt HA.out)).trans HA.out)
          have Hb := Lib.hid ((hC.block _ (block_lt Hb.out)).trans Hb.out)
          have HB := Lib.hid (HB.out.trans (hC.mono HB.out.size))
          clear hC
          have H60 := Lib.hid h60
          clear h60
          obtain ⟨a0, a1, a2, a3, a4, a5, a6, a7, a8⟩ := vec9 HA.out
          gi_wp2
          go_wp2_with fail
          have hR : FillRel a b L sa w w5.heap.size (fillTo a b L 0) (w5.alloc (.cells (lit9 a) 24)) := by
            have hsz := block_lt Hb.out
            refine ⟨HB.out.alloc HB.out.size _, heap_alloc_keeps HA.out _, heap_alloc_keeps Hb.out _, by rw [fillTo_zero]; exact World.alloc_heap_new _ _, ?_, hsz, by rw [fillTo_zero]; exact Hva.out, by rw [fillTo_zero]; exact H0.out⟩
            rcases HS.out with h1 | ⟨bl, off, e, hlt, hc⟩
            · exact .inl h1
            · exact .inr ⟨bl, off, e, hlt, fun j hj => (World.cell?_of_block (w := w5) (a := ⟨bl, off + j, none⟩) (Below.heap_alloc _ _ _ hlt)).trans (hc j hj)⟩
          have HR := Lib.hid hR
          clear hR a0 a1 a2 a3 a4 a5 a6 a7 a8 HA Hb HB HS
          simp only [vecV, lit9]
          go_loopw [7, 68] (fun m i wr => ∃ k : Nat, k ≤ L.length ∧ i = .int .i64 k ∧ m = .int .u64 (manyTo L k) ∧ FillRel a b L sa w w5.heap.size (fillTo a b L k) wr) (fun _ i _ => L.length - (intOf i).toNat)
          case atStart => exact ⟨0, Nat.zero_le _, rfl, rfl, HR.out⟩
          case round =>
            obtain ⟨k, hk, rfl, rfl, hr⟩ := hrel
            have hlen := Hlen.out
            clear HR
            have HR := Lib.hid hr
            clear hr
            by_cases hkn : k < L.length
            · obtain ⟨bl, off, rfl, hlt, hc⟩ := HR.out.hs.resolve_left (by omega)
              have hk' : L[k]? = some L[k] := List.getElem?_eq_getElem hkn
              obtain ⟨f0, f1, f2⟩ := strElem hc hk'
              have hso := Hso.out _ (List.getElem_mem hkn)
              have hst := manyTo_step Hso.out (by have := H60.out; omega) hk'
              have hme := lackOf_mem (a := a) (b := b) (l := List.finRange 8) (t := L[k]) (by have := HLl.out; rw [← this]; exact List.getElem_mem hkn)
              have hhere := fillTo_here (a := a) (b := b) (k := k) (t := L[k]) (by have := HLl.out; rw [← this]; exact hk')
              rw [← HLl.out] at hhere
              have hsucc := fillTo_succ a b hk'
              unfold MaxT at hso
              generalize L[k] = s at *
              obtain ⟨site, fr, upto⟩ := s
              dsimp only at f0 f1 f2 hso hst hme hhere hsucc
              have Hst := Lib.hid hst
              have Hme := Lib.hid hme
              have Hhere := Lib.hid hhere
              have Hsucc := Lib.hid hsucc
              clear hc hk' hst hme hhere hsucc
              go_wp2_with fail
              clear f0 f1 f2
              have hl9 := block_lt HR.out.h6
              obtain ⟨wo, hwo⟩ : ∃ wo : World, wo = wr := ⟨_, rfl⟩
              rw [← hwo] at HR hl9 ⊢
              clear hwo
              go_loopw [7, 10] (fun m q wr => ∃ t : Int, fr ≤ t ∧ t ≤ upto + 1 ∧ q = .int .u64 t ∧ m = .int .u64 (manyTo L k + (t - fr)) ∧ FillRel a b L (some ⟨bl, off, none⟩) w w5.heap.size (upd (fillTo a b L k) site.toNat (t - 1)) wr ∧ wr.heap[wo.heap.size]? = some (.cells #[.int .i64 site, .int .u64 fr, .int .u64 upto] 36 (0, 0))) (fun _ q _ => (upto + 1 - intOf q).toNat)
              case atStart =>
                refine ⟨fr, by omega, by omega, rfl, by congr 1; omega, ?_, World.alloc_heap_new _ _⟩
                rw [upd_self (by have := Hhere.out; have := Hme.out; omega)]
                exact HR.out.below ((Below.refl _ _).alloc (Nat.le_refl _) _)
              case round =>
                obtain ⟨t, ht1, ht2, rfl, rfl, hr, h9⟩ := hrel
                clear HR
                have HR := Lib.hid hr
                have H9 := Lib.hid h9
                clear hr
                have cu := cell_of_block h9 (k := 2) rfl
                have cs := cell_of_block h9 (k := 0) rfl
                clear h9
                by_cases htu : t ≤ upto
                · have hfs := fill_step (u := upd (fillTo a b L k) site.toNat (t - 1)) (b := b) (site := site) (t := t) HR.out.ok Hvb.out Hme.out.1 Hme.out.2.1 HR.out.nn (upd_at _ _ _) (by have := Hme.out.2.2.2.1; omega)
                  rw [upd_upd] at hfs
                  obtain ⟨g1, g2, g3, g4, g5, g6, g7, g8⟩ := hfs
                  have G1 := Lib.hid g1
                  have G2 := Lib.hid g2
                  have G3 := Lib.hid g3
                  have G4 := Lib.hid g4
                  have G5 := Lib.hid g5
                  have G6 := Lib.hid g6
                  have G7 := Lib.hid g7
                  have G8 := Lib.hid g8
                  clear g1 g2 g3 g4 g5 g6 g7 g8
                  obtain ⟨U, hU⟩ : ∃ U, upd (fillTo a b L k) site.toNat (t - 1) = U := ⟨_, rfl⟩
                  obtain ⟨U2, hU2⟩ : ∃ U2, upd (fillTo a b L k) site.toNat t = U2 := ⟨_, rfl⟩
                  rw [hU] at HR G1 G2 G4 G6
                  rw [hU2] at G4 G5 G6 G7 G8
                  have HU2 := Lib.hid hU2
                  clear hU hU2
                  go_wp2_with fail
                  refine (id_any _ _ _).mono ?_
                  rintro e wi ⟨rfl, hb⟩
                  have h11 := World.alloc_heap_new wi (.cells #[.int .u64 9, .int .i64 site, .int .u64 t] 38)
                  have HR := Lib.hid ((HR.out.below hb).below ((Below.refl wi.heap.size wi).alloc (Nat.le_refl _) (.cells #[.int .u64 9, .int .i64 site, .int .u64 t] 38)))
                  have H9 := Lib.hid (heap_alloc_keeps ((hb.block _ (block_lt H9.out)).trans H9.out) (.cells #[.int .u64 9, .int .i64 site, .int .u64 t] 38))
                  have H11 := Lib.hid h11
                  clear h11 hb cu cs
                  unfold IdT.val
                  repeat ((fail_if_success (with_reducible refine stop_at (id := 18) ?_)); (first | go_values | go_skip | go_guarded | go_step | go_upon | go_back | (simp only [Int.not_lt, Int.not_le] at *; go_simp) | (go_values <;> (try go_simp)) | (go_ite <;> go_prune <;> (try go_simp)) | (split <;> (first | (rename_i hx; exact (hx _ rfl).elim) | go_prune))))
                  have H6 := Lib.hid HR.out.h6
                  have Hb := Lib.hid HR.out.hb
                  refine (wpIn_wide (n := 0)).1 ?_
                  refine wp_region_text [(fun v_ _ => v_ = (vecV U : Value)), (fun v_ _ => v_ = (IdT.val ⟨9, site, t⟩ : Value)), (fun v_ _ => v_ = (.bool false : Value)), (fun v_ _ => v_ = (.bool false : Value)), (fun v_ _ => v_ = (vecV U : Value)), (fun v_ _ => v_ = (IdT.val ⟨9, site, t⟩ : Value)), (fun v_ _ => v_ = (.bool true : Value)), (fun v_ _ => v_ = (.bool false : Value)), (fun v_ _ => v_ = (.bool false : Value)), (fun v_ _ => v_ = (.bool false : Value)), (fun v_ _ => v_ = (vecV b : Value)), (fun v_ _ => v_ = (IdT.val ⟨9, site, t⟩ : Value)), (fun v_ _ => v_ = (.bool true : Value)), (fun v_ _ => v_ = (.bool false : Value)), (fun v_ _ => v_ = (.bool false : Value))] (fun x y => Below x.heap.size x y) (fun _ => Below.refl _ _) (fun h k => grows_trans h k) ⟨fun _ _ _ _ h => h, fun _ _ _ _ h => h, fun _ _ _ _ h => h, fun _ _ _ _ h => h, fun _ _ _ _ h => h, fun _ _ _ _ h => h, fun _ _ _ _ h => h, fun _ _ _ _ h => h, fun _ _ _ _ h => h, fun _ _ _ _ h => h, fun _ _ _ _ h => h, fun _ _ _ _ h => h, fun _ _ _ _ h => h, fun _ _ _ _ h => h, fun _ _ _ _ h => h, trivial⟩ (by kernel_rfl) ?steps ?fin
                  case steps =>
                    refine ⟨?_, ?_, ?_, ?_, ?_, ?_, ?_, ?_, ?_, ?_, ?_, ?_, ?_, ?_, ?_, trivial⟩
                    · -- 0
                      intro a' w' hA hC hD
                      have s6 : a'.tmps[6]? = some (.pointer (some ⟨w5.heap.size, 0, none⟩)) := (hA.at 6 (by kernel_rfl)).trans rfl
                      obtain ⟨c0, c1, c2, c3, c4, c5, c6, c7, c8⟩ := vec9 ((hC.block _ (block_lt H6.out)).trans H6.out)
                      clear hA hD
                      refine stepOk_plain rfl ?_
                      intro K hK
                      gi_wp2
                      exact hK (vecV U) _ rfl ((fun _ => Below.refl _ _) _)
                    · -- 1
                      intro a' w' hA hC hD
                      have s11 : a'.tmps[11]? = some (.pointer (some ⟨wi.heap.size, 0, none⟩)) := (hA.at 11 (by kernel_rfl)).trans rfl
                      have hq := (hC.block _ (block_lt H11.out)).trans H11.out; have c0 := cell_of_block hq (k := 0) rfl; have c1 := cell_of_block hq (k := 1) rfl; have c2 := cell_of_block hq (k := 2) rfl
                      clear hA hD
                      refine stepOk_plain rfl ?_
                      intro K hK
                      gi_wp2
                      exact hK (IdT.val ⟨9, site, t⟩) _ rfl ((fun _ => Below.refl _ _) _)
                    · -- 2
                      intro a' w' hA hC hD
                      obtain ⟨u84, s84, r84⟩ := hD ⟨0, .data⟩ (by simp) rfl _ rfl
                      replace r84 : u84 = vecV U := r84
                      subst r84
                      obtain ⟨u85, s85, r85⟩ := hD ⟨1, .data⟩ (by simp) rfl _ rfl
                      replace r85 : u85 = IdT.val ⟨9, site, t⟩ := r85
                      subst r85
                      clear hA hD
                      refine stepOk_plain rfl ?_
                      intro K hK
                      gi_wp2_with fail; refine (callsIn_wide.2 (has_any U ⟨9, site, t⟩ _)).mono ?_; rintro e w2 ⟨rfl, hb⟩
                      exact hK _ _ (show _ = (.bool false : Value) from by first | (simp only [G1.out, cond_true, cond_false, Bool.true_and, Bool.false_and, Bool.not_true, Bool.not_false, beq_self_eq_true]; try rfl) | rfl) hb
                    · -- 3
                      intro a' w' hA hC hD
                      obtain ⟨u86, s86, r86⟩ := hD ⟨2, .data⟩ (by simp) rfl _ rfl
                      replace r86 : u86 = .bool false := r86
                      subst r86
                      clear hA hD
                      refine stepOk_plain rfl ?_
                      intro K hK
                      gi_wp2
                      exact hK (.bool false) _ rfl ((fun _ => Below.refl _ _) _)
                    · -- 4
                      intro a' w' hA hC hD
                      have s6 : a'.tmps[6]? = some (.pointer (some ⟨w5.heap.size, 0, none⟩)) := (hA.at 6 (by kernel_rfl)).trans rfl
                      obtain ⟨u87, s87, r87⟩ := hD ⟨3, .guard⟩ (by simp) rfl _ rfl
                      replace r87 : u87 = .bool false := r87
                      subst r87
                      obtain ⟨c0, c1, c2, c3, c4, c5, c6, c7, c8⟩ := vec9 ((hC.block _ (block_lt H6.out)).trans H6.out)
                      clear hA hD
                      refine stepOk_want rfl rfl s87 ?_
                      intro K hK
                      gi_wp2
                      exact hK (vecV U) _ rfl ((fun _ => Below.refl _ _) _)
                    · -- 5
                      intro a' w' hA hC hD
                      have s11 : a'.tmps[11]? = some (.pointer (some ⟨wi.heap.size, 0, none⟩)) := (hA.at 11 (by kernel_rfl)).trans rfl
                      obtain ⟨u87, s87, r87⟩ := hD ⟨3, .guard⟩ (by simp) rfl _ rfl
                      replace r87 : u87 = .bool false := r87
                      subst r87
                      have hq := (hC.block _ (block_lt H11.out)).trans H11.out; have c0 := cell_of_block hq (k := 0) rfl; have c1 := cell_of_block hq (k := 1) rfl; have c2 := cell_of_block hq (k := 2) rfl
                      clear hA hD
                      refine stepOk_want rfl rfl s87 ?_
                      intro K hK
                      gi_wp2
                      exact hK (IdT.val ⟨9, site, t⟩) _ rfl ((fun _ => Below.refl _ _) _)
                    · -- 6
                      intro a' w' hA hC hD
                      obtain ⟨u88, s88, r88⟩ := hD ⟨4, .data⟩ (by simp) rfl _ rfl
                      replace r88 : u88 = vecV U := r88
                      subst r88
                      obtain ⟨u89, s89, r89⟩ := hD ⟨5, .data⟩ (by simp) rfl _ rfl
                      replace r89 : u89 = IdT.val ⟨9, site, t⟩ := r89
                      subst r89
                      obtain ⟨u87, s87, r87⟩ := hD ⟨3, .chain⟩ (by simp) rfl _ rfl
                      replace r87 : u87 = .bool false := r87
                      subst r87
                      clear hA hD
                      refine stepOk_want rfl rfl s87 ?_
                      intro K hK
                      gi_wp2_with fail; refine (callsIn_wide.2 (next_any U HR.out.nn ⟨9, site, t⟩ _)).mono ?_; rintro e w2 ⟨rfl, hb⟩
                      exact hK _ _ (show _ = (.bool true : Value) from by first | (simp only [G2.out, cond_true, cond_false, Bool.true_and, Bool.false_and, Bool.not_true, Bool.not_false, beq_self_eq_true]; try rfl) | rfl) hb
                    · -- 7
                      intro a' w' hA hC hD
                      obtain ⟨u90, s90, r90⟩ := hD ⟨6, .data⟩ (by simp) rfl _ rfl
                      replace r90 : u90 = .bool true := r90
                      subst r90
                      obtain ⟨u87, s87, r87⟩ := hD ⟨3, .guard⟩ (by simp) rfl _ rfl
                      replace r87 : u87 = .bool false := r87
                      subst r87
                      clear hA hD
                      refine stepOk_want rfl rfl s87 ?_
                      intro K hK
                      gi_wp2
                      exact hK (.bool false) _ rfl ((fun _ => Below.refl _ _) _)
                    · -- 8
                      intro a' w' hA hC hD
                      obtain ⟨u87, s87, r87⟩ := hD ⟨3, .data⟩ (by simp) rfl _ rfl
                      replace r87 : u87 = .bool false := r87
                      subst r87
                      obtain ⟨u91, s91, r91⟩ := hD ⟨7, .data⟩ (by simp) rfl _ rfl
                      replace r91 : u91 = .bool false := r91
                      subst r91
                      clear hA hD
                      refine stepOk_plain rfl ?_
                      intro K hK
                      gi_wp2
                      exact hK (.bool false) _ rfl ((fun _ => Below.refl _ _) _)
                    · -- 9
                      intro a' w' hA hC hD
                      obtain ⟨u92, s92, r92⟩ := hD ⟨8, .data⟩ (by simp) rfl _ rfl
                      replace r92 : u92 = .bool false := r92
                      subst r92
                      clear hA hD
                      refine stepOk_plain rfl ?_
                      intro K hK
                      gi_wp2
                      exact hK (.bool false) _ rfl ((fun _ => Below.refl _ _) _)
                    · -- 10
                      intro a' w' hA hC hD
                      have s3 : a'.tmps[3]? = some (.pointer (some ⟨w.heap.size + 1, 0, none⟩)) := (hA.at 3 (by kernel_rfl)).trans rfl
                      obtain ⟨u93, s93, r93⟩ := hD ⟨9, .guard⟩ (by simp) rfl _ rfl
                      replace r93 : u93 = .bool false := r93
                      subst r93
                      obtain ⟨c0, c1, c2, c3, c4, c5, c6, c7, c8⟩ := vec9 ((hC.block _ (block_lt Hb.out)).trans Hb.out)
                      clear hA hD
                      refine stepOk_want rfl rfl s93 ?_
                      intro K hK
                      gi_wp2
                      exact hK (vecV b) _ rfl ((fun _ => Below.refl _ _) _)
                    · -- 11
                      intro a' w' hA hC hD
                      have s11 : a'.tmps[11]? = some (.pointer (some ⟨wi.heap.size, 0, none⟩)) := (hA.at 11 (by kernel_rfl)).trans rfl
                      obtain ⟨u93, s93, r93⟩ := hD ⟨9, .guard⟩ (by simp) rfl _ rfl
                      replace r93 : u93 = .bool false := r93
                      subst r93
                      have hq := (hC.block _ (block_lt H11.out)).trans H11.out; have c0 := cell_of_block hq (k := 0) rfl; have c1 := cell_of_block hq (k := 1) rfl; have c2 := cell_of_block hq (k := 2) rfl
                      clear hA hD
                      refine stepOk_want rfl rfl s93 ?_
                      intro K hK
                      gi_wp2
                      exact hK (IdT.val ⟨9, site, t⟩) _ rfl ((fun _ => Below.refl _ _) _)
                    · -- 12
                      intro a' w' hA hC hD
                      obtain ⟨u94, s94, r94⟩ := hD ⟨10, .data⟩ (by simp) rfl _ rfl
                      replace r94 : u94 = vecV b := r94
                      subst r94
                      obtain ⟨u95, s95, r95⟩ := hD ⟨11, .data⟩ (by simp) rfl _ rfl
                      replace r95 : u95 = IdT.val ⟨9, site, t⟩ := r95
                      subst r95
                      obtain ⟨u93, s93, r93⟩ := hD ⟨9, .chain⟩ (by simp) rfl _ rfl
                      replace r93 : u93 = .bool false := r93
                      subst r93
                      clear hA hD
                      refine stepOk_want rfl rfl s93 ?_
                      intro K hK
                      gi_wp2_with fail; refine (callsIn_wide.2 (has_any b ⟨9, site, t⟩ _)).mono ?_; rintro e w2 ⟨rfl, hb⟩
                      exact hK _ _ (show _ = (.bool true : Value) from by first | (simp only [G3.out, cond_true, cond_false, Bool.true_and, Bool.false_and, Bool.not_true, Bool.not_false, beq_self_eq_true]; try rfl) | rfl) hb
                    · -- 13
                      intro a' w' hA hC hD
                      obtain ⟨u96, s96, r96⟩ := hD ⟨12, .data⟩ (by simp) rfl _ rfl
                      replace r96 : u96 = .bool true := r96
                      subst r96
                      obtain ⟨u93, s93, r93⟩ := hD ⟨9, .guard⟩ (by simp) rfl _ rfl
                      replace r93 : u93 = .bool false := r93
                      subst r93
                      clear hA hD
                      refine stepOk_want rfl rfl s93 ?_
                      intro K hK
                      gi_wp2
                      exact hK (.bool false) _ rfl ((fun _ => Below.refl _ _) _)
                    · -- 14
                      intro a' w' hA hC hD
                      obtain ⟨u93, s93, r93⟩ := hD ⟨9, .data⟩ (by simp) rfl _ rfl
                      replace r93 : u93 = .bool false := r93
                      subst r93
                      obtain ⟨u97, s97, r97⟩ := hD ⟨13, .data⟩ (by simp) rfl _ rfl
                      replace r97 : u97 = .bool false := r97
                      subst r97
                      clear hA hD
                      refine stepOk_plain rfl ?_
                      intro K hK
                      gi_wp2
                      exact hK (.bool false) _ rfl ((fun _ => Below.refl _ _) _)
                  case fin =>
                    intro w18 hC
                    simp only [EndFrom, forall_eq, Act.put, List.length_cons, List.length_nil, List.drop_succ_cons, List.drop_zero, Nat.reduceAdd, List.setIfInBounds_toArray, List.set_cons_succ, List.set_cons_zero]
                    have HR := Lib.hid (HR.out.below hC)
                    have H9 := Lib.hid ((hC.block _ (block_lt H9.out)).trans H9.out)
                    have H11 := Lib.hid ((hC.block _ (block_lt H11.out)).trans H11.out)
                    clear hC H6 Hb
                    gi_wp2
                    have h6 := HR.out.h6
                    obtain ⟨u0, u1, u2, u3, u4, u5, u6, u7, u8⟩ := vec9 h6
                    have i0 := cell_of_block H11.out (k := 0) rfl
                    have i1 := cell_of_block H11.out (k := 1) rfl
                    have i2 := cell_of_block H11.out (k := 2) rfl
                    clear h6
                    go_wp2_with fail
                    refine (with_any U HR.out.nn _ 1 (fun _ => ⟨9, site, t⟩) _ (by omega) (elems_of_block (World.alloc_heap_new _ _) (fun j hj => by rcases j with _ | _ | _ | j <;> first | rfl | omega))).mono ?_
                    rintro e w20 ⟨rfl, hb⟩
                    rw [G4.out]
                    simp only [resV, vecV, lit9]
                    have hb' := ((Below.refl w18.heap.size w18).alloc (Nat.le_refl _) (.cells #[.int .u64 9, .int .i64 site, .int .u64 t] 38)).trans (hb.mono (by simp))
                    have hb2 := hb'.alloc hb'.size (.cells (lit9 U2) 24)
                    have HR := Lib.hid (HR.out.below hb2)
                    have H9 := Lib.hid ((hb2.block _ (block_lt H9.out)).trans H9.out)
                    have H11 := Lib.hid ((hb2.block _ (block_lt H11.out)).trans H11.out)
                    have H12 := Lib.hid (World.alloc_heap_new w20 (.cells (lit9 U2) 24))
                    clear hb hb' hb2 u0 u1 u2 u3 u4 u5 u6 u7 u8 i0 i1 i2
                    repeat ((fail_if_success (with_reducible refine stop_at (id := 21) ?_)); (first | go_values | go_skip | go_guarded | go_step | go_upon | go_back | (simp only [Int.not_lt, Int.not_le] at *; go_simp) | (go_values <;> (try go_simp)) | (go_ite <;> go_prune <;> (try go_simp)) | (split <;> (first | (rename_i hx; exact (hx _ rfl).elim) | go_prune))))
                    have H6 := Lib.hid HR.out.h6
                    refine (wpIn_wide (n := 0)).1 ?_
                    refine wp_region_text [(fun v_ _ => v_ = (.int .i64 0 : Value)), (fun v_ _ => v_ = (.bool false : Value)), (fun v_ _ => v_ = (.bool false : Value)), (fun v_ _ => v_ = (vecV U2 : Value)), (fun v_ _ => v_ = (IdT.val ⟨9, site, t⟩ : Value)), (fun v_ _ => v_ = (.bool true : Value)), (fun v_ _ => v_ = (.bool false : Value)), (fun v_ _ => v_ = (.bool false : Value)), (fun v_ _ => v_ = (.bool false : Value)), (fun v_ _ => v_ = (vecV U2 : Value)), (fun v_ _ => v_ = (vecV U : Value)), (fun v_ _ => v_ = (.bool true : Value)), (fun v_ _ => v_ = (.bool false : Value)), (fun v_ _ => v_ = (.bool false : Value))] (fun x y => Below x.heap.size x y) (fun _ => Below.refl _ _) (fun h k => grows_trans h k) ⟨fun _ _ _ _ h => h, fun _ _ _ _ h => h, fun _ _ _ _ h => h, fun _ _ _ _ h => h, fun _ _ _ _ h => h, fun _ _ _ _ h => h, fun _ _ _ _ h => h, fun _ _ _ _ h => h, fun _ _ _ _ h => h, fun _ _ _ _ h => h, fun _ _ _ _ h => h, fun _ _ _ _ h => h, fun _ _ _ _ h => h, fun _ _ _ _ h => h, trivial⟩ (by kernel_rfl) ?steps ?fin
                    case steps =>
                      refine ⟨?_, ?_, ?_, ?_, ?_, ?_, ?_, ?_, ?_, ?_, ?_, ?_, ?_, ?_, trivial⟩
                      · -- 0
                        intro a' w' hA hC hD
                        have s13 : a'.tmps[13]? = some (.int .i64 0) := (hA.at 13 (by kernel_rfl)).trans rfl
                        clear hA hD
                        refine stepOk_plain rfl ?_
                        intro K hK
                        gi_wp2
                        exact hK (.int .i64 0) _ rfl ((fun _ => Below.refl _ _) _)
                      · -- 1
                        intro a' w' hA hC hD
                        obtain ⟨u106, s106, r106⟩ := hD ⟨0, .data⟩ (by simp) rfl _ rfl
                        replace r106 : u106 = .int .i64 0 := r106
                        subst r106
                        clear hA hD
                        refine stepOk_plain rfl ?_
                        intro K hK
                        gi_wp2
                        exact hK (.bool false) _ rfl ((fun _ => Below.refl _ _) _)
                      · -- 2
                        intro a' w' hA hC hD
                        obtain ⟨u107, s107, r107⟩ := hD ⟨1, .data⟩ (by simp) rfl _ rfl
                        replace r107 : u107 = .bool false := r107
                        subst r107
                        clear hA hD
                        refine stepOk_plain rfl ?_
                        intro K hK
                        gi_wp2
                        exact hK (.bool false) _ rfl ((fun _ => Below.refl _ _) _)
                      · -- 3
                        intro a' w' hA hC hD
                        have s12 : a'.tmps[12]? = some (.pointer (some ⟨w20.heap.size, 0, none⟩)) := (hA.at 12 (by kernel_rfl)).trans rfl
                        obtain ⟨u108, s108, r108⟩ := hD ⟨2, .guard⟩ (by simp) rfl _ rfl
                        replace r108 : u108 = .bool false := r108
                        subst r108
                        obtain ⟨c0, c1, c2, c3, c4, c5, c6, c7, c8⟩ := vec9 ((hC.block _ (block_lt H12.out)).trans H12.out)
                        clear hA hD
                        refine stepOk_want rfl rfl s108 ?_
                        intro K hK
                        gi_wp2
                        exact hK (vecV U2) _ rfl ((fun _ => Below.refl _ _) _)
                      · -- 4
                        intro a' w' hA hC hD
                        have s11 : a'.tmps[11]? = some (.pointer (some ⟨wi.heap.size, 0, none⟩)) := (hA.at 11 (by kernel_rfl)).trans rfl
                        obtain ⟨u108, s108, r108⟩ := hD ⟨2, .guard⟩ (by simp) rfl _ rfl
                        replace r108 : u108 = .bool false := r108
                        subst r108
                        have hq := (hC.block _ (block_lt H11.out)).trans H11.out; have c0 := cell_of_block hq (k := 0) rfl; have c1 := cell_of_block hq (k := 1) rfl; have c2 := cell_of_block hq (k := 2) rfl
                        clear hA hD
                        refine stepOk_want rfl rfl s108 ?_
                        intro K hK
                        gi_wp2
                        exact hK (IdT.val ⟨9, site, t⟩) _ rfl ((fun _ => Below.refl _ _) _)
                      · -- 5
                        intro a' w' hA hC hD
                        obtain ⟨u109, s109, r109⟩ := hD ⟨3, .data⟩ (by simp) rfl _ rfl
                        replace r109 : u109 = vecV U2 := r109
                        subst r109
                        obtain ⟨u110, s110, r110⟩ := hD ⟨4, .data⟩ (by simp) rfl _ rfl
                        replace r110 : u110 = IdT.val ⟨9, site, t⟩ := r110
                        subst r110
                        obtain ⟨u108, s108, r108⟩ := hD ⟨2, .chain⟩ (by simp) rfl _ rfl
                        replace r108 : u108 = .bool false := r108
                        subst r108
                        clear hA hD
                        refine stepOk_want rfl rfl s108 ?_
                        intro K hK
                        gi_wp2_with fail; refine (callsIn_wide.2 (has_any U2 ⟨9, site, t⟩ _)).mono ?_; rintro e w2 ⟨rfl, hb⟩
                        exact hK _ _ (show _ = (.bool true : Value) from by first | (simp only [G5.out, cond_true, cond_false, Bool.true_and, Bool.false_and, Bool.not_true, Bool.not_false, beq_self_eq_true]; try rfl) | rfl) hb
                      · -- 6
                        intro a' w' hA hC hD
                        obtain ⟨u111, s111, r111⟩ := hD ⟨5, .data⟩ (by simp) rfl _ rfl
                        replace r111 : u111 = .bool true := r111
                        subst r111
                        obtain ⟨u108, s108, r108⟩ := hD ⟨2, .guard⟩ (by simp) rfl _ rfl
                        replace r108 : u108 = .bool false := r108
                        subst r108
                        clear hA hD
                        refine stepOk_want rfl rfl s108 ?_
                        intro K hK
                        gi_wp2
                        exact hK (.bool false) _ rfl ((fun _ => Below.refl _ _) _)
                      · -- 7
                        intro a' w' hA hC hD
                        obtain ⟨u108, s108, r108⟩ := hD ⟨2, .data⟩ (by simp) rfl _ rfl
                        replace r108 : u108 = .bool false := r108
                        subst r108
                        obtain ⟨u112, s112, r112⟩ := hD ⟨6, .data⟩ (by simp) rfl _ rfl
                        replace r112 : u112 = .bool false := r112
                        subst r112
                        clear hA hD
                        refine stepOk_plain rfl ?_
                        intro K hK
                        gi_wp2
                        exact hK (.bool false) _ rfl ((fun _ => Below.refl _ _) _)
                      · -- 8
                        intro a' w' hA hC hD
                        obtain ⟨u113, s113, r113⟩ := hD ⟨7, .data⟩ (by simp) rfl _ rfl
                        replace r113 : u113 = .bool false := r113
                        subst r113
                        clear hA hD
                        refine stepOk_plain rfl ?_
                        intro K hK
                        gi_wp2
                        exact hK (.bool false) _ rfl ((fun _ => Below.refl _ _) _)
                      · -- 9
                        intro a' w' hA hC hD
                        have s12 : a'.tmps[12]? = some (.pointer (some ⟨w20.heap.size, 0, none⟩)) := (hA.at 12 (by kernel_rfl)).trans rfl
                        obtain ⟨u114, s114, r114⟩ := hD ⟨8, .guard⟩ (by simp) rfl _ rfl
                        replace r114 : u114 = .bool false := r114
                        subst r114
                        obtain ⟨c0, c1, c2, c3, c4, c5, c6, c7, c8⟩ := vec9 ((hC.block _ (block_lt H12.out)).trans H12.out)
                        clear hA hD
                        refine stepOk_want rfl rfl s114 ?_
                        intro K hK
                        gi_wp2
                        exact hK (vecV U2) _ rfl ((fun _ => Below.refl _ _) _)
                      · -- 10
                        intro a' w' hA hC hD
                        have s6 : a'.tmps[6]? = some (.pointer (some ⟨w5.heap.size, 0, none⟩)) := (hA.at 6 (by kernel_rfl)).trans rfl
                        obtain ⟨u114, s114, r114⟩ := hD ⟨8, .guard⟩ (by simp) rfl _ rfl
                        replace r114 : u114 = .bool false := r114
                        subst r114
                        obtain ⟨c0, c1, c2, c3, c4, c5, c6, c7, c8⟩ := vec9 ((hC.block _ (block_lt H6.out)).trans H6.out)
                        clear hA hD
                        refine stepOk_want rfl rfl s114 ?_
                        intro K hK
                        gi_wp2
                        exact hK (vecV U) _ rfl ((fun _ => Below.refl _ _) _)
                      · -- 11
                        intro a' w' hA hC hD
                        obtain ⟨u115, s115, r115⟩ := hD ⟨9, .data⟩ (by simp) rfl _ rfl
                        replace r115 : u115 = vecV U2 := r115
                        subst r115
                        obtain ⟨u116, s116, r116⟩ := hD ⟨10, .data⟩ (by simp) rfl _ rfl
                        replace r116 : u116 = vecV U := r116
                        subst r116
                        obtain ⟨u114, s114, r114⟩ := hD ⟨8, .chain⟩ (by simp) rfl _ rfl
                        replace r114 : u114 = .bool false := r114
                        subst r114
                        clear hA hD
                        refine stepOk_want rfl rfl s114 ?_
                        intro K hK
                        gi_wp2_with fail; refine (callsIn_wide.2 (covers_any U2 U _)).mono ?_; rintro e w2 ⟨rfl, hb⟩
                        exact hK _ _ (show _ = (.bool true : Value) from by first | (simp only [G6.out, cond_true, cond_false, Bool.true_and, Bool.false_and, Bool.not_true, Bool.not_false, beq_self_eq_true]; try rfl) | rfl) hb
                      · -- 12
                        intro a' w' hA hC hD
                        obtain ⟨u117, s117, r117⟩ := hD ⟨11, .data⟩ (by simp) rfl _ rfl
                        replace r117 : u117 = .bool true := r117
                        subst r117
                        obtain ⟨u114, s114, r114⟩ := hD ⟨8, .guard⟩ (by simp) rfl _ rfl
                        replace r114 : u114 = .bool false := r114
                        subst r114
                        clear hA hD
                        refine stepOk_want rfl rfl s114 ?_
                        intro K hK
                        gi_wp2
                        exact hK (.bool false) _ rfl ((fun _ => Below.refl _ _) _)
                      · -- 13
                        intro a' w' hA hC hD
                        obtain ⟨u114, s114, r114⟩ := hD ⟨8, .data⟩ (by simp) rfl _ rfl
                        replace r114 : u114 = .bool false := r114
                        subst r114
                        obtain ⟨u118, s118, r118⟩ := hD ⟨12, .data⟩ (by simp) rfl _ rfl
                        replace r118 : u118 = .bool false := r118
                        subst r118
                        clear hA hD
                        refine stepOk_plain rfl ?_
                        intro K hK
                        gi_wp2
                        exact hK (.bool false) _ rfl ((fun _ => Below.refl _ _) _)
                    case fin =>
                      intro w21 hC
                      simp only [EndFrom, forall_eq, Act.put, List.length_cons, List.length_nil, List.drop_succ_cons, List.drop_zero, Nat.reduceAdd, List.setIfInBounds_toArray, List.set_cons_succ, List.set_cons_zero]
                      have HR := Lib.hid (HR.out.below hC)
                      have H9 := Lib.hid ((hC.block _ (block_lt H9.out)).trans H9.out)
                      have H12 := Lib.hid ((hC.block _ (block_lt H12.out)).trans H12.out)
                      clear hC H6
                      gi_wp2
                      have h6 := HR.out.h6
                      have h12 := H12.out
                      obtain ⟨u0, u1, u2, u3, u4, u5, u6, u7, u8⟩ := vec9 h6
                      obtain ⟨n0, n1, n2, n3, n4, n5, n6, n7, n8⟩ := vec9 h12
                      have hfr := free_of_block h6
                      clear h6 h12
                      have hmb : 0 ≤ manyTo L k + (t - fr) ∧ manyTo L k + (t - fr) ≤ 60 := by have := Hst.out; omega
                      go_wp2_with fail
                      go_roundw
                      case rel =>
                        refine ⟨t + 1, by omega, by omega, by go_num, ?_, ?_, (heap_set9_eq U2 (by omega)).trans H9.out⟩
                        · congr 1
                          omega
                        · rw [show t + 1 - 1 = t from by omega, HU2.out]
                          exact HR.out.store U2 G7.out G8.out
                      case measure => simp [intOf]; omega
                · obtain rfl : t = upto + 1 := by omega
                  have hfun : upd (fillTo a b L k) site.toNat (upto + 1 - 1) = fillTo a b L (k + 1) := by
                    funext j
                    have hm := Hme.out
                    rw [Hsucc.out j]
                    unfold upd
                    by_cases e : j = site.toNat
                    · rw [if_pos e, if_pos (by omega), e]; omega
                    · rw [if_neg e, if_neg (by omega)]
                  have hmk : manyTo L k + (upto + 1 - fr) = manyTo L (k + 1) := by have := Hst.out; omega
                  rw [hfun] at HR
                  rw [hmk]
                  clear hfun hmk
                  go_wp2_with fail
                  go_roundw
                  case rel => exact ⟨k + 1, hkn, by go_num, rfl, HR.out⟩
                  case measure => simp [intOf]; omega
            · obtain rfl : k = L.length := by omega
              have hFJ : vecEq (fillTo a b L L.length) (mergeN max a (fun _ => b) 1) = true := by
                rw [vecEq_iff]
                intro j hj
                rw [HLl.out]
                exact fillTo_all Hva.out Hvb.out j hj
              have hjn := join_ok a
              obtain ⟨F, hF⟩ : ∃ F, fillTo a b L L.length = F := ⟨_, rfl⟩
              obtain ⟨J, hJ⟩ : ∃ J, mergeN max a (fun _ => b) 1 = J := ⟨_, rfl⟩
              have hjn := fun p => join_ok a (.slice (some ⟨p, 0, none⟩) 1 1) 1 (fun _ => b)
              rw [hJ] at hjn
              rw [hF] at HR
              rw [hF, hJ] at hFJ
              have HFJ := Lib.hid hFJ
              have Hjn := Lib.hid hjn
              clear hF hJ hFJ hjn
              rw [show manyTo L L.length = manyOf L from rfl]
              have ha := HR.out.ha
              have hb := HR.out.hb
              obtain ⟨a0, a1, a2, a3, a4, a5, a6, a7, a8⟩ := vec9 ha
              obtain ⟨b0, b1, b2, b3, b4, b5, b6, b7, b8⟩ := vec9 hb
              clear ha hb
              go_wp2_with fail
              refine (Hjn.out _ _ (by omega) (elems_vec1 (World.alloc_heap_new _ _)) Hva.out (fun _ _ => Hvb.out)).mono ?_
              rintro e w25 ⟨rfl, hb⟩
              simp only [vecV, lit9]
              have hb' := ((Below.refl wr.heap.size wr).alloc (Nat.le_refl _) (.cells (lit9 b) 24)).trans (hb.mono (by simp))
              have hb2 := hb'.alloc hb'.size (.cells (lit9 J) 24)
              have HR := Lib.hid (HR.out.below hb2)
              have H14 := Lib.hid (World.alloc_heap_new w25 (.cells (lit9 J) 24))
              clear hb hb' hb2 a0 a1 a2 a3 a4 a5 a6 a7 a8 b0 b1 b2 b3 b4 b5 b6 b7 b8 Hjn
              repeat ((fail_if_success (with_reducible refine stop_at (id := 26) ?_)); (first | go_values | go_skip | go_guarded | go_step | go_upon | go_back | (simp only [Int.not_lt, Int.not_le] at *; go_simp) | (go_values <;> (try go_simp)) | (go_ite <;> go_prune <;> (try go_simp)) | (split <;> (first | (rename_i hx; exact (hx _ rfl).elim) | go_prune))))
              have HA := Lib.hid HR.out.ha
              have Hb := Lib.hid HR.out.hb
              have H6 := Lib.hid HR.out.h6
              refine (wpIn_wide (n := 0)).1 ?_
              refine wp_region_text [(fun v_ _ => v_ = (.int .i64 0 : Value)), (fun v_ _ => v_ = (.bool true : Value)), (fun v_ _ => v_ = (.bool true : Value)), (fun v_ _ => v_ = (vecV F : Value)), (fun v_ _ => v_ = (vecV J : Value)), (fun v_ _ => v_ = (.bool true : Value)), (fun v_ _ => v_ = (.bool true : Value)), (fun v_ _ => v_ = (.bool true : Value)), (fun v_ _ => v_ = (.int .u64 (manyOf L) : Value)), (fun v_ _ => v_ = (vecV a : Value)), (fun v_ _ => v_ = (vecV b : Value)), (fun v_ _ => v_ = (.int .u64 (manyOf L) : Value)), (fun v_ _ => v_ = (.bool true : Value)), (fun v_ _ => v_ = (.bool true : Value))] (fun x y => Below x.heap.size x y) (fun _ => Below.refl _ _) (fun h k => grows_trans h k) ⟨fun _ _ _ _ h => h, fun _ _ _ _ h => h, fun _ _ _ _ h => h, fun _ _ _ _ h => h, fun _ _ _ _ h => h, fun _ _ _ _ h => h, fun _ _ _ _ h => h, fun _ _ _ _ h => h, fun _ _ _ _ h => h, fun _ _ _ _ h => h, fun _ _ _ _ h => h, fun _ _ _ _ h => h, fun _ _ _ _ h => h, fun _ _ _ _ h => h, trivial⟩ (by kernel_rfl) ?steps ?fin
              case steps =>
                refine ⟨?_, ?_, ?_, ?_, ?_, ?_, ?_, ?_, ?_, ?_, ?_, ?_, ?_, ?_, trivial⟩
                · -- 0
                  intro a' w' hA hC hD
                  have s15 : a'.tmps[15]? = some (.int .i64 0) := (hA.at 15 (by kernel_rfl)).trans rfl
                  clear hA hD
                  refine stepOk_plain rfl ?_
                  intro K hK
                  gi_wp2
                  exact hK (.int .i64 0) _ rfl ((fun _ => Below.refl _ _) _)
                · -- 1
                  intro a' w' hA hC hD
                  obtain ⟨u131, s131, r131⟩ := hD ⟨0, .data⟩ (by simp) rfl _ rfl
                  replace r131 : u131 = .int .i64 0 := r131
                  subst r131
                  clear hA hD
                  refine stepOk_plain rfl ?_
                  intro K hK
                  gi_wp2
                  exact hK (.bool true) _ rfl ((fun _ => Below.refl _ _) _)
                · -- 2
                  intro a' w' hA hC hD
                  obtain ⟨u132, s132, r132⟩ := hD ⟨1, .data⟩ (by simp) rfl _ rfl
                  replace r132 : u132 = .bool true := r132
                  subst r132
                  clear hA hD
                  refine stepOk_plain rfl ?_
                  intro K hK
                  gi_wp2
                  exact hK (.bool true) _ rfl ((fun _ => Below.refl _ _) _)
                · -- 3
                  intro a' w' hA hC hD
                  have s6 : a'.tmps[6]? = some (.pointer (some ⟨w5.heap.size, 0, none⟩)) := (hA.at 6 (by kernel_rfl)).trans rfl
                  obtain ⟨u133, s133, r133⟩ := hD ⟨2, .guard⟩ (by simp) rfl _ rfl
                  replace r133 : u133 = .bool true := r133
                  subst r133
                  obtain ⟨c0, c1, c2, c3, c4, c5, c6, c7, c8⟩ := vec9 ((hC.block _ (block_lt H6.out)).trans H6.out)
                  clear hA hD
                  refine stepOk_want rfl rfl s133 ?_
                  intro K hK
                  gi_wp2
                  exact hK (vecV F) _ rfl ((fun _ => Below.refl _ _) _)
                · -- 4
                  intro a' w' hA hC hD
                  have s14 : a'.tmps[14]? = some (.pointer (some ⟨w25.heap.size, 0, none⟩)) := (hA.at 14 (by kernel_rfl)).trans rfl
                  obtain ⟨u133, s133, r133⟩ := hD ⟨2, .guard⟩ (by simp) rfl _ rfl
                  replace r133 : u133 = .bool true := r133
                  subst r133
                  obtain ⟨c0, c1, c2, c3, c4, c5, c6, c7, c8⟩ := vec9 ((hC.block _ (block_lt H14.out)).trans H14.out)
                  clear hA hD
                  refine stepOk_want rfl rfl s133 ?_
                  intro K hK
                  gi_wp2
                  exact hK (vecV J) _ rfl ((fun _ => Below.refl _ _) _)
                · -- 5
                  intro a' w' hA hC hD
                  obtain ⟨u134, s134, r134⟩ := hD ⟨3, .data⟩ (by simp) rfl _ rfl
                  replace r134 : u134 = vecV F := r134
                  subst r134
                  obtain ⟨u135, s135, r135⟩ := hD ⟨4, .data⟩ (by simp) rfl _ rfl
                  replace r135 : u135 = vecV J := r135
                  subst r135
                  obtain ⟨u133, s133, r133⟩ := hD ⟨2, .guard⟩ (by simp) rfl _ rfl
                  replace r133 : u133 = .bool true := r133
                  subst r133
                  clear hA hD
                  refine stepOk_want rfl rfl s133 ?_
                  intro K hK
                  have hq := run_vecEq F J; rw [HFJ.out] at hq; simp only [vecV, lit9] at s134 s135; gi_wp2
                  exact hK (.bool true) _ rfl ((fun _ => Below.refl _ _) _)
                · -- 6
                  intro a' w' hA hC hD
                  obtain ⟨u133, s133, r133⟩ := hD ⟨2, .data⟩ (by simp) rfl _ rfl
                  replace r133 : u133 = .bool true := r133
                  subst r133
                  obtain ⟨u136, s136, r136⟩ := hD ⟨5, .data⟩ (by simp) rfl _ rfl
                  replace r136 : u136 = .bool true := r136
                  subst r136
                  clear hA hD
                  refine stepOk_plain rfl ?_
                  intro K hK
                  gi_wp2
                  exact hK (.bool true) _ rfl ((fun _ => Below.refl _ _) _)
                · -- 7
                  intro a' w' hA hC hD
                  obtain ⟨u137, s137, r137⟩ := hD ⟨6, .data⟩ (by simp) rfl _ rfl
                  replace r137 : u137 = .bool true := r137
                  subst r137
                  clear hA hD
                  refine stepOk_plain rfl ?_
                  intro K hK
                  gi_wp2
                  exact hK (.bool true) _ rfl ((fun _ => Below.refl _ _) _)
                · -- 8
                  intro a' w' hA hC hD
                  have s7 : a'.tmps[7]? = some (.int .u64 (manyOf L)) := (hA.at 7 (by kernel_rfl)).trans rfl
                  obtain ⟨u138, s138, r138⟩ := hD ⟨7, .guard⟩ (by simp) rfl _ rfl
                  replace r138 : u138 = .bool true := r138
                  subst r138
                  clear hA hD
                  refine stepOk_want rfl rfl s138 ?_
                  intro K hK
                  gi_wp2
                  exact hK (.int .u64 (manyOf L)) _ rfl ((fun _ => Below.refl _ _) _)
                · -- 9
                  intro a' w' hA hC hD
                  have s2 : a'.tmps[2]? = some (.pointer (some ⟨w.heap.size, 0, none⟩)) := (hA.at 2 (by kernel_rfl)).trans rfl
                  obtain ⟨u138, s138, r138⟩ := hD ⟨7, .guard⟩ (by simp) rfl _ rfl
                  replace r138 : u138 = .bool true := r138
                  subst r138
                  obtain ⟨c0, c1, c2, c3, c4, c5, c6, c7, c8⟩ := vec9 ((hC.block _ (block_lt HA.out)).trans HA.out)
                  clear hA hD
                  refine stepOk_want rfl rfl s138 ?_
                  intro K hK
                  gi_wp2
                  exact hK (vecV a) _ rfl ((fun _ => Below.refl _ _) _)
                · -- 10
                  intro a' w' hA hC hD
                  have s3 : a'.tmps[3]? = some (.pointer (some ⟨w.heap.size + 1, 0, none⟩)) := (hA.at 3 (by kernel_rfl)).trans rfl
                  obtain ⟨u138, s138, r138⟩ := hD ⟨7, .guard⟩ (by simp) rfl _ rfl
                  replace r138 : u138 = .bool true := r138
                  subst r138
                  obtain ⟨c0, c1, c2, c3, c4, c5, c6, c7, c8⟩ := vec9 ((hC.block _ (block_lt Hb.out)).trans Hb.out)
                  clear hA hD
                  refine stepOk_want rfl rfl s138 ?_
                  intro K hK
                  gi_wp2
                  exact hK (vecV b) _ rfl ((fun _ => Below.refl _ _) _)
                · -- 11
                  intro a' w' hA hC hD
                  obtain ⟨u140, s140, r140⟩ := hD ⟨9, .data⟩ (by simp) rfl _ rfl
                  replace r140 : u140 = vecV a := r140
                  subst r140
                  obtain ⟨u141, s141, r141⟩ := hD ⟨10, .data⟩ (by simp) rfl _ rfl
                  replace r141 : u141 = vecV b := r141
                  subst r141
                  obtain ⟨u138, s138, r138⟩ := hD ⟨7, .chain⟩ (by simp) rfl _ rfl
                  replace r138 : u138 = .bool true := r138
                  subst r138
                  clear hA hD
                  refine stepOk_want rfl rfl s138 ?_
                  intro K hK
                  gi_wp2_with fail; refine (callsIn_wide.2 (many_any a b H0.out _)).mono ?_; rintro e w2 ⟨rfl, hb⟩
                  exact hK _ _ (show _ = (.int .u64 (manyOf L) : Value) from by first | (simp only [HLe.out, cond_true, cond_false, Bool.true_and, Bool.false_and, Bool.not_true, Bool.not_false, beq_self_eq_true]; try rfl) | rfl) hb
                · -- 12
                  intro a' w' hA hC hD
                  obtain ⟨u139, s139, r139⟩ := hD ⟨8, .data⟩ (by simp) rfl _ rfl
                  replace r139 : u139 = .int .u64 (manyOf L) := r139
                  subst r139
                  obtain ⟨u142, s142, r142⟩ := hD ⟨11, .data⟩ (by simp) rfl _ rfl
                  replace r142 : u142 = .int .u64 (manyOf L) := r142
                  subst r142
                  obtain ⟨u138, s138, r138⟩ := hD ⟨7, .guard⟩ (by simp) rfl _ rfl
                  replace r138 : u138 = .bool true := r138
                  subst r138
                  clear hA hD
                  refine stepOk_want rfl rfl s138 ?_
                  intro K hK
                  gi_wp2; exact hK _ _ (show _ = (Value.bool true) from by simp) (Below.refl _ _)
                · -- 13
                  intro a' w' hA hC hD
                  obtain ⟨u138, s138, r138⟩ := hD ⟨7, .data⟩ (by simp) rfl _ rfl
                  replace r138 : u138 = .bool true := r138
                  subst r138
                  obtain ⟨u143, s143, r143⟩ := hD ⟨12, .data⟩ (by simp) rfl _ rfl
                  replace r143 : u143 = .bool true := r143
                  subst r143
                  clear hA hD
                  refine stepOk_plain rfl ?_
                  intro K hK
                  gi_wp2
                  exact hK (.bool true) _ rfl ((fun _ => Below.refl _ _) _)
              case fin =>
                intro w26 hC
                simp only [EndFrom, forall_eq, Act.put, List.length_cons, List.length_nil, List.drop_succ_cons, List.drop_zero, Nat.reduceAdd, List.setIfInBounds_toArray, List.set_cons_succ, List.set_cons_zero]
                gi_wp2
                go_wp2
                go_ret
                exact ⟨rfl, HR.out.low.trans (hC.mono HR.out.low.size)⟩
end Go.Proofs.Ytppaheekpmgifaa
