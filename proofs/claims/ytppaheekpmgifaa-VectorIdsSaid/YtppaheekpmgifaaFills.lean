/- VectorFills: the walk. -/
import Derived.Test.YtppaheekpmgifaaFillsA
namespace Go.Proofs.Ytppaheekpmgifaa
set_option linter.unusedSimpArgs false
set_option linter.unusedVariables false
open Go.RowKit Go.Shelf

set_option maxRecDepth 100000 in
set_option maxHeartbeats 2000000 in
theorem fills_bad (a b : Nat → Int) (ha0 : ∀ k, 0 ≤ a k) (w : World) (hno : ¬ (vecOk a = true ∧ vecOk b = true)) : Calls Try.prog 4 #[vecV a, vecV b] w (Gives (.bool true) w) := by
  have hl : lacks a b = [] := if_neg hno
  have hcov : covers a b = false := by
    cases h : covers a b with
    | false => rfl
    | true => exact absurd ⟨((covers_iff a b).1 h).1, ((covers_iff a b).1 h).2.1⟩ hno
  have hmany : manyOf (lacks a b) = 0 := by rw [hl]; rfl
  have H0 := Lib.hid ha0
  have Hl := Lib.hid hl
  have Hcov := Lib.hid hcov
  have Hmany := Lib.hid hmany
  cases hva : vecOk a
  · have Hva := Lib.hid hva
    clear hno hl hcov hmany ha0 hva
    go_enter Try.func4, Try.ntmps4
    simp only [vecV, lit9]
    go_wp2_with fail
    refine (wakes_any _).mono ?_
    rintro e w1 ⟨rfl, hb⟩
    have h0 := ((Below.refl w.heap.size w).alloc (Nat.le_refl _) (.cells (lit9 a) 24)).alloc (by simp) (.cells (lit9 b) 24)
    have hB := h0.trans (hb.mono (by simp; omega))
    have ha' := (hb.block w.heap.size (by simp; omega)).trans (heap_alloc_keeps (World.alloc_heap_new w (.cells (lit9 a) 24)) (.cells (lit9 b) 24))
    have hb' := (hb.block (w.heap.size + 1) (by simp)).trans (newBlock (w.alloc (.cells (lit9 a) 24)) (.cells (lit9 b) 24) (w.heap.size + 1) (by simp))
    clear hb h0
    obtain ⟨a0, a1, a2, a3, a4, a5, a6, a7, a8⟩ := vec9 ha'
    obtain ⟨b0, b1, b2, b3, b4, b5, b6, b7, b8⟩ := vec9 hb'
    have HA := Lib.hid ha'
    have Hb := Lib.hid hb'
    have HB := Lib.hid hB
    clear ha' hb' hB
    go_wp2_with fail
    refine (lacks_any a b H0.out _).mono ?_
    rintro e w2 ⟨sv, rfl, hrow, hb⟩
    have HA := Lib.hid ((hb.block _ (block_lt HA.out)).trans HA.out)
    have Hb := Lib.hid ((hb.block _ (block_lt Hb.out)).trans Hb.out)
    have HB := Lib.hid (HB.out.trans (hb.mono HB.out.size))
    clear a0 a1 a2 a3 a4 a5 a6 a7 a8 b0 b1 b2 b3 b4 b5 b6 b7 b8
    obtain ⟨sa, cap, rfl, hs⟩ := (ownsRow_strs hrow).shape
    have HS := Lib.hid hs
    clear hrow hb hs
    rw [Hl.out, List.length_nil]
    repeat ((fail_if_success (with_reducible refine stop_at (id := 4) ?_)); (first | go_values | go_skip | go_guarded | go_step | go_upon | go_back | (simp only [Int.not_lt, Int.not_le] at *; go_simp) | (go_values <;> (try go_simp)) | (go_ite <;> go_prune <;> (try go_simp)) | (split <;> (first | (rename_i hx; exact (hx _ rfl).elim) | go_prune))))
    refine (wpIn_wide (n := 0)).1 ?_
    refine wp_region_text [(fun v_ _ => v_ = (vecV a : Value)), (fun v_ _ => v_ = (.int .i64 230 : Value)), (fun v_ _ => v_ = (.bool true : Value)), (fun v_ _ => v_ = (.bool true : Value)), (fun v_ _ => v_ = (undef : Value)), (fun v_ _ => v_ = (undef : Value)), (fun v_ _ => v_ = (undef : Value)), (fun v_ _ => v_ = (.bool true : Value))] (fun x y => Below x.heap.size x y) (fun _ => Below.refl _ _) (fun h k => grows_trans h k) ⟨fun _ _ _ _ h => h, fun _ _ _ _ h => h, fun _ _ _ _ h => h, fun _ _ _ _ h => h, fun _ _ _ _ h => h, fun _ _ _ _ h => h, fun _ _ _ _ h => h, fun _ _ _ _ h => h, trivial⟩ (by kernel_rfl) ?steps ?fin
    case steps =>
      refine ⟨?_, ?_, ?_, ?_, ?_, ?_, ?_, ?_, trivial⟩
      · -- 0
        intro a' w' hA hC hD
        have s2 : a'.tmps[2]? = some (.pointer (some ⟨w.heap.size, 0, none⟩)) := (hA.at 2 (by kernel_rfl)).trans rfl
        obtain ⟨c0, c1, c2, c3, c4, c5, c6, c7, c8⟩ := vec9 ((hC.block _ (block_lt HA.out)).trans HA.out)
        clear hA hD
        refine stepOk_plain rfl ?_
        intro K hK
        gi_wp2
        exact hK (vecV a) _ rfl ((fun _ => Below.refl _ _) _)
      · -- 1
        intro a' w' hA hC hD
        obtain ⟨u21, s21, r21⟩ := hD ⟨0, .data⟩ (by simp) rfl _ rfl
        replace r21 : u21 = vecV a := r21
        subst r21
        clear hA hD
        refine stepOk_plain rfl ?_
        intro K hK
        gi_wp2_with fail; refine (callsIn_wide.2 (vecCheck_any a _)).mono ?_; rintro e w2 ⟨rfl, hb⟩
        exact hK _ _ (show _ = (.int .i64 230 : Value) from by first | (simp only [Hva.out, errOf_false, cond_true, cond_false, Bool.true_and, Bool.false_and, Bool.not_true, Bool.not_false, beq_self_eq_true]; try rfl) | rfl) hb
      · -- 2
        intro a' w' hA hC hD
        obtain ⟨u22, s22, r22⟩ := hD ⟨1, .data⟩ (by simp) rfl _ rfl
        replace r22 : u22 = .int .i64 230 := r22
        subst r22
        clear hA hD
        refine stepOk_plain rfl ?_
        intro K hK
        gi_wp2
        exact hK (.bool true) _ rfl ((fun _ => Below.refl _ _) _)
      · -- 3
        intro a' w' hA hC hD
        obtain ⟨u23, s23, r23⟩ := hD ⟨2, .data⟩ (by simp) rfl _ rfl
        replace r23 : u23 = .bool true := r23
        subst r23
        clear hA hD
        refine stepOk_plain rfl ?_
        intro K hK
        gi_wp2
        exact hK (.bool true) _ rfl ((fun _ => Below.refl _ _) _)
      · -- 4
        intro a' w' hA hC hD
        have s3 : a'.tmps[3]? = some (.pointer (some ⟨w.heap.size + 1, 0, none⟩)) := (hA.at 3 (by kernel_rfl)).trans rfl
        obtain ⟨u24, s24, r24⟩ := hD ⟨3, .guard⟩ (by simp) rfl _ rfl
        replace r24 : u24 = .bool true := r24
        subst r24
        clear hA hD
        exact stepOk_skip rfl rfl s24 rfl
      · -- 5
        intro a' w' hA hC hD
        obtain ⟨u25, s25, r25⟩ := hD ⟨4, .data⟩ (by simp) rfl _ rfl
        replace r25 : u25 = undef := r25
        subst r25
        obtain ⟨u24, s24, r24⟩ := hD ⟨3, .chain⟩ (by simp) rfl _ rfl
        replace r24 : u24 = .bool true := r24
        subst r24
        clear hA hD
        exact stepOk_skip rfl rfl s24 rfl
      · -- 6
        intro a' w' hA hC hD
        obtain ⟨u26, s26, r26⟩ := hD ⟨5, .data⟩ (by simp) rfl _ rfl
        replace r26 : u26 = undef := r26
        subst r26
        obtain ⟨u24, s24, r24⟩ := hD ⟨3, .guard⟩ (by simp) rfl _ rfl
        replace r24 : u24 = .bool true := r24
        subst r24
        clear hA hD
        exact stepOk_skip rfl rfl s24 rfl
      · -- 7
        intro a' w' hA hC hD
        obtain ⟨u24, s24, r24⟩ := hD ⟨3, .data⟩ (by simp) rfl _ rfl
        replace r24 : u24 = .bool true := r24
        subst r24
        obtain ⟨u27, s27, r27⟩ := hD ⟨6, .data⟩ (by simp) rfl _ rfl
        replace r27 : u27 = undef := r27
        subst r27
        clear hA hD
        refine stepOk_plain rfl ?_
        intro K hK
        gi_wp2
        exact hK (.bool true) _ rfl ((fun _ => Below.refl _ _) _)
    case fin =>
      intro w3 hC
      simp only [EndFrom, forall_eq, Act.put, List.length_cons, List.length_nil, List.drop_succ_cons, List.drop_zero, Nat.reduceAdd, List.setIfInBounds_toArray, List.set_cons_succ, List.set_cons_zero]
      have HA := Lib.hid ((hC.block _ (block_lt HA.out)).trans HA.out)
      have Hb := Lib.hid ((hC.block _ (block_lt Hb.out)).trans Hb.out)
      have HB := Lib.hid (HB.out.trans (hC.mono HB.out.size))
      clear hC
      gi_wp2
      repeat ((fail_if_success (with_reducible refine stop_at (id := 5) ?_)); (first | go_values | go_skip | go_guarded | go_step | go_upon | go_back | (simp only [Int.not_lt, Int.not_le] at *; go_simp) | (go_values <;> (try go_simp)) | (go_ite <;> go_prune <;> (try go_simp)) | (split <;> (first | (rename_i hx; exact (hx _ rfl).elim) | go_prune))))
      refine (wpIn_wide (n := 0)).1 ?_
      refine wp_region_text [(fun v_ _ => v_ = (.slice sa 0 cap : Value)), (fun v_ _ => v_ = (.int .i64 0 : Value)), (fun v_ _ => v_ = (.bool true : Value)), (fun v_ _ => v_ = (.bool true : Value)), (fun v_ _ => v_ = (vecV a : Value)), (fun v_ _ => v_ = (vecV b : Value)), (fun v_ _ => v_ = (.bool false : Value)), (fun v_ _ => v_ = (.bool true : Value)), (fun v_ _ => v_ = (.bool true : Value)), (fun v_ _ => v_ = (.bool true : Value)), (fun v_ _ => v_ = (vecV a : Value)), (fun v_ _ => v_ = (vecV b : Value)), (fun v_ _ => v_ = (.int .u64 0 : Value)), (fun v_ _ => v_ = (.bool true : Value)), (fun v_ _ => v_ = (.bool true : Value))] (fun x y => Below x.heap.size x y) (fun _ => Below.refl _ _) (fun h k => grows_trans h k) ⟨fun _ _ _ _ h => h, fun _ _ _ _ h => h, fun _ _ _ _ h => h, fun _ _ _ _ h => h, fun _ _ _ _ h => h, fun _ _ _ _ h => h, fun _ _ _ _ h => h, fun _ _ _ _ h => h, fun _ _ _ _ h => h, fun _ _ _ _ h => h, fun _ _ _ _ h => h, fun _ _ _ _ h => h, fun _ _ _ _ h => h, fun _ _ _ _ h => h, fun _ _ _ _ h => h, trivial⟩ (by kernel_rfl) ?steps ?fin
      case steps =>
        refine ⟨?_, ?_, ?_, ?_, ?_, ?_, ?_, ?_, ?_, ?_, ?_, ?_, ?_, ?_, ?_, trivial⟩
        · -- 0
          intro a' w' hA hC hD
          have s5 : a'.tmps[5]? = some (.slice sa 0 cap) := (hA.at 5 (by kernel_rfl)).trans rfl
          clear hA hD
          refine stepOk_plain rfl ?_
          intro K hK
          gi_wp2
          exact hK (.slice sa 0 cap) _ rfl ((fun _ => Below.refl _ _) _)
        · -- 1
          intro a' w' hA hC hD
          obtain ⟨u29, s29, r29⟩ := hD ⟨0, .data⟩ (by simp) rfl _ rfl
          replace r29 : u29 = .slice sa 0 cap := r29
          subst r29
          clear hA hD
          refine stepOk_plain rfl ?_
          intro K hK
          gi_wp2
          exact hK (.int .i64 0) _ rfl ((fun _ => Below.refl _ _) _)
        · -- 2
          intro a' w' hA hC hD
          obtain ⟨u30, s30, r30⟩ := hD ⟨1, .data⟩ (by simp) rfl _ rfl
          replace r30 : u30 = .int .i64 0 := r30
          subst r30
          clear hA hD
          refine stepOk_plain rfl ?_
          intro K hK
          gi_wp2
          exact hK (.bool true) _ rfl ((fun _ => Below.refl _ _) _)
        · -- 3
          intro a' w' hA hC hD
          obtain ⟨u31, s31, r31⟩ := hD ⟨2, .data⟩ (by simp) rfl _ rfl
          replace r31 : u31 = .bool true := r31
          subst r31
          clear hA hD
          refine stepOk_plain rfl ?_
          intro K hK
          gi_wp2
          exact hK (.bool true) _ rfl ((fun _ => Below.refl _ _) _)
        · -- 4
          intro a' w' hA hC hD
          have s2 : a'.tmps[2]? = some (.pointer (some ⟨w.heap.size, 0, none⟩)) := (hA.at 2 (by kernel_rfl)).trans rfl
          obtain ⟨u32, s32, r32⟩ := hD ⟨3, .guard⟩ (by simp) rfl _ rfl
          replace r32 : u32 = .bool true := r32
          subst r32
          obtain ⟨c0, c1, c2, c3, c4, c5, c6, c7, c8⟩ := vec9 ((hC.block _ (block_lt HA.out)).trans HA.out)
          clear hA hD
          refine stepOk_want rfl rfl s32 ?_
          intro K hK
          gi_wp2
          exact hK (vecV a) _ rfl ((fun _ => Below.refl _ _) _)
        · -- 5
          intro a' w' hA hC hD
          have s3 : a'.tmps[3]? = some (.pointer (some ⟨w.heap.size + 1, 0, none⟩)) := (hA.at 3 (by kernel_rfl)).trans rfl
          obtain ⟨u32, s32, r32⟩ := hD ⟨3, .guard⟩ (by simp) rfl _ rfl
          replace r32 : u32 = .bool true := r32
          subst r32
          obtain ⟨c0, c1, c2, c3, c4, c5, c6, c7, c8⟩ := vec9 ((hC.block _ (block_lt Hb.out)).trans Hb.out)
          clear hA hD
          refine stepOk_want rfl rfl s32 ?_
          intro K hK
          gi_wp2
          exact hK (vecV b) _ rfl ((fun _ => Below.refl _ _) _)
        · -- 6
          intro a' w' hA hC hD
          obtain ⟨u33, s33, r33⟩ := hD ⟨4, .data⟩ (by simp) rfl _ rfl
          replace r33 : u33 = vecV a := r33
          subst r33
          obtain ⟨u34, s34, r34⟩ := hD ⟨5, .data⟩ (by simp) rfl _ rfl
          replace r34 : u34 = vecV b := r34
          subst r34
          obtain ⟨u32, s32, r32⟩ := hD ⟨3, .chain⟩ (by simp) rfl _ rfl
          replace r32 : u32 = .bool true := r32
          subst r32
          clear hA hD
          refine stepOk_want rfl rfl s32 ?_
          intro K hK
          gi_wp2_with fail; refine (callsIn_wide.2 (covers_any a b _)).mono ?_; rintro e w2 ⟨rfl, hb⟩
          exact hK _ _ (show _ = (.bool false : Value) from by first | (simp only [Hcov.out, cond_true, cond_false, Bool.true_and, Bool.false_and, Bool.not_true, Bool.not_false, beq_self_eq_true]; try rfl) | rfl) hb
        · -- 7
          intro a' w' hA hC hD
          obtain ⟨u35, s35, r35⟩ := hD ⟨6, .data⟩ (by simp) rfl _ rfl
          replace r35 : u35 = .bool false := r35
          subst r35
          obtain ⟨u32, s32, r32⟩ := hD ⟨3, .guard⟩ (by simp) rfl _ rfl
          replace r32 : u32 = .bool true := r32
          subst r32
          clear hA hD
          refine stepOk_want rfl rfl s32 ?_
          intro K hK
          gi_wp2
          exact hK (.bool true) _ rfl ((fun _ => Below.refl _ _) _)
        · -- 8
          intro a' w' hA hC hD
          obtain ⟨u32, s32, r32⟩ := hD ⟨3, .data⟩ (by simp) rfl _ rfl
          replace r32 : u32 = .bool true := r32
          subst r32
          obtain ⟨u36, s36, r36⟩ := hD ⟨7, .data⟩ (by simp) rfl _ rfl
          replace r36 : u36 = .bool true := r36
          subst r36
          clear hA hD
          refine stepOk_plain rfl ?_
          intro K hK
          gi_wp2
          exact hK (.bool true) _ rfl ((fun _ => Below.refl _ _) _)
        · -- 9
          intro a' w' hA hC hD
          obtain ⟨u37, s37, r37⟩ := hD ⟨8, .data⟩ (by simp) rfl _ rfl
          replace r37 : u37 = .bool true := r37
          subst r37
          clear hA hD
          refine stepOk_plain rfl ?_
          intro K hK
          gi_wp2
          exact hK (.bool true) _ rfl ((fun _ => Below.refl _ _) _)
        · -- 10
          intro a' w' hA hC hD
          have s2 : a'.tmps[2]? = some (.pointer (some ⟨w.heap.size, 0, none⟩)) := (hA.at 2 (by kernel_rfl)).trans rfl
          obtain ⟨u38, s38, r38⟩ := hD ⟨9, .guard⟩ (by simp) rfl _ rfl
          replace r38 : u38 = .bool true := r38
          subst r38
          obtain ⟨c0, c1, c2, c3, c4, c5, c6, c7, c8⟩ := vec9 ((hC.block _ (block_lt HA.out)).trans HA.out)
          clear hA hD
          refine stepOk_want rfl rfl s38 ?_
          intro K hK
          gi_wp2
          exact hK (vecV a) _ rfl ((fun _ => Below.refl _ _) _)
        · -- 11
          intro a' w' hA hC hD
          have s3 : a'.tmps[3]? = some (.pointer (some ⟨w.heap.size + 1, 0, none⟩)) := (hA.at 3 (by kernel_rfl)).trans rfl
          obtain ⟨u38, s38, r38⟩ := hD ⟨9, .guard⟩ (by simp) rfl _ rfl
          replace r38 : u38 = .bool true := r38
          subst r38
          obtain ⟨c0, c1, c2, c3, c4, c5, c6, c7, c8⟩ := vec9 ((hC.block _ (block_lt Hb.out)).trans Hb.out)
          clear hA hD
          refine stepOk_want rfl rfl s38 ?_
          intro K hK
          gi_wp2
          exact hK (vecV b) _ rfl ((fun _ => Below.refl _ _) _)
        · -- 12
          intro a' w' hA hC hD
          obtain ⟨u39, s39, r39⟩ := hD ⟨10, .data⟩ (by simp) rfl _ rfl
          replace r39 : u39 = vecV a := r39
          subst r39
          obtain ⟨u40, s40, r40⟩ := hD ⟨11, .data⟩ (by simp) rfl _ rfl
          replace r40 : u40 = vecV b := r40
          subst r40
          obtain ⟨u38, s38, r38⟩ := hD ⟨9, .chain⟩ (by simp) rfl _ rfl
          replace r38 : u38 = .bool true := r38
          subst r38
          clear hA hD
          refine stepOk_want rfl rfl s38 ?_
          intro K hK
          gi_wp2_with fail; refine (callsIn_wide.2 (many_any a b H0.out _)).mono ?_; rintro e w2 ⟨rfl, hb⟩
          exact hK _ _ (show _ = (.int .u64 0 : Value) from by first | (simp only [Hmany.out, cond_true, cond_false, Bool.true_and, Bool.false_and, Bool.not_true, Bool.not_false, beq_self_eq_true]; try rfl) | rfl) hb
        · -- 13
          intro a' w' hA hC hD
          obtain ⟨u41, s41, r41⟩ := hD ⟨12, .data⟩ (by simp) rfl _ rfl
          replace r41 : u41 = .int .u64 0 := r41
          subst r41
          obtain ⟨u38, s38, r38⟩ := hD ⟨9, .guard⟩ (by simp) rfl _ rfl
          replace r38 : u38 = .bool true := r38
          subst r38
          clear hA hD
          refine stepOk_want rfl rfl s38 ?_
          intro K hK
          gi_wp2
          exact hK (.bool true) _ rfl ((fun _ => Below.refl _ _) _)
        · -- 14
          intro a' w' hA hC hD
          obtain ⟨u38, s38, r38⟩ := hD ⟨9, .data⟩ (by simp) rfl _ rfl
          replace r38 : u38 = .bool true := r38
          subst r38
          obtain ⟨u42, s42, r42⟩ := hD ⟨13, .data⟩ (by simp) rfl _ rfl
          replace r42 : u42 = .bool true := r42
          subst r42
          clear hA hD
          refine stepOk_plain rfl ?_
          intro K hK
          gi_wp2
          exact hK (.bool true) _ rfl ((fun _ => Below.refl _ _) _)
      case fin =>
        intro w4 hC
        simp only [EndFrom, forall_eq, Act.put, List.length_cons, List.length_nil, List.drop_succ_cons, List.drop_zero, Nat.reduceAdd, List.setIfInBounds_toArray, List.set_cons_succ, List.set_cons_zero]
        gi_wp2
        go_wp2
        go_ret
        exact ⟨rfl, HB.out.trans (hC.mono HB.out.size)⟩
  · have Hva := Lib.hid hva
    have Hvb : RowKit.Hid (vecOk b = false) := by
      cases h : vecOk b with
      | false => exact rfl
      | true => exact absurd ⟨hva, h⟩ hno
    clear hno hl hcov hmany ha0 hva
    go_enter Try.func4, Try.ntmps4
    simp only [vecV, lit9]
    go_wp2_with fail
    refine (wakes_any _).mono ?_
    rintro e w1 ⟨rfl, hb⟩
    have h0 := ((Below.refl w.heap.size w).alloc (Nat.le_refl _) (.cells (lit9 a) 24)).alloc (by simp) (.cells (lit9 b) 24)
    have hB := h0.trans (hb.mono (by simp; omega))
    have ha' := (hb.block w.heap.size (by simp; omega)).trans (heap_alloc_keeps (World.alloc_heap_new w (.cells (lit9 a) 24)) (.cells (lit9 b) 24))
    have hb' := (hb.block (w.heap.size + 1) (by simp)).trans (newBlock (w.alloc (.cells (lit9 a) 24)) (.cells (lit9 b) 24) (w.heap.size + 1) (by simp))
    clear hb h0
    obtain ⟨a0, a1, a2, a3, a4, a5, a6, a7, a8⟩ := vec9 ha'
    obtain ⟨b0, b1, b2, b3, b4, b5, b6, b7, b8⟩ := vec9 hb'
    have HA := Lib.hid ha'
    have Hb := Lib.hid hb'
    have HB := Lib.hid hB
    clear ha' hb' hB
    go_wp2_with fail
    refine (lacks_any a b H0.out _).mono ?_
    rintro e w2 ⟨sv, rfl, hrow, hb⟩
    have HA := Lib.hid ((hb.block _ (block_lt HA.out)).trans HA.out)
    have Hb := Lib.hid ((hb.block _ (block_lt Hb.out)).trans Hb.out)
    have HB := Lib.hid (HB.out.trans (hb.mono HB.out.size))
    clear a0 a1 a2 a3 a4 a5 a6 a7 a8 b0 b1 b2 b3 b4 b5 b6 b7 b8
    obtain ⟨sa, cap, rfl, hs⟩ := (ownsRow_strs hrow).shape
    have HS := Lib.hid hs
    clear hrow hb hs
    rw [Hl.out, List.length_nil]
    repeat ((fail_if_success (with_reducible refine stop_at (id := 4) ?_)); (first | go_values | go_skip | go_guarded | go_step | go_upon | go_back | (simp only [Int.not_lt, Int.not_le] at *; go_simp) | (go_values <;> (try go_simp)) | (go_ite <;> go_prune <;> (try go_simp)) | (split <;> (first | (rename_i hx; exact (hx _ rfl).elim) | go_prune))))
    refine (wpIn_wide (n := 0)).1 ?_
    refine wp_region_text [(fun v_ _ => v_ = (vecV a : Value)), (fun v_ _ => v_ = (.int .i64 0 : Value)), (fun v_ _ => v_ = (.bool false : Value)), (fun v_ _ => v_ = (.bool false : Value)), (fun v_ _ => v_ = (vecV b : Value)), (fun v_ _ => v_ = (.int .i64 230 : Value)), (fun v_ _ => v_ = (.bool true : Value)), (fun v_ _ => v_ = (.bool true : Value))] (fun x y => Below x.heap.size x y) (fun _ => Below.refl _ _) (fun h k => grows_trans h k) ⟨fun _ _ _ _ h => h, fun _ _ _ _ h => h, fun _ _ _ _ h => h, fun _ _ _ _ h => h, fun _ _ _ _ h => h, fun _ _ _ _ h => h, fun _ _ _ _ h => h, fun _ _ _ _ h => h, trivial⟩ (by kernel_rfl) ?steps ?fin
    case steps =>
      refine ⟨?_, ?_, ?_, ?_, ?_, ?_, ?_, ?_, trivial⟩
      · -- 0
        intro a' w' hA hC hD
        have s2 : a'.tmps[2]? = some (.pointer (some ⟨w.heap.size, 0, none⟩)) := (hA.at 2 (by kernel_rfl)).trans rfl
        obtain ⟨c0, c1, c2, c3, c4, c5, c6, c7, c8⟩ := vec9 ((hC.block _ (block_lt HA.out)).trans HA.out)
        clear hA hD
        refine stepOk_plain rfl ?_
        intro K hK
        gi_wp2
        exact hK (vecV a) _ rfl ((fun _ => Below.refl _ _) _)
      · -- 1
        intro a' w' hA hC hD
        obtain ⟨u21, s21, r21⟩ := hD ⟨0, .data⟩ (by simp) rfl _ rfl
        replace r21 : u21 = vecV a := r21
        subst r21
        clear hA hD
        refine stepOk_plain rfl ?_
        intro K hK
        gi_wp2_with fail; refine (callsIn_wide.2 (vecCheck_any a _)).mono ?_; rintro e w2 ⟨rfl, hb⟩
        exact hK _ _ (show _ = (.int .i64 0 : Value) from by first | (simp only [Hva.out, errOf_true, cond_true, cond_false, Bool.true_and, Bool.false_and, Bool.not_true, Bool.not_false, beq_self_eq_true]; try rfl) | rfl) hb
      · -- 2
        intro a' w' hA hC hD
        obtain ⟨u22, s22, r22⟩ := hD ⟨1, .data⟩ (by simp) rfl _ rfl
        replace r22 : u22 = .int .i64 0 := r22
        subst r22
        clear hA hD
        refine stepOk_plain rfl ?_
        intro K hK
        gi_wp2
        exact hK (.bool false) _ rfl ((fun _ => Below.refl _ _) _)
      · -- 3
        intro a' w' hA hC hD
        obtain ⟨u23, s23, r23⟩ := hD ⟨2, .data⟩ (by simp) rfl _ rfl
        replace r23 : u23 = .bool false := r23
        subst r23
        clear hA hD
        refine stepOk_plain rfl ?_
        intro K hK
        gi_wp2
        exact hK (.bool false) _ rfl ((fun _ => Below.refl _ _) _)
      · -- 4
        intro a' w' hA hC hD
        have s3 : a'.tmps[3]? = some (.pointer (some ⟨w.heap.size + 1, 0, none⟩)) := (hA.at 3 (by kernel_rfl)).trans rfl
        obtain ⟨u24, s24, r24⟩ := hD ⟨3, .guard⟩ (by simp) rfl _ rfl
        replace r24 : u24 = .bool false := r24
        subst r24
        obtain ⟨c0, c1, c2, c3, c4, c5, c6, c7, c8⟩ := vec9 ((hC.block _ (block_lt Hb.out)).trans Hb.out)
        clear hA hD
        refine stepOk_want rfl rfl s24 ?_
        intro K hK
        gi_wp2
        exact hK (vecV b) _ rfl ((fun _ => Below.refl _ _) _)
      · -- 5
        intro a' w' hA hC hD
        obtain ⟨u25, s25, r25⟩ := hD ⟨4, .data⟩ (by simp) rfl _ rfl
        replace r25 : u25 = vecV b := r25
        subst r25
        obtain ⟨u24, s24, r24⟩ := hD ⟨3, .chain⟩ (by simp) rfl _ rfl
        replace r24 : u24 = .bool false := r24
        subst r24
        clear hA hD
        refine stepOk_want rfl rfl s24 ?_
        intro K hK
        gi_wp2_with fail; refine (callsIn_wide.2 (vecCheck_any b _)).mono ?_; rintro e w2 ⟨rfl, hb⟩
        exact hK _ _ (show _ = (.int .i64 230 : Value) from by first | (simp only [Hvb.out, errOf_false, cond_true, cond_false, Bool.true_and, Bool.false_and, Bool.not_true, Bool.not_false, beq_self_eq_true]; try rfl) | rfl) hb
      · -- 6
        intro a' w' hA hC hD
        obtain ⟨u26, s26, r26⟩ := hD ⟨5, .data⟩ (by simp) rfl _ rfl
        replace r26 : u26 = .int .i64 230 := r26
        subst r26
        obtain ⟨u24, s24, r24⟩ := hD ⟨3, .guard⟩ (by simp) rfl _ rfl
        replace r24 : u24 = .bool false := r24
        subst r24
        clear hA hD
        refine stepOk_want rfl rfl s24 ?_
        intro K hK
        gi_wp2
        exact hK (.bool true) _ rfl ((fun _ => Below.refl _ _) _)
      · -- 7
        intro a' w' hA hC hD
        obtain ⟨u24, s24, r24⟩ := hD ⟨3, .data⟩ (by simp) rfl _ rfl
        replace r24 : u24 = .bool false := r24
        subst r24
        obtain ⟨u27, s27, r27⟩ := hD ⟨6, .data⟩ (by simp) rfl _ rfl
        replace r27 : u27 = .bool true := r27
        subst r27
        clear hA hD
        refine stepOk_plain rfl ?_
        intro K hK
        gi_wp2
        exact hK (.bool true) _ rfl ((fun _ => Below.refl _ _) _)
    case fin =>
      intro w3 hC
      simp only [EndFrom, forall_eq, Act.put, List.length_cons, List.length_nil, List.drop_succ_cons, List.drop_zero, Nat.reduceAdd, List.setIfInBounds_toArray, List.set_cons_succ, List.set_cons_zero]
      have HA := Lib.hid ((hC.block _ (block_lt HA.out)).trans HA.out)
      have Hb := Lib.hid ((hC.block _ (block_lt Hb.out)).trans Hb.out)
      have HB := Lib.hid (HB.out.trans (hC.mono HB.out.size))
      clear hC
      gi_wp2
      repeat ((fail_if_success (with_reducible refine stop_at (id := 5) ?_)); (first | go_values | go_skip | go_guarded | go_step | go_upon | go_back | (simp only [Int.not_lt, Int.not_le] at *; go_simp) | (go_values <;> (try go_simp)) | (go_ite <;> go_prune <;> (try go_simp)) | (split <;> (first | (rename_i hx; exact (hx _ rfl).elim) | go_prune))))
      refine (wpIn_wide (n := 0)).1 ?_
      refine wp_region_text [(fun v_ _ => v_ = (.slice sa 0 cap : Value)), (fun v_ _ => v_ = (.int .i64 0 : Value)), (fun v_ _ => v_ = (.bool true : Value)), (fun v_ _ => v_ = (.bool true : Value)), (fun v_ _ => v_ = (vecV a : Value)), (fun v_ _ => v_ = (vecV b : Value)), (fun v_ _ => v_ = (.bool false : Value)), (fun v_ _ => v_ = (.bool true : Value)), (fun v_ _ => v_ = (.bool true : Value)), (fun v_ _ => v_ = (.bool true : Value)), (fun v_ _ => v_ = (vecV a : Value)), (fun v_ _ => v_ = (vecV b : Value)), (fun v_ _ => v_ = (.int .u64 0 : Value)), (fun v_ _ => v_ = (.bool true : Value)), (fun v_ _ => v_ = (.bool true : Value))] (fun x y => Below x.heap.size x y) (fun _ => Below.refl _ _) (fun h k => grows_trans h k) ⟨fun _ _ _ _ h => h, fun _ _ _ _ h => h, fun _ _ _ _ h => h, fun _ _ _ _ h => h, fun _ _ _ _ h => h, fun _ _ _ _ h => h, fun _ _ _ _ h => h, fun _ _ _ _ h => h, fun _ _ _ _ h => h, fun _ _ _ _ h => h, fun _ _ _ _ h => h, fun _ _ _ _ h => h, fun _ _ _ _ h => h, fun _ _ _ _ h => h, fun _ _ _ _ h => h, trivial⟩ (by kernel_rfl) ?steps ?fin
      case steps =>
        refine ⟨?_, ?_, ?_, ?_, ?_, ?_, ?_, ?_, ?_, ?_, ?_, ?_, ?_, ?_, ?_, trivial⟩
        · -- 0
          intro a' w' hA hC hD
          have s5 : a'.tmps[5]? = some (.slice sa 0 cap) := (hA.at 5 (by kernel_rfl)).trans rfl
          clear hA hD
          refine stepOk_plain rfl ?_
          intro K hK
          gi_wp2
          exact hK (.slice sa 0 cap) _ rfl ((fun _ => Below.refl _ _) _)
        · -- 1
          intro a' w' hA hC hD
          obtain ⟨u29, s29, r29⟩ := hD ⟨0, .data⟩ (by simp) rfl _ rfl
          replace r29 : u29 = .slice sa 0 cap := r29
          subst r29
          clear hA hD
          refine stepOk_plain rfl ?_
          intro K hK
          gi_wp2
          exact hK (.int .i64 0) _ rfl ((fun _ => Below.refl _ _) _)
        · -- 2
          intro a' w' hA hC hD
          obtain ⟨u30, s30, r30⟩ := hD ⟨1, .data⟩ (by simp) rfl _ rfl
          replace r30 : u30 = .int .i64 0 := r30
          subst r30
          clear hA hD
          refine stepOk_plain rfl ?_
          intro K hK
          gi_wp2
          exact hK (.bool true) _ rfl ((fun _ => Below.refl _ _) _)
        · -- 3
          intro a' w' hA hC hD
          obtain ⟨u31, s31, r31⟩ := hD ⟨2, .data⟩ (by simp) rfl _ rfl
          replace r31 : u31 = .bool true := r31
          subst r31
          clear hA hD
          refine stepOk_plain rfl ?_
          intro K hK
          gi_wp2
          exact hK (.bool true) _ rfl ((fun _ => Below.refl _ _) _)
        · -- 4
          intro a' w' hA hC hD
          have s2 : a'.tmps[2]? = some (.pointer (some ⟨w.heap.size, 0, none⟩)) := (hA.at 2 (by kernel_rfl)).trans rfl
          obtain ⟨u32, s32, r32⟩ := hD ⟨3, .guard⟩ (by simp) rfl _ rfl
          replace r32 : u32 = .bool true := r32
          subst r32
          obtain ⟨c0, c1, c2, c3, c4, c5, c6, c7, c8⟩ := vec9 ((hC.block _ (block_lt HA.out)).trans HA.out)
          clear hA hD
          refine stepOk_want rfl rfl s32 ?_
          intro K hK
          gi_wp2
          exact hK (vecV a) _ rfl ((fun _ => Below.refl _ _) _)
        · -- 5
          intro a' w' hA hC hD
          have s3 : a'.tmps[3]? = some (.pointer (some ⟨w.heap.size + 1, 0, none⟩)) := (hA.at 3 (by kernel_rfl)).trans rfl
          obtain ⟨u32, s32, r32⟩ := hD ⟨3, .guard⟩ (by simp) rfl _ rfl
          replace r32 : u32 = .bool true := r32
          subst r32
          obtain ⟨c0, c1, c2, c3, c4, c5, c6, c7, c8⟩ := vec9 ((hC.block _ (block_lt Hb.out)).trans Hb.out)
          clear hA hD
          refine stepOk_want rfl rfl s32 ?_
          intro K hK
          gi_wp2
          exact hK (vecV b) _ rfl ((fun _ => Below.refl _ _) _)
        · -- 6
          intro a' w' hA hC hD
          obtain ⟨u33, s33, r33⟩ := hD ⟨4, .data⟩ (by simp) rfl _ rfl
          replace r33 : u33 = vecV a := r33
          subst r33
          obtain ⟨u34, s34, r34⟩ := hD ⟨5, .data⟩ (by simp) rfl _ rfl
          replace r34 : u34 = vecV b := r34
          subst r34
          obtain ⟨u32, s32, r32⟩ := hD ⟨3, .chain⟩ (by simp) rfl _ rfl
          replace r32 : u32 = .bool true := r32
          subst r32
          clear hA hD
          refine stepOk_want rfl rfl s32 ?_
          intro K hK
          gi_wp2_with fail; refine (callsIn_wide.2 (covers_any a b _)).mono ?_; rintro e w2 ⟨rfl, hb⟩
          exact hK _ _ (show _ = (.bool false : Value) from by first | (simp only [Hcov.out, cond_true, cond_false, Bool.true_and, Bool.false_and, Bool.not_true, Bool.not_false, beq_self_eq_true]; try rfl) | rfl) hb
        · -- 7
          intro a' w' hA hC hD
          obtain ⟨u35, s35, r35⟩ := hD ⟨6, .data⟩ (by simp) rfl _ rfl
          replace r35 : u35 = .bool false := r35
          subst r35
          obtain ⟨u32, s32, r32⟩ := hD ⟨3, .guard⟩ (by simp) rfl _ rfl
          replace r32 : u32 = .bool true := r32
          subst r32
          clear hA hD
          refine stepOk_want rfl rfl s32 ?_
          intro K hK
          gi_wp2
          exact hK (.bool true) _ rfl ((fun _ => Below.refl _ _) _)
        · -- 8
          intro a' w' hA hC hD
          obtain ⟨u32, s32, r32⟩ := hD ⟨3, .data⟩ (by simp) rfl _ rfl
          replace r32 : u32 = .bool true := r32
          subst r32
          obtain ⟨u36, s36, r36⟩ := hD ⟨7, .data⟩ (by simp) rfl _ rfl
          replace r36 : u36 = .bool true := r36
          subst r36
          clear hA hD
          refine stepOk_plain rfl ?_
          intro K hK
          gi_wp2
          exact hK (.bool true) _ rfl ((fun _ => Below.refl _ _) _)
        · -- 9
          intro a' w' hA hC hD
          obtain ⟨u37, s37, r37⟩ := hD ⟨8, .data⟩ (by simp) rfl _ rfl
          replace r37 : u37 = .bool true := r37
          subst r37
          clear hA hD
          refine stepOk_plain rfl ?_
          intro K hK
          gi_wp2
          exact hK (.bool true) _ rfl ((fun _ => Below.refl _ _) _)
        · -- 10
          intro a' w' hA hC hD
          have s2 : a'.tmps[2]? = some (.pointer (some ⟨w.heap.size, 0, none⟩)) := (hA.at 2 (by kernel_rfl)).trans rfl
          obtain ⟨u38, s38, r38⟩ := hD ⟨9, .guard⟩ (by simp) rfl _ rfl
          replace r38 : u38 = .bool true := r38
          subst r38
          obtain ⟨c0, c1, c2, c3, c4, c5, c6, c7, c8⟩ := vec9 ((hC.block _ (block_lt HA.out)).trans HA.out)
          clear hA hD
          refine stepOk_want rfl rfl s38 ?_
          intro K hK
          gi_wp2
          exact hK (vecV a) _ rfl ((fun _ => Below.refl _ _) _)
        · -- 11
          intro a' w' hA hC hD
          have s3 : a'.tmps[3]? = some (.pointer (some ⟨w.heap.size + 1, 0, none⟩)) := (hA.at 3 (by kernel_rfl)).trans rfl
          obtain ⟨u38, s38, r38⟩ := hD ⟨9, .guard⟩ (by simp) rfl _ rfl
          replace r38 : u38 = .bool true := r38
          subst r38
          obtain ⟨c0, c1, c2, c3, c4, c5, c6, c7, c8⟩ := vec9 ((hC.block _ (block_lt Hb.out)).trans Hb.out)
          clear hA hD
          refine stepOk_want rfl rfl s38 ?_
          intro K hK
          gi_wp2
          exact hK (vecV b) _ rfl ((fun _ => Below.refl _ _) _)
        · -- 12
          intro a' w' hA hC hD
          obtain ⟨u39, s39, r39⟩ := hD ⟨10, .data⟩ (by simp) rfl _ rfl
          replace r39 : u39 = vecV a := r39
          subst r39
          obtain ⟨u40, s40, r40⟩ := hD ⟨11, .data⟩ (by simp) rfl _ rfl
          replace r40 : u40 = vecV b := r40
          subst r40
          obtain ⟨u38, s38, r38⟩ := hD ⟨9, .chain⟩ (by simp) rfl _ rfl
          replace r38 : u38 = .bool true := r38
          subst r38
          clear hA hD
          refine stepOk_want rfl rfl s38 ?_
          intro K hK
          gi_wp2_with fail; refine (callsIn_wide.2 (many_any a b H0.out _)).mono ?_; rintro e w2 ⟨rfl, hb⟩
          exact hK _ _ (show _ = (.int .u64 0 : Value) from by first | (simp only [Hmany.out, cond_true, cond_false, Bool.true_and, Bool.false_and, Bool.not_true, Bool.not_false, beq_self_eq_true]; try rfl) | rfl) hb
        · -- 13
          intro a' w' hA hC hD
          obtain ⟨u41, s41, r41⟩ := hD ⟨12, .data⟩ (by simp) rfl _ rfl
          replace r41 : u41 = .int .u64 0 := r41
          subst r41
          obtain ⟨u38, s38, r38⟩ := hD ⟨9, .guard⟩ (by simp) rfl _ rfl
          replace r38 : u38 = .bool true := r38
          subst r38
          clear hA hD
          refine stepOk_want rfl rfl s38 ?_
          intro K hK
          gi_wp2
          exact hK (.bool true) _ rfl ((fun _ => Below.refl _ _) _)
        · -- 14
          intro a' w' hA hC hD
          obtain ⟨u38, s38, r38⟩ := hD ⟨9, .data⟩ (by simp) rfl _ rfl
          replace r38 : u38 = .bool true := r38
          subst r38
          obtain ⟨u42, s42, r42⟩ := hD ⟨13, .data⟩ (by simp) rfl _ rfl
          replace r42 : u42 = .bool true := r42
          subst r42
          clear hA hD
          refine stepOk_plain rfl ?_
          intro K hK
          gi_wp2
          exact hK (.bool true) _ rfl ((fun _ => Below.refl _ _) _)
      case fin =>
        intro w4 hC
        simp only [EndFrom, forall_eq, Act.put, List.length_cons, List.length_nil, List.drop_succ_cons, List.drop_zero, Nat.reduceAdd, List.setIfInBounds_toArray, List.set_cons_succ, List.set_cons_zero]
        gi_wp2
        go_wp2
        go_ret
        exact ⟨rfl, HB.out.trans (hC.mono HB.out.size)⟩
end Go.Proofs.Ytppaheekpmgifaa
