/- VectorBounds: the plain law, and the walk. -/
import Derived.Test.YtppaheekpmgifaaVecW
import Derived.Test.YtppaheekpmgifaaBaseC
namespace Go.Proofs.Ytppaheekpmgifaa
set_option linter.unusedSimpArgs false
set_option linter.unusedVariables false
open Go.RowKit Go.Shelf

theorem covers_iff (x y : Nat → Int) : covers x y = true ↔ vecOk x = true ∧ vecOk y = true ∧ ∀ k, k < 9 → y k ≤ x k := by
  unfold covers
  simp only [Bool.and_eq_true, vecEq_iff, and_assoc]
  refine and_congr_right fun _ => and_congr_right fun _ => forall_congr' fun k => imp_congr_right fun _ => ?_
  omega
theorem vecOk_iff (v : Nat → Int) : vecOk v = true ↔ v 0 = 0 ∧ ∀ k, 1 ≤ k → k < 9 → v k ≤ MaxT := by
  unfold vecOk
  rw [Bool.and_eq_true, sitesOk_iff, decide_eq_true_iff]
section plain
variable {a b c : Nat → Int}
theorem joinOk (ha : vecOk a = true) (hb : vecOk b = true) : vecOk (mergeN max a (fun _ => b) 1) = true := by
  rw [vecOk_iff] at *
  refine ⟨?_, fun k h1 h9 => ?_⟩
  · have := ha.1; have := hb.1; show max (a 0) (b 0) = 0; omega
  · have := ha.2 k h1 h9; have := hb.2 k h1 h9; show max (a k) (b k) ≤ MaxT; omega
theorem meetOk (ha : vecOk a = true) (hb : vecOk b = true) : vecOk (mergeN min a (fun _ => b) 1) = true := by
  rw [vecOk_iff] at *
  refine ⟨?_, fun k h1 h9 => ?_⟩
  · have := ha.1; have := hb.1; show min (a 0) (b 0) = 0; omega
  · have := ha.2 k h1 h9; have := hb.2 k h1 h9; show min (a k) (b k) ≤ MaxT; omega
theorem join_a (ha : vecOk a = true) (hb : vecOk b = true) : covers (mergeN max a (fun _ => b) 1) a = true :=
  (covers_iff _ _).2 ⟨joinOk ha hb, ha, fun k _ => show a k ≤ max (a k) (b k) by omega⟩
theorem join_b (ha : vecOk a = true) (hb : vecOk b = true) : covers (mergeN max a (fun _ => b) 1) b = true :=
  (covers_iff _ _).2 ⟨joinOk ha hb, hb, fun k _ => show b k ≤ max (a k) (b k) by omega⟩
theorem meet_a (ha : vecOk a = true) (hb : vecOk b = true) : covers a (mergeN min a (fun _ => b) 1) = true :=
  (covers_iff _ _).2 ⟨ha, meetOk ha hb, fun k _ => show min (a k) (b k) ≤ a k by omega⟩
theorem meet_b (ha : vecOk a = true) (hb : vecOk b = true) : covers b (mergeN min a (fun _ => b) 1) = true :=
  (covers_iff _ _).2 ⟨hb, meetOk ha hb, fun k _ => show min (a k) (b k) ≤ b k by omega⟩
theorem join_least (ha : vecOk a = true) (hb : vecOk b = true) (h : (covers c a && covers c b) = true) : covers c (mergeN max a (fun _ => b) 1) = true := by
  rw [Bool.and_eq_true, covers_iff, covers_iff] at h
  exact (covers_iff _ _).2 ⟨h.1.1, joinOk ha hb, fun k hk => by have := h.1.2.2 k hk; have := h.2.2.2 k hk; show max (a k) (b k) ≤ c k; omega⟩
theorem meet_most (ha : vecOk a = true) (hb : vecOk b = true) (h : (covers a c && covers b c) = true) : covers (mergeN min a (fun _ => b) 1) c = true := by
  rw [Bool.and_eq_true, covers_iff, covers_iff] at h
  exact (covers_iff _ _).2 ⟨meetOk ha hb, h.1.2.1, fun k hk => by have := h.1.2.2 k hk; have := h.2.2.2 k hk; show c k ≤ min (a k) (b k); omega⟩
theorem covers_both (ha : vecOk a = true) (hb : vecOk b = true) : (covers a b && covers b a) = vecEq a b := by
  rw [Bool.eq_iff_iff, Bool.and_eq_true, covers_iff, covers_iff, vecEq_iff]
  constructor
  · intro h k hk
    have := h.1.2.2 k hk; have := h.2.2.2 k hk; omega
  · intro h
    exact ⟨⟨ha, hb, fun k hk => by rw [h k hk]; omega⟩, hb, ha, fun k hk => by rw [h k hk]; omega⟩
theorem covers_self (ha : vecOk a = true) : covers a a = true := (covers_iff _ _).2 ⟨ha, ha, fun _ _ => Int.le_refl _⟩
end plain

set_option maxRecDepth 100000 in
set_option maxHeartbeats 2000000 in
theorem bounds_any (a b c : Nat → Int) (w : World) : Calls Try.prog 3 #[vecV a, vecV b, vecV c] w (Gives (.bool true) w) := by
  by_cases hok : vecOk a = true ∧ vecOk b = true
  · have Hok := Lib.hid hok
    obtain ⟨J, hJ⟩ : ∃ J, mergeN max a (fun _ => b) 1 = J := ⟨_, rfl⟩
    obtain ⟨M, hM⟩ : ∃ M, mergeN min a (fun _ => b) 1 = M := ⟨_, rfl⟩
    have hjn := fun w => join_ok a (.slice (some ⟨w, 0, none⟩) 1 1) 1 (fun _ => b)
    have hmt := fun w => meet_ok a (.slice (some ⟨w, 0, none⟩) 1 1) 1 (fun _ => b)
    rw [hJ] at hjn
    rw [hM] at hmt
    have Hjn := Lib.hid hjn
    have Hmt := Lib.hid hmt
    have Hja := Lib.hid (join_a hok.1 hok.2)
    have Hjb := Lib.hid (join_b hok.1 hok.2)
    have Ham := Lib.hid (meet_a hok.1 hok.2)
    have Hbm := Lib.hid (meet_b hok.1 hok.2)
    have Hcj := Lib.hid (fun h => join_least (c := c) hok.1 hok.2 h)
    have Hmc := Lib.hid (fun h => meet_most (c := c) hok.1 hok.2 h)
    have Hanti := Lib.hid (covers_both hok.1 hok.2)
    have Haa := Lib.hid (covers_self hok.1)
    rw [hJ] at Hja Hjb Hcj
    rw [hM] at Ham Hbm Hmc
    clear hok hjn hmt hJ hM
    go_enter Try.func3, Try.ntmps3
    simp only [vecV, lit9]
    go_wp2_with fail
    refine (wakes_any _).mono ?_
    rintro e w1 ⟨rfl, hb⟩
    have h0 := (((Below.refl w.heap.size w).alloc (Nat.le_refl _) (.cells (lit9 a) 24)).alloc (by simp) (.cells (lit9 b) 24)).alloc (by first | (simp; done) | (simp; omega)) (.cells (lit9 c) 24)
    have hB := h0.trans (hb.mono (by first | (simp; done) | (simp; omega)))
    have ha' := (hb.block w.heap.size (by first | (simp; done) | (simp; omega))).trans (heap_alloc_keeps (heap_alloc_keeps (World.alloc_heap_new w (.cells (lit9 a) 24)) (.cells (lit9 b) 24)) (.cells (lit9 c) 24))
    have hb' := (hb.block (w.heap.size + 1) (by first | (simp; done) | (simp; omega))).trans (heap_alloc_keeps (newBlock (w.alloc (.cells (lit9 a) 24)) (.cells (lit9 b) 24) (w.heap.size + 1) (by simp)) (.cells (lit9 c) 24))
    have hc' := (hb.block (w.heap.size + 2) (by first | (simp; done) | (simp; omega))).trans (newBlock ((w.alloc (.cells (lit9 a) 24)).alloc (.cells (lit9 b) 24)) (.cells (lit9 c) 24) (w.heap.size + 2) (by first | (simp; done) | (simp; omega)))
    clear hb h0
    obtain ⟨a0, a1, a2, a3, a4, a5, a6, a7, a8⟩ := vec9 ha'
    obtain ⟨b0, b1, b2, b3, b4, b5, b6, b7, b8⟩ := vec9 hb'
    have HA := Lib.hid ha'
    have Hb := Lib.hid hb'
    have Hc := Lib.hid hc'
    have HB := Lib.hid hB
    clear ha' hb' hc' hB
    go_wp2_with fail
    refine (Hjn.out _ _ (by omega) (elems_vec1 (World.alloc_heap_new _ _)) Hok.out.1 (fun _ _ => Hok.out.2)).mono ?_
    rintro e w5 ⟨rfl, hb⟩
    have hb' := ((Below.refl w1.heap.size w1).alloc (Nat.le_refl _) (.cells (lit9 b) 24)).trans (hb.mono (by simp))
    have ha' := (hb'.block _ (block_lt HA.out)).trans HA.out
    have hb2 := (hb'.block _ (block_lt Hb.out)).trans Hb.out
    have hc' := (hb'.block _ (block_lt Hc.out)).trans Hc.out
    have hB := HB.out.trans (hb'.mono HB.out.size)
    clear HB HA Hb Hc hb hb' a0 a1 a2 a3 a4 a5 a6 a7 a8 b0 b1 b2 b3 b4 b5 b6 b7 b8
    have l0 : w.heap.size < w5.heap.size := block_lt ha'
    have l1 : w.heap.size + 1 < w5.heap.size := block_lt hb2
    obtain ⟨a0, a1, a2, a3, a4, a5, a6, a7, a8⟩ := vec9 ha'
    obtain ⟨b0, b1, b2, b3, b4, b5, b6, b7, b8⟩ := vec9 hb2
    have HA := Lib.hid ha'
    have Hb := Lib.hid hb2
    have Hc := Lib.hid hc'
    have HB := Lib.hid hB
    clear ha' hb2 hc' hB
    simp only [vecV, lit9]
    go_wp2_with fail
    refine (Hmt.out _ _ (by omega) (elems_vec1 (newBlock _ _ _ (by simp))) Hok.out.1 (fun _ _ => Hok.out.2)).mono ?_
    rintro e w6 ⟨rfl, hb⟩
    have hJw := (((Below.refl w5.heap.size w5).alloc (Nat.le_refl _) (.cells (lit9 J) 24)).alloc (by simp) (.cells (lit9 b) 24))
    have hb' := hJw.trans (hb.mono (by simp; omega))
    have h7 := (hb.block w5.heap.size (by simp; omega)).trans (heap_alloc_keeps (World.alloc_heap_new w5 (.cells (lit9 J) 24)) (.cells (lit9 b) 24))
    have ha' := (hb'.block _ (block_lt HA.out)).trans HA.out
    have hb2 := (hb'.block _ (block_lt Hb.out)).trans Hb.out
    have hc' := (hb'.block _ (block_lt Hc.out)).trans Hc.out
    have hB := HB.out.trans (hb'.mono HB.out.size)
    clear HB HA Hb Hc hb hb' hJw a0 a1 a2 a3 a4 a5 a6 a7 a8 b0 b1 b2 b3 b4 b5 b6 b7 b8 Hjn Hmt
    have HA := Lib.hid (heap_alloc_keeps ha' (.cells (lit9 M) 24))
    have Hb := Lib.hid (heap_alloc_keeps hb2 (.cells (lit9 M) 24))
    have Hc := Lib.hid (heap_alloc_keeps hc' (.cells (lit9 M) 24))
    have HJ := Lib.hid (heap_alloc_keeps h7 (.cells (lit9 M) 24))
    have HM := Lib.hid (World.alloc_heap_new w6 (.cells (lit9 M) 24))
    have HB := Lib.hid (hB.alloc hB.size (.cells (lit9 M) 24))
    clear ha' hb2 hc' h7 hB
    obtain ⟨W7, hW7⟩ : ∃ W7, w6.alloc (.cells (lit9 M) 24) = W7 := ⟨_, rfl⟩
    rw [hW7] at HA Hb Hc HJ HM HB
    simp only [vecV, lit9]
    simp only [lit9] at hW7
    repeat ((fail_if_success (with_reducible refine stop_at (id := 7) ?_)); (first | go_values | go_skip | go_guarded | go_step | go_upon | go_back | (simp only [Int.not_lt, Int.not_le] at *; go_simp) | (go_values <;> (try go_simp)) | (go_ite <;> go_prune <;> (try go_simp)) | (split <;> (first | (rename_i hx; exact (hx _ rfl).elim) | go_prune))))
    refine (wpIn_wide (n := 0)).1 ?_
    try rw [hW7]
    clear hW7
    refine wp_region_text [(fun v_ _ => v_ = (vecV J : Value)), (fun v_ _ => v_ = (vecV a : Value)), (fun v_ _ => v_ = (.bool true : Value)), (fun v_ _ => v_ = (.bool false : Value)), (fun v_ _ => v_ = (.bool false : Value)), (fun v_ _ => v_ = (vecV J : Value)), (fun v_ _ => v_ = (vecV b : Value)), (fun v_ _ => v_ = (.bool true : Value)), (fun v_ _ => v_ = (.bool false : Value)), (fun v_ _ => v_ = (.bool false : Value)), (fun v_ _ => v_ = (.bool false : Value)), (fun v_ _ => v_ = (vecV a : Value)), (fun v_ _ => v_ = (vecV M : Value)), (fun v_ _ => v_ = (.bool true : Value)), (fun v_ _ => v_ = (.bool false : Value)), (fun v_ _ => v_ = (.bool false : Value)), (fun v_ _ => v_ = (.bool false : Value)), (fun v_ _ => v_ = (vecV b : Value)), (fun v_ _ => v_ = (vecV M : Value)), (fun v_ _ => v_ = (.bool true : Value)), (fun v_ _ => v_ = (.bool false : Value)), (fun v_ _ => v_ = (.bool false : Value))] (fun x y => Below x.heap.size x y) (fun _ => Below.refl _ _) (fun h k => grows_trans h k) ⟨fun _ _ _ _ h => h, fun _ _ _ _ h => h, fun _ _ _ _ h => h, fun _ _ _ _ h => h, fun _ _ _ _ h => h, fun _ _ _ _ h => h, fun _ _ _ _ h => h, fun _ _ _ _ h => h, fun _ _ _ _ h => h, fun _ _ _ _ h => h, fun _ _ _ _ h => h, fun _ _ _ _ h => h, fun _ _ _ _ h => h, fun _ _ _ _ h => h, fun _ _ _ _ h => h, fun _ _ _ _ h => h, fun _ _ _ _ h => h, fun _ _ _ _ h => h, fun _ _ _ _ h => h, fun _ _ _ _ h => h, fun _ _ _ _ h => h, fun _ _ _ _ h => h, trivial⟩ (by kernel_rfl) ?steps ?fin
    case steps =>
      refine ⟨?_, ?_, ?_, ?_, ?_, ?_, ?_, ?_, ?_, ?_, ?_, ?_, ?_, ?_, ?_, ?_, ?_, ?_, ?_, ?_, ?_, ?_, trivial⟩
      · -- 0
        intro a' w' hA hC hD
        have s7 : a'.tmps[7]? = some (.pointer (some ⟨w5.heap.size, 0, none⟩)) := (hA.at 7 (by kernel_rfl)).trans rfl
        obtain ⟨c0, c1, c2, c3, c4, c5, c6, c7, c8⟩ := vec9 ((hC.block _ (block_lt HJ.out)).trans HJ.out)
        clear hA hD
        refine stepOk_plain rfl ?_
        intro K hK
        gi_wp2
        exact hK (vecV J) _ rfl ((fun _ => Below.refl _ _) _)
      · -- 1
        intro a' w' hA hC hD
        have s3 : a'.tmps[3]? = some (.pointer (some ⟨w.heap.size, 0, none⟩)) := (hA.at 3 (by kernel_rfl)).trans rfl
        obtain ⟨c0, c1, c2, c3, c4, c5, c6, c7, c8⟩ := vec9 ((hC.block _ (block_lt HA.out)).trans HA.out)
        clear hA hD
        refine stepOk_plain rfl ?_
        intro K hK
        gi_wp2
        exact hK (vecV a) _ rfl ((fun _ => Below.refl _ _) _)
      · -- 2
        intro a' w' hA hC hD
        obtain ⟨u46, s46, r46⟩ := hD ⟨0, .data⟩ (by simp) rfl _ rfl
        replace r46 : u46 = vecV J := r46
        subst r46
        obtain ⟨u47, s47, r47⟩ := hD ⟨1, .data⟩ (by simp) rfl _ rfl
        replace r47 : u47 = vecV a := r47
        subst r47
        clear hA hD
        refine stepOk_plain rfl ?_
        intro K hK
        gi_wp2_with fail; refine (callsIn_wide.2 (covers_any J a _)).mono ?_; rintro e w2 ⟨rfl, hb⟩
        exact hK _ _ (show _ = (.bool true : Value) from by first | (simp only [Hja.out, cond_true, cond_false, Bool.true_and, Bool.false_and, Bool.not_true, Bool.not_false, beq_self_eq_true]; try rfl) | rfl) hb
      · -- 3
        intro a' w' hA hC hD
        obtain ⟨u48, s48, r48⟩ := hD ⟨2, .data⟩ (by simp) rfl _ rfl
        replace r48 : u48 = .bool true := r48
        subst r48
        clear hA hD
        refine stepOk_plain rfl ?_
        intro K hK
        gi_wp2
        exact hK (.bool false) _ rfl ((fun _ => Below.refl _ _) _)
      · -- 4
        intro a' w' hA hC hD
        obtain ⟨u49, s49, r49⟩ := hD ⟨3, .data⟩ (by simp) rfl _ rfl
        replace r49 : u49 = .bool false := r49
        subst r49
        clear hA hD
        refine stepOk_plain rfl ?_
        intro K hK
        gi_wp2
        exact hK (.bool false) _ rfl ((fun _ => Below.refl _ _) _)
      · -- 5
        intro a' w' hA hC hD
        have s7 : a'.tmps[7]? = some (.pointer (some ⟨w5.heap.size, 0, none⟩)) := (hA.at 7 (by kernel_rfl)).trans rfl
        obtain ⟨u50, s50, r50⟩ := hD ⟨4, .guard⟩ (by simp) rfl _ rfl
        replace r50 : u50 = .bool false := r50
        subst r50
        obtain ⟨c0, c1, c2, c3, c4, c5, c6, c7, c8⟩ := vec9 ((hC.block _ (block_lt HJ.out)).trans HJ.out)
        clear hA hD
        refine stepOk_want rfl rfl s50 ?_
        intro K hK
        gi_wp2
        exact hK (vecV J) _ rfl ((fun _ => Below.refl _ _) _)
      · -- 6
        intro a' w' hA hC hD
        have s4 : a'.tmps[4]? = some (.pointer (some ⟨w.heap.size + 1, 0, none⟩)) := (hA.at 4 (by kernel_rfl)).trans rfl
        obtain ⟨u50, s50, r50⟩ := hD ⟨4, .guard⟩ (by simp) rfl _ rfl
        replace r50 : u50 = .bool false := r50
        subst r50
        obtain ⟨c0, c1, c2, c3, c4, c5, c6, c7, c8⟩ := vec9 ((hC.block _ (block_lt Hb.out)).trans Hb.out)
        clear hA hD
        refine stepOk_want rfl rfl s50 ?_
        intro K hK
        gi_wp2
        exact hK (vecV b) _ rfl ((fun _ => Below.refl _ _) _)
      · -- 7
        intro a' w' hA hC hD
        obtain ⟨u51, s51, r51⟩ := hD ⟨5, .data⟩ (by simp) rfl _ rfl
        replace r51 : u51 = vecV J := r51
        subst r51
        obtain ⟨u52, s52, r52⟩ := hD ⟨6, .data⟩ (by simp) rfl _ rfl
        replace r52 : u52 = vecV b := r52
        subst r52
        obtain ⟨u50, s50, r50⟩ := hD ⟨4, .chain⟩ (by simp) rfl _ rfl
        replace r50 : u50 = .bool false := r50
        subst r50
        clear hA hD
        refine stepOk_want rfl rfl s50 ?_
        intro K hK
        gi_wp2_with fail; refine (callsIn_wide.2 (covers_any J b _)).mono ?_; rintro e w2 ⟨rfl, hb⟩
        exact hK _ _ (show _ = (.bool true : Value) from by first | (simp only [Hjb.out, cond_true, cond_false, Bool.true_and, Bool.false_and, Bool.not_true, Bool.not_false, beq_self_eq_true]; try rfl) | rfl) hb
      · -- 8
        intro a' w' hA hC hD
        obtain ⟨u53, s53, r53⟩ := hD ⟨7, .data⟩ (by simp) rfl _ rfl
        replace r53 : u53 = .bool true := r53
        subst r53
        obtain ⟨u50, s50, r50⟩ := hD ⟨4, .guard⟩ (by simp) rfl _ rfl
        replace r50 : u50 = .bool false := r50
        subst r50
        clear hA hD
        refine stepOk_want rfl rfl s50 ?_
        intro K hK
        gi_wp2
        exact hK (.bool false) _ rfl ((fun _ => Below.refl _ _) _)
      · -- 9
        intro a' w' hA hC hD
        obtain ⟨u50, s50, r50⟩ := hD ⟨4, .data⟩ (by simp) rfl _ rfl
        replace r50 : u50 = .bool false := r50
        subst r50
        obtain ⟨u54, s54, r54⟩ := hD ⟨8, .data⟩ (by simp) rfl _ rfl
        replace r54 : u54 = .bool false := r54
        subst r54
        clear hA hD
        refine stepOk_plain rfl ?_
        intro K hK
        gi_wp2
        exact hK (.bool false) _ rfl ((fun _ => Below.refl _ _) _)
      · -- 10
        intro a' w' hA hC hD
        obtain ⟨u55, s55, r55⟩ := hD ⟨9, .data⟩ (by simp) rfl _ rfl
        replace r55 : u55 = .bool false := r55
        subst r55
        clear hA hD
        refine stepOk_plain rfl ?_
        intro K hK
        gi_wp2
        exact hK (.bool false) _ rfl ((fun _ => Below.refl _ _) _)
      · -- 11
        intro a' w' hA hC hD
        have s3 : a'.tmps[3]? = some (.pointer (some ⟨w.heap.size, 0, none⟩)) := (hA.at 3 (by kernel_rfl)).trans rfl
        obtain ⟨u56, s56, r56⟩ := hD ⟨10, .guard⟩ (by simp) rfl _ rfl
        replace r56 : u56 = .bool false := r56
        subst r56
        obtain ⟨c0, c1, c2, c3, c4, c5, c6, c7, c8⟩ := vec9 ((hC.block _ (block_lt HA.out)).trans HA.out)
        clear hA hD
        refine stepOk_want rfl rfl s56 ?_
        intro K hK
        gi_wp2
        exact hK (vecV a) _ rfl ((fun _ => Below.refl _ _) _)
      · -- 12
        intro a' w' hA hC hD
        have s9 : a'.tmps[9]? = some (.pointer (some ⟨w6.heap.size, 0, none⟩)) := (hA.at 9 (by kernel_rfl)).trans rfl
        obtain ⟨u56, s56, r56⟩ := hD ⟨10, .guard⟩ (by simp) rfl _ rfl
        replace r56 : u56 = .bool false := r56
        subst r56
        obtain ⟨c0, c1, c2, c3, c4, c5, c6, c7, c8⟩ := vec9 ((hC.block _ (block_lt HM.out)).trans HM.out)
        clear hA hD
        refine stepOk_want rfl rfl s56 ?_
        intro K hK
        gi_wp2
        exact hK (vecV M) _ rfl ((fun _ => Below.refl _ _) _)
      · -- 13
        intro a' w' hA hC hD
        obtain ⟨u57, s57, r57⟩ := hD ⟨11, .data⟩ (by simp) rfl _ rfl
        replace r57 : u57 = vecV a := r57
        subst r57
        obtain ⟨u58, s58, r58⟩ := hD ⟨12, .data⟩ (by simp) rfl _ rfl
        replace r58 : u58 = vecV M := r58
        subst r58
        obtain ⟨u56, s56, r56⟩ := hD ⟨10, .chain⟩ (by simp) rfl _ rfl
        replace r56 : u56 = .bool false := r56
        subst r56
        clear hA hD
        refine stepOk_want rfl rfl s56 ?_
        intro K hK
        gi_wp2_with fail; refine (callsIn_wide.2 (covers_any a M _)).mono ?_; rintro e w2 ⟨rfl, hb⟩
        exact hK _ _ (show _ = (.bool true : Value) from by first | (simp only [Ham.out, cond_true, cond_false, Bool.true_and, Bool.false_and, Bool.not_true, Bool.not_false, beq_self_eq_true]; try rfl) | rfl) hb
      · -- 14
        intro a' w' hA hC hD
        obtain ⟨u59, s59, r59⟩ := hD ⟨13, .data⟩ (by simp) rfl _ rfl
        replace r59 : u59 = .bool true := r59
        subst r59
        obtain ⟨u56, s56, r56⟩ := hD ⟨10, .guard⟩ (by simp) rfl _ rfl
        replace r56 : u56 = .bool false := r56
        subst r56
        clear hA hD
        refine stepOk_want rfl rfl s56 ?_
        intro K hK
        gi_wp2
        exact hK (.bool false) _ rfl ((fun _ => Below.refl _ _) _)
      · -- 15
        intro a' w' hA hC hD
        obtain ⟨u56, s56, r56⟩ := hD ⟨10, .data⟩ (by simp) rfl _ rfl
        replace r56 : u56 = .bool false := r56
        subst r56
        obtain ⟨u60, s60, r60⟩ := hD ⟨14, .data⟩ (by simp) rfl _ rfl
        replace r60 : u60 = .bool false := r60
        subst r60
        clear hA hD
        refine stepOk_plain rfl ?_
        intro K hK
        gi_wp2
        exact hK (.bool false) _ rfl ((fun _ => Below.refl _ _) _)
      · -- 16
        intro a' w' hA hC hD
        obtain ⟨u61, s61, r61⟩ := hD ⟨15, .data⟩ (by simp) rfl _ rfl
        replace r61 : u61 = .bool false := r61
        subst r61
        clear hA hD
        refine stepOk_plain rfl ?_
        intro K hK
        gi_wp2
        exact hK (.bool false) _ rfl ((fun _ => Below.refl _ _) _)
      · -- 17
        intro a' w' hA hC hD
        have s4 : a'.tmps[4]? = some (.pointer (some ⟨w.heap.size + 1, 0, none⟩)) := (hA.at 4 (by kernel_rfl)).trans rfl
        obtain ⟨u62, s62, r62⟩ := hD ⟨16, .guard⟩ (by simp) rfl _ rfl
        replace r62 : u62 = .bool false := r62
        subst r62
        obtain ⟨c0, c1, c2, c3, c4, c5, c6, c7, c8⟩ := vec9 ((hC.block _ (block_lt Hb.out)).trans Hb.out)
        clear hA hD
        refine stepOk_want rfl rfl s62 ?_
        intro K hK
        gi_wp2
        exact hK (vecV b) _ rfl ((fun _ => Below.refl _ _) _)
      · -- 18
        intro a' w' hA hC hD
        have s9 : a'.tmps[9]? = some (.pointer (some ⟨w6.heap.size, 0, none⟩)) := (hA.at 9 (by kernel_rfl)).trans rfl
        obtain ⟨u62, s62, r62⟩ := hD ⟨16, .guard⟩ (by simp) rfl _ rfl
        replace r62 : u62 = .bool false := r62
        subst r62
        obtain ⟨c0, c1, c2, c3, c4, c5, c6, c7, c8⟩ := vec9 ((hC.block _ (block_lt HM.out)).trans HM.out)
        clear hA hD
        refine stepOk_want rfl rfl s62 ?_
        intro K hK
        gi_wp2
        exact hK (vecV M) _ rfl ((fun _ => Below.refl _ _) _)
      · -- 19
        intro a' w' hA hC hD
        obtain ⟨u63, s63, r63⟩ := hD ⟨17, .data⟩ (by simp) rfl _ rfl
        replace r63 : u63 = vecV b := r63
        subst r63
        obtain ⟨u64, s64, r64⟩ := hD ⟨18, .data⟩ (by simp) rfl _ rfl
        replace r64 : u64 = vecV M := r64
        subst r64
        obtain ⟨u62, s62, r62⟩ := hD ⟨16, .chain⟩ (by simp) rfl _ rfl
        replace r62 : u62 = .bool false := r62
        subst r62
        clear hA hD
        refine stepOk_want rfl rfl s62 ?_
        intro K hK
        gi_wp2_with fail; refine (callsIn_wide.2 (covers_any b M _)).mono ?_; rintro e w2 ⟨rfl, hb⟩
        exact hK _ _ (show _ = (.bool true : Value) from by first | (simp only [Hbm.out, cond_true, cond_false, Bool.true_and, Bool.false_and, Bool.not_true, Bool.not_false, beq_self_eq_true]; try rfl) | rfl) hb
      · -- 20
        intro a' w' hA hC hD
        obtain ⟨u65, s65, r65⟩ := hD ⟨19, .data⟩ (by simp) rfl _ rfl
        replace r65 : u65 = .bool true := r65
        subst r65
        obtain ⟨u62, s62, r62⟩ := hD ⟨16, .guard⟩ (by simp) rfl _ rfl
        replace r62 : u62 = .bool false := r62
        subst r62
        clear hA hD
        refine stepOk_want rfl rfl s62 ?_
        intro K hK
        gi_wp2
        exact hK (.bool false) _ rfl ((fun _ => Below.refl _ _) _)
      · -- 21
        intro a' w' hA hC hD
        obtain ⟨u62, s62, r62⟩ := hD ⟨16, .data⟩ (by simp) rfl _ rfl
        replace r62 : u62 = .bool false := r62
        subst r62
        obtain ⟨u66, s66, r66⟩ := hD ⟨20, .data⟩ (by simp) rfl _ rfl
        replace r66 : u66 = .bool false := r66
        subst r66
        clear hA hD
        refine stepOk_plain rfl ?_
        intro K hK
        gi_wp2
        exact hK (.bool false) _ rfl ((fun _ => Below.refl _ _) _)
    case fin =>
      intro w7 hC
      simp only [EndFrom, forall_eq, Act.put, List.length_cons, List.length_nil, List.drop_succ_cons, List.drop_zero, Nat.reduceAdd, List.setIfInBounds_toArray, List.set_cons_succ, List.set_cons_zero]
      have HA := Lib.hid ((hC.block _ (block_lt HA.out)).trans HA.out)
      have Hb := Lib.hid ((hC.block _ (block_lt Hb.out)).trans Hb.out)
      have Hc := Lib.hid ((hC.block _ (block_lt Hc.out)).trans Hc.out)
      have HJ := Lib.hid ((hC.block _ (block_lt HJ.out)).trans HJ.out)
      have HM := Lib.hid ((hC.block _ (block_lt HM.out)).trans HM.out)
      have HB := Lib.hid (HB.out.trans (hC.mono HB.out.size))
      clear hC
      gi_wp2
      repeat ((fail_if_success (with_reducible refine stop_at (id := 9) ?_)); (first | go_values | go_skip | go_guarded | go_step | go_upon | go_back | (simp only [Int.not_lt, Int.not_le] at *; go_simp) | (go_values <;> (try go_simp)) | (go_ite <;> go_prune <;> (try go_simp)) | (split <;> (first | (rename_i hx; exact (hx _ rfl).elim) | go_prune))))
      refine (wpIn_wide (n := 0)).1 ?_
      refine wp_region_text [(fun v_ _ => v_ = (vecV c : Value)), (fun v_ _ => v_ = (vecV a : Value)), (fun v_ _ => v_ = (.bool (covers c a) : Value)), (fun v_ _ => v_ = (.bool (covers c a) : Value)), (fun v_ _ => v_ = (bif covers c a then vecV c else undef : Value)), (fun v_ _ => v_ = (bif covers c a then vecV b else undef : Value)), (fun v_ _ => v_ = (bif covers c a then .bool (covers c b) else undef : Value)), (fun v_ _ => v_ = (.bool (covers c a && covers c b) : Value)), (fun v_ _ => v_ = (.bool (covers c a && covers c b) : Value)), (fun v_ _ => v_ = (bif covers c a && covers c b then vecV c else undef : Value)), (fun v_ _ => v_ = (bif covers c a && covers c b then vecV J else undef : Value)), (fun v_ _ => v_ = (bif covers c a && covers c b then .bool true else undef : Value)), (fun v_ _ => v_ = (bif covers c a && covers c b then .bool false else undef : Value)), (fun v_ _ => v_ = (.bool false : Value)), (fun v_ _ => v_ = (.bool false : Value)), (fun v_ _ => v_ = (vecV a : Value)), (fun v_ _ => v_ = (vecV c : Value)), (fun v_ _ => v_ = (.bool (covers a c) : Value)), (fun v_ _ => v_ = (.bool (covers a c) : Value)), (fun v_ _ => v_ = (bif covers a c then vecV b else undef : Value)), (fun v_ _ => v_ = (bif covers a c then vecV c else undef : Value)), (fun v_ _ => v_ = (bif covers a c then .bool (covers b c) else undef : Value)), (fun v_ _ => v_ = (.bool (covers a c && covers b c) : Value)), (fun v_ _ => v_ = (.bool (covers a c && covers b c) : Value)), (fun v_ _ => v_ = (bif covers a c && covers b c then vecV M else undef : Value)), (fun v_ _ => v_ = (bif covers a c && covers b c then vecV c else undef : Value)), (fun v_ _ => v_ = (bif covers a c && covers b c then .bool true else undef : Value)), (fun v_ _ => v_ = (bif covers a c && covers b c then .bool false else undef : Value)), (fun v_ _ => v_ = (.bool false : Value)), (fun v_ _ => v_ = (.bool false : Value))] (fun x y => Below x.heap.size x y) (fun _ => Below.refl _ _) (fun h k => grows_trans h k) ⟨fun _ _ _ _ h => h, fun _ _ _ _ h => h, fun _ _ _ _ h => h, fun _ _ _ _ h => h, fun _ _ _ _ h => h, fun _ _ _ _ h => h, fun _ _ _ _ h => h, fun _ _ _ _ h => h, fun _ _ _ _ h => h, fun _ _ _ _ h => h, fun _ _ _ _ h => h, fun _ _ _ _ h => h, fun _ _ _ _ h => h, fun _ _ _ _ h => h, fun _ _ _ _ h => h, fun _ _ _ _ h => h, fun _ _ _ _ h => h, fun _ _ _ _ h => h, fun _ _ _ _ h => h, fun _ _ _ _ h => h, fun _ _ _ _ h => h, fun _ _ _ _ h => h, fun _ _ _ _ h => h, fun _ _ _ _ h => h, fun _ _ _ _ h => h, fun _ _ _ _ h => h, fun _ _ _ _ h => h, fun _ _ _ _ h => h, fun _ _ _ _ h => h, fun _ _ _ _ h => h, trivial⟩ (by kernel_rfl) ?steps ?fin
      case steps =>
        refine ⟨?_, ?_, ?_, ?_, ?_, ?_, ?_, ?_, ?_, ?_, ?_, ?_, ?_, ?_, ?_, ?_, ?_, ?_, ?_, ?_, ?_, ?_, ?_, ?_, ?_, ?_, ?_, ?_, ?_, ?_, trivial⟩
        · -- 0
          intro a' w' hA hC hD
          have s5 : a'.tmps[5]? = some (.pointer (some ⟨w.heap.size + 2, 0, none⟩)) := (hA.at 5 (by kernel_rfl)).trans rfl
          obtain ⟨c0, c1, c2, c3, c4, c5, c6, c7, c8⟩ := vec9 ((hC.block _ (block_lt Hc.out)).trans Hc.out)
          clear hA hD
          refine stepOk_plain rfl ?_
          intro K hK
          gi_wp2
          exact hK (vecV c) _ rfl ((fun _ => Below.refl _ _) _)
        · -- 1
          intro a' w' hA hC hD
          have s3 : a'.tmps[3]? = some (.pointer (some ⟨w.heap.size, 0, none⟩)) := (hA.at 3 (by kernel_rfl)).trans rfl
          obtain ⟨c0, c1, c2, c3, c4, c5, c6, c7, c8⟩ := vec9 ((hC.block _ (block_lt HA.out)).trans HA.out)
          clear hA hD
          refine stepOk_plain rfl ?_
          intro K hK
          gi_wp2
          exact hK (vecV a) _ rfl ((fun _ => Below.refl _ _) _)
        · -- 2
          intro a' w' hA hC hD
          obtain ⟨u68, s68, r68⟩ := hD ⟨0, .data⟩ (by simp) rfl _ rfl
          replace r68 : u68 = vecV c := r68
          subst r68
          obtain ⟨u69, s69, r69⟩ := hD ⟨1, .data⟩ (by simp) rfl _ rfl
          replace r69 : u69 = vecV a := r69
          subst r69
          clear hA hD
          refine stepOk_plain rfl ?_
          intro K hK
          gi_wp2_with fail; refine (callsIn_wide.2 (covers_any c a _)).mono ?_; rintro e w2 ⟨rfl, hb⟩
          exact hK _ _ (show _ = (.bool (covers c a) : Value) from by first | (simp only [cond_true, cond_false, Bool.true_and, Bool.false_and, Bool.not_true, Bool.not_false, beq_self_eq_true]; try rfl) | rfl) hb
        · -- 3
          intro a' w' hA hC hD
          obtain ⟨u70, s70, r70⟩ := hD ⟨2, .data⟩ (by simp) rfl _ rfl
          replace r70 : u70 = .bool (covers c a) := r70
          subst r70
          clear hA hD
          refine stepOk_plain rfl ?_
          intro K hK
          gi_wp2
          exact hK (.bool (covers c a)) _ rfl ((fun _ => Below.refl _ _) _)
        · -- 4
          intro a' w' hA hC hD
          have s5 : a'.tmps[5]? = some (.pointer (some ⟨w.heap.size + 2, 0, none⟩)) := (hA.at 5 (by kernel_rfl)).trans rfl
          obtain ⟨u71, s71, r71⟩ := hD ⟨3, .guard⟩ (by simp) rfl _ rfl
          replace r71 : u71 = .bool (covers c a) := r71
          subst r71
          obtain ⟨c0, c1, c2, c3, c4, c5, c6, c7, c8⟩ := vec9 ((hC.block _ (block_lt Hc.out)).trans Hc.out)
          clear hA hD
          rcases (Bool.eq_false_or_eq_true (covers c a)).symm with hg | hg <;> (try simp only [hg, cond_true, cond_false] at s5 s71)
          · exact stepOk_skip rfl rfl s71 (show (undef : Value) = (bif covers c a then vecV c else undef : Value) from by simp only [hg, cond_true, cond_false])
          · refine stepOk_want rfl rfl s71 ?_
            intro K hK
            gi_wp2
            exact hK _ _ (show _ = (bif covers c a then vecV c else undef : Value) from by first | (simp only [hg, cond_true, cond_false, Bool.true_and, Bool.false_and, Bool.not_true, Bool.not_false, beq_self_eq_true]; try rfl) | rfl) ((fun _ => Below.refl _ _) _)
        · -- 5
          intro a' w' hA hC hD
          have s4 : a'.tmps[4]? = some (.pointer (some ⟨w.heap.size + 1, 0, none⟩)) := (hA.at 4 (by kernel_rfl)).trans rfl
          obtain ⟨u71, s71, r71⟩ := hD ⟨3, .guard⟩ (by simp) rfl _ rfl
          replace r71 : u71 = .bool (covers c a) := r71
          subst r71
          obtain ⟨c0, c1, c2, c3, c4, c5, c6, c7, c8⟩ := vec9 ((hC.block _ (block_lt Hb.out)).trans Hb.out)
          clear hA hD
          rcases (Bool.eq_false_or_eq_true (covers c a)).symm with hg | hg <;> (try simp only [hg, cond_true, cond_false] at s4 s71)
          · exact stepOk_skip rfl rfl s71 (show (undef : Value) = (bif covers c a then vecV b else undef : Value) from by simp only [hg, cond_true, cond_false])
          · refine stepOk_want rfl rfl s71 ?_
            intro K hK
            gi_wp2
            exact hK _ _ (show _ = (bif covers c a then vecV b else undef : Value) from by first | (simp only [hg, cond_true, cond_false, Bool.true_and, Bool.false_and, Bool.not_true, Bool.not_false, beq_self_eq_true]; try rfl) | rfl) ((fun _ => Below.refl _ _) _)
        · -- 6
          intro a' w' hA hC hD
          obtain ⟨u72, s72, r72⟩ := hD ⟨4, .data⟩ (by simp) rfl _ rfl
          replace r72 : u72 = bif covers c a then vecV c else undef := r72
          subst r72
          obtain ⟨u73, s73, r73⟩ := hD ⟨5, .data⟩ (by simp) rfl _ rfl
          replace r73 : u73 = bif covers c a then vecV b else undef := r73
          subst r73
          obtain ⟨u71, s71, r71⟩ := hD ⟨3, .chain⟩ (by simp) rfl _ rfl
          replace r71 : u71 = .bool (covers c a) := r71
          subst r71
          clear hA hD
          rcases (Bool.eq_false_or_eq_true (covers c a)).symm with hg | hg <;> (try simp only [hg, cond_true, cond_false] at s72 s73 s71)
          · exact stepOk_skip rfl rfl s71 (show (undef : Value) = (bif covers c a then .bool (covers c b) else undef : Value) from by simp only [hg, cond_true, cond_false])
          · refine stepOk_want rfl rfl s71 ?_
            intro K hK
            gi_wp2_with fail; refine (callsIn_wide.2 (covers_any c b _)).mono ?_; rintro e w2 ⟨rfl, hb⟩
            exact hK _ _ (show _ = (bif covers c a then .bool (covers c b) else undef : Value) from by first | (simp only [hg, cond_true, cond_false, Bool.true_and, Bool.false_and, Bool.not_true, Bool.not_false, beq_self_eq_true]; try rfl) | rfl) hb
        · -- 7
          intro a' w' hA hC hD
          obtain ⟨u71, s71, r71⟩ := hD ⟨3, .data⟩ (by simp) rfl _ rfl
          replace r71 : u71 = .bool (covers c a) := r71
          subst r71
          obtain ⟨u74, s74, r74⟩ := hD ⟨6, .data⟩ (by simp) rfl _ rfl
          replace r74 : u74 = bif covers c a then .bool (covers c b) else undef := r74
          subst r74
          clear hA hD
          rcases (Bool.eq_false_or_eq_true (covers c a)).symm with hg | hg <;> (try simp only [hg, cond_true, cond_false] at s71 s74)
          · refine stepOk_plain rfl ?_
            intro K hK
            gi_wp2
            exact hK _ _ (show _ = (.bool (covers c a && covers c b) : Value) from by first | (simp only [hg, cond_true, cond_false, Bool.true_and, Bool.false_and, Bool.not_true, Bool.not_false, beq_self_eq_true]; try rfl) | rfl) ((fun _ => Below.refl _ _) _)
          · refine stepOk_plain rfl ?_
            intro K hK
            gi_wp2
            exact hK _ _ (show _ = (.bool (covers c a && covers c b) : Value) from by first | (simp only [hg, cond_true, cond_false, Bool.true_and, Bool.false_and, Bool.not_true, Bool.not_false, beq_self_eq_true]; try rfl) | rfl) ((fun _ => Below.refl _ _) _)
        · -- 8
          intro a' w' hA hC hD
          obtain ⟨u75, s75, r75⟩ := hD ⟨7, .data⟩ (by simp) rfl _ rfl
          replace r75 : u75 = .bool (covers c a && covers c b) := r75
          subst r75
          clear hA hD
          refine stepOk_plain rfl ?_
          intro K hK
          gi_wp2
          exact hK (.bool (covers c a && covers c b)) _ rfl ((fun _ => Below.refl _ _) _)
        · -- 9
          intro a' w' hA hC hD
          have s5 : a'.tmps[5]? = some (.pointer (some ⟨w.heap.size + 2, 0, none⟩)) := (hA.at 5 (by kernel_rfl)).trans rfl
          obtain ⟨u76, s76, r76⟩ := hD ⟨8, .guard⟩ (by simp) rfl _ rfl
          replace r76 : u76 = .bool (covers c a && covers c b) := r76
          subst r76
          obtain ⟨c0, c1, c2, c3, c4, c5, c6, c7, c8⟩ := vec9 ((hC.block _ (block_lt Hc.out)).trans Hc.out)
          clear hA hD
          rcases (Bool.eq_false_or_eq_true (covers c a && covers c b)).symm with hg | hg <;> (try simp only [hg, cond_true, cond_false] at s5 s76)
          · exact stepOk_skip rfl rfl s76 (show (undef : Value) = (bif covers c a && covers c b then vecV c else undef : Value) from by simp only [hg, cond_true, cond_false])
          · refine stepOk_want rfl rfl s76 ?_
            intro K hK
            gi_wp2
            exact hK _ _ (show _ = (bif covers c a && covers c b then vecV c else undef : Value) from by first | (simp only [hg, cond_true, cond_false, Bool.true_and, Bool.false_and, Bool.not_true, Bool.not_false, beq_self_eq_true]; try rfl) | rfl) ((fun _ => Below.refl _ _) _)
        · -- 10
          intro a' w' hA hC hD
          have s7 : a'.tmps[7]? = some (.pointer (some ⟨w5.heap.size, 0, none⟩)) := (hA.at 7 (by kernel_rfl)).trans rfl
          obtain ⟨u76, s76, r76⟩ := hD ⟨8, .guard⟩ (by simp) rfl _ rfl
          replace r76 : u76 = .bool (covers c a && covers c b) := r76
          subst r76
          obtain ⟨c0, c1, c2, c3, c4, c5, c6, c7, c8⟩ := vec9 ((hC.block _ (block_lt HJ.out)).trans HJ.out)
          clear hA hD
          rcases (Bool.eq_false_or_eq_true (covers c a && covers c b)).symm with hg | hg <;> (try simp only [hg, cond_true, cond_false] at s7 s76)
          · exact stepOk_skip rfl rfl s76 (show (undef : Value) = (bif covers c a && covers c b then vecV J else undef : Value) from by simp only [hg, cond_true, cond_false])
          · refine stepOk_want rfl rfl s76 ?_
            intro K hK
            gi_wp2
            exact hK _ _ (show _ = (bif covers c a && covers c b then vecV J else undef : Value) from by first | (simp only [hg, cond_true, cond_false, Bool.true_and, Bool.false_and, Bool.not_true, Bool.not_false, beq_self_eq_true]; try rfl) | rfl) ((fun _ => Below.refl _ _) _)
        · -- 11
          intro a' w' hA hC hD
          obtain ⟨u77, s77, r77⟩ := hD ⟨9, .data⟩ (by simp) rfl _ rfl
          replace r77 : u77 = bif covers c a && covers c b then vecV c else undef := r77
          subst r77
          obtain ⟨u78, s78, r78⟩ := hD ⟨10, .data⟩ (by simp) rfl _ rfl
          replace r78 : u78 = bif covers c a && covers c b then vecV J else undef := r78
          subst r78
          obtain ⟨u76, s76, r76⟩ := hD ⟨8, .chain⟩ (by simp) rfl _ rfl
          replace r76 : u76 = .bool (covers c a && covers c b) := r76
          subst r76
          clear hA hD
          rcases (Bool.eq_false_or_eq_true (covers c a && covers c b)).symm with hg | hg <;> (try simp only [hg, cond_true, cond_false] at s77 s78 s76)
          · exact stepOk_skip rfl rfl s76 (show (undef : Value) = (bif covers c a && covers c b then .bool true else undef : Value) from by simp only [hg, cond_true, cond_false])
          · refine stepOk_want rfl rfl s76 ?_
            intro K hK
            gi_wp2_with fail; refine (callsIn_wide.2 (covers_any c J _)).mono ?_; rintro e w2 ⟨rfl, hb⟩
            exact hK _ _ (show _ = (bif covers c a && covers c b then .bool true else undef : Value) from by first | (simp only [hg, Hcj.out hg, cond_true, cond_false, Bool.true_and, Bool.false_and, Bool.not_true, Bool.not_false, beq_self_eq_true]; try rfl) | rfl) hb
        · -- 12
          intro a' w' hA hC hD
          obtain ⟨u79, s79, r79⟩ := hD ⟨11, .data⟩ (by simp) rfl _ rfl
          replace r79 : u79 = bif covers c a && covers c b then .bool true else undef := r79
          subst r79
          obtain ⟨u76, s76, r76⟩ := hD ⟨8, .guard⟩ (by simp) rfl _ rfl
          replace r76 : u76 = .bool (covers c a && covers c b) := r76
          subst r76
          clear hA hD
          rcases (Bool.eq_false_or_eq_true (covers c a && covers c b)).symm with hg | hg <;> (try simp only [hg, cond_true, cond_false] at s79 s76)
          · exact stepOk_skip rfl rfl s76 (show (undef : Value) = (bif covers c a && covers c b then .bool false else undef : Value) from by simp only [hg, cond_true, cond_false])
          · refine stepOk_want rfl rfl s76 ?_
            intro K hK
            gi_wp2
            exact hK _ _ (show _ = (bif covers c a && covers c b then .bool false else undef : Value) from by first | (simp only [hg, cond_true, cond_false, Bool.true_and, Bool.false_and, Bool.not_true, Bool.not_false, beq_self_eq_true]; try rfl) | rfl) ((fun _ => Below.refl _ _) _)
        · -- 13
          intro a' w' hA hC hD
          obtain ⟨u76, s76, r76⟩ := hD ⟨8, .data⟩ (by simp) rfl _ rfl
          replace r76 : u76 = .bool (covers c a && covers c b) := r76
          subst r76
          obtain ⟨u80, s80, r80⟩ := hD ⟨12, .data⟩ (by simp) rfl _ rfl
          replace r80 : u80 = bif covers c a && covers c b then .bool false else undef := r80
          subst r80
          clear hA hD
          rcases (Bool.eq_false_or_eq_true (covers c a && covers c b)).symm with hg | hg <;> (try simp only [hg, cond_true, cond_false] at s76 s80)
          · refine stepOk_plain rfl ?_
            intro K hK
            gi_wp2
            exact hK _ _ (show _ = (.bool false : Value) from by first | (simp only [hg, cond_true, cond_false, Bool.true_and, Bool.false_and, Bool.not_true, Bool.not_false, beq_self_eq_true]; try rfl) | rfl) ((fun _ => Below.refl _ _) _)
          · refine stepOk_plain rfl ?_
            intro K hK
            gi_wp2
            exact hK _ _ (show _ = (.bool false : Value) from by first | (simp only [hg, cond_true, cond_false, Bool.true_and, Bool.false_and, Bool.not_true, Bool.not_false, beq_self_eq_true]; try rfl) | rfl) ((fun _ => Below.refl _ _) _)
        · -- 14
          intro a' w' hA hC hD
          obtain ⟨u81, s81, r81⟩ := hD ⟨13, .data⟩ (by simp) rfl _ rfl
          replace r81 : u81 = .bool false := r81
          subst r81
          clear hA hD
          refine stepOk_plain rfl ?_
          intro K hK
          gi_wp2
          exact hK (.bool false) _ rfl ((fun _ => Below.refl _ _) _)
        · -- 15
          intro a' w' hA hC hD
          have s3 : a'.tmps[3]? = some (.pointer (some ⟨w.heap.size, 0, none⟩)) := (hA.at 3 (by kernel_rfl)).trans rfl
          obtain ⟨u82, s82, r82⟩ := hD ⟨14, .guard⟩ (by simp) rfl _ rfl
          replace r82 : u82 = .bool false := r82
          subst r82
          obtain ⟨c0, c1, c2, c3, c4, c5, c6, c7, c8⟩ := vec9 ((hC.block _ (block_lt HA.out)).trans HA.out)
          clear hA hD
          refine stepOk_want rfl rfl s82 ?_
          intro K hK
          gi_wp2
          exact hK (vecV a) _ rfl ((fun _ => Below.refl _ _) _)
        · -- 16
          intro a' w' hA hC hD
          have s5 : a'.tmps[5]? = some (.pointer (some ⟨w.heap.size + 2, 0, none⟩)) := (hA.at 5 (by kernel_rfl)).trans rfl
          obtain ⟨u82, s82, r82⟩ := hD ⟨14, .guard⟩ (by simp) rfl _ rfl
          replace r82 : u82 = .bool false := r82
          subst r82
          obtain ⟨c0, c1, c2, c3, c4, c5, c6, c7, c8⟩ := vec9 ((hC.block _ (block_lt Hc.out)).trans Hc.out)
          clear hA hD
          refine stepOk_want rfl rfl s82 ?_
          intro K hK
          gi_wp2
          exact hK (vecV c) _ rfl ((fun _ => Below.refl _ _) _)
        · -- 17
          intro a' w' hA hC hD
          obtain ⟨u83, s83, r83⟩ := hD ⟨15, .data⟩ (by simp) rfl _ rfl
          replace r83 : u83 = vecV a := r83
          subst r83
          obtain ⟨u84, s84, r84⟩ := hD ⟨16, .data⟩ (by simp) rfl _ rfl
          replace r84 : u84 = vecV c := r84
          subst r84
          obtain ⟨u82, s82, r82⟩ := hD ⟨14, .chain⟩ (by simp) rfl _ rfl
          replace r82 : u82 = .bool false := r82
          subst r82
          clear hA hD
          refine stepOk_want rfl rfl s82 ?_
          intro K hK
          gi_wp2_with fail; refine (callsIn_wide.2 (covers_any a c _)).mono ?_; rintro e w2 ⟨rfl, hb⟩
          exact hK _ _ (show _ = (.bool (covers a c) : Value) from by first | (simp only [cond_true, cond_false, Bool.true_and, Bool.false_and, Bool.not_true, Bool.not_false, beq_self_eq_true]; try rfl) | rfl) hb
        · -- 18
          intro a' w' hA hC hD
          obtain ⟨u85, s85, r85⟩ := hD ⟨17, .data⟩ (by simp) rfl _ rfl
          replace r85 : u85 = .bool (covers a c) := r85
          subst r85
          obtain ⟨u82, s82, r82⟩ := hD ⟨14, .guard⟩ (by simp) rfl _ rfl
          replace r82 : u82 = .bool false := r82
          subst r82
          clear hA hD
          refine stepOk_want rfl rfl s82 ?_
          intro K hK
          gi_wp2
          exact hK (.bool (covers a c)) _ rfl ((fun _ => Below.refl _ _) _)
        · -- 19
          intro a' w' hA hC hD
          have s4 : a'.tmps[4]? = some (.pointer (some ⟨w.heap.size + 1, 0, none⟩)) := (hA.at 4 (by kernel_rfl)).trans rfl
          obtain ⟨u86, s86, r86⟩ := hD ⟨18, .guard⟩ (by simp) rfl _ rfl
          replace r86 : u86 = .bool (covers a c) := r86
          subst r86
          obtain ⟨c0, c1, c2, c3, c4, c5, c6, c7, c8⟩ := vec9 ((hC.block _ (block_lt Hb.out)).trans Hb.out)
          clear hA hD
          rcases (Bool.eq_false_or_eq_true (covers a c)).symm with hg | hg <;> (try simp only [hg, cond_true, cond_false] at s4 s86)
          · exact stepOk_skip rfl rfl s86 (show (undef : Value) = (bif covers a c then vecV b else undef : Value) from by simp only [hg, cond_true, cond_false])
          · refine stepOk_want rfl rfl s86 ?_
            intro K hK
            gi_wp2
            exact hK _ _ (show _ = (bif covers a c then vecV b else undef : Value) from by first | (simp only [hg, cond_true, cond_false, Bool.true_and, Bool.false_and, Bool.not_true, Bool.not_false, beq_self_eq_true]; try rfl) | rfl) ((fun _ => Below.refl _ _) _)
        · -- 20
          intro a' w' hA hC hD
          have s5 : a'.tmps[5]? = some (.pointer (some ⟨w.heap.size + 2, 0, none⟩)) := (hA.at 5 (by kernel_rfl)).trans rfl
          obtain ⟨u86, s86, r86⟩ := hD ⟨18, .guard⟩ (by simp) rfl _ rfl
          replace r86 : u86 = .bool (covers a c) := r86
          subst r86
          obtain ⟨c0, c1, c2, c3, c4, c5, c6, c7, c8⟩ := vec9 ((hC.block _ (block_lt Hc.out)).trans Hc.out)
          clear hA hD
          rcases (Bool.eq_false_or_eq_true (covers a c)).symm with hg | hg <;> (try simp only [hg, cond_true, cond_false] at s5 s86)
          · exact stepOk_skip rfl rfl s86 (show (undef : Value) = (bif covers a c then vecV c else undef : Value) from by simp only [hg, cond_true, cond_false])
          · refine stepOk_want rfl rfl s86 ?_
            intro K hK
            gi_wp2
            exact hK _ _ (show _ = (bif covers a c then vecV c else undef : Value) from by first | (simp only [hg, cond_true, cond_false, Bool.true_and, Bool.false_and, Bool.not_true, Bool.not_false, beq_self_eq_true]; try rfl) | rfl) ((fun _ => Below.refl _ _) _)
        · -- 21
          intro a' w' hA hC hD
          obtain ⟨u87, s87, r87⟩ := hD ⟨19, .data⟩ (by simp) rfl _ rfl
          replace r87 : u87 = bif covers a c then vecV b else undef := r87
          subst r87
          obtain ⟨u88, s88, r88⟩ := hD ⟨20, .data⟩ (by simp) rfl _ rfl
          replace r88 : u88 = bif covers a c then vecV c else undef := r88
          subst r88
          obtain ⟨u86, s86, r86⟩ := hD ⟨18, .chain⟩ (by simp) rfl _ rfl
          replace r86 : u86 = .bool (covers a c) := r86
          subst r86
          clear hA hD
          rcases (Bool.eq_false_or_eq_true (covers a c)).symm with hg | hg <;> (try simp only [hg, cond_true, cond_false] at s87 s88 s86)
          · exact stepOk_skip rfl rfl s86 (show (undef : Value) = (bif covers a c then .bool (covers b c) else undef : Value) from by simp only [hg, cond_true, cond_false])
          · refine stepOk_want rfl rfl s86 ?_
            intro K hK
            gi_wp2_with fail; refine (callsIn_wide.2 (covers_any b c _)).mono ?_; rintro e w2 ⟨rfl, hb⟩
            exact hK _ _ (show _ = (bif covers a c then .bool (covers b c) else undef : Value) from by first | (simp only [hg, cond_true, cond_false, Bool.true_and, Bool.false_and, Bool.not_true, Bool.not_false, beq_self_eq_true]; try rfl) | rfl) hb
        · -- 22
          intro a' w' hA hC hD
          obtain ⟨u86, s86, r86⟩ := hD ⟨18, .data⟩ (by simp) rfl _ rfl
          replace r86 : u86 = .bool (covers a c) := r86
          subst r86
          obtain ⟨u89, s89, r89⟩ := hD ⟨21, .data⟩ (by simp) rfl _ rfl
          replace r89 : u89 = bif covers a c then .bool (covers b c) else undef := r89
          subst r89
          obtain ⟨u82, s82, r82⟩ := hD ⟨14, .guard⟩ (by simp) rfl _ rfl
          replace r82 : u82 = .bool false := r82
          subst r82
          clear hA hD
          rcases (Bool.eq_false_or_eq_true (covers a c)).symm with hg | hg <;> (try simp only [hg, cond_true, cond_false] at s86 s89 s82)
          · refine stepOk_want rfl rfl s82 ?_
            intro K hK
            gi_wp2
            exact hK _ _ (show _ = (.bool (covers a c && covers b c) : Value) from by first | (simp only [hg, cond_true, cond_false, Bool.true_and, Bool.false_and, Bool.not_true, Bool.not_false, beq_self_eq_true]; try rfl) | rfl) ((fun _ => Below.refl _ _) _)
          · refine stepOk_want rfl rfl s82 ?_
            intro K hK
            gi_wp2
            exact hK _ _ (show _ = (.bool (covers a c && covers b c) : Value) from by first | (simp only [hg, cond_true, cond_false, Bool.true_and, Bool.false_and, Bool.not_true, Bool.not_false, beq_self_eq_true]; try rfl) | rfl) ((fun _ => Below.refl _ _) _)
        · -- 23
          intro a' w' hA hC hD
          obtain ⟨u90, s90, r90⟩ := hD ⟨22, .data⟩ (by simp) rfl _ rfl
          replace r90 : u90 = .bool (covers a c && covers b c) := r90
          subst r90
          obtain ⟨u82, s82, r82⟩ := hD ⟨14, .guard⟩ (by simp) rfl _ rfl
          replace r82 : u82 = .bool false := r82
          subst r82
          clear hA hD
          refine stepOk_want rfl rfl s82 ?_
          intro K hK
          gi_wp2
          exact hK (.bool (covers a c && covers b c)) _ rfl ((fun _ => Below.refl _ _) _)
        · -- 24
          intro a' w' hA hC hD
          have s9 : a'.tmps[9]? = some (.pointer (some ⟨w6.heap.size, 0, none⟩)) := (hA.at 9 (by kernel_rfl)).trans rfl
          obtain ⟨u91, s91, r91⟩ := hD ⟨23, .guard⟩ (by simp) rfl _ rfl
          replace r91 : u91 = .bool (covers a c && covers b c) := r91
          subst r91
          obtain ⟨c0, c1, c2, c3, c4, c5, c6, c7, c8⟩ := vec9 ((hC.block _ (block_lt HM.out)).trans HM.out)
          clear hA hD
          rcases (Bool.eq_false_or_eq_true (covers a c && covers b c)).symm with hg | hg <;> (try simp only [hg, cond_true, cond_false] at s9 s91)
          · exact stepOk_skip rfl rfl s91 (show (undef : Value) = (bif covers a c && covers b c then vecV M else undef : Value) from by simp only [hg, cond_true, cond_false])
          · refine stepOk_want rfl rfl s91 ?_
            intro K hK
            gi_wp2
            exact hK _ _ (show _ = (bif covers a c && covers b c then vecV M else undef : Value) from by first | (simp only [hg, cond_true, cond_false, Bool.true_and, Bool.false_and, Bool.not_true, Bool.not_false, beq_self_eq_true]; try rfl) | rfl) ((fun _ => Below.refl _ _) _)
        · -- 25
          intro a' w' hA hC hD
          have s5 : a'.tmps[5]? = some (.pointer (some ⟨w.heap.size + 2, 0, none⟩)) := (hA.at 5 (by kernel_rfl)).trans rfl
          obtain ⟨u91, s91, r91⟩ := hD ⟨23, .guard⟩ (by simp) rfl _ rfl
          replace r91 : u91 = .bool (covers a c && covers b c) := r91
          subst r91
          obtain ⟨c0, c1, c2, c3, c4, c5, c6, c7, c8⟩ := vec9 ((hC.block _ (block_lt Hc.out)).trans Hc.out)
          clear hA hD
          rcases (Bool.eq_false_or_eq_true (covers a c && covers b c)).symm with hg | hg <;> (try simp only [hg, cond_true, cond_false] at s5 s91)
          · exact stepOk_skip rfl rfl s91 (show (undef : Value) = (bif covers a c && covers b c then vecV c else undef : Value) from by simp only [hg, cond_true, cond_false])
          · refine stepOk_want rfl rfl s91 ?_
            intro K hK
            gi_wp2
            exact hK _ _ (show _ = (bif covers a c && covers b c then vecV c else undef : Value) from by first | (simp only [hg, cond_true, cond_false, Bool.true_and, Bool.false_and, Bool.not_true, Bool.not_false, beq_self_eq_true]; try rfl) | rfl) ((fun _ => Below.refl _ _) _)
        · -- 26
          intro a' w' hA hC hD
          obtain ⟨u92, s92, r92⟩ := hD ⟨24, .data⟩ (by simp) rfl _ rfl
          replace r92 : u92 = bif covers a c && covers b c then vecV M else undef := r92
          subst r92
          obtain ⟨u93, s93, r93⟩ := hD ⟨25, .data⟩ (by simp) rfl _ rfl
          replace r93 : u93 = bif covers a c && covers b c then vecV c else undef := r93
          subst r93
          obtain ⟨u91, s91, r91⟩ := hD ⟨23, .chain⟩ (by simp) rfl _ rfl
          replace r91 : u91 = .bool (covers a c && covers b c) := r91
          subst r91
          clear hA hD
          rcases (Bool.eq_false_or_eq_true (covers a c && covers b c)).symm with hg | hg <;> (try simp only [hg, cond_true, cond_false] at s92 s93 s91)
          · exact stepOk_skip rfl rfl s91 (show (undef : Value) = (bif covers a c && covers b c then .bool true else undef : Value) from by simp only [hg, cond_true, cond_false])
          · refine stepOk_want rfl rfl s91 ?_
            intro K hK
            gi_wp2_with fail; refine (callsIn_wide.2 (covers_any M c _)).mono ?_; rintro e w2 ⟨rfl, hb⟩
            exact hK _ _ (show _ = (bif covers a c && covers b c then .bool true else undef : Value) from by first | (simp only [hg, Hmc.out hg, cond_true, cond_false, Bool.true_and, Bool.false_and, Bool.not_true, Bool.not_false, beq_self_eq_true]; try rfl) | rfl) hb
        · -- 27
          intro a' w' hA hC hD
          obtain ⟨u94, s94, r94⟩ := hD ⟨26, .data⟩ (by simp) rfl _ rfl
          replace r94 : u94 = bif covers a c && covers b c then .bool true else undef := r94
          subst r94
          obtain ⟨u91, s91, r91⟩ := hD ⟨23, .guard⟩ (by simp) rfl _ rfl
          replace r91 : u91 = .bool (covers a c && covers b c) := r91
          subst r91
          clear hA hD
          rcases (Bool.eq_false_or_eq_true (covers a c && covers b c)).symm with hg | hg <;> (try simp only [hg, cond_true, cond_false] at s94 s91)
          · exact stepOk_skip rfl rfl s91 (show (undef : Value) = (bif covers a c && covers b c then .bool false else undef : Value) from by simp only [hg, cond_true, cond_false])
          · refine stepOk_want rfl rfl s91 ?_
            intro K hK
            gi_wp2
            exact hK _ _ (show _ = (bif covers a c && covers b c then .bool false else undef : Value) from by first | (simp only [hg, cond_true, cond_false, Bool.true_and, Bool.false_and, Bool.not_true, Bool.not_false, beq_self_eq_true]; try rfl) | rfl) ((fun _ => Below.refl _ _) _)
        · -- 28
          intro a' w' hA hC hD
          obtain ⟨u91, s91, r91⟩ := hD ⟨23, .data⟩ (by simp) rfl _ rfl
          replace r91 : u91 = .bool (covers a c && covers b c) := r91
          subst r91
          obtain ⟨u95, s95, r95⟩ := hD ⟨27, .data⟩ (by simp) rfl _ rfl
          replace r95 : u95 = bif covers a c && covers b c then .bool false else undef := r95
          subst r95
          obtain ⟨u82, s82, r82⟩ := hD ⟨14, .guard⟩ (by simp) rfl _ rfl
          replace r82 : u82 = .bool false := r82
          subst r82
          clear hA hD
          rcases (Bool.eq_false_or_eq_true (covers a c && covers b c)).symm with hg | hg <;> (try simp only [hg, cond_true, cond_false] at s91 s95 s82)
          · refine stepOk_want rfl rfl s82 ?_
            intro K hK
            gi_wp2
            exact hK _ _ (show _ = (.bool false : Value) from by first | (simp only [hg, cond_true, cond_false, Bool.true_and, Bool.false_and, Bool.not_true, Bool.not_false, beq_self_eq_true]; try rfl) | rfl) ((fun _ => Below.refl _ _) _)
          · refine stepOk_want rfl rfl s82 ?_
            intro K hK
            gi_wp2
            exact hK _ _ (show _ = (.bool false : Value) from by first | (simp only [hg, cond_true, cond_false, Bool.true_and, Bool.false_and, Bool.not_true, Bool.not_false, beq_self_eq_true]; try rfl) | rfl) ((fun _ => Below.refl _ _) _)
        · -- 29
          intro a' w' hA hC hD
          obtain ⟨u82, s82, r82⟩ := hD ⟨14, .data⟩ (by simp) rfl _ rfl
          replace r82 : u82 = .bool false := r82
          subst r82
          obtain ⟨u96, s96, r96⟩ := hD ⟨28, .data⟩ (by simp) rfl _ rfl
          replace r96 : u96 = .bool false := r96
          subst r96
          clear hA hD
          refine stepOk_plain rfl ?_
          intro K hK
          gi_wp2
          exact hK (.bool false) _ rfl ((fun _ => Below.refl _ _) _)
      case fin =>
        intro w9 hC
        simp only [EndFrom, forall_eq, Act.put, List.length_cons, List.length_nil, List.drop_succ_cons, List.drop_zero, Nat.reduceAdd, List.setIfInBounds_toArray, List.set_cons_succ, List.set_cons_zero]
        have HA := Lib.hid ((hC.block _ (block_lt HA.out)).trans HA.out)
        have Hb := Lib.hid ((hC.block _ (block_lt Hb.out)).trans Hb.out)
        have HB := Lib.hid (HB.out.trans (hC.mono HB.out.size))
        clear hC
        gi_wp2
        go_wp2_with fail
        refine (wpIn_wide (n := 0)).1 ?_
        refine wp_region_facts (by kernel_rfl) [(fun v_ _ => v_ = (vecV a : Value)), (fun v_ _ => v_ = (vecV b : Value)), (fun v_ _ => v_ = (.bool (covers a b) : Value)), (fun v_ _ => v_ = (.bool (covers a b) : Value)), (fun v_ _ => v_ = (bif covers a b then vecV b else undef : Value)), (fun v_ _ => v_ = (bif covers a b then vecV a else undef : Value)), (fun v_ _ => v_ = (bif covers a b then .bool (covers b a) else undef : Value)), (fun v_ _ => v_ = (.bool (covers a b && covers b a) : Value)), (fun v_ _ => v_ = (vecV a : Value)), (fun v_ _ => v_ = (vecV b : Value)), (fun v_ _ => v_ = (.bool (vecEq a b) : Value)), (fun v_ _ => v_ = (.bool true : Value)), (fun v_ _ => v_ = (.bool true : Value)), (fun v_ _ => v_ = (vecV a : Value)), (fun v_ _ => v_ = (vecV a : Value)), (fun v_ _ => v_ = (.bool true : Value)), (fun v_ _ => v_ = (.bool true : Value))] (fun x y => Below x.heap.size x y) (fun _ => Below.refl _ _) (fun h k => grows_trans h k) ⟨fun _ _ _ _ h => h, fun _ _ _ _ h => h, fun _ _ _ _ h => h, fun _ _ _ _ h => h, fun _ _ _ _ h => h, fun _ _ _ _ h => h, fun _ _ _ _ h => h, fun _ _ _ _ h => h, fun _ _ _ _ h => h, fun _ _ _ _ h => h, fun _ _ _ _ h => h, fun _ _ _ _ h => h, fun _ _ _ _ h => h, fun _ _ _ _ h => h, fun _ _ _ _ h => h, fun _ _ _ _ h => h, fun _ _ _ _ h => h, trivial⟩ (by kernel_rfl) (by kernel_rfl) (grows_drew _)  ?steps ?fin
        case steps =>
          refine ⟨?_, ?_, ?_, ?_, ?_, ?_, ?_, ?_, ?_, ?_, ?_, ?_, ?_, ?_, ?_, ?_, ?_, trivial⟩
          · -- 0
            intro a' w' hA hC hD
            have s3 : a'.tmps[3]? = some (.pointer (some ⟨w.heap.size, 0, none⟩)) := (hA.at 3 (by kernel_rfl)).trans rfl
            obtain ⟨c0, c1, c2, c3, c4, c5, c6, c7, c8⟩ := vec9 ((hC.block _ (block_lt HA.out)).trans HA.out)
            clear hA hD
            refine stepOk_plain rfl ?_
            intro K hK
            gi_wp2
            exact hK (vecV a) _ rfl ((fun _ => Below.refl _ _) _)
          · -- 1
            intro a' w' hA hC hD
            have s4 : a'.tmps[4]? = some (.pointer (some ⟨w.heap.size + 1, 0, none⟩)) := (hA.at 4 (by kernel_rfl)).trans rfl
            obtain ⟨c0, c1, c2, c3, c4, c5, c6, c7, c8⟩ := vec9 ((hC.block _ (block_lt Hb.out)).trans Hb.out)
            clear hA hD
            refine stepOk_plain rfl ?_
            intro K hK
            gi_wp2
            exact hK (vecV b) _ rfl ((fun _ => Below.refl _ _) _)
          · -- 2
            intro a' w' hA hC hD
            obtain ⟨u98, s98, r98⟩ := hD ⟨0, .data⟩ (by simp) rfl _ rfl
            replace r98 : u98 = vecV a := r98
            subst r98
            obtain ⟨u99, s99, r99⟩ := hD ⟨1, .data⟩ (by simp) rfl _ rfl
            replace r99 : u99 = vecV b := r99
            subst r99
            clear hA hD
            refine stepOk_plain rfl ?_
            intro K hK
            gi_wp2_with fail; refine (callsIn_wide.2 (covers_any a b _)).mono ?_; rintro e w2 ⟨rfl, hb⟩
            exact hK _ _ (show _ = (.bool (covers a b) : Value) from by first | (simp only [cond_true, cond_false, Bool.true_and, Bool.false_and, Bool.not_true, Bool.not_false, beq_self_eq_true]; try rfl) | rfl) hb
          · -- 3
            intro a' w' hA hC hD
            obtain ⟨u100, s100, r100⟩ := hD ⟨2, .data⟩ (by simp) rfl _ rfl
            replace r100 : u100 = .bool (covers a b) := r100
            subst r100
            clear hA hD
            refine stepOk_plain rfl ?_
            intro K hK
            gi_wp2
            exact hK (.bool (covers a b)) _ rfl ((fun _ => Below.refl _ _) _)
          · -- 4
            intro a' w' hA hC hD
            have s4 : a'.tmps[4]? = some (.pointer (some ⟨w.heap.size + 1, 0, none⟩)) := (hA.at 4 (by kernel_rfl)).trans rfl
            obtain ⟨u101, s101, r101⟩ := hD ⟨3, .guard⟩ (by simp) rfl _ rfl
            replace r101 : u101 = .bool (covers a b) := r101
            subst r101
            obtain ⟨c0, c1, c2, c3, c4, c5, c6, c7, c8⟩ := vec9 ((hC.block _ (block_lt Hb.out)).trans Hb.out)
            clear hA hD
            rcases (Bool.eq_false_or_eq_true (covers a b)).symm with hg | hg <;> (try simp only [hg, cond_true, cond_false] at s4 s101)
            · exact stepOk_skip rfl rfl s101 (show (undef : Value) = (bif covers a b then vecV b else undef : Value) from by simp only [hg, cond_true, cond_false])
            · refine stepOk_want rfl rfl s101 ?_
              intro K hK
              gi_wp2
              exact hK _ _ (show _ = (bif covers a b then vecV b else undef : Value) from by first | (simp only [hg, cond_true, cond_false, Bool.true_and, Bool.false_and, Bool.not_true, Bool.not_false, beq_self_eq_true]; try rfl) | rfl) ((fun _ => Below.refl _ _) _)
          · -- 5
            intro a' w' hA hC hD
            have s3 : a'.tmps[3]? = some (.pointer (some ⟨w.heap.size, 0, none⟩)) := (hA.at 3 (by kernel_rfl)).trans rfl
            obtain ⟨u101, s101, r101⟩ := hD ⟨3, .guard⟩ (by simp) rfl _ rfl
            replace r101 : u101 = .bool (covers a b) := r101
            subst r101
            obtain ⟨c0, c1, c2, c3, c4, c5, c6, c7, c8⟩ := vec9 ((hC.block _ (block_lt HA.out)).trans HA.out)
            clear hA hD
            rcases (Bool.eq_false_or_eq_true (covers a b)).symm with hg | hg <;> (try simp only [hg, cond_true, cond_false] at s3 s101)
            · exact stepOk_skip rfl rfl s101 (show (undef : Value) = (bif covers a b then vecV a else undef : Value) from by simp only [hg, cond_true, cond_false])
            · refine stepOk_want rfl rfl s101 ?_
              intro K hK
              gi_wp2
              exact hK _ _ (show _ = (bif covers a b then vecV a else undef : Value) from by first | (simp only [hg, cond_true, cond_false, Bool.true_and, Bool.false_and, Bool.not_true, Bool.not_false, beq_self_eq_true]; try rfl) | rfl) ((fun _ => Below.refl _ _) _)
          · -- 6
            intro a' w' hA hC hD
            obtain ⟨u102, s102, r102⟩ := hD ⟨4, .data⟩ (by simp) rfl _ rfl
            replace r102 : u102 = bif covers a b then vecV b else undef := r102
            subst r102
            obtain ⟨u103, s103, r103⟩ := hD ⟨5, .data⟩ (by simp) rfl _ rfl
            replace r103 : u103 = bif covers a b then vecV a else undef := r103
            subst r103
            obtain ⟨u101, s101, r101⟩ := hD ⟨3, .chain⟩ (by simp) rfl _ rfl
            replace r101 : u101 = .bool (covers a b) := r101
            subst r101
            clear hA hD
            rcases (Bool.eq_false_or_eq_true (covers a b)).symm with hg | hg <;> (try simp only [hg, cond_true, cond_false] at s102 s103 s101)
            · exact stepOk_skip rfl rfl s101 (show (undef : Value) = (bif covers a b then .bool (covers b a) else undef : Value) from by simp only [hg, cond_true, cond_false])
            · refine stepOk_want rfl rfl s101 ?_
              intro K hK
              gi_wp2_with fail; refine (callsIn_wide.2 (covers_any b a _)).mono ?_; rintro e w2 ⟨rfl, hb⟩
              exact hK _ _ (show _ = (bif covers a b then .bool (covers b a) else undef : Value) from by first | (simp only [hg, cond_true, cond_false, Bool.true_and, Bool.false_and, Bool.not_true, Bool.not_false, beq_self_eq_true]; try rfl) | rfl) hb
          · -- 7
            intro a' w' hA hC hD
            obtain ⟨u101, s101, r101⟩ := hD ⟨3, .data⟩ (by simp) rfl _ rfl
            replace r101 : u101 = .bool (covers a b) := r101
            subst r101
            obtain ⟨u104, s104, r104⟩ := hD ⟨6, .data⟩ (by simp) rfl _ rfl
            replace r104 : u104 = bif covers a b then .bool (covers b a) else undef := r104
            subst r104
            clear hA hD
            rcases (Bool.eq_false_or_eq_true (covers a b)).symm with hg | hg <;> (try simp only [hg, cond_true, cond_false] at s101 s104)
            · refine stepOk_plain rfl ?_
              intro K hK
              gi_wp2
              exact hK _ _ (show _ = (.bool (covers a b && covers b a) : Value) from by first | (simp only [hg, cond_true, cond_false, Bool.true_and, Bool.false_and, Bool.not_true, Bool.not_false, beq_self_eq_true]; try rfl) | rfl) ((fun _ => Below.refl _ _) _)
            · refine stepOk_plain rfl ?_
              intro K hK
              gi_wp2
              exact hK _ _ (show _ = (.bool (covers a b && covers b a) : Value) from by first | (simp only [hg, cond_true, cond_false, Bool.true_and, Bool.false_and, Bool.not_true, Bool.not_false, beq_self_eq_true]; try rfl) | rfl) ((fun _ => Below.refl _ _) _)
          · -- 8
            intro a' w' hA hC hD
            have s3 : a'.tmps[3]? = some (.pointer (some ⟨w.heap.size, 0, none⟩)) := (hA.at 3 (by kernel_rfl)).trans rfl
            obtain ⟨c0, c1, c2, c3, c4, c5, c6, c7, c8⟩ := vec9 ((hC.block _ (block_lt HA.out)).trans HA.out)
            clear hA hD
            refine stepOk_plain rfl ?_
            intro K hK
            gi_wp2
            exact hK (vecV a) _ rfl ((fun _ => Below.refl _ _) _)
          · -- 9
            intro a' w' hA hC hD
            have s4 : a'.tmps[4]? = some (.pointer (some ⟨w.heap.size + 1, 0, none⟩)) := (hA.at 4 (by kernel_rfl)).trans rfl
            obtain ⟨c0, c1, c2, c3, c4, c5, c6, c7, c8⟩ := vec9 ((hC.block _ (block_lt Hb.out)).trans Hb.out)
            clear hA hD
            refine stepOk_plain rfl ?_
            intro K hK
            gi_wp2
            exact hK (vecV b) _ rfl ((fun _ => Below.refl _ _) _)
          · -- 10
            intro a' w' hA hC hD
            obtain ⟨u106, s106, r106⟩ := hD ⟨8, .data⟩ (by simp) rfl _ rfl
            replace r106 : u106 = vecV a := r106
            subst r106
            obtain ⟨u107, s107, r107⟩ := hD ⟨9, .data⟩ (by simp) rfl _ rfl
            replace r107 : u107 = vecV b := r107
            subst r107
            clear hA hD
            refine stepOk_plain rfl ?_
            intro K hK
            have hq := run_vecEq a b; simp only [vecV, lit9] at s106 s107; gi_wp2
            exact hK (.bool (vecEq a b)) _ rfl ((fun _ => Below.refl _ _) _)
          · -- 11
            intro a' w' hA hC hD
            obtain ⟨u105, s105, r105⟩ := hD ⟨7, .data⟩ (by simp) rfl _ rfl
            replace r105 : u105 = .bool (covers a b && covers b a) := r105
            subst r105
            obtain ⟨u108, s108, r108⟩ := hD ⟨10, .data⟩ (by simp) rfl _ rfl
            replace r108 : u108 = .bool (vecEq a b) := r108
            subst r108
            rw [Hanti.out] at s105
            clear hA hD
            refine stepOk_plain rfl ?_
            intro K hK
            gi_wp2
            exact hK _ _ (show _ = (.bool true : Value) from by first | (simp only [Hanti.out, cond_true, cond_false, Bool.true_and, Bool.false_and, Bool.not_true, Bool.not_false, beq_self_eq_true]; try rfl) | rfl) ((fun _ => Below.refl _ _) _)
          · -- 12
            intro a' w' hA hC hD
            obtain ⟨u109, s109, r109⟩ := hD ⟨11, .data⟩ (by simp) rfl _ rfl
            replace r109 : u109 = .bool true := r109
            subst r109
            clear hA hD
            refine stepOk_plain rfl ?_
            intro K hK
            gi_wp2
            exact hK (.bool true) _ rfl ((fun _ => Below.refl _ _) _)
          · -- 13
            intro a' w' hA hC hD
            have s3 : a'.tmps[3]? = some (.pointer (some ⟨w.heap.size, 0, none⟩)) := (hA.at 3 (by kernel_rfl)).trans rfl
            obtain ⟨u110, s110, r110⟩ := hD ⟨12, .guard⟩ (by simp) rfl _ rfl
            replace r110 : u110 = .bool true := r110
            subst r110
            obtain ⟨c0, c1, c2, c3, c4, c5, c6, c7, c8⟩ := vec9 ((hC.block _ (block_lt HA.out)).trans HA.out)
            clear hA hD
            refine stepOk_want rfl rfl s110 ?_
            intro K hK
            gi_wp2
            exact hK (vecV a) _ rfl ((fun _ => Below.refl _ _) _)
          · -- 14
            intro a' w' hA hC hD
            have s3 : a'.tmps[3]? = some (.pointer (some ⟨w.heap.size, 0, none⟩)) := (hA.at 3 (by kernel_rfl)).trans rfl
            obtain ⟨u110, s110, r110⟩ := hD ⟨12, .guard⟩ (by simp) rfl _ rfl
            replace r110 : u110 = .bool true := r110
            subst r110
            obtain ⟨c0, c1, c2, c3, c4, c5, c6, c7, c8⟩ := vec9 ((hC.block _ (block_lt HA.out)).trans HA.out)
            clear hA hD
            refine stepOk_want rfl rfl s110 ?_
            intro K hK
            gi_wp2
            exact hK (vecV a) _ rfl ((fun _ => Below.refl _ _) _)
          · -- 15
            intro a' w' hA hC hD
            obtain ⟨u111, s111, r111⟩ := hD ⟨13, .data⟩ (by simp) rfl _ rfl
            replace r111 : u111 = vecV a := r111
            subst r111
            obtain ⟨u112, s112, r112⟩ := hD ⟨14, .data⟩ (by simp) rfl _ rfl
            replace r112 : u112 = vecV a := r112
            subst r112
            obtain ⟨u110, s110, r110⟩ := hD ⟨12, .chain⟩ (by simp) rfl _ rfl
            replace r110 : u110 = .bool true := r110
            subst r110
            clear hA hD
            refine stepOk_want rfl rfl s110 ?_
            intro K hK
            gi_wp2_with fail; refine (callsIn_wide.2 (covers_any a a _)).mono ?_; rintro e w2 ⟨rfl, hb⟩
            exact hK _ _ (show _ = (.bool true : Value) from by first | (simp only [Haa.out, cond_true, cond_false, Bool.true_and, Bool.false_and, Bool.not_true, Bool.not_false, beq_self_eq_true]; try rfl) | rfl) hb
          · -- 16
            intro a' w' hA hC hD
            obtain ⟨u110, s110, r110⟩ := hD ⟨12, .data⟩ (by simp) rfl _ rfl
            replace r110 : u110 = .bool true := r110
            subst r110
            obtain ⟨u113, s113, r113⟩ := hD ⟨15, .data⟩ (by simp) rfl _ rfl
            replace r113 : u113 = .bool true := r113
            subst r113
            clear hA hD
            refine stepOk_plain rfl ?_
            intro K hK
            gi_wp2
            exact hK (.bool true) _ rfl ((fun _ => Below.refl _ _) _)
        case fin =>
          intro w11 hC
          simp only [EndFrom, forall_eq, Act.put, List.length_cons, List.length_nil, List.drop_succ_cons, List.drop_zero, Nat.reduceAdd, List.setIfInBounds_toArray, List.set_cons_succ, List.set_cons_zero]
          gi_wp2
          go_wp2
          go_ret
          exact ⟨rfl, HB.out.trans (hC.mono HB.out.size)⟩
  · have hno : ¬ (vecOk a = true ∧ ∀ i, i < 1 → vecOk b = true) := fun h => hok ⟨h.1, h.2 0 (by omega)⟩
    have hz := run_vecEq (fun _ => 0) (fun _ => 0)
    rw [show vecEq (fun _ => 0) (fun _ => 0) = true from by kernel_rfl] at hz
    have Hno := Lib.hid hno
    clear hok hno
    go_enter Try.func3, Try.ntmps3
    simp only [vecV, lit9]
    go_wp2_with fail
    refine (wakes_any _).mono ?_
    rintro e w1 ⟨rfl, hb⟩
    have h0 := (((Below.refl w.heap.size w).alloc (Nat.le_refl _) (.cells (lit9 a) 24)).alloc (by simp) (.cells (lit9 b) 24)).alloc (by first | (simp; done) | (simp; omega)) (.cells (lit9 c) 24)
    have hB := h0.trans (hb.mono (by first | (simp; done) | (simp; omega)))
    have ha' := (hb.block w.heap.size (by first | (simp; done) | (simp; omega))).trans (heap_alloc_keeps (heap_alloc_keeps (World.alloc_heap_new w (.cells (lit9 a) 24)) (.cells (lit9 b) 24)) (.cells (lit9 c) 24))
    have hb' := (hb.block (w.heap.size + 1) (by first | (simp; done) | (simp; omega))).trans (heap_alloc_keeps (newBlock (w.alloc (.cells (lit9 a) 24)) (.cells (lit9 b) 24) (w.heap.size + 1) (by simp)) (.cells (lit9 c) 24))
    clear hb h0
    obtain ⟨a0, a1, a2, a3, a4, a5, a6, a7, a8⟩ := vec9 ha'
    obtain ⟨b0, b1, b2, b3, b4, b5, b6, b7, b8⟩ := vec9 hb'
    have HA := Lib.hid ha'
    have Hb := Lib.hid hb'
    have HB := Lib.hid hB
    clear ha' hb' hB
    go_wp2_with fail
    refine (join_no a _ 1 (fun _ => b) _ (by omega) (elems_vec1 (World.alloc_heap_new _ _)) Hno.out).mono ?_
    rintro e w5 ⟨rfl, hb⟩
    have hb' := ((Below.refl w1.heap.size w1).alloc (Nat.le_refl _) (.cells (lit9 b) 24)).trans (hb.mono (by simp))
    have ha' := (hb'.block _ (block_lt HA.out)).trans HA.out
    have hb2 := (hb'.block _ (block_lt Hb.out)).trans Hb.out
    have hB := HB.out.trans (hb'.mono HB.out.size)
    clear HB HA Hb hb hb' a0 a1 a2 a3 a4 a5 a6 a7 a8 b0 b1 b2 b3 b4 b5 b6 b7 b8
    have l0 : w.heap.size < w5.heap.size := block_lt ha'
    have l1 : w.heap.size + 1 < w5.heap.size := block_lt hb2
    obtain ⟨a0, a1, a2, a3, a4, a5, a6, a7, a8⟩ := vec9 ha'
    obtain ⟨b0, b1, b2, b3, b4, b5, b6, b7, b8⟩ := vec9 hb2
    have HB := Lib.hid hB
    clear ha' hb2 hB
    simp only [vecV, lit9]
    go_wp2_with fail
    refine (meet_no a _ 1 (fun _ => b) _ (by omega) (elems_vec1 (newBlock _ _ _ (by simp))) Hno.out).mono ?_
    rintro e w6 ⟨rfl, hb⟩
    have hJw := (((Below.refl w5.heap.size w5).alloc (Nat.le_refl _) (.cells (lit9 fun _ => 0) 24)).alloc (by simp) (.cells (lit9 b) 24))
    have hb' := hJw.trans (hb.mono (by simp; omega))
    have h7 := (hb.block w5.heap.size (by simp; omega)).trans (heap_alloc_keeps (World.alloc_heap_new w5 (.cells (lit9 fun _ => 0) 24)) (.cells (lit9 b) 24))
    have hB := HB.out.trans (hb'.mono HB.out.size)
    clear HB hb hb' hJw a0 a1 a2 a3 a4 a5 a6 a7 a8 b0 b1 b2 b3 b4 b5 b6 b7 b8
    obtain ⟨z0, z1, z2, z3, z4, z5, z6, z7, z8⟩ := vec9 h7
    have l5 : w5.heap.size < w6.heap.size := block_lt h7
    have hbs := hB.size
    have HB := Lib.hid hB
    clear h7 hB
    simp only [vecV, lit9]
    go_wp2
    go_ret
    exact ⟨rfl, HB.out.alloc hbs _⟩
end Go.Proofs.Ytppaheekpmgifaa
