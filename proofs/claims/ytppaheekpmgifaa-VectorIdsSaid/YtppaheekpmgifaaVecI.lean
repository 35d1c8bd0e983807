/- Package vector: Next, take. -/
import Derived.Test.YtppaheekpmgifaaVecH
namespace Go.Proofs.Ytppaheekpmgifaa
set_option linter.unusedSimpArgs false
set_option linter.unusedVariables false
open Go.RowKit Go.Shelf

/-- Is an id the next one? -/
def nextB (v : Nat → Int) (i : IdT) : Bool := bothOk v i && (i.seq == v i.site.toNat + 1)

set_option maxRecDepth 100000 in
set_option maxHeartbeats 1000000 in
theorem next_any (v : Nat → Int) (h0 : ∀ k, 0 ≤ v k) (i : IdT) (w : World) : Calls Try.prog 16 #[vecV v, i.val] w (Gives (.bool (nextB v i)) w) := by
  obtain ⟨t, s, q⟩ := i
  cases hbo : bothOk v ⟨t, s, q⟩
  · have hh : nextB v ⟨t, s, q⟩ = false := by unfold nextB; rw [hbo]; rfl
    rw [hh]
    clear hh
    unfold IdT.val
    go_enter Try.func16, Try.ntmps16
    simp only [vecV, lit9]
    go_wp2_with fail
    have Hv := Lib.hid (show ((w.alloc (.cells (lit9 v) 24)).alloc (.cells #[.int .u64 t, .int .i64 s, .int .u64 q] 38)).heap[w.heap.size]? = some (.cells (lit9 v) 24 (0, 0)) from heap_alloc_keeps (World.alloc_heap_new w _) _)
    have Hi := Lib.hid (newBlock (w.alloc (.cells (lit9 v) 24)) (.cells #[.int .u64 t, .int .i64 s, .int .u64 q] 38) (w.heap.size + 1) (by simp))
    refine (wpIn_wide (n := 0)).1 ?_
    refine wp_region_facts (by kernel_rfl) [(fun v_ _ => v_ = (vecV v : Value)), (fun v_ _ => v_ = (IdT.val ⟨t, s, q⟩ : Value)), (fun v_ _ => v_ = (.bool false : Value)), (fun v_ _ => v_ = (.bool false : Value)), (fun v_ _ => v_ = (undef : Value)), (fun v_ _ => v_ = (undef : Value)), (fun v_ _ => v_ = (undef : Value)), (fun v_ _ => v_ = (undef : Value)), (fun v_ _ => v_ = (undef : Value)), (fun v_ _ => v_ = (undef : Value)), (fun v_ _ => v_ = (undef : Value)), (fun v_ _ => v_ = (undef : Value)), (fun v_ _ => v_ = (.bool false : Value)), (fun v_ _ => v_ = (.bool false : Value))] (fun x y => Below x.heap.size x y) (fun _ => Below.refl _ _) (fun h k => grows_trans h k) ⟨fun _ _ _ _ h => h, fun _ _ _ _ h => h, fun _ _ _ _ h => h, fun _ _ _ _ h => h, fun _ _ _ _ h => h, fun _ _ _ _ h => h, fun _ _ _ _ h => h, fun _ _ _ _ h => h, fun _ _ _ _ h => h, fun _ _ _ _ h => h, fun _ _ _ _ h => h, fun _ _ _ _ h => h, fun _ _ _ _ h => h, fun _ _ _ _ h => h, trivial⟩ (by kernel_rfl) (by kernel_rfl) (grows_drew _)  ?steps ?fin
    case steps =>
      refine ⟨?_, ?_, ?_, ?_, ?_, ?_, ?_, ?_, ?_, ?_, ?_, ?_, ?_, ?_, trivial⟩
      · -- 0
        intro a' w' hA hC hD
        have s2 : a'.tmps[2]? = some (.pointer (some ⟨w.heap.size, 0, none⟩)) := (hA.at 2 (by kernel_rfl)).trans rfl
        obtain ⟨c0, c1, c2, c3, c4, c5, c6, c7, c8⟩ := vec9 ((hC.block _ (by simp; omega)).trans Hv.out)
        clear hA hD
        refine stepOk_plain rfl ?_
        intro K hK
        gi_wp2
        exact hK (vecV v) _ rfl ((fun _ => Below.refl _ _) _)
      · -- 1
        intro a' w' hA hC hD
        have s3 : a'.tmps[3]? = some (.pointer (some ⟨w.heap.size + 1, 0, none⟩)) := (hA.at 3 (by kernel_rfl)).trans rfl
        have hi := (hC.block _ (by simp)).trans Hi.out; have c0 := cell_of_block (k := 0) (v := .int .u64 t) hi rfl; have c1 := cell_of_block (k := 1) (v := .int .i64 s) hi rfl; have c2 := cell_of_block (k := 2) (v := .int .u64 q) hi rfl
        clear hA hD
        refine stepOk_plain rfl ?_
        intro K hK
        gi_wp2
        exact hK (IdT.val ⟨t, s, q⟩) _ rfl ((fun _ => Below.refl _ _) _)
      · -- 2
        intro a' w' hA hC hD
        obtain ⟨u5, s5, r5⟩ := hD ⟨0, .data⟩ (by simp) rfl _ rfl
        replace r5 : u5 = vecV v := r5
        subst r5
        obtain ⟨u6, s6, r6⟩ := hD ⟨1, .data⟩ (by simp) rfl _ rfl
        replace r6 : u6 = IdT.val ⟨t, s, q⟩ := r6
        subst r6
        clear hA hD
        refine stepOk_plain rfl ?_
        intro K hK
        gi_wp2_with fail; refine (callsIn_wide.2 (both_any v ⟨t, s, q⟩ _)).mono ?_; rintro e w2 ⟨rfl, hb⟩; rw [hbo]; exact hK _ _ rfl hb
      · -- 3
        intro a' w' hA hC hD
        obtain ⟨u7, s7, r7⟩ := hD ⟨2, .data⟩ (by simp) rfl _ rfl
        replace r7 : u7 = .bool false := r7
        subst r7
        clear hA hD
        refine stepOk_plain rfl ?_
        intro K hK
        gi_wp2
        exact hK (.bool false) _ rfl ((fun _ => Below.refl _ _) _)
      · -- 4
        intro a' w' hA hC hD
        have s3 : a'.tmps[3]? = some (.pointer (some ⟨w.heap.size + 1, 0, none⟩)) := (hA.at 3 (by kernel_rfl)).trans rfl
        obtain ⟨u8, s8, r8⟩ := hD ⟨3, .guard⟩ (by simp) rfl _ rfl
        replace r8 : u8 = .bool false := r8
        subst r8
        clear hA hD
        exact stepOk_skip rfl rfl s8 rfl
      · -- 5
        intro a' w' hA hC hD
        obtain ⟨u9, s9, r9⟩ := hD ⟨4, .data⟩ (by simp) rfl _ rfl
        replace r9 : u9 = undef := r9
        subst r9
        obtain ⟨u8, s8, r8⟩ := hD ⟨3, .guard⟩ (by simp) rfl _ rfl
        replace r8 : u8 = .bool false := r8
        subst r8
        clear hA hD
        exact stepOk_skip rfl rfl s8 rfl
      · -- 6
        intro a' w' hA hC hD
        have s3 : a'.tmps[3]? = some (.pointer (some ⟨w.heap.size + 1, 0, none⟩)) := (hA.at 3 (by kernel_rfl)).trans rfl
        obtain ⟨u8, s8, r8⟩ := hD ⟨3, .guard⟩ (by simp) rfl _ rfl
        replace r8 : u8 = .bool false := r8
        subst r8
        clear hA hD
        exact stepOk_skip rfl rfl s8 rfl
      · -- 7
        intro a' w' hA hC hD
        obtain ⟨u11, s11, r11⟩ := hD ⟨6, .data⟩ (by simp) rfl _ rfl
        replace r11 : u11 = undef := r11
        subst r11
        obtain ⟨u8, s8, r8⟩ := hD ⟨3, .guard⟩ (by simp) rfl _ rfl
        replace r8 : u8 = .bool false := r8
        subst r8
        clear hA hD
        exact stepOk_skip rfl rfl s8 rfl
      · -- 8
        intro a' w' hA hC hD
        have s2 : a'.tmps[2]? = some (.pointer (some ⟨w.heap.size, 0, none⟩)) := (hA.at 2 (by kernel_rfl)).trans rfl
        obtain ⟨u12, s12, r12⟩ := hD ⟨7, .data⟩ (by simp) rfl _ rfl
        replace r12 : u12 = undef := r12
        subst r12
        obtain ⟨u8, s8, r8⟩ := hD ⟨3, .guard⟩ (by simp) rfl _ rfl
        replace r8 : u8 = .bool false := r8
        subst r8
        clear hA hD
        exact stepOk_skip rfl rfl s8 rfl
      · -- 9
        intro a' w' hA hC hD
        obtain ⟨u13, s13, r13⟩ := hD ⟨8, .data⟩ (by simp) rfl _ rfl
        replace r13 : u13 = undef := r13
        subst r13
        obtain ⟨u8, s8, r8⟩ := hD ⟨3, .guard⟩ (by simp) rfl _ rfl
        replace r8 : u8 = .bool false := r8
        subst r8
        clear hA hD
        exact stepOk_skip rfl rfl s8 rfl
      · -- 10
        intro a' w' hA hC hD
        obtain ⟨u14, s14, r14⟩ := hD ⟨9, .data⟩ (by simp) rfl _ rfl
        replace r14 : u14 = undef := r14
        subst r14
        obtain ⟨u8, s8, r8⟩ := hD ⟨3, .guard⟩ (by simp) rfl _ rfl
        replace r8 : u8 = .bool false := r8
        subst r8
        clear hA hD
        exact stepOk_skip rfl rfl s8 rfl
      · -- 11
        intro a' w' hA hC hD
        obtain ⟨u10, s10, r10⟩ := hD ⟨5, .data⟩ (by simp) rfl _ rfl
        replace r10 : u10 = undef := r10
        subst r10
        obtain ⟨u15, s15, r15⟩ := hD ⟨10, .data⟩ (by simp) rfl _ rfl
        replace r15 : u15 = undef := r15
        subst r15
        obtain ⟨u8, s8, r8⟩ := hD ⟨3, .guard⟩ (by simp) rfl _ rfl
        replace r8 : u8 = .bool false := r8
        subst r8
        clear hA hD
        exact stepOk_skip rfl rfl s8 rfl
      · -- 12
        intro a' w' hA hC hD
        obtain ⟨u8, s8, r8⟩ := hD ⟨3, .data⟩ (by simp) rfl _ rfl
        replace r8 : u8 = .bool false := r8
        subst r8
        obtain ⟨u16, s16, r16⟩ := hD ⟨11, .data⟩ (by simp) rfl _ rfl
        replace r16 : u16 = undef := r16
        subst r16
        clear hA hD
        refine stepOk_plain rfl ?_
        intro K hK
        gi_wp2
        exact hK (.bool false) _ rfl ((fun _ => Below.refl _ _) _)
      · -- 13
        intro a' w' hA hC hD
        obtain ⟨u17, s17, r17⟩ := hD ⟨12, .data⟩ (by simp) rfl _ rfl
        replace r17 : u17 = .bool false := r17
        subst r17
        clear hA hD
        refine stepOk_plain rfl ?_
        intro K hK
        gi_wp2
        exact hK (.bool false) _ rfl ((fun _ => Below.refl _ _) _)
    case fin =>
      intro w3 hC
      simp only [EndFrom, forall_eq, Act.put, List.length_cons, List.length_nil, List.drop_succ_cons, List.drop_zero, Nat.reduceAdd, List.setIfInBounds_toArray, List.set_cons_succ, List.set_cons_zero]
      gi_wp2
      go_wp2
      go_ret
      exact ⟨rfl, (((Below.refl w.heap.size w).alloc (Nat.le_refl _) _).alloc (by simp) _).trans (hC.mono (by simp; omega))⟩
  · have hnn : nextB v ⟨t, s, q⟩ = (q == v s.toNat + 1) := by unfold nextB; rw [hbo]; rfl
    rw [hnn]
    clear hnn
    have hb2 : idOk ⟨t, s, q⟩ = true := by unfold bothOk at hbo; rw [Bool.and_eq_true] at hbo; exact hbo.2
    obtain ⟨_, ⟨hs1, hs2⟩, _⟩ := (idOk_iff _).1 hb2
    dsimp only at hs1 hs2
    have hvk : v s.toNat ≤ 4611686018427387904 := by
      unfold bothOk vecOk at hbo
      simp only [Bool.and_eq_true] at hbo
      exact (sitesOk_iff v).1 hbo.1.2 s.toNat (by omega) (by omega)
    clear hb2
    obtain ⟨k, rfl⟩ := Int.eq_ofNat_of_zero_le (show 0 ≤ s by omega)
    have hk : k < 9 := by omega
    clear hs1 hs2
    rw [Int.toNat_natCast] at hvk ⊢
    have Hvk := Lib.hid hvk
    have H0 := Lib.hid h0
    clear hvk h0
    unfold IdT.val
    go_enter Try.func16, Try.ntmps16
    simp only [vecV, lit9]
    go_wp2_with fail
    have Hv := Lib.hid (show ((w.alloc (.cells (lit9 v) 24)).alloc (.cells #[.int .u64 t, .int .i64 k, .int .u64 q] 38)).heap[w.heap.size]? = some (.cells (lit9 v) 24 (0, 0)) from heap_alloc_keeps (World.alloc_heap_new w _) _)
    have Hi := Lib.hid (newBlock (w.alloc (.cells (lit9 v) 24)) (.cells #[.int .u64 t, .int .i64 k, .int .u64 q] 38) (w.heap.size + 1) (by simp))
    refine (wpIn_wide (n := 0)).1 ?_
    refine wp_region_facts (by kernel_rfl) [(fun v_ _ => v_ = (vecV v : Value)), (fun v_ _ => v_ = (IdT.val ⟨t, k, q⟩ : Value)), (fun v_ _ => v_ = (.bool true : Value)), (fun v_ _ => v_ = (.bool true : Value)), (fun v_ _ => v_ = (.pointer (some ⟨w.heap.size + 1, 2, none⟩) : Value)), (fun v_ _ => v_ = (.int .u64 q : Value)), (fun v_ _ => v_ = (.pointer (some ⟨w.heap.size + 1, 1, none⟩) : Value)), (fun v_ _ => v_ = (.int .i64 k : Value)), (fun v_ _ => v_ = (.pointer (some ⟨w.heap.size, k, none⟩) : Value)), (fun v_ _ => v_ = (.int .u64 (v k) : Value)), (fun v_ _ => v_ = (.int .u64 (v k + 1) : Value)), (fun v_ _ => v_ = (.bool (q == v k + 1) : Value)), (fun v_ _ => v_ = (.bool (q == v k + 1) : Value)), (fun v_ _ => v_ = (.bool (q == v k + 1) : Value))] (fun x y => Below x.heap.size x y) (fun _ => Below.refl _ _) (fun h k => grows_trans h k) ⟨fun _ _ _ _ h => h, fun _ _ _ _ h => h, fun _ _ _ _ h => h, fun _ _ _ _ h => h, fun _ _ _ _ h => h, fun _ _ _ _ h => h, fun _ _ _ _ h => h, fun _ _ _ _ h => h, fun _ _ _ _ h => h, fun _ _ _ _ h => h, fun _ _ _ _ h => h, fun _ _ _ _ h => h, fun _ _ _ _ h => h, fun _ _ _ _ h => h, trivial⟩ (by kernel_rfl) (by kernel_rfl) (grows_drew _)  ?steps ?fin
    case steps =>
      refine ⟨?_, ?_, ?_, ?_, ?_, ?_, ?_, ?_, ?_, ?_, ?_, ?_, ?_, ?_, trivial⟩
      · -- 0
        intro a' w' hA hC hD
        have s2 : a'.tmps[2]? = some (.pointer (some ⟨w.heap.size, 0, none⟩)) := (hA.at 2 (by kernel_rfl)).trans rfl
        obtain ⟨c0, c1, c2, c3, c4, c5, c6, c7, c8⟩ := vec9 ((hC.block _ (by simp; omega)).trans Hv.out)
        clear hA hD
        refine stepOk_plain rfl ?_
        intro K hK
        gi_wp2
        exact hK (vecV v) _ rfl ((fun _ => Below.refl _ _) _)
      · -- 1
        intro a' w' hA hC hD
        have s3 : a'.tmps[3]? = some (.pointer (some ⟨w.heap.size + 1, 0, none⟩)) := (hA.at 3 (by kernel_rfl)).trans rfl
        have hi := (hC.block _ (by simp)).trans Hi.out; have c0 := cell_of_block (k := 0) (v := .int .u64 t) hi rfl; have c1 := cell_of_block (k := 1) (v := .int .i64 k) hi rfl; have c2 := cell_of_block (k := 2) (v := .int .u64 q) hi rfl
        clear hA hD
        refine stepOk_plain rfl ?_
        intro K hK
        gi_wp2
        exact hK (IdT.val ⟨t, k, q⟩) _ rfl ((fun _ => Below.refl _ _) _)
      · -- 2
        intro a' w' hA hC hD
        obtain ⟨u5, s5, r5⟩ := hD ⟨0, .data⟩ (by simp) rfl _ rfl
        replace r5 : u5 = vecV v := r5
        subst r5
        obtain ⟨u6, s6, r6⟩ := hD ⟨1, .data⟩ (by simp) rfl _ rfl
        replace r6 : u6 = IdT.val ⟨t, k, q⟩ := r6
        subst r6
        clear hA hD
        refine stepOk_plain rfl ?_
        intro K hK
        gi_wp2_with fail; refine (callsIn_wide.2 (both_any v ⟨t, k, q⟩ _)).mono ?_; rintro e w2 ⟨rfl, hb⟩; rw [hbo]; exact hK _ _ rfl hb
      · -- 3
        intro a' w' hA hC hD
        obtain ⟨u7, s7, r7⟩ := hD ⟨2, .data⟩ (by simp) rfl _ rfl
        replace r7 : u7 = .bool true := r7
        subst r7
        clear hA hD
        refine stepOk_plain rfl ?_
        intro K hK
        gi_wp2
        exact hK (.bool true) _ rfl ((fun _ => Below.refl _ _) _)
      · -- 4
        intro a' w' hA hC hD
        have s3 : a'.tmps[3]? = some (.pointer (some ⟨w.heap.size + 1, 0, none⟩)) := (hA.at 3 (by kernel_rfl)).trans rfl
        obtain ⟨u8, s8, r8⟩ := hD ⟨3, .guard⟩ (by simp) rfl _ rfl
        replace r8 : u8 = .bool true := r8
        subst r8
        clear hA hD
        refine stepOk_want rfl rfl s8 ?_
        intro K hK
        gi_wp2
        exact hK (.pointer (some ⟨w.heap.size + 1, 2, none⟩)) _ rfl ((fun _ => Below.refl _ _) _)
      · -- 5
        intro a' w' hA hC hD
        obtain ⟨u9, s9, r9⟩ := hD ⟨4, .data⟩ (by simp) rfl _ rfl
        replace r9 : u9 = .pointer (some ⟨w.heap.size + 1, 2, none⟩) := r9
        subst r9
        obtain ⟨u8, s8, r8⟩ := hD ⟨3, .guard⟩ (by simp) rfl _ rfl
        replace r8 : u8 = .bool true := r8
        subst r8
        have hi := (hC.block _ (by simp)).trans Hi.out; have c2 := cell_of_block (k := 2) (v := .int .u64 q) hi rfl
        clear hA hD
        refine stepOk_want rfl rfl s8 ?_
        intro K hK
        gi_wp2
        exact hK (.int .u64 q) _ rfl ((fun _ => Below.refl _ _) _)
      · -- 6
        intro a' w' hA hC hD
        have s3 : a'.tmps[3]? = some (.pointer (some ⟨w.heap.size + 1, 0, none⟩)) := (hA.at 3 (by kernel_rfl)).trans rfl
        obtain ⟨u8, s8, r8⟩ := hD ⟨3, .guard⟩ (by simp) rfl _ rfl
        replace r8 : u8 = .bool true := r8
        subst r8
        clear hA hD
        refine stepOk_want rfl rfl s8 ?_
        intro K hK
        gi_wp2
        exact hK (.pointer (some ⟨w.heap.size + 1, 1, none⟩)) _ rfl ((fun _ => Below.refl _ _) _)
      · -- 7
        intro a' w' hA hC hD
        obtain ⟨u11, s11, r11⟩ := hD ⟨6, .data⟩ (by simp) rfl _ rfl
        replace r11 : u11 = .pointer (some ⟨w.heap.size + 1, 1, none⟩) := r11
        subst r11
        obtain ⟨u8, s8, r8⟩ := hD ⟨3, .guard⟩ (by simp) rfl _ rfl
        replace r8 : u8 = .bool true := r8
        subst r8
        have hi := (hC.block _ (by simp)).trans Hi.out; have c1 := cell_of_block (k := 1) (v := .int .i64 k) hi rfl
        clear hA hD
        refine stepOk_want rfl rfl s8 ?_
        intro K hK
        gi_wp2
        exact hK (.int .i64 k) _ rfl ((fun _ => Below.refl _ _) _)
      · -- 8
        intro a' w' hA hC hD
        have s2 : a'.tmps[2]? = some (.pointer (some ⟨w.heap.size, 0, none⟩)) := (hA.at 2 (by kernel_rfl)).trans rfl
        obtain ⟨u12, s12, r12⟩ := hD ⟨7, .data⟩ (by simp) rfl _ rfl
        replace r12 : u12 = .int .i64 k := r12
        subst r12
        obtain ⟨u8, s8, r8⟩ := hD ⟨3, .guard⟩ (by simp) rfl _ rfl
        replace r8 : u8 = .bool true := r8
        subst r8
        clear hA hD
        refine stepOk_want rfl rfl s8 ?_
        intro K hK
        gi_wp2
        exact hK (.pointer (some ⟨w.heap.size, k, none⟩)) _ rfl ((fun _ => Below.refl _ _) _)
      · -- 9
        intro a' w' hA hC hD
        obtain ⟨u13, s13, r13⟩ := hD ⟨8, .data⟩ (by simp) rfl _ rfl
        replace r13 : u13 = .pointer (some ⟨w.heap.size, k, none⟩) := r13
        subst r13
        obtain ⟨u8, s8, r8⟩ := hD ⟨3, .guard⟩ (by simp) rfl _ rfl
        replace r8 : u8 = .bool true := r8
        subst r8
        have c9 := cell_of_block ((hC.block _ (by simp; omega)).trans Hv.out) (lit9_get v k hk)
        clear hA hD
        refine stepOk_want rfl rfl s8 ?_
        intro K hK
        gi_wp2
        exact hK (.int .u64 (v k)) _ rfl ((fun _ => Below.refl _ _) _)
      · -- 10
        intro a' w' hA hC hD
        obtain ⟨u14, s14, r14⟩ := hD ⟨9, .data⟩ (by simp) rfl _ rfl
        replace r14 : u14 = .int .u64 (v k) := r14
        subst r14
        obtain ⟨u8, s8, r8⟩ := hD ⟨3, .guard⟩ (by simp) rfl _ rfl
        replace r8 : u8 = .bool true := r8
        subst r8
        have b1 := H0.out k; have b2 := Hvk.out
        clear hA hD
        refine stepOk_want rfl rfl s8 ?_
        intro K hK
        gi_wp2
        exact hK (.int .u64 (v k + 1)) _ rfl ((fun _ => Below.refl _ _) _)
      · -- 11
        intro a' w' hA hC hD
        obtain ⟨u10, s10, r10⟩ := hD ⟨5, .data⟩ (by simp) rfl _ rfl
        replace r10 : u10 = .int .u64 q := r10
        subst r10
        obtain ⟨u15, s15, r15⟩ := hD ⟨10, .data⟩ (by simp) rfl _ rfl
        replace r15 : u15 = .int .u64 (v k + 1) := r15
        subst r15
        obtain ⟨u8, s8, r8⟩ := hD ⟨3, .guard⟩ (by simp) rfl _ rfl
        replace r8 : u8 = .bool true := r8
        subst r8
        clear hA hD
        refine stepOk_want rfl rfl s8 ?_
        intro K hK
        gi_wp2
        exact hK (.bool (q == v k + 1)) _ rfl ((fun _ => Below.refl _ _) _)
      · -- 12
        intro a' w' hA hC hD
        obtain ⟨u8, s8, r8⟩ := hD ⟨3, .data⟩ (by simp) rfl _ rfl
        replace r8 : u8 = .bool true := r8
        subst r8
        obtain ⟨u16, s16, r16⟩ := hD ⟨11, .data⟩ (by simp) rfl _ rfl
        replace r16 : u16 = .bool (q == v k + 1) := r16
        subst r16
        clear hA hD
        refine stepOk_plain rfl ?_
        intro K hK
        gi_wp2
        exact hK (.bool (q == v k + 1)) _ rfl ((fun _ => Below.refl _ _) _)
      · -- 13
        intro a' w' hA hC hD
        obtain ⟨u17, s17, r17⟩ := hD ⟨12, .data⟩ (by simp) rfl _ rfl
        replace r17 : u17 = .bool (q == v k + 1) := r17
        subst r17
        clear hA hD
        refine stepOk_plain rfl ?_
        intro K hK
        gi_wp2
        exact hK (.bool (q == v k + 1)) _ rfl ((fun _ => Below.refl _ _) _)
    case fin =>
      intro w3 hC
      simp only [EndFrom, forall_eq, Act.put, List.length_cons, List.length_nil, List.drop_succ_cons, List.drop_zero, Nat.reduceAdd, List.setIfInBounds_toArray, List.set_cons_succ, List.set_cons_zero]
      gi_wp2
      go_wp2
      go_ret
      exact ⟨rfl, (((Below.refl w.heap.size w).alloc (Nat.le_refl _) _).alloc (by simp) _).trans (hC.mono (by simp; omega))⟩
end Go.Proofs.Ytppaheekpmgifaa
