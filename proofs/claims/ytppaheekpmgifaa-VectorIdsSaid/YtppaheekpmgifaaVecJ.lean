/- Package vector: take. -/
import Derived.Test.YtppaheekpmgifaaVecI
namespace Go.Proofs.Ytppaheekpmgifaa
set_option linter.unusedSimpArgs false
set_option linter.unusedVariables false
open Go.RowKit Go.Shelf

/-- What taking an id comes to: a vector, or an error. -/
def takeB (v : Nat → Int) (i : IdT) : Except Int (Nat → Int) :=
  if idOk i = false then .error 210 else if hasB v i = true then .error 5 else if nextB v i = false then .error 231 else .ok (upd v i.site.toNat (v i.site.toNat + 1))

/-- How a call that takes an id ends. -/
def Takes (Bh : Nat) (v : Nat → Int) (i : IdT) (w : World) (e : Ending) (w' : World) : Prop :=
  match takeB v i with
  | .error x => Raises x w e w'
  | .ok u => e = .returned (.tuple #[]) ∧ w'.heap[Bh]? = some (.cells (lit9 u) 67 (0, 0)) ∧ Below Bh w w' ∧ (∀ k, k < w.heap.size → k ≠ Bh → w'.heap[k]? = w.heap[k]?)

set_option maxRecDepth 100000 in
set_option maxHeartbeats 2000000 in
theorem take_any (Bh : Nat) (v : Nat → Int) (h0 : ∀ k, 0 ≤ v k) (i : IdT) (w : World) (hB : w.heap[Bh]? = some (.cells (lit9 v) 67 (0, 0))) :
    Calls Try.prog 44 #[.pointer (some ⟨Bh, 0, none⟩), i.val] w (Takes Bh v i w) := by
  obtain ⟨t, s, q⟩ := i
  have H0 := Lib.hid h0
  have lB := block_lt hB
  have HB := Lib.hid hB
  clear h0 hB
  cases hi : idOk ⟨t, s, q⟩
  · have ht : takeB v ⟨t, s, q⟩ = .error 210 := by unfold takeB; rw [if_pos hi]
    unfold IdT.val
    go_enter Try.func44, Try.ntmps44
    go_wp2_with fail
    refine (idCheck_any ⟨t, s, q⟩ _).mono ?_
    rintro e w1 ⟨rfl, hb⟩
    simp only [hi, errOf]
    go_wp2_with (go_at_call 43; refine (need_no _ _).mono ?_; rintro e w' ⟨rfl, rfl⟩)
    refine ⟨rfl, ?_⟩
    unfold Takes
    rw [ht]
    exact ⟨rfl, ((Below.refl w.heap.size w).alloc (Nat.le_refl _) _).trans (hb.mono (by simp))⟩
  · cases hh : hasB v ⟨t, s, q⟩
    · cases hn : nextB v ⟨t, s, q⟩
      · have ht : takeB v ⟨t, s, q⟩ = .error 231 := by unfold takeB; rw [if_neg (by rw [hi]; simp), if_neg (by rw [hh]; simp), if_pos hn]
        unfold IdT.val
        go_enter Try.func44, Try.ntmps44
        go_wp2_with fail
        refine (idCheck_any ⟨t, s, q⟩ _).mono ?_
        rintro e w1 ⟨rfl, hb⟩
        simp only [hi, errOf]
        have hBx := Lib.hid (((Below.refl w.heap.size w).alloc (Nat.le_refl _) (.cells #[.int .u64 t, .int .i64 s, .int .u64 q] 38)).trans (hb.mono (by simp)))
        have Hv := Lib.hid ((hb.block _ (by simp; omega)).trans (heap_alloc_keeps HB.out _))
        have Hi := Lib.hid ((hb.block _ (by simp)).trans (World.alloc_heap_new w (.cells #[.int .u64 t, .int .i64 s, .int .u64 q] 38)))
        clear hb
        go_wp2_with (go_at_call 43; refine (need_ok _ _).mono ?_; rintro e w' ⟨rfl, rfl⟩)
        refine (wpIn_wide (n := 0)).1 ?_
        refine wp_region_facts (by kernel_rfl) [(fun v_ _ => v_ = (.pointer (some ⟨Bh, 0, none⟩) : Value)), (fun v_ _ => v_ = (.pointer (some ⟨Bh, 0, none⟩) : Value)), (fun v_ _ => v_ = (.pointer (some ⟨Bh, 0, none⟩) : Value)), (fun v_ _ => v_ = (vecV v : Value)), (fun v_ _ => v_ = (IdT.val ⟨t, s, q⟩ : Value)), (fun v_ _ => v_ = (.bool false : Value)), (fun v_ _ => v_ = (.bool true : Value)), (fun v_ _ => v_ = (.tuple #[] : Value))] (fun x y => Below x.heap.size x y) (fun _ => Below.refl _ _) (fun h k => grows_trans h k) ⟨fun _ _ _ _ h => h, fun _ _ _ _ h => h, fun _ _ _ _ h => h, fun _ _ _ _ h => h, fun _ _ _ _ h => h, fun _ _ _ _ h => h, fun _ _ _ _ h => h, fun _ _ _ _ h => h, trivial⟩ (by kernel_rfl) (by kernel_rfl) (grows_drew _)  ?steps ?fin
        case steps =>
          refine ⟨?_, ?_, ?_, ?_, ?_, ?_, ?_, ?_, trivial⟩
          · -- 0
            intro a' w' hA hC hD
            have s0 : a'.tmps[0]? = some (.pointer (some ⟨Bh, 0, none⟩)) := (hA.at 0 (by kernel_rfl)).trans rfl
            clear hA hD
            refine stepOk_plain rfl ?_
            intro K hK
            gi_wp2
            exact hK (.pointer (some ⟨Bh, 0, none⟩)) _ rfl ((fun _ => Below.refl _ _) _)
          · -- 1
            intro a' w' hA hC hD
            obtain ⟨u8, s8, r8⟩ := hD ⟨0, .data⟩ (by simp) rfl _ rfl
            replace r8 : u8 = .pointer (some ⟨Bh, 0, none⟩) := r8
            subst r8
            clear hA hD
            refine stepOk_plain rfl ?_
            intro K hK
            gi_wp2
            exact hK (.pointer (some ⟨Bh, 0, none⟩)) _ rfl ((fun _ => Below.refl _ _) _)
          · -- 2
            intro a' w' hA hC hD
            obtain ⟨u9, s9, r9⟩ := hD ⟨1, .data⟩ (by simp) rfl _ rfl
            replace r9 : u9 = .pointer (some ⟨Bh, 0, none⟩) := r9
            subst r9
            clear hA hD
            refine stepOk_plain rfl ?_
            intro K hK
            gi_wp2
            exact hK (.pointer (some ⟨Bh, 0, none⟩)) _ rfl ((fun _ => Below.refl _ _) _)
          · -- 3
            intro a' w' hA hC hD
            obtain ⟨u10, s10, r10⟩ := hD ⟨2, .data⟩ (by simp) rfl _ rfl
            replace r10 : u10 = .pointer (some ⟨Bh, 0, none⟩) := r10
            subst r10
            obtain ⟨c0, c1, c2, c3, c4, c5, c6, c7, c8⟩ := vec9 ((hC.block _ (block_lt Hv.out)).trans Hv.out)
            clear hA hD
            refine stepOk_plain rfl ?_
            intro K hK
            gi_wp2
            exact hK (vecV v) _ rfl ((fun _ => Below.refl _ _) _)
          · -- 4
            intro a' w' hA hC hD
            have s3 : a'.tmps[3]? = some (.pointer (some ⟨w.heap.size, 0, none⟩)) := (hA.at 3 (by kernel_rfl)).trans rfl
            have hi := (hC.block _ (block_lt Hi.out)).trans Hi.out; have c0 := cell_of_block (k := 0) (v := .int .u64 t) hi rfl; have c1 := cell_of_block (k := 1) (v := .int .i64 s) hi rfl; have c2 := cell_of_block (k := 2) (v := .int .u64 q) hi rfl
            clear hA hD
            refine stepOk_plain rfl ?_
            intro K hK
            gi_wp2
            exact hK (IdT.val ⟨t, s, q⟩) _ rfl ((fun _ => Below.refl _ _) _)
          · -- 5
            intro a' w' hA hC hD
            obtain ⟨u11, s11, r11⟩ := hD ⟨3, .data⟩ (by simp) rfl _ rfl
            replace r11 : u11 = vecV v := r11
            subst r11
            obtain ⟨u12, s12, r12⟩ := hD ⟨4, .data⟩ (by simp) rfl _ rfl
            replace r12 : u12 = IdT.val ⟨t, s, q⟩ := r12
            subst r12
            clear hA hD
            refine stepOk_plain rfl ?_
            intro K hK
            gi_wp2_with fail; refine (callsIn_wide.2 (has_any v ⟨t, s, q⟩ _)).mono ?_; rintro e w2 ⟨rfl, hb⟩; rw [hh]; exact hK _ _ rfl hb
          · -- 6
            intro a' w' hA hC hD
            obtain ⟨u13, s13, r13⟩ := hD ⟨5, .data⟩ (by simp) rfl _ rfl
            replace r13 : u13 = .bool false := r13
            subst r13
            clear hA hD
            refine stepOk_plain rfl ?_
            intro K hK
            gi_wp2
            exact hK (.bool true) _ rfl ((fun _ => Below.refl _ _) _)
          · -- 7
            intro a' w' hA hC hD
            obtain ⟨u14, s14, r14⟩ := hD ⟨6, .data⟩ (by simp) rfl _ rfl
            replace r14 : u14 = .bool true := r14
            subst r14
            clear hA hD
            refine stepOk_plain rfl ?_
            intro K hK
            gi_wp2_with fail; refine (callsIn_wide.2 (need_ok _ _)).mono ?_; rintro e w2 ⟨rfl, rfl⟩
            exact hK (.tuple #[]) _ rfl ((fun _ => Below.refl _ _) _)
        case fin =>
          intro w3 hC
          simp only [EndFrom, forall_eq, Act.put, List.length_cons, List.length_nil, List.drop_succ_cons, List.drop_zero, Nat.reduceAdd, List.setIfInBounds_toArray, List.set_cons_succ, List.set_cons_zero]
          gi_wp2
          have hBy := Lib.hid (hBx.out.trans (hC.mono hBx.out.size))
          have Hv3 := Lib.hid ((hC.block _ (block_lt Hv.out)).trans Hv.out)
          have Hi3 := Lib.hid ((hC.block _ (block_lt Hi.out)).trans Hi.out)
          clear hC hBx Hv Hi
          go_wp2
          refine (wpIn_wide (n := 0)).1 ?_
          refine wp_region_facts (by kernel_rfl) [(fun v_ _ => v_ = (.pointer (some ⟨Bh, 0, none⟩) : Value)), (fun v_ _ => v_ = (.pointer (some ⟨Bh, 0, none⟩) : Value)), (fun v_ _ => v_ = (.pointer (some ⟨Bh, 0, none⟩) : Value)), (fun v_ _ => v_ = (vecV v : Value)), (fun v_ _ => v_ = (IdT.val ⟨t, s, q⟩ : Value)), (fun v_ _ => v_ = (.bool false : Value)), (fun _ _ => False)] (fun x y => Below x.heap.size x y) (fun _ => Below.refl _ _) (fun h k => grows_trans h k) ⟨fun _ _ _ _ h => h, fun _ _ _ _ h => h, fun _ _ _ _ h => h, fun _ _ _ _ h => h, fun _ _ _ _ h => h, fun _ _ _ _ h => h, fun _ _ _ _ h => h, trivial⟩ (by kernel_rfl) (by kernel_rfl) (grows_drew _)  ?steps ?fin
          case steps =>
            refine ⟨?_, ?_, ?_, ?_, ?_, ?_, ?_, trivial⟩
            · -- 0
              intro a' w' hA hC hD
              have s0 : a'.tmps[0]? = some (.pointer (some ⟨Bh, 0, none⟩)) := (hA.at 0 (by kernel_rfl)).trans rfl
              clear hA hD
              refine stepOk_plain rfl ?_
              intro K hK
              gi_wp2
              exact hK (.pointer (some ⟨Bh, 0, none⟩)) _ rfl ((fun _ => Below.refl _ _) _)
            · -- 1
              intro a' w' hA hC hD
              obtain ⟨u16, s16, r16⟩ := hD ⟨0, .data⟩ (by simp) rfl _ rfl
              replace r16 : u16 = .pointer (some ⟨Bh, 0, none⟩) := r16
              subst r16
              clear hA hD
              refine stepOk_plain rfl ?_
              intro K hK
              gi_wp2
              exact hK (.pointer (some ⟨Bh, 0, none⟩)) _ rfl ((fun _ => Below.refl _ _) _)
            · -- 2
              intro a' w' hA hC hD
              obtain ⟨u17, s17, r17⟩ := hD ⟨1, .data⟩ (by simp) rfl _ rfl
              replace r17 : u17 = .pointer (some ⟨Bh, 0, none⟩) := r17
              subst r17
              clear hA hD
              refine stepOk_plain rfl ?_
              intro K hK
              gi_wp2
              exact hK (.pointer (some ⟨Bh, 0, none⟩)) _ rfl ((fun _ => Below.refl _ _) _)
            · -- 3
              intro a' w' hA hC hD
              obtain ⟨u18, s18, r18⟩ := hD ⟨2, .data⟩ (by simp) rfl _ rfl
              replace r18 : u18 = .pointer (some ⟨Bh, 0, none⟩) := r18
              subst r18
              obtain ⟨c0, c1, c2, c3, c4, c5, c6, c7, c8⟩ := vec9 ((hC.block _ (block_lt Hv3.out)).trans Hv3.out)
              clear hA hD
              refine stepOk_plain rfl ?_
              intro K hK
              gi_wp2
              exact hK (vecV v) _ rfl ((fun _ => Below.refl _ _) _)
            · -- 4
              intro a' w' hA hC hD
              have s3 : a'.tmps[3]? = some (.pointer (some ⟨w.heap.size, 0, none⟩)) := (hA.at 3 (by kernel_rfl)).trans rfl
              have hi := (hC.block _ (block_lt Hi3.out)).trans Hi3.out; have c0 := cell_of_block (k := 0) (v := .int .u64 t) hi rfl; have c1 := cell_of_block (k := 1) (v := .int .i64 s) hi rfl; have c2 := cell_of_block (k := 2) (v := .int .u64 q) hi rfl
              clear hA hD
              refine stepOk_plain rfl ?_
              intro K hK
              gi_wp2
              exact hK (IdT.val ⟨t, s, q⟩) _ rfl ((fun _ => Below.refl _ _) _)
            · -- 5
              intro a' w' hA hC hD
              obtain ⟨u19, s19, r19⟩ := hD ⟨3, .data⟩ (by simp) rfl _ rfl
              replace r19 : u19 = vecV v := r19
              subst r19
              obtain ⟨u20, s20, r20⟩ := hD ⟨4, .data⟩ (by simp) rfl _ rfl
              replace r20 : u20 = IdT.val ⟨t, s, q⟩ := r20
              subst r20
              clear hA hD
              refine stepOk_plain rfl ?_
              intro K hK
              gi_wp2_with fail; refine (callsIn_wide.2 (next_any v H0.out ⟨t, s, q⟩ _)).mono ?_; rintro e w2 ⟨rfl, hb⟩; rw [hn]; exact hK _ _ rfl hb
            · -- 6
              intro a' w' hA hC hD
              obtain ⟨u21, s21, r21⟩ := hD ⟨5, .data⟩ (by simp) rfl _ rfl
              replace r21 : u21 = .bool false := r21
              subst r21
              have hCx := hC; have hAd : a'.defers = [] := hA.defers
              clear hA hD
              refine stepOk_plain rfl ?_
              intro K hK
              gi_wp2_with fail; refine (callsIn_wide.2 (need_no _ _)).mono ?_; rintro e w2 ⟨rfl, rfl⟩; refine ⟨hAd, ?_⟩; unfold Takes; rw [ht]; exact ⟨rfl, hBy.out.trans (hCx.mono hBy.out.size)⟩
              skip
          case fin =>
            intro w4 hC
            simp only [EndFrom, forall_eq, Act.put, List.length_cons, List.length_nil, List.drop_succ_cons, List.drop_zero, Nat.reduceAdd, List.setIfInBounds_toArray, List.set_cons_succ, List.set_cons_zero]
            exact fun _ h => h.elim
      · have ht : takeB v ⟨t, s, q⟩ = .ok (upd v s.toNat (v s.toNat + 1)) := by unfold takeB; rw [if_neg (by rw [hi]; simp), if_neg (by rw [hh]; simp), if_neg (by rw [hn]; simp)]
        obtain ⟨_, ⟨hs1, hs2⟩, _⟩ := (idOk_iff _).1 hi
        dsimp only at hs1 hs2
        have hvk : v s.toNat ≤ 4611686018427387904 := by
          unfold nextB bothOk vecOk at hn
          simp only [Bool.and_eq_true] at hn
          exact (sitesOk_iff v).1 hn.1.1.2 s.toNat (by omega) (by omega)
        obtain ⟨k, rfl⟩ := Int.eq_ofNat_of_zero_le (show 0 ≤ s by omega)
        have hk : k < 9 := by omega
        clear hs1 hs2
        rw [Int.toNat_natCast] at hvk ht
        have Hvk := Lib.hid hvk
        clear hvk
        unfold IdT.val
        go_enter Try.func44, Try.ntmps44
        go_wp2_with fail
        refine (idCheck_any ⟨t, k, q⟩ _).mono ?_
        rintro e w1 ⟨rfl, hb⟩
        simp only [hi, errOf]
        have hBx := Lib.hid (((Below.refl w.heap.size w).alloc (Nat.le_refl _) (.cells #[.int .u64 t, .int .i64 k, .int .u64 q] 38)).trans (hb.mono (by simp)))
        have Hv := Lib.hid ((hb.block _ (by simp; omega)).trans (heap_alloc_keeps HB.out _))
        have Hi := Lib.hid ((hb.block _ (by simp)).trans (World.alloc_heap_new w (.cells #[.int .u64 t, .int .i64 k, .int .u64 q] 38)))
        clear hb
        go_wp2_with (go_at_call 43; refine (need_ok _ _).mono ?_; rintro e w' ⟨rfl, rfl⟩)
        refine (wpIn_wide (n := 0)).1 ?_
        refine wp_region_facts (by kernel_rfl) [(fun v_ _ => v_ = (.pointer (some ⟨Bh, 0, none⟩) : Value)), (fun v_ _ => v_ = (.pointer (some ⟨Bh, 0, none⟩) : Value)), (fun v_ _ => v_ = (.pointer (some ⟨Bh, 0, none⟩) : Value)), (fun v_ _ => v_ = (vecV v : Value)), (fun v_ _ => v_ = (IdT.val ⟨t, k, q⟩ : Value)), (fun v_ _ => v_ = (.bool false : Value)), (fun v_ _ => v_ = (.bool true : Value)), (fun v_ _ => v_ = (.tuple #[] : Value))] (fun x y => Below x.heap.size x y) (fun _ => Below.refl _ _) (fun h k => grows_trans h k) ⟨fun _ _ _ _ h => h, fun _ _ _ _ h => h, fun _ _ _ _ h => h, fun _ _ _ _ h => h, fun _ _ _ _ h => h, fun _ _ _ _ h => h, fun _ _ _ _ h => h, fun _ _ _ _ h => h, trivial⟩ (by kernel_rfl) (by kernel_rfl) (grows_drew _)  ?steps ?fin
        case steps =>
          refine ⟨?_, ?_, ?_, ?_, ?_, ?_, ?_, ?_, trivial⟩
          · -- 0
            intro a' w' hA hC hD
            have s0 : a'.tmps[0]? = some (.pointer (some ⟨Bh, 0, none⟩)) := (hA.at 0 (by kernel_rfl)).trans rfl
            clear hA hD
            refine stepOk_plain rfl ?_
            intro K hK
            gi_wp2
            exact hK (.pointer (some ⟨Bh, 0, none⟩)) _ rfl ((fun _ => Below.refl _ _) _)
          · -- 1
            intro a' w' hA hC hD
            obtain ⟨u8, s8, r8⟩ := hD ⟨0, .data⟩ (by simp) rfl _ rfl
            replace r8 : u8 = .pointer (some ⟨Bh, 0, none⟩) := r8
            subst r8
            clear hA hD
            refine stepOk_plain rfl ?_
            intro K hK
            gi_wp2
            exact hK (.pointer (some ⟨Bh, 0, none⟩)) _ rfl ((fun _ => Below.refl _ _) _)
          · -- 2
            intro a' w' hA hC hD
            obtain ⟨u9, s9, r9⟩ := hD ⟨1, .data⟩ (by simp) rfl _ rfl
            replace r9 : u9 = .pointer (some ⟨Bh, 0, none⟩) := r9
            subst r9
            clear hA hD
            refine stepOk_plain rfl ?_
            intro K hK
            gi_wp2
            exact hK (.pointer (some ⟨Bh, 0, none⟩)) _ rfl ((fun _ => Below.refl _ _) _)
          · -- 3
            intro a' w' hA hC hD
            obtain ⟨u10, s10, r10⟩ := hD ⟨2, .data⟩ (by simp) rfl _ rfl
            replace r10 : u10 = .pointer (some ⟨Bh, 0, none⟩) := r10
            subst r10
            obtain ⟨c0, c1, c2, c3, c4, c5, c6, c7, c8⟩ := vec9 ((hC.block _ (block_lt Hv.out)).trans Hv.out)
            clear hA hD
            refine stepOk_plain rfl ?_
            intro K hK
            gi_wp2
            exact hK (vecV v) _ rfl ((fun _ => Below.refl _ _) _)
          · -- 4
            intro a' w' hA hC hD
            have s3 : a'.tmps[3]? = some (.pointer (some ⟨w.heap.size, 0, none⟩)) := (hA.at 3 (by kernel_rfl)).trans rfl
            have hi := (hC.block _ (block_lt Hi.out)).trans Hi.out; have c0 := cell_of_block (k := 0) (v := .int .u64 t) hi rfl; have c1 := cell_of_block (k := 1) (v := .int .i64 k) hi rfl; have c2 := cell_of_block (k := 2) (v := .int .u64 q) hi rfl
            clear hA hD
            refine stepOk_plain rfl ?_
            intro K hK
            gi_wp2
            exact hK (IdT.val ⟨t, k, q⟩) _ rfl ((fun _ => Below.refl _ _) _)
          · -- 5
            intro a' w' hA hC hD
            obtain ⟨u11, s11, r11⟩ := hD ⟨3, .data⟩ (by simp) rfl _ rfl
            replace r11 : u11 = vecV v := r11
            subst r11
            obtain ⟨u12, s12, r12⟩ := hD ⟨4, .data⟩ (by simp) rfl _ rfl
            replace r12 : u12 = IdT.val ⟨t, k, q⟩ := r12
            subst r12
            clear hA hD
            refine stepOk_plain rfl ?_
            intro K hK
            gi_wp2_with fail; refine (callsIn_wide.2 (has_any v ⟨t, k, q⟩ _)).mono ?_; rintro e w2 ⟨rfl, hb⟩; rw [hh]; exact hK _ _ rfl hb
          · -- 6
            intro a' w' hA hC hD
            obtain ⟨u13, s13, r13⟩ := hD ⟨5, .data⟩ (by simp) rfl _ rfl
            replace r13 : u13 = .bool false := r13
            subst r13
            clear hA hD
            refine stepOk_plain rfl ?_
            intro K hK
            gi_wp2
            exact hK (.bool true) _ rfl ((fun _ => Below.refl _ _) _)
          · -- 7
            intro a' w' hA hC hD
            obtain ⟨u14, s14, r14⟩ := hD ⟨6, .data⟩ (by simp) rfl _ rfl
            replace r14 : u14 = .bool true := r14
            subst r14
            clear hA hD
            refine stepOk_plain rfl ?_
            intro K hK
            gi_wp2_with fail; refine (callsIn_wide.2 (need_ok _ _)).mono ?_; rintro e w2 ⟨rfl, rfl⟩
            exact hK (.tuple #[]) _ rfl ((fun _ => Below.refl _ _) _)
        case fin =>
          intro w3 hC
          simp only [EndFrom, forall_eq, Act.put, List.length_cons, List.length_nil, List.drop_succ_cons, List.drop_zero, Nat.reduceAdd, List.setIfInBounds_toArray, List.set_cons_succ, List.set_cons_zero]
          gi_wp2
          have hBy := Lib.hid (hBx.out.trans (hC.mono hBx.out.size))
          have Hv3 := Lib.hid ((hC.block _ (block_lt Hv.out)).trans Hv.out)
          have Hi3 := Lib.hid ((hC.block _ (block_lt Hi.out)).trans Hi.out)
          clear hC hBx Hv Hi
          go_wp2
          refine (wpIn_wide (n := 0)).1 ?_
          refine wp_region_facts (by kernel_rfl) [(fun v_ _ => v_ = (.pointer (some ⟨Bh, 0, none⟩) : Value)), (fun v_ _ => v_ = (.pointer (some ⟨Bh, 0, none⟩) : Value)), (fun v_ _ => v_ = (.pointer (some ⟨Bh, 0, none⟩) : Value)), (fun v_ _ => v_ = (vecV v : Value)), (fun v_ _ => v_ = (IdT.val ⟨t, k, q⟩ : Value)), (fun v_ _ => v_ = (.bool true : Value)), (fun v_ _ => v_ = (.tuple #[] : Value))] (fun x y => Below x.heap.size x y) (fun _ => Below.refl _ _) (fun h k => grows_trans h k) ⟨fun _ _ _ _ h => h, fun _ _ _ _ h => h, fun _ _ _ _ h => h, fun _ _ _ _ h => h, fun _ _ _ _ h => h, fun _ _ _ _ h => h, fun _ _ _ _ h => h, trivial⟩ (by kernel_rfl) (by kernel_rfl) (grows_drew _)  ?steps ?fin
          case steps =>
            refine ⟨?_, ?_, ?_, ?_, ?_, ?_, ?_, trivial⟩
            · -- 0
              intro a' w' hA hC hD
              have s0 : a'.tmps[0]? = some (.pointer (some ⟨Bh, 0, none⟩)) := (hA.at 0 (by kernel_rfl)).trans rfl
              clear hA hD
              refine stepOk_plain rfl ?_
              intro K hK
              gi_wp2
              exact hK (.pointer (some ⟨Bh, 0, none⟩)) _ rfl ((fun _ => Below.refl _ _) _)
            · -- 1
              intro a' w' hA hC hD
              obtain ⟨u16, s16, r16⟩ := hD ⟨0, .data⟩ (by simp) rfl _ rfl
              replace r16 : u16 = .pointer (some ⟨Bh, 0, none⟩) := r16
              subst r16
              clear hA hD
              refine stepOk_plain rfl ?_
              intro K hK
              gi_wp2
              exact hK (.pointer (some ⟨Bh, 0, none⟩)) _ rfl ((fun _ => Below.refl _ _) _)
            · -- 2
              intro a' w' hA hC hD
              obtain ⟨u17, s17, r17⟩ := hD ⟨1, .data⟩ (by simp) rfl _ rfl
              replace r17 : u17 = .pointer (some ⟨Bh, 0, none⟩) := r17
              subst r17
              clear hA hD
              refine stepOk_plain rfl ?_
              intro K hK
              gi_wp2
              exact hK (.pointer (some ⟨Bh, 0, none⟩)) _ rfl ((fun _ => Below.refl _ _) _)
            · -- 3
              intro a' w' hA hC hD
              obtain ⟨u18, s18, r18⟩ := hD ⟨2, .data⟩ (by simp) rfl _ rfl
              replace r18 : u18 = .pointer (some ⟨Bh, 0, none⟩) := r18
              subst r18
              obtain ⟨c0, c1, c2, c3, c4, c5, c6, c7, c8⟩ := vec9 ((hC.block _ (block_lt Hv3.out)).trans Hv3.out)
              clear hA hD
              refine stepOk_plain rfl ?_
              intro K hK
              gi_wp2
              exact hK (vecV v) _ rfl ((fun _ => Below.refl _ _) _)
            · -- 4
              intro a' w' hA hC hD
              have s3 : a'.tmps[3]? = some (.pointer (some ⟨w.heap.size, 0, none⟩)) := (hA.at 3 (by kernel_rfl)).trans rfl
              have hi := (hC.block _ (block_lt Hi3.out)).trans Hi3.out; have c0 := cell_of_block (k := 0) (v := .int .u64 t) hi rfl; have c1 := cell_of_block (k := 1) (v := .int .i64 k) hi rfl; have c2 := cell_of_block (k := 2) (v := .int .u64 q) hi rfl
              clear hA hD
              refine stepOk_plain rfl ?_
              intro K hK
              gi_wp2
              exact hK (IdT.val ⟨t, k, q⟩) _ rfl ((fun _ => Below.refl _ _) _)
            · -- 5
              intro a' w' hA hC hD
              obtain ⟨u19, s19, r19⟩ := hD ⟨3, .data⟩ (by simp) rfl _ rfl
              replace r19 : u19 = vecV v := r19
              subst r19
              obtain ⟨u20, s20, r20⟩ := hD ⟨4, .data⟩ (by simp) rfl _ rfl
              replace r20 : u20 = IdT.val ⟨t, k, q⟩ := r20
              subst r20
              clear hA hD
              refine stepOk_plain rfl ?_
              intro K hK
              gi_wp2_with fail; refine (callsIn_wide.2 (next_any v H0.out ⟨t, k, q⟩ _)).mono ?_; rintro e w2 ⟨rfl, hb⟩; rw [hn]; exact hK _ _ rfl hb
            · -- 6
              intro a' w' hA hC hD
              obtain ⟨u21, s21, r21⟩ := hD ⟨5, .data⟩ (by simp) rfl _ rfl
              replace r21 : u21 = .bool true := r21
              subst r21
              clear hA hD
              refine stepOk_plain rfl ?_
              intro K hK
              gi_wp2_with fail; refine (callsIn_wide.2 (need_ok _ _)).mono ?_; rintro e w2 ⟨rfl, rfl⟩
              exact hK (.tuple #[]) _ rfl ((fun _ => Below.refl _ _) _)
          case fin =>
            intro w4 hC
            simp only [EndFrom, forall_eq, Act.put, List.length_cons, List.length_nil, List.drop_succ_cons, List.drop_zero, Nat.reduceAdd, List.setIfInBounds_toArray, List.set_cons_succ, List.set_cons_zero]
            gi_wp2
            have hBz := Lib.hid (hBy.out.trans (hC.mono hBy.out.size))
            have Hv4 := Lib.hid ((hC.block _ (block_lt Hv3.out)).trans Hv3.out)
            have Hi4 := Lib.hid ((hC.block _ (block_lt Hi3.out)).trans Hi3.out)
            clear hC hBy Hv3 Hi3
            go_wp2
            refine (wpIn_wide (n := 0)).1 ?_
            refine wp_region_facts (by kernel_rfl) [(fun v_ _ => v_ = (.pointer (some ⟨Bh, 0, none⟩) : Value)), (fun v_ _ => v_ = (.pointer (some ⟨w.heap.size, 1, none⟩) : Value)), (fun v_ _ => v_ = (.int .i64 k : Value)), (fun v_ _ => v_ = (.pointer (some ⟨Bh, 0, none⟩) : Value)), (fun v_ _ => v_ = (.pointer (some ⟨Bh, 0, none⟩) : Value)), (fun v_ _ => v_ = (.pointer (some ⟨Bh, k, none⟩) : Value)), (fun v_ _ => v_ = (.int .u64 (v k) : Value)), (fun v_ _ => v_ = (.int .u64 (v k + 1) : Value)), (fun v_ _ => v_ = (.pointer (some ⟨Bh, 0, none⟩) : Value)), (fun v_ _ => v_ = (.pointer (some ⟨Bh, 0, none⟩) : Value)), (fun v_ _ => v_ = (.pointer (some ⟨Bh, k, none⟩) : Value))] (fun x y => Below x.heap.size x y) (fun _ => Below.refl _ _) (fun h k => grows_trans h k) ⟨fun _ _ _ _ h => h, fun _ _ _ _ h => h, fun _ _ _ _ h => h, fun _ _ _ _ h => h, fun _ _ _ _ h => h, fun _ _ _ _ h => h, fun _ _ _ _ h => h, fun _ _ _ _ h => h, fun _ _ _ _ h => h, fun _ _ _ _ h => h, fun _ _ _ _ h => h, trivial⟩ (by kernel_rfl) (by kernel_rfl) (grows_drew _)  ?steps ?fin
            case steps =>
              refine ⟨?_, ?_, ?_, ?_, ?_, ?_, ?_, ?_, ?_, ?_, ?_, trivial⟩
              · -- 0
                intro a' w' hA hC hD
                have s0 : a'.tmps[0]? = some (.pointer (some ⟨Bh, 0, none⟩)) := (hA.at 0 (by kernel_rfl)).trans rfl
                clear hA hD
                refine stepOk_plain rfl ?_
                intro K hK
                gi_wp2
                exact hK (.pointer (some ⟨Bh, 0, none⟩)) _ rfl ((fun _ => Below.refl _ _) _)
              · -- 1
                intro a' w' hA hC hD
                have s3 : a'.tmps[3]? = some (.pointer (some ⟨w.heap.size, 0, none⟩)) := (hA.at 3 (by kernel_rfl)).trans rfl
                clear hA hD
                refine stepOk_plain rfl ?_
                intro K hK
                gi_wp2
                exact hK (.pointer (some ⟨w.heap.size, 1, none⟩)) _ rfl ((fun _ => Below.refl _ _) _)
              · -- 2
                intro a' w' hA hC hD
                obtain ⟨u24, s24, r24⟩ := hD ⟨1, .data⟩ (by simp) rfl _ rfl
                replace r24 : u24 = .pointer (some ⟨w.heap.size, 1, none⟩) := r24
                subst r24
                have hi := (hC.block _ (block_lt Hi4.out)).trans Hi4.out; have c1 := cell_of_block (k := 1) (v := .int .i64 k) hi rfl
                clear hA hD
                refine stepOk_plain rfl ?_
                intro K hK
                gi_wp2
                exact hK (.int .i64 k) _ rfl ((fun _ => Below.refl _ _) _)
              · -- 3
                intro a' w' hA hC hD
                obtain ⟨u23, s23, r23⟩ := hD ⟨0, .data⟩ (by simp) rfl _ rfl
                replace r23 : u23 = .pointer (some ⟨Bh, 0, none⟩) := r23
                subst r23
                clear hA hD
                refine stepOk_plain rfl ?_
                intro K hK
                gi_wp2
                exact hK (.pointer (some ⟨Bh, 0, none⟩)) _ rfl ((fun _ => Below.refl _ _) _)
              · -- 4
                intro a' w' hA hC hD
                obtain ⟨u26, s26, r26⟩ := hD ⟨3, .data⟩ (by simp) rfl _ rfl
                replace r26 : u26 = .pointer (some ⟨Bh, 0, none⟩) := r26
                subst r26
                clear hA hD
                refine stepOk_plain rfl ?_
                intro K hK
                gi_wp2
                exact hK (.pointer (some ⟨Bh, 0, none⟩)) _ rfl ((fun _ => Below.refl _ _) _)
              · -- 5
                intro a' w' hA hC hD
                obtain ⟨u27, s27, r27⟩ := hD ⟨4, .data⟩ (by simp) rfl _ rfl
                replace r27 : u27 = .pointer (some ⟨Bh, 0, none⟩) := r27
                subst r27
                obtain ⟨u25, s25, r25⟩ := hD ⟨2, .data⟩ (by simp) rfl _ rfl
                replace r25 : u25 = .int .i64 k := r25
                subst r25
                clear hA hD
                refine stepOk_plain rfl ?_
                intro K hK
                gi_wp2
                exact hK (.pointer (some ⟨Bh, k, none⟩)) _ rfl ((fun _ => Below.refl _ _) _)
              · -- 6
                intro a' w' hA hC hD
                obtain ⟨u28, s28, r28⟩ := hD ⟨5, .data⟩ (by simp) rfl _ rfl
                replace r28 : u28 = .pointer (some ⟨Bh, k, none⟩) := r28
                subst r28
                have c9 := cell_of_block ((hC.block _ (block_lt Hv4.out)).trans Hv4.out) (lit9_get v k hk)
                clear hA hD
                refine stepOk_plain rfl ?_
                intro K hK
                gi_wp2
                exact hK (.int .u64 (v k)) _ rfl ((fun _ => Below.refl _ _) _)
              · -- 7
                intro a' w' hA hC hD
                obtain ⟨u29, s29, r29⟩ := hD ⟨6, .data⟩ (by simp) rfl _ rfl
                replace r29 : u29 = .int .u64 (v k) := r29
                subst r29
                have b1 := H0.out k; have b2 := Hvk.out
                clear hA hD
                refine stepOk_plain rfl ?_
                intro K hK
                gi_wp2
                exact hK (.int .u64 (v k + 1)) _ rfl ((fun _ => Below.refl _ _) _)
              · -- 8
                intro a' w' hA hC hD
                obtain ⟨u23, s23, r23⟩ := hD ⟨0, .data⟩ (by simp) rfl _ rfl
                replace r23 : u23 = .pointer (some ⟨Bh, 0, none⟩) := r23
                subst r23
                clear hA hD
                refine stepOk_plain rfl ?_
                intro K hK
                gi_wp2
                exact hK (.pointer (some ⟨Bh, 0, none⟩)) _ rfl ((fun _ => Below.refl _ _) _)
              · -- 9
                intro a' w' hA hC hD
                obtain ⟨u31, s31, r31⟩ := hD ⟨8, .data⟩ (by simp) rfl _ rfl
                replace r31 : u31 = .pointer (some ⟨Bh, 0, none⟩) := r31
                subst r31
                clear hA hD
                refine stepOk_plain rfl ?_
                intro K hK
                gi_wp2
                exact hK (.pointer (some ⟨Bh, 0, none⟩)) _ rfl ((fun _ => Below.refl _ _) _)
              · -- 10
                intro a' w' hA hC hD
                obtain ⟨u32, s32, r32⟩ := hD ⟨9, .data⟩ (by simp) rfl _ rfl
                replace r32 : u32 = .pointer (some ⟨Bh, 0, none⟩) := r32
                subst r32
                obtain ⟨u25, s25, r25⟩ := hD ⟨2, .data⟩ (by simp) rfl _ rfl
                replace r25 : u25 = .int .i64 k := r25
                subst r25
                clear hA hD
                refine stepOk_plain rfl ?_
                intro K hK
                gi_wp2
                exact hK (.pointer (some ⟨Bh, k, none⟩)) _ rfl ((fun _ => Below.refl _ _) _)
            case fin =>
              intro w5 hC
              simp only [EndFrom, forall_eq, Act.put, List.length_cons, List.length_nil, List.drop_succ_cons, List.drop_zero, Nat.reduceAdd, List.setIfInBounds_toArray, List.set_cons_succ, List.set_cons_zero]
              have hv5 := (hC.block _ (block_lt Hv4.out)).trans Hv4.out
              have c5 := cell_of_block hv5 (lit9_get v k hk)
              have f5 := free_of_block hv5 k
              have hB5 := hBz.out.trans (hC.mono hBz.out.size)
              have HB5 := Lib.hid hB5
              have Hv5 := Lib.hid hv5
              clear hC hB5 hv5
              gi_wp2
              go_wp2
              go_end0
              unfold Takes
              rw [ht]
              refine ⟨rfl, ?_, (HB5.out.mono (Nat.le_of_lt lB)).setCell (p := ⟨Bh, k, none⟩) (Nat.le_refl _) _, fun j hj hne => ?_⟩
              · rw [heap_set_same Hv5.out, lit9_set _ _ _ hk]
              · rw [Below.heap_setCell _ _ _ _ hne]
                exact HB5.out.block j hj
    · have ht : takeB v ⟨t, s, q⟩ = .error 5 := by unfold takeB; rw [if_neg (by rw [hi]; simp), if_pos hh]
      unfold IdT.val
      go_enter Try.func44, Try.ntmps44
      go_wp2_with fail
      refine (idCheck_any ⟨t, s, q⟩ _).mono ?_
      rintro e w1 ⟨rfl, hb⟩
      simp only [hi, errOf]
      have hBx := Lib.hid (((Below.refl w.heap.size w).alloc (Nat.le_refl _) (.cells #[.int .u64 t, .int .i64 s, .int .u64 q] 38)).trans (hb.mono (by simp)))
      have Hv := Lib.hid ((hb.block _ (by simp; omega)).trans (heap_alloc_keeps HB.out _))
      have Hi := Lib.hid ((hb.block _ (by simp)).trans (World.alloc_heap_new w (.cells #[.int .u64 t, .int .i64 s, .int .u64 q] 38)))
      clear hb
      go_wp2_with (go_at_call 43; refine (need_ok _ _).mono ?_; rintro e w' ⟨rfl, rfl⟩)
      refine (wpIn_wide (n := 0)).1 ?_
      refine wp_region_facts (by kernel_rfl) [(fun v_ _ => v_ = (.pointer (some ⟨Bh, 0, none⟩) : Value)), (fun v_ _ => v_ = (.pointer (some ⟨Bh, 0, none⟩) : Value)), (fun v_ _ => v_ = (.pointer (some ⟨Bh, 0, none⟩) : Value)), (fun v_ _ => v_ = (vecV v : Value)), (fun v_ _ => v_ = (IdT.val ⟨t, s, q⟩ : Value)), (fun v_ _ => v_ = (.bool true : Value)), (fun v_ _ => v_ = (.bool false : Value)), (fun _ _ => False)] (fun x y => Below x.heap.size x y) (fun _ => Below.refl _ _) (fun h k => grows_trans h k) ⟨fun _ _ _ _ h => h, fun _ _ _ _ h => h, fun _ _ _ _ h => h, fun _ _ _ _ h => h, fun _ _ _ _ h => h, fun _ _ _ _ h => h, fun _ _ _ _ h => h, fun _ _ _ _ h => h, trivial⟩ (by kernel_rfl) (by kernel_rfl) (grows_drew _)  ?steps ?fin
      case steps =>
        refine ⟨?_, ?_, ?_, ?_, ?_, ?_, ?_, ?_, trivial⟩
        · -- 0
          intro a' w' hA hC hD
          have s0 : a'.tmps[0]? = some (.pointer (some ⟨Bh, 0, none⟩)) := (hA.at 0 (by kernel_rfl)).trans rfl
          clear hA hD
          refine stepOk_plain rfl ?_
          intro K hK
          gi_wp2
          exact hK (.pointer (some ⟨Bh, 0, none⟩)) _ rfl ((fun _ => Below.refl _ _) _)
        · -- 1
          intro a' w' hA hC hD
          obtain ⟨u8, s8, r8⟩ := hD ⟨0, .data⟩ (by simp) rfl _ rfl
          replace r8 : u8 = .pointer (some ⟨Bh, 0, none⟩) := r8
          subst r8
          clear hA hD
          refine stepOk_plain rfl ?_
          intro K hK
          gi_wp2
          exact hK (.pointer (some ⟨Bh, 0, none⟩)) _ rfl ((fun _ => Below.refl _ _) _)
        · -- 2
          intro a' w' hA hC hD
          obtain ⟨u9, s9, r9⟩ := hD ⟨1, .data⟩ (by simp) rfl _ rfl
          replace r9 : u9 = .pointer (some ⟨Bh, 0, none⟩) := r9
          subst r9
          clear hA hD
          refine stepOk_plain rfl ?_
          intro K hK
          gi_wp2
          exact hK (.pointer (some ⟨Bh, 0, none⟩)) _ rfl ((fun _ => Below.refl _ _) _)
        · -- 3
          intro a' w' hA hC hD
          obtain ⟨u10, s10, r10⟩ := hD ⟨2, .data⟩ (by simp) rfl _ rfl
          replace r10 : u10 = .pointer (some ⟨Bh, 0, none⟩) := r10
          subst r10
          obtain ⟨c0, c1, c2, c3, c4, c5, c6, c7, c8⟩ := vec9 ((hC.block _ (block_lt Hv.out)).trans Hv.out)
          clear hA hD
          refine stepOk_plain rfl ?_
          intro K hK
          gi_wp2
          exact hK (vecV v) _ rfl ((fun _ => Below.refl _ _) _)
        · -- 4
          intro a' w' hA hC hD
          have s3 : a'.tmps[3]? = some (.pointer (some ⟨w.heap.size, 0, none⟩)) := (hA.at 3 (by kernel_rfl)).trans rfl
          have hi := (hC.block _ (block_lt Hi.out)).trans Hi.out; have c0 := cell_of_block (k := 0) (v := .int .u64 t) hi rfl; have c1 := cell_of_block (k := 1) (v := .int .i64 s) hi rfl; have c2 := cell_of_block (k := 2) (v := .int .u64 q) hi rfl
          clear hA hD
          refine stepOk_plain rfl ?_
          intro K hK
          gi_wp2
          exact hK (IdT.val ⟨t, s, q⟩) _ rfl ((fun _ => Below.refl _ _) _)
        · -- 5
          intro a' w' hA hC hD
          obtain ⟨u11, s11, r11⟩ := hD ⟨3, .data⟩ (by simp) rfl _ rfl
          replace r11 : u11 = vecV v := r11
          subst r11
          obtain ⟨u12, s12, r12⟩ := hD ⟨4, .data⟩ (by simp) rfl _ rfl
          replace r12 : u12 = IdT.val ⟨t, s, q⟩ := r12
          subst r12
          clear hA hD
          refine stepOk_plain rfl ?_
          intro K hK
          gi_wp2_with fail; refine (callsIn_wide.2 (has_any v ⟨t, s, q⟩ _)).mono ?_; rintro e w2 ⟨rfl, hb⟩; rw [hh]; exact hK _ _ rfl hb
        · -- 6
          intro a' w' hA hC hD
          obtain ⟨u13, s13, r13⟩ := hD ⟨5, .data⟩ (by simp) rfl _ rfl
          replace r13 : u13 = .bool true := r13
          subst r13
          clear hA hD
          refine stepOk_plain rfl ?_
          intro K hK
          gi_wp2
          exact hK (.bool false) _ rfl ((fun _ => Below.refl _ _) _)
        · -- 7
          intro a' w' hA hC hD
          obtain ⟨u14, s14, r14⟩ := hD ⟨6, .data⟩ (by simp) rfl _ rfl
          replace r14 : u14 = .bool false := r14
          subst r14
          have hCx := hC; have hAd : a'.defers = [] := hA.defers
          clear hA hD
          refine stepOk_plain rfl ?_
          intro K hK
          gi_wp2_with fail; refine (callsIn_wide.2 (need_no _ _)).mono ?_; rintro e w2 ⟨rfl, rfl⟩; refine ⟨hAd, ?_⟩; unfold Takes; rw [ht]; exact ⟨rfl, hBx.out.trans (hCx.mono hBx.out.size)⟩
          skip
      case fin =>
        intro w3 hC
        simp only [EndFrom, forall_eq, Act.put, List.length_cons, List.length_nil, List.drop_succ_cons, List.drop_zero, Nat.reduceAdd, List.setIfInBounds_toArray, List.set_cons_succ, List.set_cons_zero]
        exact fun _ h => h.elim
end Go.Proofs.Ytppaheekpmgifaa
