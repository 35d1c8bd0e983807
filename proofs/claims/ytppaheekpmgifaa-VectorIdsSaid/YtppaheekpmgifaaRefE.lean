/- The document's answer for vectors: Lacks. -/
import Derived.Test.YtppaheekpmgifaaRefD
import Derived.Test.YtppaheekpmgifaaVecM
import Derived.Test.YtppaheekpmgifaaBaseD
namespace Go.Proofs.Ytppaheekpmgifaa
set_option linter.unusedSimpArgs false
set_option linter.unusedVariables false
open Go.RowKit Go.Shelf

set_option maxRecDepth 100000 in
set_option maxHeartbeats 4000000 in
theorem refLacks_badF (a b : Nat → Int) (w : World) (ha : vecOk a = false) (hb : vecOk a = true → vecOk b = false) : Calls Try.prog 21 #[vecV a, vecV b] w (GivesRow 36 3 0 [] w) := by
  have Hb := Lib.hid hb
  have Ha := Lib.hid ha
  clear ha hb
  go_enter Try.func21, Try.ntmps21
  simp only [vecV, lit9]
  go_wp2_with fail
  have hB : Below w.heap.size w ((w.alloc (.cells (lit9 a) 24)).alloc (.cells (lit9 b) 24)) := ((Below.refl _ _).alloc (Nat.le_refl _) _).alloc (by simp) _
  have hva := heap_alloc_keeps (World.alloc_heap_new w (.cells (lit9 a) 24)) (.cells (lit9 b) 24)
  have hvb := newBlock (w.alloc (.cells (lit9 a) 24)) (.cells (lit9 b) 24) (w.heap.size + 1) (by simp)
  have HB := Lib.hid hB
  have Hva := Lib.hid hva
  have Hvb := Lib.hid hvb
  clear hB hva hvb
  go_loopw [5, 6] (fun o i wr => ∃ k : Nat, k ≤ 9 ∧ i = .int .i64 k ∧ o = .slice none 0 0 ∧ Below w.heap.size w wr ∧ wr.heap[w.heap.size]? = some (.cells (lit9 a) 24 (0, 0)) ∧ wr.heap[w.heap.size + 1]? = some (.cells (lit9 b) 24 (0, 0))) (fun _ i _ => 9 - (intOf i).toNat)
  case atStart => exact ⟨1, by omega, rfl, rfl, HB.out, Hva.out, Hvb.out⟩
  case round =>
    obtain ⟨k, hk, rfl, rfl, hB, hva, hvb⟩ := hrel
    clear HB Hva Hvb
    have HB := Lib.hid hB
    have Hva := Lib.hid hva
    have Hvb := Lib.hid hvb
    clear hB hva hvb
    by_cases hk9 : k < 9
    · have hki : (k : Int) ≤ 8 := by omega
      go_wp2_with fail
      refine (wpIn_wide (n := 0)).1 ?_
      apply wp_region_vals 15 (Rl := [(eqv _), (eqv _), (eqv _), (fun v_ _ => v_ = (undef : Value)), (fun v_ _ => v_ = (undef : Value)), (eqv _), (eqv _), (fun v_ _ => v_ = (undef : Value)), (fun v_ _ => v_ = (undef : Value)), (fun v_ _ => v_ = (undef : Value)), (fun v_ _ => v_ = (undef : Value)), (fun v_ _ => v_ = (undef : Value)), (fun v_ _ => v_ = (undef : Value)), (fun v_ _ => v_ = (undef : Value)), (eqv _)]) (C := (fun x y => Below x.heap.size x y))
      case hm => kernel_rfl
      case hk => rfl
      case hCr => exact (fun _ => Below.refl _ _)
      case hCt => intro _ _ _; exact (fun h k => grows_trans h k)
      case hst => exact ⟨fun _ _ _ _ h => h, fun _ _ _ _ h => h, fun _ _ _ _ h => h, fun _ _ _ _ h => h, fun _ _ _ _ h => h, fun _ _ _ _ h => h, fun _ _ _ _ h => h, fun _ _ _ _ h => h, fun _ _ _ _ h => h, fun _ _ _ _ h => h, fun _ _ _ _ h => h, fun _ _ _ _ h => h, fun _ _ _ _ h => h, fun _ _ _ _ h => h, fun _ _ _ _ h => h, trivial⟩
      case hfo => kernel_rfl
      case ht => kernel_rfl
      case hC0 => exact (grows_drew _)
      case hsteps =>
        refine ⟨?_, ?_, ?_, ?_, ?_, ?_, ?_, ?_, ?_, ?_, ?_, ?_, ?_, ?_, ?_, trivial⟩
        · -- 0
          intro a' w' hA hC hD
          have s2 : a'.tmps[2]? = some _ := (hA.at 2 (by kernel_rfl)).trans rfl
          obtain ⟨a0, a1, a2, a3, a4, a5, a6, a7, a8⟩ := vec9 ((hC.block _ (block_lt Hva.out)).trans Hva.out)
          clear hA hD
          refine stepOk_plain rfl ?_
          intro K hK
          gi_wp2
          exact hK _ _ rfl ((fun _ => Below.refl _ _) _)
        · -- 1
          intro a' w' hA hC hD
          obtain ⟨u11, s11, r11⟩ := hD ⟨0, .data⟩ (by simp) rfl _ rfl
          replace r11 : u11 = _ := r11
          subst r11
          clear hA hD
          refine stepOk_plain rfl ?_
          intro K hK
          gi_wp2_with fail; refine (callsIn_wide.2 (right_any _ _)).mono ?_; rintro e w2 ⟨rfl, hb⟩; rw [Ha.out]
          exact hK _ _ rfl hb
        · -- 2
          intro a' w' hA hC hD
          obtain ⟨u12, s12, r12⟩ := hD ⟨1, .data⟩ (by simp) rfl _ rfl
          replace r12 : u12 = _ := r12
          subst r12
          clear hA hD
          refine stepOk_plain rfl ?_
          intro K hK
          gi_wp2
          exact hK _ _ rfl ((fun _ => Below.refl _ _) _)
        · -- 3
          intro a' w' hA hC hD
          have s3 : a'.tmps[3]? = some _ := (hA.at 3 (by kernel_rfl)).trans rfl
          obtain ⟨u13, s13, r13⟩ := hD ⟨2, .guard⟩ (by simp) rfl _ rfl
          replace r13 : u13 = _ := r13
          subst r13
          obtain ⟨b0, b1, b2, b3, b4, b5, b6, b7, b8⟩ := vec9 ((hC.block _ (block_lt Hvb.out)).trans Hvb.out)
          clear hA hD
          exact stepOk_skip rfl rfl s13 rfl
        · -- 4
          intro a' w' hA hC hD
          obtain ⟨u14, s14, r14⟩ := hD ⟨3, .data⟩ (by simp) rfl _ rfl
          replace r14 : u14 = undef := r14
          subst r14
          obtain ⟨u13, s13, r13⟩ := hD ⟨2, .chain⟩ (by simp) rfl _ rfl
          replace r13 : u13 = _ := r13
          subst r13
          clear hA hD
          exact stepOk_skip rfl rfl s13 rfl
        · -- 5
          intro a' w' hA hC hD
          obtain ⟨u13, s13, r13⟩ := hD ⟨2, .data⟩ (by simp) rfl _ rfl
          replace r13 : u13 = _ := r13
          subst r13
          obtain ⟨u15, s15, r15⟩ := hD ⟨4, .data⟩ (by simp) rfl _ rfl
          replace r15 : u15 = undef := r15
          subst r15
          clear hA hD
          refine stepOk_plain rfl ?_
          intro K hK
          gi_wp2
          exact hK _ _ rfl ((fun _ => Below.refl _ _) _)
        · -- 6
          intro a' w' hA hC hD
          obtain ⟨u16, s16, r16⟩ := hD ⟨5, .data⟩ (by simp) rfl _ rfl
          replace r16 : u16 = _ := r16
          subst r16
          clear hA hD
          refine stepOk_plain rfl ?_
          intro K hK
          gi_wp2
          exact hK _ _ rfl ((fun _ => Below.refl _ _) _)
        · -- 7
          intro a' w' hA hC hD
          have s6 : a'.tmps[6]? = some _ := (hA.at 6 (by kernel_rfl)).trans rfl
          obtain ⟨u17, s17, r17⟩ := hD ⟨6, .guard⟩ (by simp) rfl _ rfl
          replace r17 : u17 = _ := r17
          subst r17
          clear hA hD
          exact stepOk_skip rfl rfl s17 rfl
        · -- 8
          intro a' w' hA hC hD
          have s3 : a'.tmps[3]? = some _ := (hA.at 3 (by kernel_rfl)).trans rfl
          obtain ⟨u18, s18, r18⟩ := hD ⟨7, .data⟩ (by simp) rfl _ rfl
          replace r18 : u18 = undef := r18
          subst r18
          obtain ⟨u17, s17, r17⟩ := hD ⟨6, .guard⟩ (by simp) rfl _ rfl
          replace r17 : u17 = _ := r17
          subst r17
          clear hA hD
          exact stepOk_skip rfl rfl s17 rfl
        · -- 9
          intro a' w' hA hC hD
          obtain ⟨u19, s19, r19⟩ := hD ⟨8, .data⟩ (by simp) rfl _ rfl
          replace r19 : u19 = undef := r19
          subst r19
          obtain ⟨u17, s17, r17⟩ := hD ⟨6, .guard⟩ (by simp) rfl _ rfl
          replace r17 : u17 = _ := r17
          subst r17
          clear hA hD
          exact stepOk_skip rfl rfl s17 rfl
        · -- 10
          intro a' w' hA hC hD
          have s6 : a'.tmps[6]? = some _ := (hA.at 6 (by kernel_rfl)).trans rfl
          obtain ⟨u17, s17, r17⟩ := hD ⟨6, .guard⟩ (by simp) rfl _ rfl
          replace r17 : u17 = _ := r17
          subst r17
          clear hA hD
          exact stepOk_skip rfl rfl s17 rfl
        · -- 11
          intro a' w' hA hC hD
          have s2 : a'.tmps[2]? = some _ := (hA.at 2 (by kernel_rfl)).trans rfl
          obtain ⟨u21, s21, r21⟩ := hD ⟨10, .data⟩ (by simp) rfl _ rfl
          replace r21 : u21 = undef := r21
          subst r21
          obtain ⟨u17, s17, r17⟩ := hD ⟨6, .guard⟩ (by simp) rfl _ rfl
          replace r17 : u17 = _ := r17
          subst r17
          clear hA hD
          exact stepOk_skip rfl rfl s17 rfl
        · -- 12
          intro a' w' hA hC hD
          obtain ⟨u22, s22, r22⟩ := hD ⟨11, .data⟩ (by simp) rfl _ rfl
          replace r22 : u22 = undef := r22
          subst r22
          obtain ⟨u17, s17, r17⟩ := hD ⟨6, .guard⟩ (by simp) rfl _ rfl
          replace r17 : u17 = _ := r17
          subst r17
          clear hA hD
          exact stepOk_skip rfl rfl s17 rfl
        · -- 13
          intro a' w' hA hC hD
          obtain ⟨u20, s20, r20⟩ := hD ⟨9, .data⟩ (by simp) rfl _ rfl
          replace r20 : u20 = undef := r20
          subst r20
          obtain ⟨u23, s23, r23⟩ := hD ⟨12, .data⟩ (by simp) rfl _ rfl
          replace r23 : u23 = undef := r23
          subst r23
          obtain ⟨u17, s17, r17⟩ := hD ⟨6, .guard⟩ (by simp) rfl _ rfl
          replace r17 : u17 = _ := r17
          subst r17
          clear hA hD
          exact stepOk_skip rfl rfl s17 rfl
        · -- 14
          intro a' w' hA hC hD
          obtain ⟨u17, s17, r17⟩ := hD ⟨6, .data⟩ (by simp) rfl _ rfl
          replace r17 : u17 = _ := r17
          subst r17
          obtain ⟨u24, s24, r24⟩ := hD ⟨13, .data⟩ (by simp) rfl _ rfl
          replace r24 : u24 = undef := r24
          subst r24
          clear hA hD
          refine stepOk_plain rfl ?_
          intro K hK
          gi_wp2
          exact hK _ _ rfl ((fun _ => Below.refl _ _) _)
      case hend =>
        intro w3 hC
        simp only [EndFrom, eqv, forall_eq, Act.put, List.length_cons, List.length_nil, List.drop_succ_cons, List.drop_zero, Nat.reduceAdd, List.setIfInBounds_toArray, List.set_cons_succ, List.set_cons_zero]
        have hva := (hC.block _ (block_lt Hva.out)).trans Hva.out
        have hvb := (hC.block _ (block_lt Hvb.out)).trans Hvb.out
        have hB := HB.out.trans (hC.mono HB.out.size)
        clear HB Hva Hvb
        have HB := Lib.hid hB
        have Hva := Lib.hid hva
        have Hvb := Lib.hid hvb
        clear hB hva hvb hC
        gi_wp2
        go_wp2_with fail
        go_roundw
        case rel => exact ⟨k + 1, by omega, by go_num, rfl, HB.out, Hva.out, Hvb.out⟩
        case measure => simp [intOf]; omega
    · obtain rfl : k = 9 := by omega
      go_wp2_with fail
      go_ret
      exact ⟨_, rfl, World.ownsRow_nil _ _ _ _, HB.out⟩

set_option maxRecDepth 100000 in
set_option maxHeartbeats 4000000 in
theorem refLacks_badT (a b : Nat → Int) (w : World) (ha : vecOk a = true) (hb : vecOk a = true → vecOk b = false) : Calls Try.prog 21 #[vecV a, vecV b] w (GivesRow 36 3 0 [] w) := by
  have Hb := Lib.hid hb
  have Ha := Lib.hid ha
  clear ha hb
  go_enter Try.func21, Try.ntmps21
  simp only [vecV, lit9]
  go_wp2_with fail
  have hB : Below w.heap.size w ((w.alloc (.cells (lit9 a) 24)).alloc (.cells (lit9 b) 24)) := ((Below.refl _ _).alloc (Nat.le_refl _) _).alloc (by simp) _
  have hva := heap_alloc_keeps (World.alloc_heap_new w (.cells (lit9 a) 24)) (.cells (lit9 b) 24)
  have hvb := newBlock (w.alloc (.cells (lit9 a) 24)) (.cells (lit9 b) 24) (w.heap.size + 1) (by simp)
  have HB := Lib.hid hB
  have Hva := Lib.hid hva
  have Hvb := Lib.hid hvb
  clear hB hva hvb
  go_loopw [5, 6] (fun o i wr => ∃ k : Nat, k ≤ 9 ∧ i = .int .i64 k ∧ o = .slice none 0 0 ∧ Below w.heap.size w wr ∧ wr.heap[w.heap.size]? = some (.cells (lit9 a) 24 (0, 0)) ∧ wr.heap[w.heap.size + 1]? = some (.cells (lit9 b) 24 (0, 0))) (fun _ i _ => 9 - (intOf i).toNat)
  case atStart => exact ⟨1, by omega, rfl, rfl, HB.out, Hva.out, Hvb.out⟩
  case round =>
    obtain ⟨k, hk, rfl, rfl, hB, hva, hvb⟩ := hrel
    clear HB Hva Hvb
    have HB := Lib.hid hB
    have Hva := Lib.hid hva
    have Hvb := Lib.hid hvb
    clear hB hva hvb
    by_cases hk9 : k < 9
    · have hki : (k : Int) ≤ 8 := by omega
      go_wp2_with fail
      refine (wpIn_wide (n := 0)).1 ?_
      apply wp_region_vals 15 (Rl := [(eqv _), (eqv _), (eqv _), (eqv _), (eqv _), (eqv _), (eqv _), (fun v_ _ => v_ = (undef : Value)), (fun v_ _ => v_ = (undef : Value)), (fun v_ _ => v_ = (undef : Value)), (fun v_ _ => v_ = (undef : Value)), (fun v_ _ => v_ = (undef : Value)), (fun v_ _ => v_ = (undef : Value)), (fun v_ _ => v_ = (undef : Value)), (eqv _)]) (C := (fun x y => Below x.heap.size x y))
      case hm => kernel_rfl
      case hk => rfl
      case hCr => exact (fun _ => Below.refl _ _)
      case hCt => intro _ _ _; exact (fun h k => grows_trans h k)
      case hst => exact ⟨fun _ _ _ _ h => h, fun _ _ _ _ h => h, fun _ _ _ _ h => h, fun _ _ _ _ h => h, fun _ _ _ _ h => h, fun _ _ _ _ h => h, fun _ _ _ _ h => h, fun _ _ _ _ h => h, fun _ _ _ _ h => h, fun _ _ _ _ h => h, fun _ _ _ _ h => h, fun _ _ _ _ h => h, fun _ _ _ _ h => h, fun _ _ _ _ h => h, fun _ _ _ _ h => h, trivial⟩
      case hfo => kernel_rfl
      case ht => kernel_rfl
      case hC0 => exact (grows_drew _)
      case hsteps =>
        refine ⟨?_, ?_, ?_, ?_, ?_, ?_, ?_, ?_, ?_, ?_, ?_, ?_, ?_, ?_, ?_, trivial⟩
        · -- 0
          intro a' w' hA hC hD
          have s2 : a'.tmps[2]? = some _ := (hA.at 2 (by kernel_rfl)).trans rfl
          obtain ⟨a0, a1, a2, a3, a4, a5, a6, a7, a8⟩ := vec9 ((hC.block _ (block_lt Hva.out)).trans Hva.out)
          clear hA hD
          refine stepOk_plain rfl ?_
          intro K hK
          gi_wp2
          exact hK _ _ rfl ((fun _ => Below.refl _ _) _)
        · -- 1
          intro a' w' hA hC hD
          obtain ⟨u11, s11, r11⟩ := hD ⟨0, .data⟩ (by simp) rfl _ rfl
          replace r11 : u11 = _ := r11
          subst r11
          clear hA hD
          refine stepOk_plain rfl ?_
          intro K hK
          gi_wp2_with fail; refine (callsIn_wide.2 (right_any _ _)).mono ?_; rintro e w2 ⟨rfl, hb⟩; rw [Ha.out]
          exact hK _ _ rfl hb
        · -- 2
          intro a' w' hA hC hD
          obtain ⟨u12, s12, r12⟩ := hD ⟨1, .data⟩ (by simp) rfl _ rfl
          replace r12 : u12 = _ := r12
          subst r12
          clear hA hD
          refine stepOk_plain rfl ?_
          intro K hK
          gi_wp2
          exact hK _ _ rfl ((fun _ => Below.refl _ _) _)
        · -- 3
          intro a' w' hA hC hD
          have s3 : a'.tmps[3]? = some _ := (hA.at 3 (by kernel_rfl)).trans rfl
          obtain ⟨u13, s13, r13⟩ := hD ⟨2, .guard⟩ (by simp) rfl _ rfl
          replace r13 : u13 = _ := r13
          subst r13
          obtain ⟨b0, b1, b2, b3, b4, b5, b6, b7, b8⟩ := vec9 ((hC.block _ (block_lt Hvb.out)).trans Hvb.out)
          clear hA hD
          refine stepOk_want rfl rfl s13 ?_
          intro K hK
          gi_wp2
          exact hK _ _ rfl ((fun _ => Below.refl _ _) _)
        · -- 4
          intro a' w' hA hC hD
          obtain ⟨u14, s14, r14⟩ := hD ⟨3, .data⟩ (by simp) rfl _ rfl
          replace r14 : u14 = _ := r14
          subst r14
          obtain ⟨u13, s13, r13⟩ := hD ⟨2, .chain⟩ (by simp) rfl _ rfl
          replace r13 : u13 = _ := r13
          subst r13
          clear hA hD
          refine stepOk_want rfl rfl s13 ?_
          intro K hK
          gi_wp2_with fail; refine (callsIn_wide.2 (right_any _ _)).mono ?_; rintro e w2 ⟨rfl, hb⟩; rw [Hb.out Ha.out]
          exact hK _ _ rfl hb
        · -- 5
          intro a' w' hA hC hD
          obtain ⟨u13, s13, r13⟩ := hD ⟨2, .data⟩ (by simp) rfl _ rfl
          replace r13 : u13 = _ := r13
          subst r13
          obtain ⟨u15, s15, r15⟩ := hD ⟨4, .data⟩ (by simp) rfl _ rfl
          replace r15 : u15 = _ := r15
          subst r15
          clear hA hD
          refine stepOk_plain rfl ?_
          intro K hK
          gi_wp2
          exact hK _ _ rfl ((fun _ => Below.refl _ _) _)
        · -- 6
          intro a' w' hA hC hD
          obtain ⟨u16, s16, r16⟩ := hD ⟨5, .data⟩ (by simp) rfl _ rfl
          replace r16 : u16 = _ := r16
          subst r16
          clear hA hD
          refine stepOk_plain rfl ?_
          intro K hK
          gi_wp2
          exact hK _ _ rfl ((fun _ => Below.refl _ _) _)
        · -- 7
          intro a' w' hA hC hD
          have s6 : a'.tmps[6]? = some _ := (hA.at 6 (by kernel_rfl)).trans rfl
          obtain ⟨u17, s17, r17⟩ := hD ⟨6, .guard⟩ (by simp) rfl _ rfl
          replace r17 : u17 = _ := r17
          subst r17
          clear hA hD
          exact stepOk_skip rfl rfl s17 rfl
        · -- 8
          intro a' w' hA hC hD
          have s3 : a'.tmps[3]? = some _ := (hA.at 3 (by kernel_rfl)).trans rfl
          obtain ⟨u18, s18, r18⟩ := hD ⟨7, .data⟩ (by simp) rfl _ rfl
          replace r18 : u18 = undef := r18
          subst r18
          obtain ⟨u17, s17, r17⟩ := hD ⟨6, .guard⟩ (by simp) rfl _ rfl
          replace r17 : u17 = _ := r17
          subst r17
          clear hA hD
          exact stepOk_skip rfl rfl s17 rfl
        · -- 9
          intro a' w' hA hC hD
          obtain ⟨u19, s19, r19⟩ := hD ⟨8, .data⟩ (by simp) rfl _ rfl
          replace r19 : u19 = undef := r19
          subst r19
          obtain ⟨u17, s17, r17⟩ := hD ⟨6, .guard⟩ (by simp) rfl _ rfl
          replace r17 : u17 = _ := r17
          subst r17
          clear hA hD
          exact stepOk_skip rfl rfl s17 rfl
        · -- 10
          intro a' w' hA hC hD
          have s6 : a'.tmps[6]? = some _ := (hA.at 6 (by kernel_rfl)).trans rfl
          obtain ⟨u17, s17, r17⟩ := hD ⟨6, .guard⟩ (by simp) rfl _ rfl
          replace r17 : u17 = _ := r17
          subst r17
          clear hA hD
          exact stepOk_skip rfl rfl s17 rfl
        · -- 11
          intro a' w' hA hC hD
          have s2 : a'.tmps[2]? = some _ := (hA.at 2 (by kernel_rfl)).trans rfl
          obtain ⟨u21, s21, r21⟩ := hD ⟨10, .data⟩ (by simp) rfl _ rfl
          replace r21 : u21 = undef := r21
          subst r21
          obtain ⟨u17, s17, r17⟩ := hD ⟨6, .guard⟩ (by simp) rfl _ rfl
          replace r17 : u17 = _ := r17
          subst r17
          clear hA hD
          exact stepOk_skip rfl rfl s17 rfl
        · -- 12
          intro a' w' hA hC hD
          obtain ⟨u22, s22, r22⟩ := hD ⟨11, .data⟩ (by simp) rfl _ rfl
          replace r22 : u22 = undef := r22
          subst r22
          obtain ⟨u17, s17, r17⟩ := hD ⟨6, .guard⟩ (by simp) rfl _ rfl
          replace r17 : u17 = _ := r17
          subst r17
          clear hA hD
          exact stepOk_skip rfl rfl s17 rfl
        · -- 13
          intro a' w' hA hC hD
          obtain ⟨u20, s20, r20⟩ := hD ⟨9, .data⟩ (by simp) rfl _ rfl
          replace r20 : u20 = undef := r20
          subst r20
          obtain ⟨u23, s23, r23⟩ := hD ⟨12, .data⟩ (by simp) rfl _ rfl
          replace r23 : u23 = undef := r23
          subst r23
          obtain ⟨u17, s17, r17⟩ := hD ⟨6, .guard⟩ (by simp) rfl _ rfl
          replace r17 : u17 = _ := r17
          subst r17
          clear hA hD
          exact stepOk_skip rfl rfl s17 rfl
        · -- 14
          intro a' w' hA hC hD
          obtain ⟨u17, s17, r17⟩ := hD ⟨6, .data⟩ (by simp) rfl _ rfl
          replace r17 : u17 = _ := r17
          subst r17
          obtain ⟨u24, s24, r24⟩ := hD ⟨13, .data⟩ (by simp) rfl _ rfl
          replace r24 : u24 = undef := r24
          subst r24
          clear hA hD
          refine stepOk_plain rfl ?_
          intro K hK
          gi_wp2
          exact hK _ _ rfl ((fun _ => Below.refl _ _) _)
      case hend =>
        intro w3 hC
        simp only [EndFrom, eqv, forall_eq, Act.put, List.length_cons, List.length_nil, List.drop_succ_cons, List.drop_zero, Nat.reduceAdd, List.setIfInBounds_toArray, List.set_cons_succ, List.set_cons_zero]
        have hva := (hC.block _ (block_lt Hva.out)).trans Hva.out
        have hvb := (hC.block _ (block_lt Hvb.out)).trans Hvb.out
        have hB := HB.out.trans (hC.mono HB.out.size)
        clear HB Hva Hvb
        have HB := Lib.hid hB
        have Hva := Lib.hid hva
        have Hvb := Lib.hid hvb
        clear hB hva hvb hC
        gi_wp2
        go_wp2_with fail
        go_roundw
        case rel => exact ⟨k + 1, by omega, by go_num, rfl, HB.out, Hva.out, Hvb.out⟩
        case measure => simp [intOf]; omega
    · obtain rfl : k = 9 := by omega
      go_wp2_with fail
      go_ret
      exact ⟨_, rfl, World.ownsRow_nil _ _ _ _, HB.out⟩

set_option maxRecDepth 100000 in
set_option maxHeartbeats 4000000 in
theorem refLacks_good (a b : Nat → Int) (ha0 : ∀ k, 0 ≤ a k) (w : World) (ha : vecOk a = true) (hb : vecOk b = true) : Calls Try.prog 21 #[vecV a, vecV b] w (GivesRow 36 3 (lackOf a b (List.finRange 8)).length ((lackOf a b (List.finRange 8)).flatMap StrT.cells) w) := by
  have ham : ∀ k, 1 ≤ k → k < 9 → a k ≤ 4611686018427387904 := by
    have h := ha
    unfold vecOk at h
    simp only [Bool.and_eq_true] at h
    exact fun k h1 h9 => (sitesOk_iff a).1 h.2 k h1 h9
  have Ham := Lib.hid ham
  have Ha0 := Lib.hid ha0
  have Hb := Lib.hid hb
  have Ha := Lib.hid ha
  clear ha hb ham ha0
  go_enter Try.func21, Try.ntmps21
  simp only [vecV, lit9]
  go_wp2_with fail
  have hB : Below w.heap.size w ((w.alloc (.cells (lit9 a) 24)).alloc (.cells (lit9 b) 24)) := ((Below.refl _ _).alloc (Nat.le_refl _) _).alloc (by simp) _
  have hva := heap_alloc_keeps (World.alloc_heap_new w (.cells (lit9 a) 24)) (.cells (lit9 b) 24)
  have hvb := newBlock (w.alloc (.cells (lit9 a) 24)) (.cells (lit9 b) 24) (w.heap.size + 1) (by simp)
  have HB := Lib.hid hB
  have Hva := Lib.hid hva
  have Hvb := Lib.hid hvb
  clear hB hva hvb
  go_loopw [5, 6] (fun o i wr => ∃ k : Nat, k ≤ 8 ∧ i = .int .i64 ((k + 1 : Nat) : Int) ∧ wr.ownsRow (w.heap.size + 2) 36 3 o (lackOf a b (firsts 8 k)).length ((lackOf a b (firsts 8 k)).flatMap StrT.cells) ∧ Below w.heap.size w wr ∧ w.heap.size + 2 ≤ wr.heap.size ∧ wr.heap[w.heap.size]? = some (.cells (lit9 a) 24 (0, 0)) ∧ wr.heap[w.heap.size + 1]? = some (.cells (lit9 b) 24 (0, 0))) (fun _ i _ => 9 - (intOf i).toNat)
  case atStart => exact ⟨0, by omega, rfl, World.ownsRow_nil _ _ _ _, HB.out, by simp, Hva.out, Hvb.out⟩
  case round =>
    obtain ⟨k, hk, rfl, hrow, hB, hsz, hva, hvb⟩ := hrel
    clear HB Hva Hvb
    have HB := Lib.hid hB
    have Hrow := Lib.hid hrow
    have Hsz := Lib.hid hsz
    have Hva := Lib.hid hva
    have Hvb := Lib.hid hvb
    clear hB hrow hsz hva hvb
    by_cases hk9 : k < 8
    · obtain ⟨s, hs⟩ : ∃ s : Nat, s = k + 1 := ⟨_, rfl⟩
      rw [← hs]
      have hki : (s : Int) ≤ 8 := by omega
      have hs9 : s < 9 := by omega
      have hsn := lackOf_snoc a b (firsts 8 k) ⟨k, hk9⟩
      rw [firsts_succ hk9] at hsn
      dsimp only at hsn
      rw [← hs] at hsn
      have Hsn := Lib.hid hsn
      have Hs := Lib.hid hs
      clear hsn hs
      by_cases hlt : a s < b s
      all_goals
        go_wp2_with fail
        refine (wpIn_wide (n := 0)).1 ?_
        apply wp_region_vals 15 (Rl := [(eqv _), (eqv _), (eqv _), (eqv _), (eqv _), (eqv _), (eqv _), (eqv _), (eqv _), (eqv _), (eqv _), (eqv _), (eqv _), (eqv _), (eqv _)]) (C := (fun x y => Below x.heap.size x y))
        case hm => kernel_rfl
        case hk => rfl
        case hCr => exact (fun _ => Below.refl _ _)
        case hCt => intro _ _ _; exact (fun h k => grows_trans h k)
        case hst => exact ⟨fun _ _ _ _ h => h, fun _ _ _ _ h => h, fun _ _ _ _ h => h, fun _ _ _ _ h => h, fun _ _ _ _ h => h, fun _ _ _ _ h => h, fun _ _ _ _ h => h, fun _ _ _ _ h => h, fun _ _ _ _ h => h, fun _ _ _ _ h => h, fun _ _ _ _ h => h, fun _ _ _ _ h => h, fun _ _ _ _ h => h, fun _ _ _ _ h => h, fun _ _ _ _ h => h, trivial⟩
        case hfo => kernel_rfl
        case ht => kernel_rfl
        case hC0 => exact (grows_drew _)
        case hsteps =>
          refine ⟨?_, ?_, ?_, ?_, ?_, ?_, ?_, ?_, ?_, ?_, ?_, ?_, ?_, ?_, ?_, trivial⟩
          · -- 0
            intro a' w' hA hC hD
            have s2 : a'.tmps[2]? = some _ := (hA.at 2 (by kernel_rfl)).trans rfl
            obtain ⟨a0, a1, a2, a3, a4, a5, a6, a7, a8⟩ := vec9 ((hC.block _ (block_lt Hva.out)).trans Hva.out)
            clear hA hD
            refine stepOk_plain rfl ?_
            intro K hK
            gi_wp2
            exact hK _ _ rfl ((fun _ => Below.refl _ _) _)
          · -- 1
            intro a' w' hA hC hD
            obtain ⟨u11, s11, r11⟩ := hD ⟨0, .data⟩ (by simp) rfl _ rfl
            replace r11 : u11 = _ := r11
            subst r11
            clear hA hD
            refine stepOk_plain rfl ?_
            intro K hK
            gi_wp2_with fail; refine (callsIn_wide.2 (right_any _ _)).mono ?_; rintro e w2 ⟨rfl, hb⟩; rw [Ha.out]
            exact hK _ _ rfl hb
          · -- 2
            intro a' w' hA hC hD
            obtain ⟨u12, s12, r12⟩ := hD ⟨1, .data⟩ (by simp) rfl _ rfl
            replace r12 : u12 = _ := r12
            subst r12
            clear hA hD
            refine stepOk_plain rfl ?_
            intro K hK
            gi_wp2
            exact hK _ _ rfl ((fun _ => Below.refl _ _) _)
          · -- 3
            intro a' w' hA hC hD
            have s3 : a'.tmps[3]? = some _ := (hA.at 3 (by kernel_rfl)).trans rfl
            obtain ⟨u13, s13, r13⟩ := hD ⟨2, .guard⟩ (by simp) rfl _ rfl
            replace r13 : u13 = _ := r13
            subst r13
            obtain ⟨b0, b1, b2, b3, b4, b5, b6, b7, b8⟩ := vec9 ((hC.block _ (block_lt Hvb.out)).trans Hvb.out)
            clear hA hD
            refine stepOk_want rfl rfl s13 ?_
            intro K hK
            gi_wp2
            exact hK _ _ rfl ((fun _ => Below.refl _ _) _)
          · -- 4
            intro a' w' hA hC hD
            obtain ⟨u14, s14, r14⟩ := hD ⟨3, .data⟩ (by simp) rfl _ rfl
            replace r14 : u14 = _ := r14
            subst r14
            obtain ⟨u13, s13, r13⟩ := hD ⟨2, .chain⟩ (by simp) rfl _ rfl
            replace r13 : u13 = _ := r13
            subst r13
            clear hA hD
            refine stepOk_want rfl rfl s13 ?_
            intro K hK
            gi_wp2_with fail; refine (callsIn_wide.2 (right_any _ _)).mono ?_; rintro e w2 ⟨rfl, hb⟩; rw [Hb.out]
            exact hK _ _ rfl hb
          · -- 5
            intro a' w' hA hC hD
            obtain ⟨u13, s13, r13⟩ := hD ⟨2, .data⟩ (by simp) rfl _ rfl
            replace r13 : u13 = _ := r13
            subst r13
            obtain ⟨u15, s15, r15⟩ := hD ⟨4, .data⟩ (by simp) rfl _ rfl
            replace r15 : u15 = _ := r15
            subst r15
            clear hA hD
            refine stepOk_plain rfl ?_
            intro K hK
            gi_wp2
            exact hK _ _ rfl ((fun _ => Below.refl _ _) _)
          · -- 6
            intro a' w' hA hC hD
            obtain ⟨u16, s16, r16⟩ := hD ⟨5, .data⟩ (by simp) rfl _ rfl
            replace r16 : u16 = _ := r16
            subst r16
            clear hA hD
            refine stepOk_plain rfl ?_
            intro K hK
            gi_wp2
            exact hK _ _ rfl ((fun _ => Below.refl _ _) _)
          · -- 7
            intro a' w' hA hC hD
            have s6 : a'.tmps[6]? = some _ := (hA.at 6 (by kernel_rfl)).trans rfl
            obtain ⟨u17, s17, r17⟩ := hD ⟨6, .guard⟩ (by simp) rfl _ rfl
            replace r17 : u17 = _ := r17
            subst r17
            clear hA hD
            refine stepOk_want rfl rfl s17 ?_
            intro K hK
            gi_wp2
            exact hK _ _ rfl ((fun _ => Below.refl _ _) _)
          · -- 8
            intro a' w' hA hC hD
            have s3 : a'.tmps[3]? = some _ := (hA.at 3 (by kernel_rfl)).trans rfl
            obtain ⟨u18, s18, r18⟩ := hD ⟨7, .data⟩ (by simp) rfl _ rfl
            replace r18 : u18 = _ := r18
            subst r18
            obtain ⟨u17, s17, r17⟩ := hD ⟨6, .guard⟩ (by simp) rfl _ rfl
            replace r17 : u17 = _ := r17
            subst r17
            clear hA hD
            refine stepOk_want rfl rfl s17 ?_
            intro K hK
            gi_wp2
            exact hK _ _ rfl ((fun _ => Below.refl _ _) _)
          · -- 9
            intro a' w' hA hC hD
            obtain ⟨u19, s19, r19⟩ := hD ⟨8, .data⟩ (by simp) rfl _ rfl
            replace r19 : u19 = _ := r19
            subst r19
            obtain ⟨u17, s17, r17⟩ := hD ⟨6, .guard⟩ (by simp) rfl _ rfl
            replace r17 : u17 = _ := r17
            subst r17
            have c9 := cell_of_block ((hC.block _ (block_lt Hvb.out)).trans Hvb.out) (lit9_get b _ hs9)
            clear hA hD
            refine stepOk_want rfl rfl s17 ?_
            intro K hK
            gi_wp2
            exact hK _ _ rfl ((fun _ => Below.refl _ _) _)
          · -- 10
            intro a' w' hA hC hD
            have s6 : a'.tmps[6]? = some _ := (hA.at 6 (by kernel_rfl)).trans rfl
            obtain ⟨u17, s17, r17⟩ := hD ⟨6, .guard⟩ (by simp) rfl _ rfl
            replace r17 : u17 = _ := r17
            subst r17
            clear hA hD
            refine stepOk_want rfl rfl s17 ?_
            intro K hK
            gi_wp2
            exact hK _ _ rfl ((fun _ => Below.refl _ _) _)
          · -- 11
            intro a' w' hA hC hD
            have s2 : a'.tmps[2]? = some _ := (hA.at 2 (by kernel_rfl)).trans rfl
            obtain ⟨u21, s21, r21⟩ := hD ⟨10, .data⟩ (by simp) rfl _ rfl
            replace r21 : u21 = _ := r21
            subst r21
            obtain ⟨u17, s17, r17⟩ := hD ⟨6, .guard⟩ (by simp) rfl _ rfl
            replace r17 : u17 = _ := r17
            subst r17
            clear hA hD
            refine stepOk_want rfl rfl s17 ?_
            intro K hK
            gi_wp2
            exact hK _ _ rfl ((fun _ => Below.refl _ _) _)
          · -- 12
            intro a' w' hA hC hD
            obtain ⟨u22, s22, r22⟩ := hD ⟨11, .data⟩ (by simp) rfl _ rfl
            replace r22 : u22 = _ := r22
            subst r22
            obtain ⟨u17, s17, r17⟩ := hD ⟨6, .guard⟩ (by simp) rfl _ rfl
            replace r17 : u17 = _ := r17
            subst r17
            have c9 := cell_of_block ((hC.block _ (block_lt Hva.out)).trans Hva.out) (lit9_get a _ hs9)
            clear hA hD
            refine stepOk_want rfl rfl s17 ?_
            intro K hK
            gi_wp2
            exact hK _ _ rfl ((fun _ => Below.refl _ _) _)
          · -- 13
            intro a' w' hA hC hD
            obtain ⟨u20, s20, r20⟩ := hD ⟨9, .data⟩ (by simp) rfl _ rfl
            replace r20 : u20 = _ := r20
            subst r20
            obtain ⟨u23, s23, r23⟩ := hD ⟨12, .data⟩ (by simp) rfl _ rfl
            replace r23 : u23 = _ := r23
            subst r23
            obtain ⟨u17, s17, r17⟩ := hD ⟨6, .guard⟩ (by simp) rfl _ rfl
            replace r17 : u17 = _ := r17
            subst r17
            clear hA hD
            refine stepOk_want rfl rfl s17 ?_
            intro K hK
            gi_wp2
            exact hK _ _ rfl ((fun _ => Below.refl _ _) _)
          · -- 14
            intro a' w' hA hC hD
            obtain ⟨u17, s17, r17⟩ := hD ⟨6, .data⟩ (by simp) rfl _ rfl
            replace r17 : u17 = _ := r17
            subst r17
            obtain ⟨u24, s24, r24⟩ := hD ⟨13, .data⟩ (by simp) rfl _ rfl
            replace r24 : u24 = _ := r24
            subst r24
            clear hA hD
            refine stepOk_plain rfl ?_
            intro K hK
            gi_wp2
            exact hK _ _ rfl ((fun _ => Below.refl _ _) _)
      · case hend =>
          intro w3 hC
          simp only [EndFrom, eqv, forall_eq, Act.put, List.length_cons, List.length_nil, List.drop_succ_cons, List.drop_zero, Nat.reduceAdd, List.setIfInBounds_toArray, List.set_cons_succ, List.set_cons_zero]
          have hva := (hC.block _ (block_lt Hva.out)).trans Hva.out
          have hvb := (hC.block _ (block_lt Hvb.out)).trans Hvb.out
          have hB := HB.out.trans (hC.mono HB.out.size)
          have hrow := ownsRow_below Hrow.out hC
          have hsz := Nat.le_trans Hsz.out hC.size
          clear HB Hva Hvb Hrow Hsz
          have HB := Lib.hid hB
          have Hrow := Lib.hid hrow
          have Hsz := Lib.hid hsz
          have Hva := Lib.hid hva
          have Hvb := Lib.hid hvb
          clear hB hva hvb hC hrow hsz
          gi_wp2
          go_wp2_with fail
          have Hlt := Lib.hid hlt
          clear hlt
          have Hsm := Lib.hid (show (lackOf a b (firsts 8 k)).length + 1 ≤ 8 by
            have : (lackOf a b (firsts 8 k)).length ≤ (firsts 8 k).length := by unfold lackOf; rw [List.length_map]; exact List.length_filter_le _ _
            rw [firsts_length (by omega)] at this
            omega)
          have b2 := Ham.out s (by have := Hs.out; omega) hs9
          have b1 := Ha0.out s
          refine (wpIn_wide (n := 0)).1 ?_
          apply wp_region_vals 11 (Rl := [(eqv _), (eqv _), (eqv _), (eqv _), (eqv _), (eqv _), (eqv _), (eqv _), (eqv _), (eqv _), (fun v_ w_ => ∃ q, v_ = .slice (some ⟨q, 0, none⟩) 1 1 ∧ w_.heap[q]? = some (.cells #[.int .i64 s, .int .u64 (a s + 1), .int .u64 (b s)] 36 (0, 0)))]) (C := (fun x y => Below x.heap.size x y))
          case hm => kernel_rfl
          case hk => rfl
          case hCr => exact (fun _ => Below.refl _ _)
          case hCt => intro _ _ _; exact (fun h k => grows_trans h k)
          case hst => exact ⟨fun _ _ _ _ h => h, fun _ _ _ _ h => h, fun _ _ _ _ h => h, fun _ _ _ _ h => h, fun _ _ _ _ h => h, fun _ _ _ _ h => h, fun _ _ _ _ h => h, fun _ _ _ _ h => h, fun _ _ _ _ h => h, fun _ _ _ _ h => h, fun _ _ _ hC ⟨q, e, h⟩ => ⟨q, e, (hC.block _ (block_lt h)).trans h⟩, trivial⟩
          case hfo => kernel_rfl
          case ht => kernel_rfl
          case hC0 => exact (grows_drew _)
          case hsteps =>
            refine ⟨?_, ?_, ?_, ?_, ?_, ?_, ?_, ?_, ?_, ?_, ?_, trivial⟩
            · -- 0
              intro a' w' hA hC hD
              have s5 : a'.tmps[5]? = some _ := (hA.at 5 (by kernel_rfl)).trans rfl
              clear hA hD
              refine stepOk_plain rfl ?_
              intro K hK
              gi_wp2
              exact hK _ _ rfl ((fun _ => Below.refl _ _) _)
            · -- 1
              intro a' w' hA hC hD
              have s6 : a'.tmps[6]? = some _ := (hA.at 6 (by kernel_rfl)).trans rfl
              clear hA hD
              refine stepOk_plain rfl ?_
              intro K hK
              gi_wp2
              exact hK _ _ rfl ((fun _ => Below.refl _ _) _)
            · -- 2
              intro a' w' hA hC hD
              have s6 : a'.tmps[6]? = some _ := (hA.at 6 (by kernel_rfl)).trans rfl
              clear hA hD
              refine stepOk_plain rfl ?_
              intro K hK
              gi_wp2
              exact hK _ _ rfl ((fun _ => Below.refl _ _) _)
            · -- 3
              intro a' w' hA hC hD
              have s2 : a'.tmps[2]? = some _ := (hA.at 2 (by kernel_rfl)).trans rfl
              obtain ⟨u28, s28, r28⟩ := hD ⟨2, .data⟩ (by simp) rfl _ rfl
              replace r28 : u28 = _ := r28
              subst r28
              clear hA hD
              refine stepOk_plain rfl ?_
              intro K hK
              gi_wp2
              exact hK _ _ rfl ((fun _ => Below.refl _ _) _)
            · -- 4
              intro a' w' hA hC hD
              obtain ⟨u29, s29, r29⟩ := hD ⟨3, .data⟩ (by simp) rfl _ rfl
              replace r29 : u29 = _ := r29
              subst r29
              have c9 := cell_of_block ((hC.block _ (block_lt Hva.out)).trans Hva.out) (lit9_get a _ hs9)
              clear hA hD
              refine stepOk_plain rfl ?_
              intro K hK
              gi_wp2
              exact hK _ _ rfl ((fun _ => Below.refl _ _) _)
            · -- 5
              intro a' w' hA hC hD
              obtain ⟨u30, s30, r30⟩ := hD ⟨4, .data⟩ (by simp) rfl _ rfl
              replace r30 : u30 = _ := r30
              subst r30
              clear hA hD
              refine stepOk_plain rfl ?_
              intro K hK
              gi_wp2
              exact hK _ _ rfl ((fun _ => Below.refl _ _) _)
            · -- 6
              intro a' w' hA hC hD
              have s6 : a'.tmps[6]? = some _ := (hA.at 6 (by kernel_rfl)).trans rfl
              clear hA hD
              refine stepOk_plain rfl ?_
              intro K hK
              gi_wp2
              exact hK _ _ rfl ((fun _ => Below.refl _ _) _)
            · -- 7
              intro a' w' hA hC hD
              have s3 : a'.tmps[3]? = some _ := (hA.at 3 (by kernel_rfl)).trans rfl
              obtain ⟨u32, s32, r32⟩ := hD ⟨6, .data⟩ (by simp) rfl _ rfl
              replace r32 : u32 = _ := r32
              subst r32
              clear hA hD
              refine stepOk_plain rfl ?_
              intro K hK
              gi_wp2
              exact hK _ _ rfl ((fun _ => Below.refl _ _) _)
            · -- 8
              intro a' w' hA hC hD
              obtain ⟨u33, s33, r33⟩ := hD ⟨7, .data⟩ (by simp) rfl _ rfl
              replace r33 : u33 = _ := r33
              subst r33
              have c9 := cell_of_block ((hC.block _ (block_lt Hvb.out)).trans Hvb.out) (lit9_get b _ hs9)
              clear hA hD
              refine stepOk_plain rfl ?_
              intro K hK
              gi_wp2
              exact hK _ _ rfl ((fun _ => Below.refl _ _) _)
            · -- 9
              intro a' w' hA hC hD
              obtain ⟨u27, s27, r27⟩ := hD ⟨1, .data⟩ (by simp) rfl _ rfl
              replace r27 : u27 = _ := r27
              subst r27
              obtain ⟨u31, s31, r31⟩ := hD ⟨5, .data⟩ (by simp) rfl _ rfl
              replace r31 : u31 = _ := r31
              subst r31
              obtain ⟨u34, s34, r34⟩ := hD ⟨8, .data⟩ (by simp) rfl _ rfl
              replace r34 : u34 = _ := r34
              subst r34
              clear hA hD
              refine stepOk_plain rfl ?_
              intro K hK
              gi_wp2
              exact hK _ _ rfl ((fun _ => Below.refl _ _) _)
            · -- 10
              intro a' w' hA hC hD
              obtain ⟨u35, s35, r35⟩ := hD ⟨9, .data⟩ (by simp) rfl _ rfl
              replace r35 : u35 = _ := r35
              subst r35
              clear hA hD
              refine stepOk_plain rfl ?_
              intro K hK
              gi_wp2
              exact hK (.slice (some ⟨w'.heap.size, 0, none⟩) 1 1) _ ⟨w'.heap.size, rfl, World.alloc_heap_new _ _⟩ ((Below.refl _ _).alloc (Nat.le_refl _) _)
          case hend =>
            intro w4 hC
            simp only [EndFrom, eqv, forall_eq, Act.put, List.length_cons, List.length_nil, List.drop_succ_cons, List.drop_zero, Nat.reduceAdd, List.setIfInBounds_toArray, List.set_cons_succ, List.set_cons_zero]
            rintro _ ⟨q, rfl, hq⟩
            obtain ⟨i0, hi, hz0, hz1, hz2⟩ := info_parts infoStr
            have hrow4 := ownsRow_below Hrow.out hC
            have hbase := Nat.le_trans Hsz.out hC.size
            have hsmall := Hsm.out
            gi_wp2_with (gi_at_builtin; refine wpListIn_append_own _ rfl _ _ 31 rfl (w.heap.size + 2) 36 i0 (.agg #[.int .i64 0, .int .u64 0, .int .u64 0]) 3 24 Try.underlying31 hi hz0 hz1 hz2 rfl (by decide) _ _ _ rfl hrow4 ⟨q, 0, none⟩ 1 1 [.int .i64 (s : Int), .int .u64 (a s + 1), .int .u64 (b s)] rfl rfl (cells_of_block hq) (by simp [Value.oneCell']) (by unfold maxLen; omega) (by omega) hbase ?_; intro v' w5 hown' hgrow _; have HO := Lib.hid hown'; have HG := Lib.hid hgrow; clear hown' hgrow hq)
            have hown5 := HO.out
            have hsz5 := Nat.le_trans hbase HG.out.size
            have hB5 := (HB.out.trans (hC.mono HB.out.size)).grown HG.out (by omega) (fun j e => by have := (hrow4.lt j e).1; omega)
            have hva5 := (HG.out.block _ (by omega) (fun e => by have := (hrow4.lt _ e.symm).1; omega)).trans ((hC.block _ (block_lt Hva.out)).trans Hva.out)
            have hvb5 := (HG.out.block _ (by omega) (fun e => by have := (hrow4.lt _ e.symm).1; omega)).trans ((hC.block _ (block_lt Hvb.out)).trans Hvb.out)
            have HB5 := Lib.hid hB5
            have HVA := Lib.hid hva5
            have HVB := Lib.hid hvb5
            have HS5 := Lib.hid hsz5
            clear hsmall hown5 hsz5 hB5 hva5 hvb5 hbase hrow4 hC
            go_wp2_with fail
            go_roundw
            case rel =>
              refine ⟨k + 1, by omega, by rw [Hs.out]; go_num, ?_, HB5.out, HS5.out, HVA.out, HVB.out⟩
              rw [← Hs.out, Hsn.out, if_pos Hlt.out, List.length_append, List.flatMap_append, Hs.out]
              have h := HO.out
              rw [Hs.out] at h
              simpa [StrT.cells] using h
            case measure => simp [intOf]; omega
      · case hend =>
          intro w3 hC
          simp only [EndFrom, eqv, forall_eq, Act.put, List.length_cons, List.length_nil, List.drop_succ_cons, List.drop_zero, Nat.reduceAdd, List.setIfInBounds_toArray, List.set_cons_succ, List.set_cons_zero]
          have hva := (hC.block _ (block_lt Hva.out)).trans Hva.out
          have hvb := (hC.block _ (block_lt Hvb.out)).trans Hvb.out
          have hB := HB.out.trans (hC.mono HB.out.size)
          have hrow := ownsRow_below Hrow.out hC
          have hsz := Nat.le_trans Hsz.out hC.size
          clear HB Hva Hvb Hrow Hsz
          have HB := Lib.hid hB
          have Hrow := Lib.hid hrow
          have Hsz := Lib.hid hsz
          have Hva := Lib.hid hva
          have Hvb := Lib.hid hvb
          clear hB hva hvb hC hrow hsz
          gi_wp2
          go_wp2_with fail
          go_roundw
          case rel =>
            refine ⟨k + 1, by omega, by rw [Hs.out]; go_num, ?_, HB.out, Hsz.out, Hva.out, Hvb.out⟩
            rw [← Hs.out, Hsn.out, if_neg (by omega), List.append_nil]
            exact Hrow.out
          case measure => simp [intOf]; omega
    · obtain rfl : k = 8 := by omega
      go_wp2_with fail
      go_ret
      exact ⟨_, rfl, ownsRow_mono (by rw [← firsts_all 8]; exact Hrow.out) (by omega), HB.out⟩

theorem refLacks_any (a b : Nat → Int) (ha0 : ∀ k, 0 ≤ a k) (w : World) : Calls Try.prog 21 #[vecV a, vecV b] w (GivesRow 36 3 (lacks a b).length ((lacks a b).flatMap StrT.cells) w) := by
  unfold lacks
  cases ha : vecOk a
  · rw [if_neg (by simp)]
    exact refLacks_badF a b w ha (fun h => by rw [ha] at h; cases h)
  · cases hb : vecOk b
    · rw [if_neg (by simp)]
      exact refLacks_badT a b w ha (fun _ => hb)
    · rw [if_pos ⟨rfl, rfl⟩]
      exact refLacks_good a b ha0 w ha hb
end Go.Proofs.Ytppaheekpmgifaa
