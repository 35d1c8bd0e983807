/- The document's Text. -/
import Derived.Test.YtppaheekpmgifaaDoorIdS
namespace Go.Proofs.YtppaheekpmgifaaDoor
set_option linter.unusedSimpArgs false
set_option linter.unusedVariables false
open Go.RowKit Go.Shelf Go.Sort Go.Lib

set_option maxRecDepth 100000 in
set_option maxHeartbeats 2000000 in
theorem refText_any (i : IdT) (hi : i.Fits) (w : World) : Calls Tryd.prog 11 #[i.val] w (Gives (str (idText i)) w) := by
  obtain ⟨a1, a2, a3⟩ := i
  obtain ⟨⟨h1, h2⟩, ⟨h3, h4⟩, h5, h6⟩ := hi
  simp only at h1 h2 h3 h4 h5 h6
  obtain ⟨t, rfl⟩ : ∃ t : Nat, a1 = t := ⟨a1.toNat, by omega⟩
  obtain ⟨s, rfl⟩ : ∃ s : Nat, a3 = s := ⟨a3.toNat, by omega⟩
  have L1 := Lib.hid (show (Lib.decDigits t).length ≤ 20 by rw [Lib.decDigits_length]; exact Lib.nDigits_le20 t (by omega))
  have L2 := Lib.hid (Lib.itoa_length_le a2 h3 h4)
  have L3 := Lib.hid (show (Lib.decDigits s).length ≤ 20 by rw [Lib.decDigits_length]; exact Lib.nDigits_le20 s (by omega))
  have H1 := Lib.hid (show t < 18446744073709551616 by omega)
  have H2 := Lib.hid (show s < 18446744073709551616 by omega)
  have HI : ∀ (S : List UInt8) (W : World), S = Lib.itoa a2 → Below w.heap.size w W → W.heap[w.heap.size]? = some (.cells #[.int .u64 t, .int .i64 a2, .int .u64 s] 27 (0, 0)) → True := fun _ _ _ _ _ => trivial
  clear HI
  unfold IdT.val
  by_cases hneg : a2 < 0
  · obtain ⟨m, rfl⟩ : ∃ m : Nat, a2 = -((m + 1 : Nat) : Int) := ⟨(-(a2 + 1)).toNat, by omega⟩
    have hS : Lib.itoa (-((m + 1 : Nat) : Int)) = 45 :: Lib.decDigits (m + 1) := Lib.itoa_neg (m + 1) (by omega)
    have HS := Lib.hid hS
    have HM := Lib.hid (show m + 1 < 18446744073709551616 by omega)
    have LM := Lib.hid (show (Lib.decDigits (m + 1)).length ≤ 20 by rw [Lib.decDigits_length]; exact Lib.nDigits_le20 _ (by omega))
    have q1 : IntKind.i64.wrap (-((m + 1 : Nat) : Int) + 1) = -(m : Int) := by rw [IntKind.wrap_i64]; omega
    have q2 : IntKind.i64.wrap (- -(m : Int)) = (m : Int) := by rw [IntKind.wrap_i64]; omega
    have q3 : IntKind.u64.wrap (m : Int) = (m : Int) := by rw [IntKind.wrap_u64]; omega
    have q4 : IntKind.u64.wrap ((m : Int) + 1) = ((m + 1 : Nat) : Int) := by rw [IntKind.wrap_u64]; omega
    have q0 : decide (-((m + 1 : Nat) : Int) < 0) = true := decide_eq_true (by omega)
    have q5 : IntKind.u64.wrap (IntKind.u64.wrap (wrap64 (m : Int)) + 1) = ((m + 1 : Nat) : Int) := by
      have hw : wrap64 (m : Int) = m := by unfold wrap64; omega
      rw [hw, q3, q4]
    have Q5 := Lib.hid q5
    clear q5
    clear h1 h2 h3 h4 h5 h6 hS hneg
    generalize hA : -((m + 1 : Nat) : Int) = A at *
    have HA := Lib.hid hA
    clear hA
    go_enter Tryd.func11, Tryd.ntmps11
    go_wp2_with fail
    rw [Q5.out]
    refine (refDigits_any (m + 1) HM.out _).mono ?_
    rintro e w2 ⟨rfl, hb⟩
    have LS := Lib.hid (show (Lib.decDigits (m + 1)).length ≤ 20 from LM.out)
    have hAA := HA.out
    generalize Lib.decDigits (m + 1) = D at *
    clear q1 q2 q3 q4 q0
    go_wp2_with fail
    · exfalso
      rename_i hx
      have := LM.out
      (try simp at hx)
      omega
    have K0 := Lib.hid ((hb.block _ (by simp)).trans (newBlock w (.cells #[.int .u64 t, .int .i64 A, .int .u64 s] 27) w.heap.size (by simp)))
    have KB := Lib.hid (((Below.refl w.heap.size w).alloc (Nat.le_refl _) (.cells #[.int .u64 t, .int .i64 A, .int .u64 s] 27)).trans (hb.mono (by simp)))
    clear hb
    refine (wpIn_wide (n := 0)).1 ?_
    apply wp_region_vals 12 (Rl := [(eqv _), (eqv _), (eqv _), (eqv _), (eqv _), (eqv _), (eqv _), (eqv _), (eqv _), (eqv _), (eqv _), (eqv _)]) (C := (fun x y => Below x.heap.size x y))
    case hm => kernel_rfl
    case hk => rfl
    case hCr => exact (fun _ => Below.refl _ _)
    case hCt => intro _ _ _; exact (fun h k => grows_trans h k)
    case hst => exact ⟨fun _ _ _ _ h => h, fun _ _ _ _ h => h, fun _ _ _ _ h => h, fun _ _ _ _ h => h, fun _ _ _ _ h => h, fun _ _ _ _ h => h, fun _ _ _ _ h => h, fun _ _ _ _ h => h, fun _ _ _ _ h => h, fun _ _ _ _ h => h, fun _ _ _ _ h => h, fun _ _ _ _ h => h, trivial⟩
    case hfo => kernel_rfl
    case ht => kernel_rfl
    case hC0 => exact (grows_drew _)
    case hsteps =>
      refine ⟨?_, ?_, ?_, ?_, ?_, ?_, ?_, ?_, ?_, ?_, ?_, ?_, trivial⟩
      · -- 0
        intro a' w' hA hC hD
        have s1 : a'.tmps[1]? = some _ := (hA.at 1 (by kernel_rfl)).trans rfl
        clear hA hD
        refine stepOk_plain rfl ?_
        intro K hK
        gi_wp2
        exact hK _ _ rfl ((fun _ => Below.refl _ _) _)
      · -- 1
        intro a' w' hA hC hD
        obtain ⟨u19, s19, r19⟩ := hD ⟨0, .data⟩ (by simp) rfl _ rfl
        replace r19 : u19 = _ := r19
        subst r19
        have c0 := cell_of_block (k := 0) (v := .int .u64 (t : Int)) ((hC.block _ (block_lt K0.out)).trans K0.out) rfl
        clear hA hD
        refine stepOk_plain rfl ?_
        intro K hK
        gi_wp2
        exact hK _ _ rfl ((fun _ => Below.refl _ _) _)
      · -- 2
        intro a' w' hA hC hD
        obtain ⟨u20, s20, r20⟩ := hD ⟨1, .data⟩ (by simp) rfl _ rfl
        replace r20 : u20 = _ := r20
        subst r20
        clear hA hD
        refine stepOk_plain rfl ?_
        intro K hK
        gi_wp2_with fail; refine (callsIn_wide.2 (refDigits_any t H1.out _)).mono ?_; rintro e w2 ⟨rfl, hb⟩
        exact hK _ _ rfl hb
      · -- 3
        intro a' w' hA hC hD
        obtain ⟨u21, s21, r21⟩ := hD ⟨2, .data⟩ (by simp) rfl _ rfl
        replace r21 : u21 = _ := r21
        subst r21
        clear hA hD
        refine stepOk_plain rfl ?_
        intro K hK
        gi_wp2_with fail; (exfalso; rename_i hx; have := L1.out; (try simp at hx); omega); (exact hK _ _ rfl (Below.refl _ _))
      · -- 4
        intro a' w' hA hC hD
        have s3 : a'.tmps[3]? = some _ := (hA.at 3 (by kernel_rfl)).trans rfl
        clear hA hD
        refine stepOk_plain rfl ?_
        intro K hK
        gi_wp2
        exact hK _ _ rfl ((fun _ => Below.refl _ _) _)
      · -- 5
        intro a' w' hA hC hD
        obtain ⟨u22, s22, r22⟩ := hD ⟨3, .data⟩ (by simp) rfl _ rfl
        replace r22 : u22 = _ := r22
        subst r22
        obtain ⟨u23, s23, r23⟩ := hD ⟨4, .data⟩ (by simp) rfl _ rfl
        replace r23 : u23 = _ := r23
        subst r23
        clear hA hD
        refine stepOk_plain rfl ?_
        intro K hK
        gi_wp2_with fail; (exfalso; rename_i hx; have := L1.out; have := LS.out; (try simp at hx); omega); (exact hK _ _ rfl (Below.refl _ _))
      · -- 6
        intro a' w' hA hC hD
        obtain ⟨u24, s24, r24⟩ := hD ⟨5, .data⟩ (by simp) rfl _ rfl
        replace r24 : u24 = _ := r24
        subst r24
        clear hA hD
        refine stepOk_plain rfl ?_
        intro K hK
        gi_wp2_with fail; (exfalso; rename_i hx; have := L1.out; have := LS.out; (try simp at hx); omega); (exact hK _ _ rfl (Below.refl _ _))
      · -- 7
        intro a' w' hA hC hD
        have s1 : a'.tmps[1]? = some _ := (hA.at 1 (by kernel_rfl)).trans rfl
        clear hA hD
        refine stepOk_plain rfl ?_
        intro K hK
        gi_wp2
        exact hK _ _ rfl ((fun _ => Below.refl _ _) _)
      · -- 8
        intro a' w' hA hC hD
        obtain ⟨u26, s26, r26⟩ := hD ⟨7, .data⟩ (by simp) rfl _ rfl
        replace r26 : u26 = _ := r26
        subst r26
        have c0 := cell_of_block (k := 2) (v := .int .u64 (s : Int)) ((hC.block _ (block_lt K0.out)).trans K0.out) rfl
        clear hA hD
        refine stepOk_plain rfl ?_
        intro K hK
        gi_wp2
        exact hK _ _ rfl ((fun _ => Below.refl _ _) _)
      · -- 9
        intro a' w' hA hC hD
        obtain ⟨u27, s27, r27⟩ := hD ⟨8, .data⟩ (by simp) rfl _ rfl
        replace r27 : u27 = _ := r27
        subst r27
        clear hA hD
        refine stepOk_plain rfl ?_
        intro K hK
        gi_wp2_with fail; refine (callsIn_wide.2 (refDigits_any s H2.out _)).mono ?_; rintro e w2 ⟨rfl, hb⟩
        exact hK _ _ rfl hb
      · -- 10
        intro a' w' hA hC hD
        obtain ⟨u25, s25, r25⟩ := hD ⟨6, .data⟩ (by simp) rfl _ rfl
        replace r25 : u25 = _ := r25
        subst r25
        obtain ⟨u28, s28, r28⟩ := hD ⟨9, .data⟩ (by simp) rfl _ rfl
        replace r28 : u28 = _ := r28
        subst r28
        clear hA hD
        refine stepOk_plain rfl ?_
        intro K hK
        gi_wp2_with fail; (exfalso; rename_i hx; have := L1.out; have := LS.out; have := L3.out; (try simp at hx); omega); (exact hK _ _ rfl (Below.refl _ _))
      · -- 11
        intro a' w' hA hC hD
        obtain ⟨u29, s29, r29⟩ := hD ⟨10, .data⟩ (by simp) rfl _ rfl
        replace r29 : u29 = _ := r29
        subst r29
        clear hA hD
        refine stepOk_plain rfl ?_
        intro K hK
        gi_wp2
        exact hK _ _ rfl ((fun _ => Below.refl _ _) _)
    case hend =>
      intro w3 hC
      simp only [EndFrom, eqv, forall_eq, Act.put, List.length_cons, List.length_nil, List.drop_succ_cons, List.drop_zero, Nat.reduceAdd, List.setIfInBounds_toArray, List.set_cons_succ, List.set_cons_zero]
      have HC := Lib.hid hC
      clear hC
      gi_wp2
      go_wp2_with fail
      go_ret
      refine ⟨?_, KB.out.trans (HC.out.mono KB.out.size)⟩
      simp [idText, HS.out]
      apply ByteArray.ext
      simp
  · obtain ⟨m, rfl⟩ : ∃ m : Nat, a2 = m := ⟨a2.toNat, by omega⟩
    have hS : Lib.itoa (m : Int) = Lib.decDigits m := Lib.itoa_nonneg m
    have HS := Lib.hid hS
    have HM := Lib.hid (show m < 18446744073709551616 by omega)
    have q3 : IntKind.u64.wrap (m : Int) = (m : Int) := by rw [IntKind.wrap_u64]; omega
    have q0 : decide ((m : Int) < 0) = false := by simp
    clear h1 h2 h3 h4 h5 h6 hS hneg
    go_enter Tryd.func11, Tryd.ntmps11
    go_wp2_with fail
    refine (refDigits_any m HM.out _).mono ?_
    rintro e w2 ⟨rfl, hb⟩
    have LS := Lib.hid (show (Lib.decDigits m).length ≤ 20 by rw [Lib.decDigits_length]; exact Lib.nDigits_le20 _ HM.out)
    clear q3 q0
    go_wp2_with fail
    have K0 := Lib.hid ((hb.block _ (by simp)).trans (newBlock w (.cells #[.int .u64 t, .int .i64 (m : Int), .int .u64 s] 27) w.heap.size (by simp)))
    have KB := Lib.hid (((Below.refl w.heap.size w).alloc (Nat.le_refl _) (.cells #[.int .u64 t, .int .i64 (m : Int), .int .u64 s] 27)).trans (hb.mono (by simp)))
    clear hb
    refine (wpIn_wide (n := 0)).1 ?_
    apply wp_region_vals 12 (Rl := [(eqv _), (eqv _), (eqv _), (eqv _), (eqv _), (eqv _), (eqv _), (eqv _), (eqv _), (eqv _), (eqv _), (eqv _)]) (C := (fun x y => Below x.heap.size x y))
    case hm => kernel_rfl
    case hk => rfl
    case hCr => exact (fun _ => Below.refl _ _)
    case hCt => intro _ _ _; exact (fun h k => grows_trans h k)
    case hst => exact ⟨fun _ _ _ _ h => h, fun _ _ _ _ h => h, fun _ _ _ _ h => h, fun _ _ _ _ h => h, fun _ _ _ _ h => h, fun _ _ _ _ h => h, fun _ _ _ _ h => h, fun _ _ _ _ h => h, fun _ _ _ _ h => h, fun _ _ _ _ h => h, fun _ _ _ _ h => h, fun _ _ _ _ h => h, trivial⟩
    case hfo => kernel_rfl
    case ht => kernel_rfl
    case hC0 => exact (grows_drew _)
    case hsteps =>
      refine ⟨?_, ?_, ?_, ?_, ?_, ?_, ?_, ?_, ?_, ?_, ?_, ?_, trivial⟩
      · -- 0
        intro a' w' hA hC hD
        have s1 : a'.tmps[1]? = some _ := (hA.at 1 (by kernel_rfl)).trans rfl
        clear hA hD
        refine stepOk_plain rfl ?_
        intro K hK
        gi_wp2
        exact hK _ _ rfl ((fun _ => Below.refl _ _) _)
      · -- 1
        intro a' w' hA hC hD
        obtain ⟨u19, s19, r19⟩ := hD ⟨0, .data⟩ (by simp) rfl _ rfl
        replace r19 : u19 = _ := r19
        subst r19
        have c0 := cell_of_block (k := 0) (v := .int .u64 (t : Int)) ((hC.block _ (block_lt K0.out)).trans K0.out) rfl
        clear hA hD
        refine stepOk_plain rfl ?_
        intro K hK
        gi_wp2
        exact hK _ _ rfl ((fun _ => Below.refl _ _) _)
      · -- 2
        intro a' w' hA hC hD
        obtain ⟨u20, s20, r20⟩ := hD ⟨1, .data⟩ (by simp) rfl _ rfl
        replace r20 : u20 = _ := r20
        subst r20
        clear hA hD
        refine stepOk_plain rfl ?_
        intro K hK
        gi_wp2_with fail; refine (callsIn_wide.2 (refDigits_any t H1.out _)).mono ?_; rintro e w2 ⟨rfl, hb⟩
        exact hK _ _ rfl hb
      · -- 3
        intro a' w' hA hC hD
        obtain ⟨u21, s21, r21⟩ := hD ⟨2, .data⟩ (by simp) rfl _ rfl
        replace r21 : u21 = _ := r21
        subst r21
        clear hA hD
        refine stepOk_plain rfl ?_
        intro K hK
        gi_wp2_with fail; (exfalso; rename_i hx; have := L1.out; (try simp at hx); omega); (exact hK _ _ rfl (Below.refl _ _))
      · -- 4
        intro a' w' hA hC hD
        have s3 : a'.tmps[3]? = some _ := (hA.at 3 (by kernel_rfl)).trans rfl
        clear hA hD
        refine stepOk_plain rfl ?_
        intro K hK
        gi_wp2
        exact hK _ _ rfl ((fun _ => Below.refl _ _) _)
      · -- 5
        intro a' w' hA hC hD
        obtain ⟨u22, s22, r22⟩ := hD ⟨3, .data⟩ (by simp) rfl _ rfl
        replace r22 : u22 = _ := r22
        subst r22
        obtain ⟨u23, s23, r23⟩ := hD ⟨4, .data⟩ (by simp) rfl _ rfl
        replace r23 : u23 = _ := r23
        subst r23
        clear hA hD
        refine stepOk_plain rfl ?_
        intro K hK
        gi_wp2_with fail; (exfalso; rename_i hx; have := L1.out; have := LS.out; (try simp at hx); omega); (exact hK _ _ rfl (Below.refl _ _))
      · -- 6
        intro a' w' hA hC hD
        obtain ⟨u24, s24, r24⟩ := hD ⟨5, .data⟩ (by simp) rfl _ rfl
        replace r24 : u24 = _ := r24
        subst r24
        clear hA hD
        refine stepOk_plain rfl ?_
        intro K hK
        gi_wp2_with fail; (exfalso; rename_i hx; have := L1.out; have := LS.out; (try simp at hx); omega); (exact hK _ _ rfl (Below.refl _ _))
      · -- 7
        intro a' w' hA hC hD
        have s1 : a'.tmps[1]? = some _ := (hA.at 1 (by kernel_rfl)).trans rfl
        clear hA hD
        refine stepOk_plain rfl ?_
        intro K hK
        gi_wp2
        exact hK _ _ rfl ((fun _ => Below.refl _ _) _)
      · -- 8
        intro a' w' hA hC hD
        obtain ⟨u26, s26, r26⟩ := hD ⟨7, .data⟩ (by simp) rfl _ rfl
        replace r26 : u26 = _ := r26
        subst r26
        have c0 := cell_of_block (k := 2) (v := .int .u64 (s : Int)) ((hC.block _ (block_lt K0.out)).trans K0.out) rfl
        clear hA hD
        refine stepOk_plain rfl ?_
        intro K hK
        gi_wp2
        exact hK _ _ rfl ((fun _ => Below.refl _ _) _)
      · -- 9
        intro a' w' hA hC hD
        obtain ⟨u27, s27, r27⟩ := hD ⟨8, .data⟩ (by simp) rfl _ rfl
        replace r27 : u27 = _ := r27
        subst r27
        clear hA hD
        refine stepOk_plain rfl ?_
        intro K hK
        gi_wp2_with fail; refine (callsIn_wide.2 (refDigits_any s H2.out _)).mono ?_; rintro e w2 ⟨rfl, hb⟩
        exact hK _ _ rfl hb
      · -- 10
        intro a' w' hA hC hD
        obtain ⟨u25, s25, r25⟩ := hD ⟨6, .data⟩ (by simp) rfl _ rfl
        replace r25 : u25 = _ := r25
        subst r25
        obtain ⟨u28, s28, r28⟩ := hD ⟨9, .data⟩ (by simp) rfl _ rfl
        replace r28 : u28 = _ := r28
        subst r28
        clear hA hD
        refine stepOk_plain rfl ?_
        intro K hK
        gi_wp2_with fail; (exfalso; rename_i hx; have := L1.out; have := LS.out; have := L3.out; (try simp at hx); omega); (exact hK _ _ rfl (Below.refl _ _))
      · -- 11
        intro a' w' hA hC hD
        obtain ⟨u29, s29, r29⟩ := hD ⟨10, .data⟩ (by simp) rfl _ rfl
        replace r29 : u29 = _ := r29
        subst r29
        clear hA hD
        refine stepOk_plain rfl ?_
        intro K hK
        gi_wp2
        exact hK _ _ rfl ((fun _ => Below.refl _ _) _)
    case hend =>
      intro w3 hC
      simp only [EndFrom, eqv, forall_eq, Act.put, List.length_cons, List.length_nil, List.drop_succ_cons, List.drop_zero, Nat.reduceAdd, List.setIfInBounds_toArray, List.set_cons_succ, List.set_cons_zero]
      have HC := Lib.hid hC
      clear hC
      gi_wp2
      go_wp2_with fail
      go_ret
      refine ⟨?_, KB.out.trans (HC.out.mono KB.out.size)⟩
      simp [idText, HS.out]
      apply ByteArray.ext
      simp
end Go.Proofs.YtppaheekpmgifaaDoor
