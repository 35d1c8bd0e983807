/- Package ident: Less, digits, Text. -/
import Derived.Test.YtppaheekpmgifaaDoorIdG
namespace Go.Proofs.YtppaheekpmgifaaDoor
set_option linter.unusedSimpArgs false
set_option linter.unusedVariables false
open Go.RowKit Go.Shelf Go.Sort Go.Lib

theorem str_add (l m : List UInt8) (h : l.length + m.length ≤ 1000000000) (w : World) : (binOp .add 9 (.string ⟨l.toArray⟩) (.string ⟨m.toArray⟩)).run Tryd.prog w = .ok (.string ⟨(l ++ m).toArray⟩) w := by
  have e : (⟨l.toArray⟩ : ByteArray) ++ ⟨m.toArray⟩ = ⟨(l ++ m).toArray⟩ := by
    apply ByteArray.ext
    simp
  have h2 : l.length + m.length ≤ 9223372036854775807 := by omega
  simp [binOp, go_sem, e, h2]

set_option maxRecDepth 100000 in
theorem fmtUint_any (u : Nat) (hu : u < 18446744073709551616) (w : World) (ht : Tab w) : Calls Tryd.prog 51 #[.int .u64 (u : Int), .int .i64 10] w (Gives (str (Lib.decDigits u)) w) := by
  have HT := Lib.hid ht
  clear ht
  go_enter Tryd.func51, Tryd.ntmps51
  go_wp2_with fail
  refine (formatUint_in u hu _ HT.out).mono ?_
  rintro e w' ⟨rfl, hb⟩
  have HB := Lib.hid hb
  clear hb
  go_wp2_with fail
  go_ret
  exact ⟨rfl, HB.out⟩

set_option maxRecDepth 100000 in
theorem digits_any (u : Nat) (hu : u < 18446744073709551616) (w : World) (ht : Tab w) : Calls Tryd.prog 35 #[.int .u64 (u : Int)] w (Gives (str (Lib.decDigits u)) w) := by
  have HT := Lib.hid ht
  clear ht
  go_enter Tryd.func35, Tryd.ntmps35
  go_wp2_with fail
  refine (fmtUint_any u hu _ HT.out).mono ?_
  rintro e w' ⟨rfl, hb⟩
  have HB := Lib.hid hb
  clear hb
  go_wp2_with fail
  go_ret
  exact ⟨rfl, HB.out⟩

def idText (i : IdT) : List UInt8 := Lib.decDigits i.time.toNat ++ (46 :: (Lib.itoa i.site ++ (46 :: Lib.decDigits i.seq.toNat)))
def IdT.Fits (i : IdT) : Prop := (0 ≤ i.time ∧ i.time < 18446744073709551616) ∧ (-9223372036854775808 ≤ i.site ∧ i.site ≤ 9223372036854775807) ∧ (0 ≤ i.seq ∧ i.seq < 18446744073709551616)

set_option maxRecDepth 100000 in
set_option maxHeartbeats 2000000 in
theorem text_any (i : IdT) (hi : i.Fits) (w : World) (ht : Tab w) : Calls Tryd.prog 10 #[i.val] w (Gives (str (idText i)) w) := by
  obtain ⟨a1, a2, a3⟩ := i
  obtain ⟨⟨h1, h2⟩, ⟨h3, h4⟩, h5, h6⟩ := hi
  simp only at h1 h2 h3 h4 h5 h6
  obtain ⟨t, rfl⟩ : ∃ t : Nat, a1 = t := ⟨a1.toNat, by omega⟩
  obtain ⟨s, rfl⟩ : ∃ s : Nat, a3 = s := ⟨a3.toNat, by omega⟩
  have L1 := Lib.hid (show (Lib.decDigits t).length ≤ 20 by rw [Lib.decDigits_length]; exact Lib.nDigits_le20 t (by omega))
  have L2 := Lib.hid (Lib.itoa_length_le a2 h3 h4)
  have L3 := Lib.hid (show (Lib.decDigits s).length ≤ 20 by rw [Lib.decDigits_length]; exact Lib.nDigits_le20 s (by omega))
  have H1 := Lib.hid (show t < 18446744073709551616 by omega)
  have H2 := Lib.hid (show s < 18446744073709551616 by omega)
  have H3 := Lib.hid h3
  have H4 := Lib.hid h4
  have HT := Lib.hid ht
  clear h1 h2 h3 h4 h5 h6 ht
  unfold IdT.val
  go_enter Tryd.func10, Tryd.ntmps10
  go_wp2_with fail
  have HW := Lib.hid ((Below.refl w.heap.size w).alloc (Nat.le_refl _) (.cells #[.int .u64 t, .int .i64 a2, .int .u64 s] 27))
  have Ha := Lib.hid (newBlock w (.cells #[.int .u64 t, .int .i64 a2, .int .u64 s] 27) w.heap.size (by simp))
  refine (wpIn_wide (n := 0)).1 ?_
  apply wp_region_vals 14 (Rl := [(eqv _), (eqv _), (eqv _), (eqv _), (eqv _), (eqv _), (eqv _), (eqv _), (eqv _), (eqv _), (eqv _), (eqv _), (eqv _), (eqv _)]) (C := (fun x y => Below x.heap.size x y))
  case hm => kernel_rfl
  case hk => rfl
  case hCr => exact (fun _ => Below.refl _ _)
  case hCt => intro _ _ _; exact (fun h k => grows_trans h k)
  case hst => exact ⟨fun _ _ _ _ h => h, fun _ _ _ _ h => h, fun _ _ _ _ h => h, fun _ _ _ _ h => h, fun _ _ _ _ h => h, fun _ _ _ _ h => h, fun _ _ _ _ h => h, fun _ _ _ _ h => h, fun _ _ _ _ h => h, fun _ _ _ _ h => h, fun _ _ _ _ h => h, fun _ _ _ _ h => h, fun _ _ _ _ h => h, fun _ _ _ _ h => h, trivial⟩
  case hfo => kernel_rfl
  case ht => kernel_rfl
  case hC0 => exact (grows_drew _)
  case hsteps =>
    refine ⟨?_, ?_, ?_, ?_, ?_, ?_, ?_, ?_, ?_, ?_, ?_, ?_, ?_, ?_, trivial⟩
    · -- 0
      intro a' w' hA hC hD
      have s1 : a'.tmps[1]? = some _ := (hA.at 1 (by kernel_rfl)).trans rfl
      clear hA hD
      refine stepOk_plain rfl ?_
      intro K hK
      gi_wp2
      exact hK _ _ rfl ((fun _ => Below.refl _ _) _)
    · -- 1
      intro a' w' hA hC hD
      obtain ⟨u3, s3, r3⟩ := hD ⟨0, .data⟩ (by simp) rfl _ rfl
      replace r3 : u3 = _ := r3
      subst r3
      have c0 := cell_of_block (k := 0) (v := .int .u64 (t : Int)) ((hC.block _ (block_lt Ha.out)).trans Ha.out) rfl
      clear hA hD
      refine stepOk_plain rfl ?_
      intro K hK
      gi_wp2
      exact hK _ _ rfl ((fun _ => Below.refl _ _) _)
    · -- 2
      intro a' w' hA hC hD
      obtain ⟨u4, s4, r4⟩ := hD ⟨1, .data⟩ (by simp) rfl _ rfl
      replace r4 : u4 = _ := r4
      subst r4
      clear hA hD
      refine stepOk_plain rfl ?_
      intro K hK
      gi_wp2_with fail; refine (callsIn_wide.2 (digits_any t H1.out _ (HT.out.below (HW.out.trans (hC.mono HW.out.size))))).mono ?_; rintro e w2 ⟨rfl, hb⟩
      exact hK _ _ rfl hb
    · -- 3
      intro a' w' hA hC hD
      obtain ⟨u5, s5, r5⟩ := hD ⟨2, .data⟩ (by simp) rfl _ rfl
      replace r5 : u5 = _ := r5
      subst r5
      clear hA hD
      refine stepOk_plain rfl ?_
      intro K hK
      gi_wp2_with fail; (exfalso; rename_i hx; have := L1.out; have := L2.out; have := L3.out; (try simp at hx); omega); (exact hK _ _ rfl (Below.refl _ _))
    · -- 4
      intro a' w' hA hC hD
      have s1 : a'.tmps[1]? = some _ := (hA.at 1 (by kernel_rfl)).trans rfl
      clear hA hD
      refine stepOk_plain rfl ?_
      intro K hK
      gi_wp2
      exact hK _ _ rfl ((fun _ => Below.refl _ _) _)
    · -- 5
      intro a' w' hA hC hD
      obtain ⟨u7, s7, r7⟩ := hD ⟨4, .data⟩ (by simp) rfl _ rfl
      replace r7 : u7 = _ := r7
      subst r7
      have c0 := cell_of_block (k := 1) (v := .int .i64 a2) ((hC.block _ (block_lt Ha.out)).trans Ha.out) rfl
      clear hA hD
      refine stepOk_plain rfl ?_
      intro K hK
      gi_wp2
      exact hK _ _ rfl ((fun _ => Below.refl _ _) _)
    · -- 6
      intro a' w' hA hC hD
      obtain ⟨u8, s8, r8⟩ := hD ⟨5, .data⟩ (by simp) rfl _ rfl
      replace r8 : u8 = _ := r8
      subst r8
      clear hA hD
      refine stepOk_plain rfl ?_
      intro K hK
      gi_wp2_with fail; refine (callsIn_wide.2 (itoa_any a2 H3.out H4.out _ (HT.out.below (HW.out.trans (hC.mono HW.out.size))))).mono ?_; rintro e w2 ⟨rfl, hb⟩
      exact hK _ _ rfl hb
    · -- 7
      intro a' w' hA hC hD
      obtain ⟨u6, s6, r6⟩ := hD ⟨3, .data⟩ (by simp) rfl _ rfl
      replace r6 : u6 = _ := r6
      subst r6
      obtain ⟨u9, s9, r9⟩ := hD ⟨6, .data⟩ (by simp) rfl _ rfl
      replace r9 : u9 = _ := r9
      subst r9
      clear hA hD
      refine stepOk_plain rfl ?_
      intro K hK
      gi_wp2_with fail; (exfalso; rename_i hx; have := L1.out; have := L2.out; have := L3.out; (try simp at hx); omega); (exact hK _ _ rfl (Below.refl _ _))
    · -- 8
      intro a' w' hA hC hD
      obtain ⟨u10, s10, r10⟩ := hD ⟨7, .data⟩ (by simp) rfl _ rfl
      replace r10 : u10 = _ := r10
      subst r10
      clear hA hD
      refine stepOk_plain rfl ?_
      intro K hK
      gi_wp2_with fail; (exfalso; rename_i hx; have := L1.out; have := L2.out; have := L3.out; (try simp at hx); omega); (exact hK _ _ rfl (Below.refl _ _))
    · -- 9
      intro a' w' hA hC hD
      have s1 : a'.tmps[1]? = some _ := (hA.at 1 (by kernel_rfl)).trans rfl
      clear hA hD
      refine stepOk_plain rfl ?_
      intro K hK
      gi_wp2
      exact hK _ _ rfl ((fun _ => Below.refl _ _) _)
    · -- 10
      intro a' w' hA hC hD
      obtain ⟨u12, s12, r12⟩ := hD ⟨9, .data⟩ (by simp) rfl _ rfl
      replace r12 : u12 = _ := r12
      subst r12
      have c0 := cell_of_block (k := 2) (v := .int .u64 (s : Int)) ((hC.block _ (block_lt Ha.out)).trans Ha.out) rfl
      clear hA hD
      refine stepOk_plain rfl ?_
      intro K hK
      gi_wp2
      exact hK _ _ rfl ((fun _ => Below.refl _ _) _)
    · -- 11
      intro a' w' hA hC hD
      obtain ⟨u13, s13, r13⟩ := hD ⟨10, .data⟩ (by simp) rfl _ rfl
      replace r13 : u13 = _ := r13
      subst r13
      clear hA hD
      refine stepOk_plain rfl ?_
      intro K hK
      gi_wp2_with fail; refine (callsIn_wide.2 (digits_any s H2.out _ (HT.out.below (HW.out.trans (hC.mono HW.out.size))))).mono ?_; rintro e w2 ⟨rfl, hb⟩
      exact hK _ _ rfl hb
    · -- 12
      intro a' w' hA hC hD
      obtain ⟨u11, s11, r11⟩ := hD ⟨8, .data⟩ (by simp) rfl _ rfl
      replace r11 : u11 = _ := r11
      subst r11
      obtain ⟨u14, s14, r14⟩ := hD ⟨11, .data⟩ (by simp) rfl _ rfl
      replace r14 : u14 = _ := r14
      subst r14
      clear hA hD
      refine stepOk_plain rfl ?_
      intro K hK
      gi_wp2_with fail; (exfalso; rename_i hx; have := L1.out; have := L2.out; have := L3.out; (try simp at hx); omega); (exact hK _ _ rfl (Below.refl _ _))
    · -- 13
      intro a' w' hA hC hD
      obtain ⟨u15, s15, r15⟩ := hD ⟨12, .data⟩ (by simp) rfl _ rfl
      replace r15 : u15 = _ := r15
      subst r15
      clear hA hD
      refine stepOk_plain rfl ?_
      intro K hK
      gi_wp2
      exact hK _ _ rfl ((fun _ => Below.refl _ _) _)
  case hend =>
    intro w3 hC
    simp only [EndFrom, eqv, forall_eq, Act.put, List.length_cons, List.length_nil, List.drop_succ_cons, List.drop_zero, Nat.reduceAdd, List.setIfInBounds_toArray, List.set_cons_succ, List.set_cons_zero]
    have HC := Lib.hid hC
    clear hC
    gi_wp2
    go_wp2_with fail
    go_ret
    refine ⟨?_, HW.out.trans (HC.out.mono HW.out.size)⟩
    simp [idText]
    apply ByteArray.ext
    simp
end Go.Proofs.YtppaheekpmgifaaDoor
