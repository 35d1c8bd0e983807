/- Package ident: Compare, Less; the document's Right, Less. -/
import Derived.Test.YtppaheekpmgifaaDoorIdA
import Derived.Test.YtppaheekpmgifaaDoorBaseD
namespace Go.Proofs.YtppaheekpmgifaaDoor
set_option linter.unusedSimpArgs false
set_option linter.unusedVariables false
open Go.RowKit Go.Shelf

def idEqB (a b : IdT) : Bool := a.time == b.time && (a.site == b.site && a.seq == b.seq)
theorem idEqB_iff (a b : IdT) : idEqB a b = true ↔ a = b := by
  obtain ⟨a1, a2, a3⟩ := a
  obtain ⟨b1, b2, b3⟩ := b
  simp [idEqB]
theorem run_eql_id (w : World) (a b c d e f : Int) : (binOp .eql 27 (.agg #[.int .u64 a, .int .i64 b, .int .u64 c]) (.agg #[.int .u64 d, .int .i64 e, .int .u64 f])).run Tryd.prog w = .ok (.bool (idEqB ⟨a, b, c⟩ ⟨d, e, f⟩)) w := by
  unfold idEqB
  simp [binOp, Op.equal, Op.maxDepth, go_sem]
  by_cases h1 : a = d <;> by_cases h2 : b = e <;> by_cases h3 : c = f <;> simp [h1, h2, h3]
theorem run_neq_id (w : World) (a b c d e f : Int) : (binOp .neq 27 (.agg #[.int .u64 a, .int .i64 b, .int .u64 c]) (.agg #[.int .u64 d, .int .i64 e, .int .u64 f])).run Tryd.prog w = .ok (.bool (!idEqB ⟨a, b, c⟩ ⟨d, e, f⟩)) w := by
  unfold idEqB
  simp [binOp, Op.equal, Op.maxDepth, go_sem]
  by_cases h1 : a = d <;> by_cases h2 : b = e <;> by_cases h3 : c = f <;> simp [h1, h2, h3]

set_option maxRecDepth 100000 in
set_option maxHeartbeats 2000000 in
theorem compare_any (a b : IdT) (w : World) : Calls Tryd.prog 29 #[a.val, b.val] w (GivesG (.int .i64 (cmpId a b)) w) := by
  have hcmp : cmpId a b = if idEqB a b = true then 0 else or3 (Lib.compareInt a.time b.time) (Lib.compareInt a.site b.site) (Lib.compareInt a.seq b.seq) := by
    unfold cmpId
    by_cases h : a = b
    · rw [if_pos h, if_pos ((idEqB_iff a b).2 h)]
    · rw [if_neg h, if_neg (fun e => h ((idEqB_iff a b).1 e))]
  rw [hcmp]
  clear hcmp
  obtain ⟨a1, a2, a3⟩ := a
  obtain ⟨b1, b2, b3⟩ := b
  have hr := fun w => run_eql_id w a1 a2 a3 b1 b2 b3
  obtain ⟨eq, heq⟩ : ∃ eq, idEqB ⟨a1, a2, a3⟩ ⟨b1, b2, b3⟩ = eq := ⟨_, rfl⟩
  rw [heq]
  simp only [heq] at hr
  clear heq
  unfold IdT.val
  cases eq
  · go_enter Tryd.func29, Tryd.ntmps29
    go_wp2_with fail
    have HW := Lib.hid ((Grows.alloc w (.cells #[.int .u64 a1, .int .i64 a2, .int .u64 a3] 27)).trans (Grows.alloc _ (.cells #[.int .u64 b1, .int .i64 b2, .int .u64 b3] 27)))
    have Ha := Lib.hid (heap_alloc_keeps (World.alloc_heap_new w (.cells #[.int .u64 a1, .int .i64 a2, .int .u64 a3] 27)) (.cells #[.int .u64 b1, .int .i64 b2, .int .u64 b3] 27))
    have Hb := Lib.hid (newBlock (w.alloc (.cells #[.int .u64 a1, .int .i64 a2, .int .u64 a3] 27)) (.cells #[.int .u64 b1, .int .i64 b2, .int .u64 b3] 27) (w.heap.size + 1) (by simp))
    refine (wpIn_wide (n := 0)).1 ?_
    apply wp_region_vals 18 (Rl := [(eqv _), (eqv _), (eqv _), (eqv _), (eqv _), (eqv _), (eqv _), (eqv _), (eqv _), (eqv _), (eqv _), (eqv _), (eqv _), (eqv _), (eqv _), (fun v_ w_ => ∃ q, v_ = .slice (some ⟨q, 0, none⟩) 3 3 ∧ w_.heap[q]? = some (.cells #[.int .i64 (Lib.compareInt a1 b1), .int .i64 (Lib.compareInt a2 b2), .int .i64 (Lib.compareInt a3 b3)] 3 (0, 0))), (eqv _), (eqv _)]) (C := Grows)
    case hm => kernel_rfl
    case hk => rfl
    case hCr => exact Grows.refl
    case hCt => intro _ _ _; exact Grows.trans
    case hst => exact ⟨fun _ _ _ _ h => h, fun _ _ _ _ h => h, fun _ _ _ _ h => h, fun _ _ _ _ h => h, fun _ _ _ _ h => h, fun _ _ _ _ h => h, fun _ _ _ _ h => h, fun _ _ _ _ h => h, fun _ _ _ _ h => h, fun _ _ _ _ h => h, fun _ _ _ _ h => h, fun _ _ _ _ h => h, fun _ _ _ _ h => h, fun _ _ _ _ h => h, fun _ _ _ _ h => h, fun _ _ _ hC ⟨q, e, h⟩ => ⟨q, e, (hC.below.block _ (block_lt h)).trans h⟩, fun _ _ _ _ h => h, fun _ _ _ _ h => h, trivial⟩
    case hfo => kernel_rfl
    case ht => kernel_rfl
    case hC0 => exact (Grows.drew _)
    case hsteps =>
      refine ⟨?_, ?_, ?_, ?_, ?_, ?_, ?_, ?_, ?_, ?_, ?_, ?_, ?_, ?_, ?_, ?_, ?_, ?_, trivial⟩
      · -- 0
        intro a' w' hA hC hD
        have s2 : a'.tmps[2]? = some _ := (hA.at 2 (by kernel_rfl)).trans rfl
        clear hA hD
        refine stepOk_plain rfl ?_
        intro K hK
        gi_wp2
        exact hK _ _ rfl (Grows.refl _)
      · -- 1
        intro a' w' hA hC hD
        obtain ⟨u8, s8, r8⟩ := hD ⟨0, .data⟩ (by simp) rfl _ rfl
        replace r8 : u8 = _ := r8
        subst r8
        have c0 := cell_of_block (k := 0) (v := .int .u64 a1) ((hC.below.block _ (block_lt Ha.out)).trans Ha.out) rfl
        clear hA hD
        refine stepOk_plain rfl ?_
        intro K hK
        gi_wp2
        exact hK _ _ rfl (Grows.refl _)
      · -- 2
        intro a' w' hA hC hD
        have s3 : a'.tmps[3]? = some _ := (hA.at 3 (by kernel_rfl)).trans rfl
        clear hA hD
        refine stepOk_plain rfl ?_
        intro K hK
        gi_wp2
        exact hK _ _ rfl (Grows.refl _)
      · -- 3
        intro a' w' hA hC hD
        obtain ⟨u10, s10, r10⟩ := hD ⟨2, .data⟩ (by simp) rfl _ rfl
        replace r10 : u10 = _ := r10
        subst r10
        have c0 := cell_of_block (k := 0) (v := .int .u64 b1) ((hC.below.block _ (block_lt Hb.out)).trans Hb.out) rfl
        clear hA hD
        refine stepOk_plain rfl ?_
        intro K hK
        gi_wp2
        exact hK _ _ rfl (Grows.refl _)
      · -- 4
        intro a' w' hA hC hD
        obtain ⟨u9, s9, r9⟩ := hD ⟨1, .data⟩ (by simp) rfl _ rfl
        replace r9 : u9 = _ := r9
        subst r9
        obtain ⟨u11, s11, r11⟩ := hD ⟨3, .data⟩ (by simp) rfl _ rfl
        replace r11 : u11 = _ := r11
        subst r11
        clear hA hD
        refine stepOk_plain rfl ?_
        intro K hK
        gi_wp2_with fail; refine (callsIn_wide.2 (cmp_u64 _ _ _)).mono ?_; rintro e w2 ⟨rfl, rfl⟩; exact hK _ _ rfl (Grows.refl _)
      · -- 5
        intro a' w' hA hC hD
        have s2 : a'.tmps[2]? = some _ := (hA.at 2 (by kernel_rfl)).trans rfl
        clear hA hD
        refine stepOk_plain rfl ?_
        intro K hK
        gi_wp2
        exact hK _ _ rfl (Grows.refl _)
      · -- 6
        intro a' w' hA hC hD
        obtain ⟨u13, s13, r13⟩ := hD ⟨5, .data⟩ (by simp) rfl _ rfl
        replace r13 : u13 = _ := r13
        subst r13
        have c0 := cell_of_block (k := 1) (v := .int .i64 a2) ((hC.below.block _ (block_lt Ha.out)).trans Ha.out) rfl
        clear hA hD
        refine stepOk_plain rfl ?_
        intro K hK
        gi_wp2
        exact hK _ _ rfl (Grows.refl _)
      · -- 7
        intro a' w' hA hC hD
        have s3 : a'.tmps[3]? = some _ := (hA.at 3 (by kernel_rfl)).trans rfl
        clear hA hD
        refine stepOk_plain rfl ?_
        intro K hK
        gi_wp2
        exact hK _ _ rfl (Grows.refl _)
      · -- 8
        intro a' w' hA hC hD
        obtain ⟨u15, s15, r15⟩ := hD ⟨7, .data⟩ (by simp) rfl _ rfl
        replace r15 : u15 = _ := r15
        subst r15
        have c0 := cell_of_block (k := 1) (v := .int .i64 b2) ((hC.below.block _ (block_lt Hb.out)).trans Hb.out) rfl
        clear hA hD
        refine stepOk_plain rfl ?_
        intro K hK
        gi_wp2
        exact hK _ _ rfl (Grows.refl _)
      · -- 9
        intro a' w' hA hC hD
        obtain ⟨u14, s14, r14⟩ := hD ⟨6, .data⟩ (by simp) rfl _ rfl
        replace r14 : u14 = _ := r14
        subst r14
        obtain ⟨u16, s16, r16⟩ := hD ⟨8, .data⟩ (by simp) rfl _ rfl
        replace r16 : u16 = _ := r16
        subst r16
        clear hA hD
        refine stepOk_plain rfl ?_
        intro K hK
        gi_wp2_with fail; refine (callsIn_wide.2 (cmp_i64 _ _ _)).mono ?_; rintro e w2 ⟨rfl, rfl⟩; exact hK _ _ rfl (Grows.refl _)
      · -- 10
        intro a' w' hA hC hD
        have s2 : a'.tmps[2]? = some _ := (hA.at 2 (by kernel_rfl)).trans rfl
        clear hA hD
        refine stepOk_plain rfl ?_
        intro K hK
        gi_wp2
        exact hK _ _ rfl (Grows.refl _)
      · -- 11
        intro a' w' hA hC hD
        obtain ⟨u18, s18, r18⟩ := hD ⟨10, .data⟩ (by simp) rfl _ rfl
        replace r18 : u18 = _ := r18
        subst r18
        have c0 := cell_of_block (k := 2) (v := .int .u64 a3) ((hC.below.block _ (block_lt Ha.out)).trans Ha.out) rfl
        clear hA hD
        refine stepOk_plain rfl ?_
        intro K hK
        gi_wp2
        exact hK _ _ rfl (Grows.refl _)
      · -- 12
        intro a' w' hA hC hD
        have s3 : a'.tmps[3]? = some _ := (hA.at 3 (by kernel_rfl)).trans rfl
        clear hA hD
        refine stepOk_plain rfl ?_
        intro K hK
        gi_wp2
        exact hK _ _ rfl (Grows.refl _)
      · -- 13
        intro a' w' hA hC hD
        obtain ⟨u20, s20, r20⟩ := hD ⟨12, .data⟩ (by simp) rfl _ rfl
        replace r20 : u20 = _ := r20
        subst r20
        have c0 := cell_of_block (k := 2) (v := .int .u64 b3) ((hC.below.block _ (block_lt Hb.out)).trans Hb.out) rfl
        clear hA hD
        refine stepOk_plain rfl ?_
        intro K hK
        gi_wp2
        exact hK _ _ rfl (Grows.refl _)
      · -- 14
        intro a' w' hA hC hD
        obtain ⟨u19, s19, r19⟩ := hD ⟨11, .data⟩ (by simp) rfl _ rfl
        replace r19 : u19 = _ := r19
        subst r19
        obtain ⟨u21, s21, r21⟩ := hD ⟨13, .data⟩ (by simp) rfl _ rfl
        replace r21 : u21 = _ := r21
        subst r21
        clear hA hD
        refine stepOk_plain rfl ?_
        intro K hK
        gi_wp2_with fail; refine (callsIn_wide.2 (cmp_u64 _ _ _)).mono ?_; rintro e w2 ⟨rfl, rfl⟩; exact hK _ _ rfl (Grows.refl _)
      · -- 15
        intro a' w' hA hC hD
        obtain ⟨u12, s12, r12⟩ := hD ⟨4, .data⟩ (by simp) rfl _ rfl
        replace r12 : u12 = _ := r12
        subst r12
        obtain ⟨u17, s17, r17⟩ := hD ⟨9, .data⟩ (by simp) rfl _ rfl
        replace r17 : u17 = _ := r17
        subst r17
        obtain ⟨u22, s22, r22⟩ := hD ⟨14, .data⟩ (by simp) rfl _ rfl
        replace r22 : u22 = _ := r22
        subst r22
        clear hA hD
        refine stepOk_plain rfl ?_
        intro K hK
        gi_wp2
        exact hK (.slice (some ⟨w'.heap.size, 0, none⟩) 3 3) _ ⟨w'.heap.size, rfl, World.alloc_heap_new _ _⟩ (Grows.alloc _ _)
      · -- 16
        intro a' w' hA hC hD
        obtain ⟨u23, s23, r23⟩ := hD ⟨15, .data⟩ (by simp) rfl _ rfl
        replace r23 : (fun v_ w_ => ∃ q, v_ = .slice (some ⟨q, 0, none⟩) 3 3 ∧ w_.heap[q]? = some (.cells #[.int .i64 (Lib.compareInt a1 b1), .int .i64 (Lib.compareInt a2 b2), .int .i64 (Lib.compareInt a3 b3)] 3 (0, 0))) u23 w' := r23
        clear hA hD
        refine stepOk_plain rfl ?_
        intro K hK
        obtain ⟨q, rfl, hq⟩ := r23; gi_wp2_with fail; refine (callsIn_wide.2 (or_any q _ _ _ _ hq)).mono ?_; rintro e w2 ⟨rfl, rfl⟩; exact hK _ _ rfl (Grows.refl _)
      · -- 17
        intro a' w' hA hC hD
        obtain ⟨u24, s24, r24⟩ := hD ⟨16, .data⟩ (by simp) rfl _ rfl
        replace r24 : u24 = _ := r24
        subst r24
        clear hA hD
        refine stepOk_plain rfl ?_
        intro K hK
        gi_wp2
        exact hK _ _ rfl (Grows.refl _)
    case hend =>
      intro w3 hC
      simp only [EndFrom, eqv, forall_eq, Act.put, List.length_cons, List.length_nil, List.drop_succ_cons, List.drop_zero, Nat.reduceAdd, List.setIfInBounds_toArray, List.set_cons_succ, List.set_cons_zero]
      intro u hu
      gi_wp2
      go_wp2
      go_ret
      exact ⟨rfl, HW.out.trans hC⟩
  · go_enter Tryd.func29, Tryd.ntmps29
    go_wp2_with fail
    go_ret
    exact ⟨rfl, (Grows.alloc w _).trans (Grows.alloc _ _)⟩
end Go.Proofs.YtppaheekpmgifaaDoor
