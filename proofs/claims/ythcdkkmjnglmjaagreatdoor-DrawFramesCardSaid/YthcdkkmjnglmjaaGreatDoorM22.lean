/- Merged texts: DrS DrT DrU DfL DfA DrV. -/
import Derived.Test.YthcdkkmjnglmjaaGreatDoorM21
import Derived.LaidEqlPtr
/- canvas.Same of two canvases that show the same. -/
namespace Go.Proofs.YthcdkkmjnglmjaaGreatDoor
set_option linter.unusedSimpArgs false
set_option linter.unusedVariables false
open Go.RowKit Go.Shelf
attribute [local go_sem] Oper.semAt_some
theorem tileEq_run (T U : TileT) (w : World) : (binOp .eql 75 (.agg (encT T).toArray) (.agg (encT U).toArray)).run Tryz.prog w = .ok (.bool (decide (T = U))) w := by
 simp [binOp, tileE_run T U w]
theorem tileEqS_run (T : TileT) (w : World) : (binOp .eql 75 (.agg (encT T).toArray) (.agg (encT T).toArray)).run Tryz.prog w = .ok (.bool true) w := by
 rw [tileEq_run, decide_eq_true (rfl : T = T)]
theorem tileGE_run (x y : Operand) (a b : Array Value) (w : World) : (eqGuard .eql 75 x y (.agg a) (.agg b)).run Tryz.prog w = .ok () w := by
 have h : Tryz.prog.eqGuardType Tryz.prog.depth 75 = false := by kernel_rfl
 simp [eqGuard, h]
theorem tile_info : ∃ j, Tryz.prog.info? 75 = some j ∧ j.size ≠ 0 := by
 have h := size_T zeroT
 cases hi : Tryz.prog.info? 75 with
 | none => simp [hi] at h
 | some j =>
  refine ⟨j, rfl, ?_⟩
  rw [hi] at h
  simp [encT_len] at h
  omega
theorem ptrT_same (a : Nat) (w : World) : (binOp .eql 76 (.pointer (some ⟨a, 0, none⟩)) (.pointer (some ⟨a, 0, none⟩))).run Tryz.prog w = .ok (.bool true) w := by
 obtain ⟨j, h1, h2⟩ := tile_info
 exact run_eql_ptr_same w ⟨a, 0, none⟩ Tryz.underlying76 h1
theorem ptrT_other (a b : Nat) (hne : a ≠ b) {T U : TileT} {w : World} (ha : BlkA a (.cells (encT T).toArray 75 (0, 0)) w) (hb : BlkA b (.cells (encT U).toArray 75 (0, 0)) w) : (binOp .eql 76 (.pointer (some ⟨a, 0, none⟩)) (.pointer (some ⟨b, 0, none⟩))).run Tryz.prog w = .ok (.bool false) w := by
 obtain ⟨j, h1, h2⟩ := tile_info
 exact run_eql_ptr_other w (a := ⟨a, 0, none⟩) (b := ⟨b, 0, none⟩) Tryz.underlying76 h1 h2 (fun e => hne (by cases e; rfl)) ha.at_ hb.at_
set_option maxRecDepth 100000 in
set_option maxHeartbeats 2000000 in
theorem same1_any (a b : Nat) (T : TileT) (w : World) (ha : BlkA a (.cells (encT T).toArray 75 (0, 0)) w) (hb : BlkA b (.cells (encT T).toArray 75 (0, 0)) w) :
 Calls Tryz.prog 54 #[.pointer (some ⟨a, 0, none⟩), .pointer (some ⟨b, 0, none⟩)] w (Gives (.bool true) w) := by
 have HA := Lib.hid ha
 have HB := Lib.hid hb
 have HSZ := Lib.hid (size_T T)
 clear ha hb
 by_cases h : a = b
 · subst h
   go_enter Tryz.func54, Tryz.ntmps54
   repeat ((fail_if_success (with_reducible refine stop_at (id := 1) ?_)); (first | go_values | go_skip | go_guarded | go_step | go_upon | go_back | (simp only [Int.not_lt, Int.not_le] at *; go_simp) | (go_values <;> (try go_simp)) | (go_ite <;> go_prune <;> (try go_simp)) | (split <;> (first | (rename_i hx; exact (hx _ rfl).elim) | go_prune))))
   refine (wpIn_wide (n := 0)).1 ?_
   apply wp_region_vals 13 (Rl := [(eqv _), (eqv _), (fun v_ _ => v_ = (.bool true : Value)), (fun v_ _ => v_ = (.bool true : Value)), (fun v_ _ => v_ = (undef : Value)), (fun v_ _ => v_ = (undef : Value)), (fun v_ _ => v_ = (undef : Value)), (fun v_ _ => v_ = (undef : Value)), (fun v_ _ => v_ = (undef : Value)), (fun v_ _ => v_ = (undef : Value)), (fun v_ _ => v_ = (undef : Value)), (eqv _), (eqv _)]) (C := (fun x y => Below x.heap.size x y))
   case hm => kernel_rfl
   case hk => rfl
   case hCr => exact (fun _ => Below.refl _ _)
   case hCt => intro _ _ _; exact (fun h k => grows_trans h k)
   case hst => exact ⟨fun _ _ _ _ h => h, fun _ _ _ _ h => h, fun _ _ _ _ h => h, fun _ _ _ _ h => h, fun _ _ _ _ h => h, fun _ _ _ _ h => h, fun _ _ _ _ h => h, fun _ _ _ _ h => h, fun _ _ _ _ h => h, fun _ _ _ _ h => h, fun _ _ _ _ h => h, fun _ _ _ _ h => h, fun _ _ _ _ h => h, trivial⟩
   case hfo => kernel_rfl
   case ht => kernel_rfl
   case hC0 => exact (grows_drew _)
   case hsteps =>
    refine ⟨?_, ?_, ?_, ?_, ?_, ?_, ?_, ?_, ?_, ?_, ?_, ?_, ?_, trivial⟩
    · intro a' w' hA hC hD; have s0 : a'.tmps[0]? = some _ := (hA.at 0 (by kernel_rfl)).trans rfl; clear hA hD; refine stepOk_plain rfl ?_; intro K hK; gi_wp2; exact hK _ _ rfl ((fun _ => Below.refl _ _) _)
    · intro a' w' hA hC hD; have s1 : a'.tmps[1]? = some _ := (hA.at 1 (by kernel_rfl)).trans rfl; clear hA hD; refine stepOk_plain rfl ?_; intro K hK; gi_wp2; exact hK _ _ rfl ((fun _ => Below.refl _ _) _)
    · intro a' w' hA hC hD; obtain ⟨u5, s5, r5⟩ := hD ⟨0, .data⟩ (by simp) rfl _ rfl; replace r5 : u5 = _ := r5; subst r5; obtain ⟨u6, s6, r6⟩ := hD ⟨1, .data⟩ (by simp) rfl _ rfl; replace r6 : u6 = _ := r6; subst r6
      have hp := ptrT_same a w'
      clear hA hD; refine stepOk_plain rfl ?_; intro K hK; gi_wp2; exact hK (.bool true) _ rfl ((fun _ => Below.refl _ _) _)
    · intro a' w' hA hC hD; obtain ⟨u7, s7, r7⟩ := hD ⟨2, .data⟩ (by simp) rfl _ rfl; replace r7 : u7 = .bool true := r7; subst r7; clear hA hD; refine stepOk_plain rfl ?_; intro K hK; gi_wp2; exact hK (.bool true) _ rfl ((fun _ => Below.refl _ _) _)
    · intro a' w' hA hC hD; have s0 : a'.tmps[0]? = some _ := (hA.at 0 (by kernel_rfl)).trans rfl; obtain ⟨u8, s8, r8⟩ := hD ⟨3, .guard⟩ (by simp) rfl _ rfl; replace r8 : u8 = .bool true := r8; subst r8; clear hA hD
      exact stepOk_skip rfl rfl s8 rfl
    · intro a' w' hA hC hD; obtain ⟨u9, s9, r9⟩ := hD ⟨4, .data⟩ (by simp) rfl _ rfl; replace r9 : u9 = undef := r9; subst r9; obtain ⟨u8, s8, r8⟩ := hD ⟨3, .guard⟩ (by simp) rfl _ rfl; replace r8 : u8 = .bool true := r8; subst r8; clear hA hD
      exact stepOk_skip rfl rfl s8 rfl
    · intro a' w' hA hC hD; obtain ⟨u10, s10, r10⟩ := hD ⟨5, .data⟩ (by simp) rfl _ rfl; replace r10 : u10 = undef := r10; subst r10; obtain ⟨u8, s8, r8⟩ := hD ⟨3, .guard⟩ (by simp) rfl _ rfl; replace r8 : u8 = .bool true := r8; subst r8; clear hA hD
      exact stepOk_skip rfl rfl s8 rfl
    · intro a' w' hA hC hD; have s1 : a'.tmps[1]? = some _ := (hA.at 1 (by kernel_rfl)).trans rfl; obtain ⟨u8, s8, r8⟩ := hD ⟨3, .guard⟩ (by simp) rfl _ rfl; replace r8 : u8 = .bool true := r8; subst r8; clear hA hD
      exact stepOk_skip rfl rfl s8 rfl
    · intro a' w' hA hC hD; obtain ⟨u12, s12, r12⟩ := hD ⟨7, .data⟩ (by simp) rfl _ rfl; replace r12 : u12 = undef := r12; subst r12; obtain ⟨u8, s8, r8⟩ := hD ⟨3, .guard⟩ (by simp) rfl _ rfl; replace r8 : u8 = .bool true := r8; subst r8; clear hA hD
      exact stepOk_skip rfl rfl s8 rfl
    · intro a' w' hA hC hD; obtain ⟨u13, s13, r13⟩ := hD ⟨8, .data⟩ (by simp) rfl _ rfl; replace r13 : u13 = undef := r13; subst r13; obtain ⟨u8, s8, r8⟩ := hD ⟨3, .guard⟩ (by simp) rfl _ rfl; replace r8 : u8 = .bool true := r8; subst r8; clear hA hD
      exact stepOk_skip rfl rfl s8 rfl
    · intro a' w' hA hC hD; obtain ⟨u11, s11, r11⟩ := hD ⟨6, .data⟩ (by simp) rfl _ rfl; replace r11 : u11 = undef := r11; subst r11; obtain ⟨u14, s14, r14⟩ := hD ⟨9, .data⟩ (by simp) rfl _ rfl; replace r14 : u14 = undef := r14; subst r14; obtain ⟨u8, s8, r8⟩ := hD ⟨3, .guard⟩ (by simp) rfl _ rfl; replace r8 : u8 = .bool true := r8; subst r8; clear hA hD
      exact stepOk_skip rfl rfl s8 rfl
    · intro a' w' hA hC hD; obtain ⟨u8, s8, r8⟩ := hD ⟨3, .data⟩ (by simp) rfl _ rfl; replace r8 : u8 = .bool true := r8; subst r8; obtain ⟨u15, s15, r15⟩ := hD ⟨10, .data⟩ (by simp) rfl _ rfl; replace r15 : u15 = undef := r15; subst r15; clear hA hD; refine stepOk_plain rfl ?_; intro K hK; gi_wp2; exact hK _ _ rfl ((fun _ => Below.refl _ _) _)
    · intro a' w' hA hC hD; obtain ⟨u16, s16, r16⟩ := hD ⟨11, .data⟩ (by simp) rfl _ rfl; replace r16 : u16 = _ := r16; subst r16; clear hA hD; refine stepOk_plain rfl ?_; intro K hK; gi_wp2; exact hK _ _ rfl ((fun _ => Below.refl _ _) _)
   case hend =>
    intro w4 hC
    simp only [EndFrom, eqv, forall_eq, Act.put, List.length_cons, List.length_nil, List.drop_succ_cons, List.drop_zero, Nat.reduceAdd, List.setIfInBounds_toArray, List.set_cons_succ, List.set_cons_zero]
    have HC := Lib.hid hC
    clear hC
    gi_wp2
    go_wp2_with fail
    go_ret
    exact ⟨rfl, HC.out⟩
 · have h2 : ¬ b = a := fun e => h e.symm
   go_enter Tryz.func54, Tryz.ntmps54
   repeat ((fail_if_success (with_reducible refine stop_at (id := 1) ?_)); (first | go_values | go_skip | go_guarded | go_step | go_upon | go_back | (simp only [Int.not_lt, Int.not_le] at *; go_simp) | (go_values <;> (try go_simp)) | (go_ite <;> go_prune <;> (try go_simp)) | (split <;> (first | (rename_i hx; exact (hx _ rfl).elim) | go_prune))))
   refine (wpIn_wide (n := 0)).1 ?_
   apply wp_region_vals 13 (Rl := [(eqv _), (eqv _), (fun v_ _ => v_ = (.bool false : Value)), (fun v_ _ => v_ = (.bool false : Value)), (eqv _), (eqv _), (fun v_ _ => v_ = (.agg (encT T).toArray : Value)), (eqv _), (eqv _), (fun v_ _ => v_ = (.agg (encT T).toArray : Value)), (fun v_ _ => v_ = (.bool true : Value)), (eqv _), (eqv _)]) (C := (fun x y => Below x.heap.size x y))
   case hm => kernel_rfl
   case hk => rfl
   case hCr => exact (fun _ => Below.refl _ _)
   case hCt => intro _ _ _; exact (fun h k => grows_trans h k)
   case hst => exact ⟨fun _ _ _ _ h => h, fun _ _ _ _ h => h, fun _ _ _ _ h => h, fun _ _ _ _ h => h, fun _ _ _ _ h => h, fun _ _ _ _ h => h, fun _ _ _ _ h => h, fun _ _ _ _ h => h, fun _ _ _ _ h => h, fun _ _ _ _ h => h, fun _ _ _ _ h => h, fun _ _ _ _ h => h, fun _ _ _ _ h => h, trivial⟩
   case hfo => kernel_rfl
   case ht => kernel_rfl
   case hC0 => exact (grows_drew _)
   case hsteps =>
    refine ⟨?_, ?_, ?_, ?_, ?_, ?_, ?_, ?_, ?_, ?_, ?_, ?_, ?_, trivial⟩
    · intro a' w' hA hC hD; have s0 : a'.tmps[0]? = some _ := (hA.at 0 (by kernel_rfl)).trans rfl; clear hA hD; refine stepOk_plain rfl ?_; intro K hK; gi_wp2; exact hK _ _ rfl ((fun _ => Below.refl _ _) _)
    · intro a' w' hA hC hD; have s1 : a'.tmps[1]? = some _ := (hA.at 1 (by kernel_rfl)).trans rfl; clear hA hD; refine stepOk_plain rfl ?_; intro K hK; gi_wp2; exact hK _ _ rfl ((fun _ => Below.refl _ _) _)
    · intro a' w' hA hC hD; obtain ⟨u5, s5, r5⟩ := hD ⟨0, .data⟩ (by simp) rfl _ rfl; replace r5 : u5 = _ := r5; subst r5; obtain ⟨u6, s6, r6⟩ := hD ⟨1, .data⟩ (by simp) rfl _ rfl; replace r6 : u6 = _ := r6; subst r6
      have hp := ptrT_other a b h (HA.out.below hC) (HB.out.below hC)
      clear hA hD; refine stepOk_plain rfl ?_; intro K hK; gi_wp2; exact hK (.bool false) _ rfl ((fun _ => Below.refl _ _) _)
    · intro a' w' hA hC hD; obtain ⟨u7, s7, r7⟩ := hD ⟨2, .data⟩ (by simp) rfl _ rfl; replace r7 : u7 = .bool false := r7; subst r7; clear hA hD; refine stepOk_plain rfl ?_; intro K hK; gi_wp2; exact hK (.bool false) _ rfl ((fun _ => Below.refl _ _) _)
    · intro a' w' hA hC hD; have s0 : a'.tmps[0]? = some _ := (hA.at 0 (by kernel_rfl)).trans rfl; obtain ⟨u8, s8, r8⟩ := hD ⟨3, .guard⟩ (by simp) rfl _ rfl; replace r8 : u8 = .bool false := r8; subst r8; clear hA hD; refine stepOk_want rfl rfl s8 ?_; intro K hK; gi_wp2; exact hK _ _ rfl ((fun _ => Below.refl _ _) _)
    · intro a' w' hA hC hD; obtain ⟨u9, s9, r9⟩ := hD ⟨4, .data⟩ (by simp) rfl _ rfl; replace r9 : u9 = _ := r9; subst r9; obtain ⟨u8, s8, r8⟩ := hD ⟨3, .guard⟩ (by simp) rfl _ rfl; replace r8 : u8 = .bool false := r8; subst r8; clear hA hD; refine stepOk_want rfl rfl s8 ?_; intro K hK; gi_wp2; exact hK _ _ rfl ((fun _ => Below.refl _ _) _)
    · intro a' w' hA hC hD; obtain ⟨u10, s10, r10⟩ := hD ⟨5, .data⟩ (by simp) rfl _ rfl; replace r10 : u10 = _ := r10; subst r10; obtain ⟨u8, s8, r8⟩ := hD ⟨3, .guard⟩ (by simp) rfl _ rfl; replace r8 : u8 = .bool false := r8; subst r8; clear hA hD; refine stepOk_want rfl rfl s8 ?_; intro K hK
      refine opIn_load 75 _ rfl a (by simp [Act.eval, s10]) 75 (encT T).toArray (0, 0) _ (HA.out.below hC).at_ Tryz.underlying75 rfl HSZ.out (hK _ _ rfl (Below.refl _ _))
    · intro a' w' hA hC hD; have s1 : a'.tmps[1]? = some _ := (hA.at 1 (by kernel_rfl)).trans rfl; obtain ⟨u8, s8, r8⟩ := hD ⟨3, .guard⟩ (by simp) rfl _ rfl; replace r8 : u8 = .bool false := r8; subst r8; clear hA hD; refine stepOk_want rfl rfl s8 ?_; intro K hK; gi_wp2; exact hK _ _ rfl ((fun _ => Below.refl _ _) _)
    · intro a' w' hA hC hD; obtain ⟨u12, s12, r12⟩ := hD ⟨7, .data⟩ (by simp) rfl _ rfl; replace r12 : u12 = _ := r12; subst r12; obtain ⟨u8, s8, r8⟩ := hD ⟨3, .guard⟩ (by simp) rfl _ rfl; replace r8 : u8 = .bool false := r8; subst r8; clear hA hD; refine stepOk_want rfl rfl s8 ?_; intro K hK; gi_wp2; exact hK _ _ rfl ((fun _ => Below.refl _ _) _)
    · intro a' w' hA hC hD; obtain ⟨u13, s13, r13⟩ := hD ⟨8, .data⟩ (by simp) rfl _ rfl; replace r13 : u13 = _ := r13; subst r13; obtain ⟨u8, s8, r8⟩ := hD ⟨3, .guard⟩ (by simp) rfl _ rfl; replace r8 : u8 = .bool false := r8; subst r8; clear hA hD; refine stepOk_want rfl rfl s8 ?_; intro K hK
      refine opIn_load 75 _ rfl b (by simp [Act.eval, s13]) 75 (encT T).toArray (0, 0) _ (HB.out.below hC).at_ Tryz.underlying75 rfl HSZ.out (hK _ _ rfl (Below.refl _ _))
    · intro a' w' hA hC hD; obtain ⟨u11, s11, r11⟩ := hD ⟨6, .data⟩ (by simp) rfl _ rfl; replace r11 : u11 = .agg (encT T).toArray := r11; subst r11; obtain ⟨u14, s14, r14⟩ := hD ⟨9, .data⟩ (by simp) rfl _ rfl; replace r14 : u14 = .agg (encT T).toArray := r14; subst r14; obtain ⟨u8, s8, r8⟩ := hD ⟨3, .guard⟩ (by simp) rfl _ rfl; replace r8 : u8 = .bool false := r8; subst r8; clear hA hD; refine stepOk_want rfl rfl s8 ?_; intro K hK
      refine opIn_bin _ _ _ _ _ rfl (by simp [Act.eval, s11]) (by simp [Act.eval, s14]) (tileGE_run _ _ _ _ w') (tileEqS_run T w') (hK _ _ rfl (Below.refl _ _))
    · intro a' w' hA hC hD; obtain ⟨u8, s8, r8⟩ := hD ⟨3, .data⟩ (by simp) rfl _ rfl; replace r8 : u8 = .bool false := r8; subst r8; obtain ⟨u15, s15, r15⟩ := hD ⟨10, .data⟩ (by simp) rfl _ rfl; replace r15 : u15 = .bool true := r15; subst r15; clear hA hD; refine stepOk_plain rfl ?_; intro K hK; gi_wp2; exact hK _ _ rfl ((fun _ => Below.refl _ _) _)
    · intro a' w' hA hC hD; obtain ⟨u16, s16, r16⟩ := hD ⟨11, .data⟩ (by simp) rfl _ rfl; replace r16 : u16 = _ := r16; subst r16; clear hA hD; refine stepOk_plain rfl ?_; intro K hK; gi_wp2; exact hK _ _ rfl ((fun _ => Below.refl _ _) _)
   case hend =>
    intro w4 hC
    simp only [EndFrom, eqv, forall_eq, Act.put, List.length_cons, List.length_nil, List.drop_succ_cons, List.drop_zero, Nat.reduceAdd, List.setIfInBounds_toArray, List.set_cons_succ, List.set_cons_zero]
    have HC := Lib.hid hC
    clear hC
    gi_wp2
    go_wp2_with fail
    go_ret
    exact ⟨rfl, HC.out⟩
end Go.Proofs.YthcdkkmjnglmjaaGreatDoor

/- canvas.Same of two canvases that show the same, whole. -/
namespace Go.Proofs.YthcdkkmjnglmjaaGreatDoor
set_option linter.unusedSimpArgs false
set_option linter.unusedVariables false
open Go.RowKit Go.Shelf
attribute [local go_sem] Oper.semAt_some
set_option maxRecDepth 100000 in
set_option maxHeartbeats 2000000 in
theorem tilesSame_any (b b2 n cap cap2 : Nat) (hn : n ≤ 1000) (w : World) (h : ∀ k, k < n → ∃ q q2 T, w.cell? ⟨b, k, none⟩ = some (.pointer (some ⟨q, 0, none⟩)) ∧ w.cell? ⟨b2, k, none⟩ = some (.pointer (some ⟨q2, 0, none⟩)) ∧ BlkA q (.cells (encT T).toArray 75 (0, 0)) w ∧ BlkA q2 (.cells (encT T).toArray 75 (0, 0)) w) :
 Calls Tryz.prog 53 #[.slice (some ⟨b, 0, none⟩) n cap, .slice (some ⟨b2, 0, none⟩) n cap2, .func (.func 54) #[] #[]] w (Gives (.bool true) w) := by
 have HH := Lib.hid h
 have HN := Lib.hid hn
 have HS := Lib.hid (LowAt.mk (Below.refl w.heap.size w))
 clear h hn
 go_enter Tryz.func53, Tryz.ntmps53
 go_wp2_with fail
 go_loopw [17] (fun i wr => ∃ k : Nat, k ≤ n ∧ i = .int .i64 (k : Int) ∧ LowAt w wr) (fun i _ => n - (intOf i).toNat)
 case atStart => exact ⟨0, by omega, rfl, HS.out⟩
 case round =>
  obtain ⟨k, hk, rfl, hg⟩ := hrel
  clear HS
  have HG := Lib.hid hg
  clear hg
  by_cases hlt : k < n
  · have HK := Lib.hid hlt
    have e3 : wrap64 ((k : Int) + 1) = ((k + 1 : Nat) : Int) := by have := HN.out; unfold wrap64; omega
    have HWK := Lib.hid e3
    obtain ⟨q, q2, T, h1, h2, h3, h4⟩ := HH.out k hlt
    have c1 := (HG.out.low.cell (p := ⟨b, k, none⟩) (cell_lt h1)).trans h1
    have c2 := (HG.out.low.cell (p := ⟨b2, k, none⟩) (cell_lt h2)).trans h2
    have HQ := Lib.hid (h3.below HG.out.low)
    have HQ2 := Lib.hid (h4.below HG.out.low)
    clear h1 h2 h3 h4
    go_wp2_with fail
    clear c1 c2
    refine (same1_any q q2 T wr HQ.out HQ2.out).mono ?_
    rintro e w2 ⟨rfl, hb⟩
    have HG := Lib.hid (HG.out.below hb)
    clear hb
    go_wp2_with fail
    go_roundw
    case rel => exact ⟨k + 1, by omega, by first | exact congrArg (Value.int .i64) HWK.out | exact congrArg (Value.int .i64) (Int.natCast_succ k).symm | (congr 1; omega), HG.out⟩
    case measure => (try rw [HWK.out]); have := HK.out; simp only [intOf]; omega
  · go_wp2_with fail
    go_ret
    exact ⟨rfl, HG.out.low⟩
set_option maxRecDepth 100000 in
set_option maxHeartbeats 2000000 in
theorem same_eq (C : CanT) (c d : Nat) (w : World) (hC : CanAt w c C) (hD : CanAt w d C) :
 Calls Tryz.prog 13 #[.pointer (some ⟨c, 0, none⟩), .pointer (some ⟨d, 0, none⟩)] w (Gives (.bool true) w) := by
 obtain ⟨ok, b, cap, qs, h1, h2, h3, h4, h5⟩ := hC
 obtain ⟨-, b2, cap2, qs2, g1, g2, g3, g4, g5⟩ := hD
 have HP := Lib.hid (BlkA.mk h1)
 have HQ := Lib.hid (BlkA.mk g1)
 have hlen := ok.len
 obtain ⟨wide, high, tiles⟩ := C
 simp only at *
 obtain ⟨n, hn⟩ : ∃ n, tiles.length = n := ⟨_, rfl⟩
 rw [hn] at HP HQ
 have HE : Hid (∀ w', Below w.heap.size w w' → Calls Tryz.prog 53 #[.slice (some ⟨b, 0, none⟩) n cap, .slice (some ⟨b2, 0, none⟩) n cap2, .func (.func 54) #[] #[]] w' (Gives (.bool true) w')) := Lib.hid fun w' hb => by
  refine tilesSame_any b b2 n cap cap2 (by omega) w' fun k hk => ?_
  have k1 : k < qs.length := by omega
  have k2 : k < qs2.length := by omega
  have k3 : k < tiles.length := by omega
  have e1 := h4 k _ (List.getElem?_eq_getElem k1)
  have e2 := g4 k _ (List.getElem?_eq_getElem k2)
  exact ⟨_, _, _, (hb.cell (p := ⟨b, k, none⟩) (cell_lt e1)).trans e1, (hb.cell (p := ⟨b2, k, none⟩) (cell_lt e2)).trans e2, (BlkA.mk (h5 k _ _ (List.getElem?_eq_getElem k1) (List.getElem?_eq_getElem k3))).below hb, (BlkA.mk (g5 k _ _ (List.getElem?_eq_getElem k2) (List.getElem?_eq_getElem k3))).below hb⟩
 clear ok h1 h2 h3 h4 h5 g1 g2 g3 g4 g5 hlen hn
 go_enter Tryz.func13, Tryz.ntmps13
 repeat ((fail_if_success (with_reducible refine stop_at (id := 3) ?_)); (first | go_values | go_skip | go_guarded | go_step | go_upon | go_back | (simp only [Int.not_lt, Int.not_le] at *; go_simp) | (go_values <;> (try go_simp)) | (go_ite <;> go_prune <;> (try go_simp)) | (split <;> (first | (rename_i hx; exact (hx _ rfl).elim) | go_prune))))
 refine (wpIn_wide (n := 0)).1 ?_
 apply wp_region_vals 21 (Rl := [(eqv _), (eqv _), (eqv _), (eqv _), (eqv _), (eqv _), (eqv _), (eqv _), (fun v_ _ => v_ = (.bool true : Value)), (fun v_ _ => v_ = (.bool true : Value)), (eqv _), (eqv _), (eqv _), (eqv _), (eqv _), (eqv _), (eqv _), (eqv _), (eqv _), (eqv _), (eqv _)]) (C := (fun x y => Below x.heap.size x y))
 case hm => kernel_rfl
 case hk => rfl
 case hCr => exact (fun _ => Below.refl _ _)
 case hCt => intro _ _ _; exact (fun h k => grows_trans h k)
 case hst => exact ⟨fun _ _ _ _ h => h, fun _ _ _ _ h => h, fun _ _ _ _ h => h, fun _ _ _ _ h => h, fun _ _ _ _ h => h, fun _ _ _ _ h => h, fun _ _ _ _ h => h, fun _ _ _ _ h => h, fun _ _ _ _ h => h, fun _ _ _ _ h => h, fun _ _ _ _ h => h, fun _ _ _ _ h => h, fun _ _ _ _ h => h, fun _ _ _ _ h => h, fun _ _ _ _ h => h, fun _ _ _ _ h => h, fun _ _ _ _ h => h, fun _ _ _ _ h => h, fun _ _ _ _ h => h, fun _ _ _ _ h => h, fun _ _ _ _ h => h, trivial⟩
 case hfo => kernel_rfl
 case ht => kernel_rfl
 case hC0 => exact (grows_drew _)
 case hsteps =>
  refine ⟨?_, ?_, ?_, ?_, ?_, ?_, ?_, ?_, ?_, ?_, ?_, ?_, ?_, ?_, ?_, ?_, ?_, ?_, ?_, ?_, ?_, trivial⟩
  · intro a' w' hA hC hD; have s0 : a'.tmps[0]? = some _ := (hA.at 0 (by kernel_rfl)).trans rfl; clear hA hD; refine stepOk_plain rfl ?_; intro K hK; gi_wp2; exact hK _ _ rfl ((fun _ => Below.refl _ _) _)
  · intro a' w' hA hC hD; obtain ⟨u14, s14, r14⟩ := hD ⟨0, .data⟩ (by simp) rfl _ rfl; replace r14 : u14 = _ := r14; subst r14; clear hA hD; refine stepOk_plain rfl ?_; intro K hK; gi_wp2; exact hK _ _ rfl ((fun _ => Below.refl _ _) _)
  · intro a' w' hA hC hD; obtain ⟨u15, s15, r15⟩ := hD ⟨1, .data⟩ (by simp) rfl _ rfl; replace r15 : u15 = _ := r15; subst r15; clear hA hD; refine stepOk_plain rfl ?_; intro K hK; gi_wp2; exact hK _ _ rfl ((fun _ => Below.refl _ _) _)
  · intro a' w' hA hC hD; obtain ⟨u16, s16, r16⟩ := hD ⟨2, .data⟩ (by simp) rfl _ rfl; replace r16 : u16 = _ := r16; subst r16
    have z0 := cell_of_block (k := 0) (HP.out.below hC).at_ rfl; have z1 := cell_of_block (k := 1) (HP.out.below hC).at_ rfl
    clear hA hD; refine stepOk_plain rfl ?_; intro K hK; gi_wp2; exact hK _ _ rfl ((fun _ => Below.refl _ _) _)
  · intro a' w' hA hC hD; have s1 : a'.tmps[1]? = some _ := (hA.at 1 (by kernel_rfl)).trans rfl; clear hA hD; refine stepOk_plain rfl ?_; intro K hK; gi_wp2; exact hK _ _ rfl ((fun _ => Below.refl _ _) _)
  · intro a' w' hA hC hD; obtain ⟨u18, s18, r18⟩ := hD ⟨4, .data⟩ (by simp) rfl _ rfl; replace r18 : u18 = _ := r18; subst r18; clear hA hD; refine stepOk_plain rfl ?_; intro K hK; gi_wp2; exact hK _ _ rfl ((fun _ => Below.refl _ _) _)
  · intro a' w' hA hC hD; obtain ⟨u19, s19, r19⟩ := hD ⟨5, .data⟩ (by simp) rfl _ rfl; replace r19 : u19 = _ := r19; subst r19; clear hA hD; refine stepOk_plain rfl ?_; intro K hK; gi_wp2; exact hK _ _ rfl ((fun _ => Below.refl _ _) _)
  · intro a' w' hA hC hD; obtain ⟨u20, s20, r20⟩ := hD ⟨6, .data⟩ (by simp) rfl _ rfl; replace r20 : u20 = _ := r20; subst r20
    have z0 := cell_of_block (k := 0) (HQ.out.below hC).at_ rfl; have z1 := cell_of_block (k := 1) (HQ.out.below hC).at_ rfl
    clear hA hD; refine stepOk_plain rfl ?_; intro K hK; gi_wp2; exact hK _ _ rfl ((fun _ => Below.refl _ _) _)
  · intro a' w' hA hC hD; obtain ⟨u17, s17, r17⟩ := hD ⟨3, .data⟩ (by simp) rfl _ rfl; replace r17 : u17 = _ := r17; subst r17; obtain ⟨u21, s21, r21⟩ := hD ⟨7, .data⟩ (by simp) rfl _ rfl; replace r21 : u21 = _ := r21; subst r21; clear hA hD; refine stepOk_plain rfl ?_; intro K hK; gi_wp2; exact hK (.bool true) _ rfl ((fun _ => Below.refl _ _) _)
  · intro a' w' hA hC hD; obtain ⟨u22, s22, r22⟩ := hD ⟨8, .data⟩ (by simp) rfl _ rfl; replace r22 : u22 = .bool true := r22; subst r22; clear hA hD; refine stepOk_plain rfl ?_; intro K hK; gi_wp2; exact hK (.bool true) _ rfl ((fun _ => Below.refl _ _) _)
  · intro a' w' hA hC hD; have s0 : a'.tmps[0]? = some _ := (hA.at 0 (by kernel_rfl)).trans rfl; obtain ⟨u23, s23, r23⟩ := hD ⟨9, .guard⟩ (by simp) rfl _ rfl; replace r23 : u23 = .bool true := r23; subst r23; clear hA hD; refine stepOk_want rfl rfl s23 ?_; intro K hK; gi_wp2; exact hK _ _ rfl ((fun _ => Below.refl _ _) _)
  · intro a' w' hA hC hD; obtain ⟨u24, s24, r24⟩ := hD ⟨10, .data⟩ (by simp) rfl _ rfl; replace r24 : u24 = _ := r24; subst r24; obtain ⟨u23, s23, r23⟩ := hD ⟨9, .guard⟩ (by simp) rfl _ rfl; replace r23 : u23 = .bool true := r23; subst r23; clear hA hD; refine stepOk_want rfl rfl s23 ?_; intro K hK; gi_wp2; exact hK _ _ rfl ((fun _ => Below.refl _ _) _)
  · intro a' w' hA hC hD; obtain ⟨u25, s25, r25⟩ := hD ⟨11, .data⟩ (by simp) rfl _ rfl; replace r25 : u25 = _ := r25; subst r25; obtain ⟨u23, s23, r23⟩ := hD ⟨9, .guard⟩ (by simp) rfl _ rfl; replace r23 : u23 = .bool true := r23; subst r23; clear hA hD; refine stepOk_want rfl rfl s23 ?_; intro K hK; gi_wp2; exact hK _ _ rfl ((fun _ => Below.refl _ _) _)
  · intro a' w' hA hC hD; obtain ⟨u26, s26, r26⟩ := hD ⟨12, .data⟩ (by simp) rfl _ rfl; replace r26 : u26 = _ := r26; subst r26; obtain ⟨u23, s23, r23⟩ := hD ⟨9, .guard⟩ (by simp) rfl _ rfl; replace r23 : u23 = .bool true := r23; subst r23
    have z0 := cell_of_block (k := 2) (HP.out.below hC).at_ rfl
    clear hA hD; refine stepOk_want rfl rfl s23 ?_; intro K hK; gi_wp2; exact hK _ _ rfl ((fun _ => Below.refl _ _) _)
  · intro a' w' hA hC hD; have s1 : a'.tmps[1]? = some _ := (hA.at 1 (by kernel_rfl)).trans rfl; obtain ⟨u23, s23, r23⟩ := hD ⟨9, .guard⟩ (by simp) rfl _ rfl; replace r23 : u23 = .bool true := r23; subst r23; clear hA hD; refine stepOk_want rfl rfl s23 ?_; intro K hK; gi_wp2; exact hK _ _ rfl ((fun _ => Below.refl _ _) _)
  · intro a' w' hA hC hD; obtain ⟨u28, s28, r28⟩ := hD ⟨14, .data⟩ (by simp) rfl _ rfl; replace r28 : u28 = _ := r28; subst r28; obtain ⟨u23, s23, r23⟩ := hD ⟨9, .guard⟩ (by simp) rfl _ rfl; replace r23 : u23 = .bool true := r23; subst r23; clear hA hD; refine stepOk_want rfl rfl s23 ?_; intro K hK; gi_wp2; exact hK _ _ rfl ((fun _ => Below.refl _ _) _)
  · intro a' w' hA hC hD; obtain ⟨u29, s29, r29⟩ := hD ⟨15, .data⟩ (by simp) rfl _ rfl; replace r29 : u29 = _ := r29; subst r29; obtain ⟨u23, s23, r23⟩ := hD ⟨9, .guard⟩ (by simp) rfl _ rfl; replace r23 : u23 = .bool true := r23; subst r23; clear hA hD; refine stepOk_want rfl rfl s23 ?_; intro K hK; gi_wp2; exact hK _ _ rfl ((fun _ => Below.refl _ _) _)
  · intro a' w' hA hC hD; obtain ⟨u30, s30, r30⟩ := hD ⟨16, .data⟩ (by simp) rfl _ rfl; replace r30 : u30 = _ := r30; subst r30; obtain ⟨u23, s23, r23⟩ := hD ⟨9, .guard⟩ (by simp) rfl _ rfl; replace r23 : u23 = .bool true := r23; subst r23
    have z0 := cell_of_block (k := 2) (HQ.out.below hC).at_ rfl
    clear hA hD; refine stepOk_want rfl rfl s23 ?_; intro K hK; gi_wp2; exact hK _ _ rfl ((fun _ => Below.refl _ _) _)
  · intro a' w' hA hC hD; obtain ⟨u27, s27, r27⟩ := hD ⟨13, .data⟩ (by simp) rfl _ rfl; replace r27 : u27 = _ := r27; subst r27; obtain ⟨u31, s31, r31⟩ := hD ⟨17, .data⟩ (by simp) rfl _ rfl; replace r31 : u31 = _ := r31; subst r31; obtain ⟨u23, s23, r23⟩ := hD ⟨9, .chain⟩ (by simp) rfl _ rfl; replace r23 : u23 = .bool true := r23; subst r23; clear hA hD; refine stepOk_want rfl rfl s23 ?_; intro K hK
    gi_wp2_with fail; refine (callsIn_wide.2 (HE.out _ hC)).mono ?_; rintro e w2 ⟨rfl, hb⟩
    exact hK _ _ rfl hb
  · intro a' w' hA hC hD; obtain ⟨u23, s23, r23⟩ := hD ⟨9, .data⟩ (by simp) rfl _ rfl; replace r23 : u23 = .bool true := r23; subst r23; obtain ⟨u32, s32, r32⟩ := hD ⟨18, .data⟩ (by simp) rfl _ rfl; replace r32 : u32 = _ := r32; subst r32; clear hA hD; refine stepOk_plain rfl ?_; intro K hK; gi_wp2; exact hK _ _ rfl ((fun _ => Below.refl _ _) _)
  · intro a' w' hA hC hD; obtain ⟨u33, s33, r33⟩ := hD ⟨19, .data⟩ (by simp) rfl _ rfl; replace r33 : u33 = _ := r33; subst r33; clear hA hD; refine stepOk_plain rfl ?_; intro K hK; gi_wp2; exact hK _ _ rfl ((fun _ => Below.refl _ _) _)
 case hend =>
  intro w4 hC
  simp only [EndFrom, eqv, forall_eq, Act.put, List.length_cons, List.length_nil, List.drop_succ_cons, List.drop_zero, Nat.reduceAdd, List.setIfInBounds_toArray, List.set_cons_succ, List.set_cons_zero]
  have HC := Lib.hid hC
  clear hC
  gi_wp2
  go_wp2_with fail
  go_ret
  exact ⟨rfl, HC.out⟩
end Go.Proofs.YthcdkkmjnglmjaaGreatDoor

/- Layer 7: painting twice, washing with what is not seen through, and with what is not there, plain. -/
namespace Go.Proofs.YthcdkkmjnglmjaaGreatDoor
set_option linter.unusedSimpArgs false
set_option linter.unusedVariables false
open Go.RowKit Go.Shelf
end Go.Proofs.YthcdkkmjnglmjaaGreatDoor

/- Layer 7: what a canvas shows once something is drawn, plain: the places of a rectangle, of a frame. -/
namespace Go.Proofs.YthcdkkmjnglmjaaGreatDoor
set_option linter.unusedSimpArgs false
set_option linter.unusedVariables false
open Go.RowKit Go.Shelf
/-- A canvas that shows another one with the places of Q turned by f. -/
structure Shown (C : CanT) (Q : PtT → Prop) (f : ColT → ColT) (D : CanT) : Prop where
 ok : okCan D
 wide : D.wide = C.wide
 high : D.high = C.high
 yes : ∀ x y : Nat, x < 8 * C.wide → y < 8 * C.high → Q ⟨(x : Int), (y : Int)⟩ → colC D x y = f (colC C x y)
 no : ∀ x y : Nat, x < 8 * C.wide → y < 8 * C.high → ¬ Q ⟨(x : Int), (y : Int)⟩ → colC D x y = colC C x y
theorem Shown.unique {C D E : CanT} {Q : PtT → Prop} {f : ColT → ColT} (h : Shown C Q f D) (k : Shown C Q f E) : D = E := by
 refine CanT.ext_col h.ok k.ok (h.wide.trans k.wide.symm) (h.high.trans k.high.symm) fun x y hx hy => ?_
 rw [h.wide] at hx
 rw [h.high] at hy
 rcases Classical.em (Q ⟨(x : Int), (y : Int)⟩) with h1 | h1
 · rw [h.yes x y hx hy h1, k.yes x y hx hy h1]
 · rw [h.no x y hx hy h1, k.no x y hx hy h1]
theorem Shown.congr {C D : CanT} {Q Q' : PtT → Prop} {f : ColT → ColT} (h : Shown C Q f D) (e : ∀ p, Q p ↔ Q' p) : Shown C Q' f D :=
 ⟨h.ok, h.wide, h.high, fun x y hx hy h1 => h.yes x y hx hy ((e _).2 h1), fun x y hx hy h1 => h.no x y hx hy (fun h2 => h1 ((e _).1 h2))⟩
theorem Painted.shown {C D : CanT} {Q : PtT → Prop} {f : ColT → ColT} (hC : okCan C) (hf : ∀ c, okC c → okC (f c)) (h : Painted C Q f D) : Shown C Q f D := by
 obtain ⟨M, hM, rfl⟩ := h
 refine ⟨paintC_ok hC M hf, paintC_wide _ _ _, paintC_high _ _ _, fun x y hx hy h1 => ?_, fun x y hx hy h1 => ?_⟩
 · rw [paintC_col hC M hf hx hy, if_pos ((hM.has _).2 h1)]
 · rw [paintC_col hC M hf hx hy, if_neg (fun h2 => h1 ((hM.has _).1 h2))]
/-- Painted on what is painted with the same colour. -/
theorem Shown.more {C D E : CanT} {Q Q' : PtT → Prop} {c : ColT} (h : Shown C Q (fpaint c) D) (k : Shown D Q' (fpaint c) E) : Shown C (fun p => Q p ∨ Q' p) (fpaint c) E := by
 refine ⟨k.ok, k.wide.trans h.wide, k.high.trans h.high, fun x y hx hy h1 => ?_, fun x y hx hy h1 => ?_⟩
 · have hx' : x < 8 * D.wide := by rw [h.wide]; exact hx
   have hy' : y < 8 * D.high := by rw [h.high]; exact hy
   rcases Classical.em (Q' ⟨(x : Int), (y : Int)⟩) with h2 | h2
   · rw [k.yes x y hx' hy' h2]; rfl
   · rw [k.no x y hx' hy' h2, h.yes x y hx hy (h1.resolve_right h2)]
 · have hx' : x < 8 * D.wide := by rw [h.wide]; exact hx
   have hy' : y < 8 * D.high := by rw [h.high]; exact hy
   rw [k.no x y hx' hy' (fun h2 => h1 (.inr h2)), h.no x y hx hy (fun h2 => h1 (.inl h2))]
/-- The places of a frame. -/
def FrameP (a b p : PtT) : Prop := RectP a b p ∧ ((p.x = a.x ∨ p.x = b.x) ∨ (p.y = a.y ∨ p.y = b.y))
theorem endsL_has {s : SpT} (h : s.f ≤ s.t) (p : PtT) : hasB (endsL s) p = true ↔ p.y = s.y ∧ (p.x = s.f ∨ p.x = s.t) := by
 rw [(endsL_set h).has p, hasB_iff]
 simp only [List.mem_cons, List.not_mem_nil, or_false, exists_eq_or_imp, exists_eq_left]
 omega
theorem frL_any {a b : PtT} (ha : drawnB a = true) (hb : drawnB b = true) (p : PtT) : (List.range (rectL a b).length).any (fun i => hasB (frL (rectL a b) i) p) = true ↔ FrameP a b p := by
 have e : rectL a b = rectN a b (max a.y b.y - min a.y b.y + 1).toNat := by unfold rectL; rw [ha, hb]; rfl
 obtain ⟨n, hn⟩ : ∃ n, (max a.y b.y - min a.y b.y + 1).toNat = n := ⟨_, rfl⟩
 rw [hn] at e
 have hlen : (rectL a b).length = n := by rw [e, rectN_len]
 have hg : ∀ i, i < n → (rectL a b)[i]? = some ⟨min a.y b.y + (i : Int), min a.x b.x, max a.x b.x⟩ := fun i hi => by
  rw [e]; unfold rectN
  rw [List.getElem?_map, List.getElem?_range hi]; rfl
 rw [List.any_eq_true, hlen]
 unfold FrameP RectP
 constructor
 · rintro ⟨i, hi, h⟩
   have hi := List.mem_range.1 hi
   by_cases h1 : i = 0 ∨ i + 1 = (rectL a b).length
   · rw [frL_ends (hg i hi) h1, hasB_iff] at h
     obtain ⟨s, hs, h2, h3, h4⟩ := h
     obtain rfl := List.mem_singleton.1 hs
     rw [hlen] at h1
     simp only at h2 h3 h4
     omega
   · rw [frL_mid (hg i hi) h1, endsL_has (by simp only; omega)] at h
     simp only at h
     omega
 · rintro ⟨⟨⟨h1, h2⟩, h3, h4⟩, h5⟩
   obtain ⟨i, hi⟩ : ∃ i, (p.y - min a.y b.y).toNat = i := ⟨_, rfl⟩
   have hin : i < n := by omega
   refine ⟨i, List.mem_range.2 hin, ?_⟩
   by_cases h6 : i = 0 ∨ i + 1 = (rectL a b).length
   · rw [frL_ends (hg i hin) h6, hasB_iff]
     exact ⟨_, List.mem_singleton.2 rfl, by simp only; omega, by simp only; omega, by simp only; omega⟩
   · rw [frL_mid (hg i hin) h6, endsL_has (by simp only; omega)]
     rw [hlen] at h6
     simp only
     omega
theorem frame_shown {C : CanT} (hC : okCan C) {a b : PtT} (ha : drawnB a = true) (hb : drawnB b = true) {c : ColT} (hc : okC c) : Shown C (FrameP a b) (fpaint c) (frameK C (rectL a b) c (rectL a b).length) := by
 have hw := frameK_wide C (rectL a b) c (rectL a b).length
 refine ⟨frameK_ok hC _ hc _, hw.1, hw.2, fun x y hx hy h1 => ?_, fun x y hx hy h1 => ?_⟩
 · rw [frameK_col hC _ hc hx hy, if_pos ((frL_any ha hb _).2 h1)]; rfl
 · rw [frameK_col hC _ hc hx hy, if_neg (fun h2 => h1 ((frL_any ha hb _).1 h2))]
theorem rectP_swap (a b p : PtT) : RectP b a p ↔ RectP a b p := by unfold RectP; omega
theorem rectP_cross (a b p : PtT) : RectP ⟨a.x, b.y⟩ ⟨b.x, a.y⟩ p ↔ RectP a b p := by unfold RectP; simp only; omega
theorem frameP_whole {a b : PtT} (h : max a.x b.x - 1 < min a.x b.x + 1 ∨ max a.y b.y - 1 < min a.y b.y + 1) (p : PtT) : FrameP a b p ↔ RectP a b p := by unfold FrameP RectP; omega
theorem frameP_in {a b : PtT} (h : ¬ (max a.x b.x - 1 < min a.x b.x + 1 ∨ max a.y b.y - 1 < min a.y b.y + 1)) (p : PtT) :
 (FrameP a b p ∨ RectP ⟨min a.x b.x + 1, min a.y b.y + 1⟩ ⟨max a.x b.x - 1, max a.y b.y - 1⟩ p) ↔ RectP a b p := by unfold FrameP RectP; simp only; omega
theorem drawn_cross {a b : PtT} (ha : drawnB a = true) (hb : drawnB b = true) : drawnB ⟨a.x, b.y⟩ = true ∧ drawnB ⟨b.x, a.y⟩ = true := by
 simp only [drawn_iff] at *; omega
theorem drawn_in {a b : PtT} (ha : drawnB a = true) (hb : drawnB b = true) : drawnB ⟨min a.x b.x + 1, min a.y b.y + 1⟩ = true ∧ drawnB ⟨max a.x b.x - 1, max a.y b.y - 1⟩ = true ∨ (max a.x b.x - 1 < min a.x b.x + 1 ∨ max a.y b.y - 1 < min a.y b.y + 1) := by
 simp only [drawn_iff] at *; omega
end Go.Proofs.YthcdkkmjnglmjaaGreatDoor

/- Package draw: each drawing as what the canvas shows then. -/
namespace Go.Proofs.YthcdkkmjnglmjaaGreatDoor
set_option linter.unusedSimpArgs false
set_option linter.unusedVariables false
open Go.RowKit Go.Shelf
/-- A canvas that shows another one drawn on, or none and an error. -/
def DrawnS (ok : Bool) (er : Int) (C : CanT) (Q : PtT → Prop) (f : ColT → ColT) (w : World) (e : Ending) (w' : World) : Prop :=
 Below w.heap.size w w' ∧ (ok = true → ∃ d D, e = .returned (.tuple #[.pointer (some ⟨d, 0, none⟩), .int .i64 0]) ∧ CanAt w' d D ∧ Shown C Q f D) ∧ (ok = false → e = .returned (.tuple #[.pointer none, .int .i64 er]))
theorem DrawnP.shownS {ok : Bool} {er : Int} (h0 : er ≠ 0) {C : CanT} {Q : PtT → Prop} {f : ColT → ColT} (hC : okCan C) (hf : ∀ c, okC c → okC (f c)) {w w' : World} {e : Ending} (h : DrawnP (errOf ok er) (Painted C Q f) w e w') : DrawnS ok er C Q f w e w' := by
 refine ⟨h.1, fun h1 => ?_, fun h1 => ?_⟩
 · subst h1
   obtain ⟨d, he, D, hP, hD⟩ := h.2.1 rfl
   exact ⟨d, D, he, hD, hP.shown hC hf⟩
 · subst h1
   exact h.2.2 h0
theorem Drawn.shownS {ok : Bool} {er : Int} (h0 : er ≠ 0) {C D : CanT} {Q : PtT → Prop} {f : ColT → ColT} (hD : ok = true → Shown C Q f D) {w w' : World} {e : Ending} (h : Drawn (errOf ok er) D w e w') : DrawnS ok er C Q f w e w' := by
 refine ⟨h.1, fun h1 => ?_, fun h1 => ?_⟩
 · subst h1
   obtain ⟨d, he, hd⟩ := h.2.1 rfl
   exact ⟨d, D, he, hd, hD rfl⟩
 · subst h1
   exact h.2.2 h0
theorem sRect_any (c : ColT) (hc : okC c) (f t : PtT) (p : Nat) (C : CanT) (w : World) (hC : CanAt w p C) :
 Calls Tryz.prog 11 #[.pointer (some ⟨p, 0, none⟩), c.val, f.val, t.val] w (DrawnS (drawnB f && drawnB t) 2 C (RectP f t) (fpaint c) w) :=
 (dRect_any c hc f t p C w hC).mono fun _ _ h => h.shownS (by decide) hC.ok (fpaint_ok hc)
theorem sFrame_any (c : ColT) (hc : okC c) (f t : PtT) (p : Nat) (C : CanT) (w : World) (hC : CanAt w p C) :
 Calls Tryz.prog 12 #[.pointer (some ⟨p, 0, none⟩), c.val, f.val, t.val] w (DrawnS (drawnB f && drawnB t) 2 C (FrameP f t) (fpaint c) w) :=
 (dFrame_any c hc f t p C w hC).mono fun _ _ h => h.shownS (by decide) fun h1 => by
  rw [Bool.and_eq_true] at h1
  exact frame_shown hC.ok h1.1 h1.2 hc
end Go.Proofs.YthcdkkmjnglmjaaGreatDoor

/- gessolaw07.DrawTwice. -/
namespace Go.Proofs.YthcdkkmjnglmjaaGreatDoor
set_option linter.unusedSimpArgs false
set_option linter.unusedVariables false
open Go.RowKit Go.Shelf
attribute [local go_sem] Oper.semAt_some
/-- Of, whatever it is. -/
theorem ofBothD (wide high : Int) (a : Option Addr) (cap : Nat) (us : List TileT) (hcol : ∀ t ∈ us, ∀ c ∈ t.1, okC c) (w : World) (he : Elems w (.slice a us.length cap) us.length 256 (rowC encT us)) :
 Calls Tryz.prog 10 #[.agg #[.int .i64 wide, .int .i64 high, .slice a us.length cap]] w fun e w' => ∃ v, e = .returned (.tuple #[v, .int .i64 (errOf (okE wide high us.length) 150)]) ∧ Below w.heap.size w w' ∧
  (okE wide high us.length = true → ∃ p, v = .pointer (some ⟨p, 0, none⟩) ∧ CanAt w' p ⟨wide.toNat, high.toNat, us⟩) ∧ (okE wide high us.length = false → v = .pointer none) := by
 cases hok : okE wide high us.length with
 | false =>
  refine (of_bad wide high a us.length cap hok w).mono ?_
  rintro e w' ⟨rfl, hb⟩
  exact ⟨_, rfl, hb, fun h => (by cases h), fun _ => rfl⟩
 | true =>
  unfold okE at hok
  rw [Bool.and_eq_true] at hok
  have h1 := mayB_iff.1 hok.1
  have h2 := of_decide_eq_true hok.2
  obtain ⟨W, rfl⟩ := Int.eq_ofNat_of_zero_le (a := wide) (by omega)
  obtain ⟨H, rfl⟩ := Int.eq_ofNat_of_zero_le (a := high) (by omega)
  have hC : okCan ⟨W, H, us⟩ := ⟨by simp only; omega, by simp only; omega, by simp only; exact_mod_cast h2, hcol⟩
  refine (of_good ⟨W, H, us⟩ hC a cap w he).mono ?_
  rintro e w' ⟨p, rfl, hc, -, hb⟩
  exact ⟨_, rfl, hb, fun _ => ⟨p, rfl, by simpa using hc⟩, fun h => (by cases h)⟩
end Go.Proofs.YthcdkkmjnglmjaaGreatDoor
