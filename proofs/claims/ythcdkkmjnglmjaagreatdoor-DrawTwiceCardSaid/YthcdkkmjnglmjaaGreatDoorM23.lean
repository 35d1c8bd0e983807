/- Merged texts: DrT DrU DrV. -/
import Derived.Test.YthcdkkmjnglmjaaGreatDoorM22
/- canvas.Same of two canvases that show the same, whole. -/
namespace Go.Proofs.YthcdkkmjnglmjaaGreatDoor
set_option linter.unusedSimpArgs false
set_option linter.unusedVariables false
open Go.RowKit Go.Shelf
attribute [local go_sem] Oper.semAt_some
set_option maxRecDepth 100000 in
set_option maxHeartbeats 2000000 in
theorem tilesSame_any (b b2 n cap cap2 : Nat) (hn : n ≤ 1000) (w : World) (h : ∀ k, k < n → ∃ q q2 T, w.cell? ⟨b, k, none⟩ = some (.pointer (some ⟨q, 0, none⟩)) ∧ w.cell? ⟨b2, k, none⟩ = some (.pointer (some ⟨q2, 0, none⟩)) ∧ BlkA q (.cells (encT T).toArray 75 (0, 0)) w ∧ BlkA q2 (.cells (encT T).toArray 75 (0, 0)) w) :
 Calls Tryz.prog 53 #[.slice (some ⟨b, 0, none⟩) n cap, .slice (some ⟨b2, 0, none⟩) n cap2, .func (.func 54) #[] #[]] w (Gives (.bool true) w) := by
 have HH := Lib.hid h
 have HN := Lib.hid hn
 have HS := Lib.hid (LowAt.mk (Below.refl w.heap.size w))
 clear h hn
 go_enter Tryz.func53, Tryz.ntmps53
 go_wp2_with fail
 go_loopw [17] (fun i wr => ∃ k : Nat, k ≤ n ∧ i = .int .i64 (k : Int) ∧ LowAt w wr) (fun i _ => n - (intOf i).toNat)
 case atStart => exact ⟨0, by omega, rfl, HS.out⟩
 case round =>
  obtain ⟨k, hk, rfl, hg⟩ := hrel
  clear HS
  have HG := Lib.hid hg
  clear hg
  by_cases hlt : k < n
  · have HK := Lib.hid hlt
    have e3 : wrap64 ((k : Int) + 1) = ((k + 1 : Nat) : Int) := by have := HN.out; unfold wrap64; omega
    have HWK := Lib.hid e3
    obtain ⟨q, q2, T, h1, h2, h3, h4⟩ := HH.out k hlt
    have c1 := (HG.out.low.cell (p := ⟨b, k, none⟩) (cell_lt h1)).trans h1
    have c2 := (HG.out.low.cell (p := ⟨b2, k, none⟩) (cell_lt h2)).trans h2
    have HQ := Lib.hid (h3.below HG.out.low)
    have HQ2 := Lib.hid (h4.below HG.out.low)
    clear h1 h2 h3 h4
    go_wp2_with fail
    clear c1 c2
    refine (same1_any q q2 T wr HQ.out HQ2.out).mono ?_
    rintro e w2 ⟨rfl, hb⟩
    have HG := Lib.hid (HG.out.below hb)
    clear hb
    go_wp2_with fail
    go_roundw
    case rel => exact ⟨k + 1, by omega, by first | exact congrArg (Value.int .i64) HWK.out | exact congrArg (Value.int .i64) (Int.natCast_succ k).symm | (congr 1; omega), HG.out⟩
    case measure => (try rw [HWK.out]); have := HK.out; simp only [intOf]; omega
  · go_wp2_with fail
    go_ret
    exact ⟨rfl, HG.out.low⟩
set_option maxRecDepth 100000 in
set_option maxHeartbeats 2000000 in
theorem same_eq (C : CanT) (c d : Nat) (w : World) (hC : CanAt w c C) (hD : CanAt w d C) :
 Calls Tryz.prog 13 #[.pointer (some ⟨c, 0, none⟩), .pointer (some ⟨d, 0, none⟩)] w (Gives (.bool true) w) := by
 obtain ⟨ok, b, cap, qs, h1, h2, h3, h4, h5⟩ := hC
 obtain ⟨-, b2, cap2, qs2, g1, g2, g3, g4, g5⟩ := hD
 have HP := Lib.hid (BlkA.mk h1)
 have HQ := Lib.hid (BlkA.mk g1)
 have hlen := ok.len
 obtain ⟨wide, high, tiles⟩ := C
 simp only at *
 obtain ⟨n, hn⟩ : ∃ n, tiles.length = n := ⟨_, rfl⟩
 rw [hn] at HP HQ
 have HE : Hid (∀ w', Below w.heap.size w w' → Calls Tryz.prog 53 #[.slice (some ⟨b, 0, none⟩) n cap, .slice (some ⟨b2, 0, none⟩) n cap2, .func (.func 54) #[] #[]] w' (Gives (.bool true) w')) := Lib.hid fun w' hb => by
  refine tilesSame_any b b2 n cap cap2 (by omega) w' fun k hk => ?_
  have k1 : k < qs.length := by omega
  have k2 : k < qs2.length := by omega
  have k3 : k < tiles.length := by omega
  have e1 := h4 k _ (List.getElem?_eq_getElem k1)
  have e2 := g4 k _ (List.getElem?_eq_getElem k2)
  exact ⟨_, _, _, (hb.cell (p := ⟨b, k, none⟩) (cell_lt e1)).trans e1, (hb.cell (p := ⟨b2, k, none⟩) (cell_lt e2)).trans e2, (BlkA.mk (h5 k _ _ (List.getElem?_eq_getElem k1) (List.getElem?_eq_getElem k3))).below hb, (BlkA.mk (g5 k _ _ (List.getElem?_eq_getElem k2) (List.getElem?_eq_getElem k3))).below hb⟩
 clear ok h1 h2 h3 h4 h5 g1 g2 g3 g4 g5 hlen hn
 go_enter Tryz.func13, Tryz.ntmps13
 repeat ((fail_if_success (with_reducible refine stop_at (id := 3) ?_)); (first | go_values | go_skip | go_guarded | go_step | go_upon | go_back | (simp only [Int.not_lt, Int.not_le] at *; go_simp) | (go_values <;> (try go_simp)) | (go_ite <;> go_prune <;> (try go_simp)) | (split <;> (first | (rename_i hx; exact (hx _ rfl).elim) | go_prune))))
 refine (wpIn_wide (n := 0)).1 ?_
 apply wp_region_vals 21 (Rl := [(eqv _), (eqv _), (eqv _), (eqv _), (eqv _), (eqv _), (eqv _), (eqv _), (fun v_ _ => v_ = (.bool true : Value)), (fun v_ _ => v_ = (.bool true : Value)), (eqv _), (eqv _), (eqv _), (eqv _), (eqv _), (eqv _), (eqv _), (eqv _), (eqv _), (eqv _), (eqv _)]) (C := (fun x y => Below x.heap.size x y))
 case hm => kernel_rfl
 case hk => rfl
 case hCr => exact (fun _ => Below.refl _ _)
 case hCt => intro _ _ _; exact (fun h k => grows_trans h k)
 case hst => exact ⟨fun _ _ _ _ h => h, fun _ _ _ _ h => h, fun _ _ _ _ h => h, fun _ _ _ _ h => h, fun _ _ _ _ h => h, fun _ _ _ _ h => h, fun _ _ _ _ h => h, fun _ _ _ _ h => h, fun _ _ _ _ h => h, fun _ _ _ _ h => h, fun _ _ _ _ h => h, fun _ _ _ _ h => h, fun _ _ _ _ h => h, fun _ _ _ _ h => h, fun _ _ _ _ h => h, fun _ _ _ _ h => h, fun _ _ _ _ h => h, fun _ _ _ _ h => h, fun _ _ _ _ h => h, fun _ _ _ _ h => h, fun _ _ _ _ h => h, trivial⟩
 case hfo => kernel_rfl
 case ht => kernel_rfl
 case hC0 => exact (grows_drew _)
 case hsteps =>
  refine ⟨?_, ?_, ?_, ?_, ?_, ?_, ?_, ?_, ?_, ?_, ?_, ?_, ?_, ?_, ?_, ?_, ?_, ?_, ?_, ?_, ?_, trivial⟩
  · intro a' w' hA hC hD; have s0 : a'.tmps[0]? = some _ := (hA.at 0 (by kernel_rfl)).trans rfl; clear hA hD; refine stepOk_plain rfl ?_; intro K hK; gi_wp2; exact hK _ _ rfl ((fun _ => Below.refl _ _) _)
  · intro a' w' hA hC hD; obtain ⟨u14, s14, r14⟩ := hD ⟨0, .data⟩ (by simp) rfl _ rfl; replace r14 : u14 = _ := r14; subst r14; clear hA hD; refine stepOk_plain rfl ?_; intro K hK; gi_wp2; exact hK _ _ rfl ((fun _ => Below.refl _ _) _)
  · intro a' w' hA hC hD; obtain ⟨u15, s15, r15⟩ := hD ⟨1, .data⟩ (by simp) rfl _ rfl; replace r15 : u15 = _ := r15; subst r15; clear hA hD; refine stepOk_plain rfl ?_; intro K hK; gi_wp2; exact hK _ _ rfl ((fun _ => Below.refl _ _) _)
  · intro a' w' hA hC hD; obtain ⟨u16, s16, r16⟩ := hD ⟨2, .data⟩ (by simp) rfl _ rfl; replace r16 : u16 = _ := r16; subst r16
    have z0 := cell_of_block (k := 0) (HP.out.below hC).at_ rfl; have z1 := cell_of_block (k := 1) (HP.out.below hC).at_ rfl
    clear hA hD; refine stepOk_plain rfl ?_; intro K hK; gi_wp2; exact hK _ _ rfl ((fun _ => Below.refl _ _) _)
  · intro a' w' hA hC hD; have s1 : a'.tmps[1]? = some _ := (hA.at 1 (by kernel_rfl)).trans rfl; clear hA hD; refine stepOk_plain rfl ?_; intro K hK; gi_wp2; exact hK _ _ rfl ((fun _ => Below.refl _ _) _)
  · intro a' w' hA hC hD; obtain ⟨u18, s18, r18⟩ := hD ⟨4, .data⟩ (by simp) rfl _ rfl; replace r18 : u18 = _ := r18; subst r18; clear hA hD; refine stepOk_plain rfl ?_; intro K hK; gi_wp2; exact hK _ _ rfl ((fun _ => Below.refl _ _) _)
  · intro a' w' hA hC hD; obtain ⟨u19, s19, r19⟩ := hD ⟨5, .data⟩ (by simp) rfl _ rfl; replace r19 : u19 = _ := r19; subst r19; clear hA hD; refine stepOk_plain rfl ?_; intro K hK; gi_wp2; exact hK _ _ rfl ((fun _ => Below.refl _ _) _)
  · intro a' w' hA hC hD; obtain ⟨u20, s20, r20⟩ := hD ⟨6, .data⟩ (by simp) rfl _ rfl; replace r20 : u20 = _ := r20; subst r20
    have z0 := cell_of_block (k := 0) (HQ.out.below hC).at_ rfl; have z1 := cell_of_block (k := 1) (HQ.out.below hC).at_ rfl
    clear hA hD; refine stepOk_plain rfl ?_; intro K hK; gi_wp2; exact hK _ _ rfl ((fun _ => Below.refl _ _) _)
  · intro a' w' hA hC hD; obtain ⟨u17, s17, r17⟩ := hD ⟨3, .data⟩ (by simp) rfl _ rfl; replace r17 : u17 = _ := r17; subst r17; obtain ⟨u21, s21, r21⟩ := hD ⟨7, .data⟩ (by simp) rfl _ rfl; replace r21 : u21 = _ := r21; subst r21; clear hA hD; refine stepOk_plain rfl ?_; intro K hK; gi_wp2; exact hK (.bool true) _ rfl ((fun _ => Below.refl _ _) _)
  · intro a' w' hA hC hD; obtain ⟨u22, s22, r22⟩ := hD ⟨8, .data⟩ (by simp) rfl _ rfl; replace r22 : u22 = .bool true := r22; subst r22; clear hA hD; refine stepOk_plain rfl ?_; intro K hK; gi_wp2; exact hK (.bool true) _ rfl ((fun _ => Below.refl _ _) _)
  · intro a' w' hA hC hD; have s0 : a'.tmps[0]? = some _ := (hA.at 0 (by kernel_rfl)).trans rfl; obtain ⟨u23, s23, r23⟩ := hD ⟨9, .guard⟩ (by simp) rfl _ rfl; replace r23 : u23 = .bool true := r23; subst r23; clear hA hD; refine stepOk_want rfl rfl s23 ?_; intro K hK; gi_wp2; exact hK _ _ rfl ((fun _ => Below.refl _ _) _)
  · intro a' w' hA hC hD; obtain ⟨u24, s24, r24⟩ := hD ⟨10, .data⟩ (by simp) rfl _ rfl; replace r24 : u24 = _ := r24; subst r24; obtain ⟨u23, s23, r23⟩ := hD ⟨9, .guard⟩ (by simp) rfl _ rfl; replace r23 : u23 = .bool true := r23; subst r23; clear hA hD; refine stepOk_want rfl rfl s23 ?_; intro K hK; gi_wp2; exact hK _ _ rfl ((fun _ => Below.refl _ _) _)
  · intro a' w' hA hC hD; obtain ⟨u25, s25, r25⟩ := hD ⟨11, .data⟩ (by simp) rfl _ rfl; replace r25 : u25 = _ := r25; subst r25; obtain ⟨u23, s23, r23⟩ := hD ⟨9, .guard⟩ (by simp) rfl _ rfl; replace r23 : u23 = .bool true := r23; subst r23; clear hA hD; refine stepOk_want rfl rfl s23 ?_; intro K hK; gi_wp2; exact hK _ _ rfl ((fun _ => Below.refl _ _) _)
  · intro a' w' hA hC hD; obtain ⟨u26, s26, r26⟩ := hD ⟨12, .data⟩ (by simp) rfl _ rfl; replace r26 : u26 = _ := r26; subst r26; obtain ⟨u23, s23, r23⟩ := hD ⟨9, .guard⟩ (by simp) rfl _ rfl; replace r23 : u23 = .bool true := r23; subst r23
    have z0 := cell_of_block (k := 2) (HP.out.below hC).at_ rfl
    clear hA hD; refine stepOk_want rfl rfl s23 ?_; intro K hK; gi_wp2; exact hK _ _ rfl ((fun _ => Below.refl _ _) _)
  · intro a' w' hA hC hD; have s1 : a'.tmps[1]? = some _ := (hA.at 1 (by kernel_rfl)).trans rfl; obtain ⟨u23, s23, r23⟩ := hD ⟨9, .guard⟩ (by simp) rfl _ rfl; replace r23 : u23 = .bool true := r23; subst r23; clear hA hD; refine stepOk_want rfl rfl s23 ?_; intro K hK; gi_wp2; exact hK _ _ rfl ((fun _ => Below.refl _ _) _)
  · intro a' w' hA hC hD; obtain ⟨u28, s28, r28⟩ := hD ⟨14, .data⟩ (by simp) rfl _ rfl; replace r28 : u28 = _ := r28; subst r28; obtain ⟨u23, s23, r23⟩ := hD ⟨9, .guard⟩ (by simp) rfl _ rfl; replace r23 : u23 = .bool true := r23; subst r23; clear hA hD; refine stepOk_want rfl rfl s23 ?_; intro K hK; gi_wp2; exact hK _ _ rfl ((fun _ => Below.refl _ _) _)
  · intro a' w' hA hC hD; obtain ⟨u29, s29, r29⟩ := hD ⟨15, .data⟩ (by simp) rfl _ rfl; replace r29 : u29 = _ := r29; subst r29; obtain ⟨u23, s23, r23⟩ := hD ⟨9, .guard⟩ (by simp) rfl _ rfl; replace r23 : u23 = .bool true := r23; subst r23; clear hA hD; refine stepOk_want rfl rfl s23 ?_; intro K hK; gi_wp2; exact hK _ _ rfl ((fun _ => Below.refl _ _) _)
  · intro a' w' hA hC hD; obtain ⟨u30, s30, r30⟩ := hD ⟨16, .data⟩ (by simp) rfl _ rfl; replace r30 : u30 = _ := r30; subst r30; obtain ⟨u23, s23, r23⟩ := hD ⟨9, .guard⟩ (by simp) rfl _ rfl; replace r23 : u23 = .bool true := r23; subst r23
    have z0 := cell_of_block (k := 2) (HQ.out.below hC).at_ rfl
    clear hA hD; refine stepOk_want rfl rfl s23 ?_; intro K hK; gi_wp2; exact hK _ _ rfl ((fun _ => Below.refl _ _) _)
  · intro a' w' hA hC hD; obtain ⟨u27, s27, r27⟩ := hD ⟨13, .data⟩ (by simp) rfl _ rfl; replace r27 : u27 = _ := r27; subst r27; obtain ⟨u31, s31, r31⟩ := hD ⟨17, .data⟩ (by simp) rfl _ rfl; replace r31 : u31 = _ := r31; subst r31; obtain ⟨u23, s23, r23⟩ := hD ⟨9, .chain⟩ (by simp) rfl _ rfl; replace r23 : u23 = .bool true := r23; subst r23; clear hA hD; refine stepOk_want rfl rfl s23 ?_; intro K hK
    gi_wp2_with fail; refine (callsIn_wide.2 (HE.out _ hC)).mono ?_; rintro e w2 ⟨rfl, hb⟩
    exact hK _ _ rfl hb
  · intro a' w' hA hC hD; obtain ⟨u23, s23, r23⟩ := hD ⟨9, .data⟩ (by simp) rfl _ rfl; replace r23 : u23 = .bool true := r23; subst r23; obtain ⟨u32, s32, r32⟩ := hD ⟨18, .data⟩ (by simp) rfl _ rfl; replace r32 : u32 = _ := r32; subst r32; clear hA hD; refine stepOk_plain rfl ?_; intro K hK; gi_wp2; exact hK _ _ rfl ((fun _ => Below.refl _ _) _)
  · intro a' w' hA hC hD; obtain ⟨u33, s33, r33⟩ := hD ⟨19, .data⟩ (by simp) rfl _ rfl; replace r33 : u33 = _ := r33; subst r33; clear hA hD; refine stepOk_plain rfl ?_; intro K hK; gi_wp2; exact hK _ _ rfl ((fun _ => Below.refl _ _) _)
 case hend =>
  intro w4 hC
  simp only [EndFrom, eqv, forall_eq, Act.put, List.length_cons, List.length_nil, List.drop_succ_cons, List.drop_zero, Nat.reduceAdd, List.setIfInBounds_toArray, List.set_cons_succ, List.set_cons_zero]
  have HC := Lib.hid hC
  clear hC
  gi_wp2
  go_wp2_with fail
  go_ret
  exact ⟨rfl, HC.out⟩
end Go.Proofs.YthcdkkmjnglmjaaGreatDoor

/- Layer 7: painting twice, washing with what is not seen through, and with what is not there, plain. -/
namespace Go.Proofs.YthcdkkmjnglmjaaGreatDoor
set_option linter.unusedSimpArgs false
set_option linter.unusedVariables false
open Go.RowKit Go.Shelf
/-- Nothing is changed by what changes no colour. -/
theorem paintC_id {C : CanT} (hC : okCan C) (L : List SpT) {f : ColT → ColT} (hf : ∀ c, okC c → okC (f c)) (h : ∀ x y, x < 8 * C.wide → y < 8 * C.high → hasB L ⟨(x : Int), (y : Int)⟩ = true → f (colC C x y) = colC C x y) : paintC C L f = C := by
 refine CanT.ext_col (paintC_ok hC L hf) hC (paintC_wide _ _ _) (paintC_high _ _ _) fun x y hx hy => ?_
 rw [paintC_wide] at hx
 rw [paintC_high] at hy
 rw [paintC_col hC L hf hx hy]
 by_cases h1 : hasB L ⟨(x : Int), (y : Int)⟩ = true
 · rw [if_pos h1, h x y hx hy h1]
 · rw [if_neg h1]
theorem paint_twice {C : CanT} (hC : okCan C) (L : List SpT) {c : ColT} (hc : okC c) : paintC (paintC C L (fpaint c)) L (fpaint c) = paintC C L (fpaint c) := by
 refine paintC_id (paintC_ok hC L (fpaint_ok hc)) L (fpaint_ok hc) fun x y hx hy h => ?_
 rw [paintC_wide] at hx
 rw [paintC_high] at hy
 rw [paintC_col hC L (fpaint_ok hc) hx hy, if_pos h]
 rfl
theorem wash_all {C : CanT} (hC : okCan C) (L : List SpT) {c : ColT} (hc : okC c) (ha : c.a = 255) : paintC C L (fwash c) = paintC C L (fpaint c) :=
 paintC_same hC (fwash_ok hc) (fpaint_ok hc) (fun _ _ => Iff.rfl) (fun u hu => overC_all hc ha)
theorem wash_none {C : CanT} (hC : okCan C) (L : List SpT) {c : ColT} (hc : okC c) (ha : c.a = 0) : paintC C L (fwash c) = C :=
 paintC_id hC L (fwash_ok hc) fun x y hx hy _ => overC_none (onCan_col hC (p := ⟨(x : Int), (y : Int)⟩) (onCan_iff.2 (by simp only; omega))) ha
/-- What differs lies on the row. -/
theorem diff_mem {C : CanT} (hC : okCan C) (L : List SpT) {f : ColT → ColT} (hf : ∀ c, okC c → okC (f c)) {p : PtT} (h : p ∈ diffL C (paintC C L f)) : hasB L p = true := by
 unfold diffL gathL at h
 obtain ⟨k, hk, rfl⟩ := List.mem_map.1 h
 obtain ⟨h1, h2⟩ := List.mem_filter.1 hk
 have hlt := List.mem_range.1 h1
 have hw : 0 < 8 * C.wide := by have := hC.wide; omega
 have hx : k % (8 * C.wide) < 8 * C.wide := Nat.mod_lt _ hw
 have hy : k / (8 * C.wide) < 8 * C.high := Nat.div_lt_of_lt_mul (by rw [Nat.mul_comm]; exact hlt)
 have e : ptK (8 * C.wide) k = ⟨((k % (8 * C.wide) : Nat) : Int), ((k / (8 * C.wide) : Nat) : Int)⟩ := rfl
 unfold isD at h2
 rw [e] at h2 ⊢
 have c1 : ∀ D : CanT, colP D ⟨((k % (8 * C.wide) : Nat) : Int), ((k / (8 * C.wide) : Nat) : Int)⟩ = colC D (k % (8 * C.wide)) (k / (8 * C.wide)) := fun D => rfl
 rw [c1, c1, paintC_col hC L hf hx hy] at h2
 by_cases h3 : hasB L ⟨((k % (8 * C.wide) : Nat) : Int), ((k / (8 * C.wide) : Nat) : Int)⟩ = true
 · exact h3
 · rw [if_neg h3] at h2
   simp at h2
theorem nodup_len {α : Type} [DecidableEq α] : ∀ {l m : List α}, l.Nodup → (∀ x ∈ l, x ∈ m) → l.length ≤ m.length
 | [], _, _, _ => Nat.zero_le _
 | x :: l, m, hn, h => by
  have h1 := nodup_len (l := l) (m := m.erase x) (List.nodup_cons.1 hn).2 fun y hy => (List.mem_erase_of_ne (fun e => (List.nodup_cons.1 hn).1 (by rw [← e]; exact hy))).2 (h y (List.mem_cons_of_mem _ hy))
  have h2 := List.length_erase_of_mem (h x (by simp))
  have h3 : 0 < m.length := List.length_pos_of_mem (h x (by simp))
  simp only [List.length_cons]
  omega
theorem diff_nodup (C D : CanT) (hw : 0 < C.wide) : (diffL C D).Nodup := by
 unfold diffL gathL
 refine List.pairwise_map.2 ((List.Pairwise.filter _ (List.nodup_range (n := _))).imp fun {a b} hab e => hab ?_)
 have h1 := congrArg PtT.x e
 have h2 := congrArg PtT.y e
 have e1 : (a % (8 * C.wide) : Nat) = b % (8 * C.wide) := Int.ofNat.inj h1
 have e2 : (a / (8 * C.wide) : Nat) = b / (8 * C.wide) := Int.ofNat.inj h2
 rw [← Nat.div_add_mod a (8 * C.wide), ← Nat.div_add_mod b (8 * C.wide), e1, e2]
theorem diff_few {C : CanT} (hC : okCan C) {L : List SpT} (hr : rightB L = true) {f : ColT → ColT} (hf : ∀ c, okC c → okC (f c)) : (diffL C (paintC C L f)).length ≤ (allL L).length := by
 rw [allL_right hr]
 exact nodup_len (diff_nodup _ _ (by have := hC.wide; omega)) fun p hp => mem_ptsL.2 (diff_mem hC L hf hp)
end Go.Proofs.YthcdkkmjnglmjaaGreatDoor

/- gessolaw07.DrawTwice. -/
namespace Go.Proofs.YthcdkkmjnglmjaaGreatDoor
set_option linter.unusedSimpArgs false
set_option linter.unusedVariables false
open Go.RowKit Go.Shelf
attribute [local go_sem] Oper.semAt_some
/-- Of, whatever it is. -/
theorem ofBothD (wide high : Int) (a : Option Addr) (cap : Nat) (us : List TileT) (hcol : ∀ t ∈ us, ∀ c ∈ t.1, okC c) (w : World) (he : Elems w (.slice a us.length cap) us.length 256 (rowC encT us)) :
 Calls Tryz.prog 10 #[.agg #[.int .i64 wide, .int .i64 high, .slice a us.length cap]] w fun e w' => ∃ v, e = .returned (.tuple #[v, .int .i64 (errOf (okE wide high us.length) 150)]) ∧ Below w.heap.size w w' ∧
  (okE wide high us.length = true → ∃ p, v = .pointer (some ⟨p, 0, none⟩) ∧ CanAt w' p ⟨wide.toNat, high.toNat, us⟩) ∧ (okE wide high us.length = false → v = .pointer none) := by
 cases hok : okE wide high us.length with
 | false =>
  refine (of_bad wide high a us.length cap hok w).mono ?_
  rintro e w' ⟨rfl, hb⟩
  exact ⟨_, rfl, hb, fun h => (by cases h), fun _ => rfl⟩
 | true =>
  unfold okE at hok
  rw [Bool.and_eq_true] at hok
  have h1 := mayB_iff.1 hok.1
  have h2 := of_decide_eq_true hok.2
  obtain ⟨W, rfl⟩ := Int.eq_ofNat_of_zero_le (a := wide) (by omega)
  obtain ⟨H, rfl⟩ := Int.eq_ofNat_of_zero_le (a := high) (by omega)
  have hC : okCan ⟨W, H, us⟩ := ⟨by simp only; omega, by simp only; omega, by simp only; exact_mod_cast h2, hcol⟩
  refine (of_good ⟨W, H, us⟩ hC a cap w he).mono ?_
  rintro e w' ⟨p, rfl, hc, -, hb⟩
  exact ⟨_, rfl, hb, fun _ => ⟨p, rfl, by simpa using hc⟩, fun h => (by cases h)⟩
theorem paint_ok (c : ColT) (hc : okC c) (p : Nat) (C : CanT) (a : Option Addr) (m cap : Nat) (L : List SpT) (hlen : L.length = m) (hm : m ≤ 1000000) (hr : rightB L = true) (w : World) (hC : CanAt w p C) (he : Elems w (.slice a m cap) m 3 (rowC encS L)) :
 Calls Tryz.prog 32 #[.pointer (some ⟨p, 0, none⟩), .slice a m cap, c.val] w fun e w' => ∃ d, e = .returned (.tuple #[.pointer (some ⟨d, 0, none⟩), .int .i64 0]) ∧ CanAt w' d (paintC C L (fpaint c)) ∧ Below w.heap.size w w' :=
 (dPaint_any c hc p C a m cap L hlen hm w hC he).mono fun e w' h => by
  rw [hr] at h
  obtain ⟨d, h1, h2⟩ := h.2.1 rfl
  exact ⟨d, h1, h2, h.1⟩
theorem wash_ok (c : ColT) (hc : okC c) (p : Nat) (C : CanT) (a : Option Addr) (m cap : Nat) (L : List SpT) (hlen : L.length = m) (hm : m ≤ 1000000) (hr : rightB L = true) (w : World) (hC : CanAt w p C) (he : Elems w (.slice a m cap) m 3 (rowC encS L)) :
 Calls Tryz.prog 33 #[.pointer (some ⟨p, 0, none⟩), .slice a m cap, c.val] w fun e w' => ∃ d, e = .returned (.tuple #[.pointer (some ⟨d, 0, none⟩), .int .i64 0]) ∧ CanAt w' d (paintC C L (fwash c)) ∧ Below w.heap.size w w' :=
 (dWash_any c hc p C a m cap L hlen hm w hC he).mono fun e w' h => by
  rw [hr] at h
  obtain ⟨d, h1, h2⟩ := h.2.1 rfl
  exact ⟨d, h1, h2, h.1⟩
set_option maxRecDepth 100000 in
set_option maxHeartbeats 4000000 in
theorem drawTwice_any (wide high : Int) (a : Option Addr) (cap : Nat) (us : List TileT) (hcol : ∀ t ∈ us, ∀ c ∈ t.1, okC c) (a2 : Option Addr) (m cap2 : Nat) (L : List SpT) (hlen : L.length = m) (hcap : m ≤ cap2) (c : ColT) (hc : okC c)
 (w : World) (hred : RedAt w) (he : Elems w (.slice a us.length cap) us.length 256 (rowC encT us)) (he2 : Elems w (.slice a2 m cap2) m 3 (rowC encS L)) :
 Calls Tryz.prog 8 #[.agg #[.int .i64 wide, .int .i64 high, .slice a us.length cap], .slice a2 m cap2, c.val] w (Gives (.bool true) w) := by
 have HS := Lib.hid (St.start w)
 have HR := Lib.hid hred
 have HOF := Lib.hid (fun w' (hb : Below w.heap.size w w') => ofBothD wide high a cap us hcol w' (he.below hb))
 obtain ⟨ok, hok⟩ : ∃ ok, okE wide high us.length = ok := ⟨_, rfl⟩
 rw [hok] at HOF
 obtain ⟨n, hn⟩ : ∃ n, us.length = n := ⟨_, rfl⟩
 rw [hn] at HOF ⊢
 obtain ⟨k, hk⟩ : ∃ k, min m 20 = k := ⟨_, rfl⟩
 have hk2 : k ≤ m ∧ k ≤ 20 := by omega
 have het := Elems.take encS_len hlen he2 hk2.1
 have htl : (L.take k).length = k := by rw [List.length_take]; omega
 have e1 : min (m : Int) 20 = (k : Int) := by omega
 obtain ⟨LL, hLL⟩ : ∃ LL, L.take k = LL := ⟨_, rfl⟩
 rw [hLL] at het htl
 have HE := Lib.hid het
 have HL := Lib.hid (And.intro htl hk2)
 have HC0 := Lib.hid hc
 obtain ⟨r, g, b, al⟩ := c
 unfold ColT.val
 simp only
 clear hred he he2 het hok hn hk htl hLL hlen hc hcol
 go_enter Tryz.func8, Tryz.ntmps8
 repeat ((fail_if_success (with_reducible refine stop_at (id := 1) ?_)); (first | go_values | go_skip | go_guarded | go_step | go_upon | go_back | (simp only [Int.not_lt, Int.not_le] at *; go_simp) | (go_values <;> (try go_simp)) | (go_ite <;> go_prune <;> (try go_simp)) | (split <;> (first | (rename_i hx; exact (hx _ rfl).elim) | go_prune))))
 have hs_ := ((HS.out.alloc (.cells #[.int .i64 wide, .int .i64 high, .slice a n cap] 24)).alloc (.cells #[.int .u8 r, .int .u8 g, .int .u8 b, .int .u8 al] 34))
 have hk_HR := HR.out.below (((Below.refl _ _).alloc (by exact Nat.le_refl _) (.cells #[.int .i64 wide, .int .i64 high, .slice a n cap] 24)).alloc (by simp only [World.size_alloc]; omega) (.cells #[.int .u8 r, .int .u8 g, .int .u8 b, .int .u8 al] 34))
 have hk_HE := HE.out.below (((Below.refl _ _).alloc (by exact Nat.le_refl _) (.cells #[.int .i64 wide, .int .i64 high, .slice a n cap] 24)).alloc (by simp only [World.size_alloc]; omega) (.cells #[.int .u8 r, .int .u8 g, .int .u8 b, .int .u8 al] 34))
 obtain ⟨w1, hw_⟩ : ∃ w1 : World, ((w.alloc (.cells #[.int .i64 wide, .int .i64 high, .slice a n cap] 24)).alloc (.cells #[.int .u8 r, .int .u8 g, .int .u8 b, .int .u8 al] 34)) = w1 := ⟨_, rfl⟩
 rw [hw_] at hs_ hk_HR hk_HE
 try simp only [World.size_alloc] at hs_
 have HS := Lib.hid hs_
 have HR := Lib.hid hk_HR
 have HE := Lib.hid hk_HE
 rw [hw_]
 clear hw_ hs_ hk_HR hk_HE
 go_wp2_with fail
 refine (dWakes_any w1 HR.out).mono ?_
 rintro e w2 ⟨rfl, hb⟩
 have HS := Lib.hid (HS.out.below hb)
 have HE := Lib.hid (HE.out.below hb)
 clear hb
 have z0 := cell_of_block (k := 0) (HS.out.blockAt 1 rfl) rfl
 have z1 := cell_of_block (k := 1) (HS.out.blockAt 1 rfl) rfl
 have z2 := cell_of_block (k := 2) (HS.out.blockAt 1 rfl) rfl
 go_wp2_with fail
 clear z0 z1 z2
 refine (HOF.out w2 HS.out.low).mono ?_
 rintro e w3 ⟨v, rfl, hb, hv1, hv2⟩
 have HS := Lib.hid (HS.out.below hb)
 have HE := Lib.hid (HE.out.below hb)
 clear hb HOF
 cases ok with
 | false =>
  obtain rfl := hv2 rfl
  clear hv1 hv2
  simp only [errOf]
  go_wp2_with fail
  go_ret
  exact ⟨rfl, HS.out.low⟩
 | true =>
  obtain ⟨p, rfl, hcan⟩ := hv1 rfl
  have HCP := Lib.hid hcan
  have HOK := Lib.hid hcan.ok
  clear hv1 hv2 hcan
  obtain ⟨C, hC⟩ : ∃ C, (⟨wide.toNat, high.toNat, us⟩ : CanT) = C := ⟨_, rfl⟩
  rw [hC] at HCP HOK
  clear hC
  simp only [errOf]
  go_wp2_with fail
  refine (check_any a2 k cap2 LL HL.out.1 (by have := HL.out; omega) w3 HE.out).mono ?_
  rintro e w4 ⟨rfl, hb_⟩
  have HS := Lib.hid (HS.out.below hb_)
  have HE := Lib.hid (HE.out.below hb_)
  have HCP := Lib.hid (HCP.out.below hb_)
  clear hb_
  cases hr : rightB LL with
  | false =>
   simp only [errOf]
   go_wp2_with fail
   go_ret
   exact ⟨rfl, HS.out.low⟩
  | true =>
   have HRR := Lib.hid hr
   have h20 : LL.length ≤ 20 := by have := HL.out; omega
   have H20 := Lib.hid h20
   simp only [errOf]
   clear hr h20
   have q0 := cell_of_block (k := 0) (HS.out.blockAt 0 rfl) rfl
   have q1 := cell_of_block (k := 1) (HS.out.blockAt 0 rfl) rfl
   have q2 := cell_of_block (k := 2) (HS.out.blockAt 0 rfl) rfl
   have q3 := cell_of_block (k := 3) (HS.out.blockAt 0 rfl) rfl
   go_wp2_with fail
   clear q0 q1 q2 q3
   refine (paint_ok ⟨r, g, b, al⟩ HC0.out p C a2 k cap2 LL HL.out.1 (by have := HL.out; omega) HRR.out w4 HCP.out HE.out).mono ?_
   rintro e w5 ⟨d1, rfl, hd, hb⟩
   have HS := Lib.hid (HS.out.below hb)
   have HE := Lib.hid (HE.out.below hb)
   have HCP := Lib.hid (HCP.out.below hb)
   have HD1 := Lib.hid hd
   clear hd hb
   have q0 := cell_of_block (k := 0) (HS.out.blockAt 0 rfl) rfl
   have q1 := cell_of_block (k := 1) (HS.out.blockAt 0 rfl) rfl
   have q2 := cell_of_block (k := 2) (HS.out.blockAt 0 rfl) rfl
   have q3 := cell_of_block (k := 3) (HS.out.blockAt 0 rfl) rfl
   go_wp2_with fail
   clear q0 q1 q2 q3
   refine (paint_ok ⟨r, g, b, al⟩ HC0.out d1 (paintC C LL (fpaint ⟨r, g, b, al⟩)) a2 k cap2 LL HL.out.1 (by have := HL.out; omega) HRR.out w5 HD1.out HE.out).mono ?_
   rintro e w6 ⟨d2, rfl, hd, hb⟩
   rw [paint_twice HOK.out LL HC0.out] at hd
   have HS := Lib.hid (HS.out.below hb)
   have HE := Lib.hid (HE.out.below hb)
   have HCP := Lib.hid (HCP.out.below hb)
   have HD1 := Lib.hid (HD1.out.below hb)
   have HD2 := Lib.hid hd
   clear hd hb
   repeat ((fail_if_success (with_reducible refine stop_at (id := 9) ?_)); (first | go_values | go_skip | go_guarded | go_step | go_upon | go_back | (simp only [Int.not_lt, Int.not_le] at *; go_simp) | (go_values <;> (try go_simp)) | (go_ite <;> go_prune <;> (try go_simp)) | (split <;> (first | (rename_i hx; exact (hx _ rfl).elim) | go_prune))))
   refine (wpIn_wide (n := 0)).1 ?_
   apply wp_region_slots 6 [⟨2, 4, 12, .cells #[.int .u8 0, .int .u8 0, .int .u8 0, .int .u8 0] 34 (0, 0), .cells #[.int .u8 r, .int .u8 g, .int .u8 b, .int .u8 al] 34 (0, 0)⟩, ⟨3, 5, 13, .cells #[.int .u8 0, .int .u8 0, .int .u8 0, .int .u8 0] 34 (0, 0), .cells #[.int .u8 r, .int .u8 g, .int .u8 b, .int .u8 al] 34 (0, 0)⟩] _ (Rl := [(eqv _), (eqv _), (fun _ _ => True), (fun _ _ => True), (fun _ _ => True), (fun _ _ => True)])
   case hm => kernel_rfl
   case hk => rfl
   case hst => exact ⟨fun _ _ _ _ h => h, fun _ _ _ _ h => h, fun _ _ _ _ h => h, fun _ _ _ _ h => h, fun _ _ _ _ h => h, fun _ _ _ _ h => h, trivial⟩
   case hfo => kernel_rfl
   case ht => kernel_rfl
   case hN => exact Nat.le_refl _
   case hok => kernel_rfl
   case hsk => intro s hs; simp only [List.mem_cons, List.not_mem_nil, or_false] at hs; rcases hs with rfl | rfl <;> exact ⟨Nat.le_of_ble_eq_true rfl, Nat.le_of_ble_eq_true rfl⟩
   case hsteps =>
    refine ⟨?_, ?_, ?_, ?_, ?_, ?_, trivial⟩
    · intro l_ a' w' hA hC hJ hN hB hD; have s5 : a'.tmps[5]? = some _ := (hA.at 5 (by kernel_rfl)).trans rfl
      have z0 := cell_of_block (k := 0) ((HS.out.below hC).blockAt 0 rfl) rfl; have z1 := cell_of_block (k := 1) ((HS.out.below hC).blockAt 0 rfl) rfl; have z2 := cell_of_block (k := 2) ((HS.out.below hC).blockAt 0 rfl) rfl; have z3 := cell_of_block (k := 3) ((HS.out.below hC).blockAt 0 rfl) rfl
      clear hA hD; refine stepOkT_plain rfl ?_; intro K hK; gi_wp2; exact hK _ _ rfl (Below.refl _ _) (SlT.plainB rfl (Below.refl _ _))
    · intro l_ a' w' hA hC hJ hN hB hD; have s5 : a'.tmps[5]? = some _ := (hA.at 5 (by kernel_rfl)).trans rfl
      have z0 := cell_of_block (k := 0) ((HS.out.below hC).blockAt 0 rfl) rfl; have z1 := cell_of_block (k := 1) ((HS.out.below hC).blockAt 0 rfl) rfl; have z2 := cell_of_block (k := 2) ((HS.out.below hC).blockAt 0 rfl) rfl; have z3 := cell_of_block (k := 3) ((HS.out.below hC).blockAt 0 rfl) rfl
      clear hA hD; refine stepOkT_plain rfl ?_; intro K hK; gi_wp2; exact hK _ _ rfl (Below.refl _ _) (SlT.plainB rfl (Below.refl _ _))
    · intro l_ a' w' hA hC hJ hN hB hD; clear hA hD; refine stepOkT_plain rfl ?_; intro K hK; gi_wp2; exact hK _ _ trivial ((Below.refl _ _).alloc hC.size _) (SlT.alloc (by intro t ht e; simp only [List.mem_cons, List.not_mem_nil, or_false] at ht; rcases ht with rfl | rfl <;> first | rfl | (exact absurd e (Nat.ne_of_beq_eq_false rfl))) (by intro t ht; simp only [List.mem_cons, List.not_mem_nil, or_false] at ht; rcases ht with rfl | rfl <;> exact Nat.ne_of_beq_eq_false rfl))
    · intro l_ a' w' hA hC hJ hN hB hD; clear hA hD; refine stepOkT_plain rfl ?_; intro K hK; gi_wp2; exact hK _ _ trivial ((Below.refl _ _).alloc hC.size _) (SlT.alloc (by intro t ht e; simp only [List.mem_cons, List.not_mem_nil, or_false] at ht; rcases ht with rfl | rfl <;> first | rfl | (exact absurd e (Nat.ne_of_beq_eq_false rfl))) (by intro t ht; simp only [List.mem_cons, List.not_mem_nil, or_false] at ht; rcases ht with rfl | rfl <;> exact Nat.ne_of_beq_eq_false rfl))
    · intro l_ a' w' hA hC hJ hN hB hD; obtain ⟨u12, s12, r12⟩ := hD ⟨2, .data⟩ (by simp) rfl _ rfl; replace r12 : (fun _ _ => True) u12 w' := r12; obtain ⟨u55, s55, r55⟩ := hD ⟨0, .data⟩ (by simp) rfl _ rfl; replace r55 : u55 = _ := r55; subst r55
      obtain ⟨b12, n12, t12, o12⟩ := hJ.at_ _ (List.mem_of_getElem? (i := 0) rfl) (hB ⟨2, .data⟩ (by simp) rfl)
      rw [show l_.getD 4 false = false from hN] at o12
      replace o12 : w'.heap[b12]? = some (.cells #[.int .u8 0, .int .u8 0, .int .u8 0, .int .u8 0] 34 (0, 0)) := o12
      obtain rfl : u12 = ptrB b12 := Option.some.inj (s12.symm.trans t12)
      clear r12
      obtain ⟨b13, n13, t13, o13⟩ := hJ.at_ _ (List.mem_of_getElem? (i := 1) rfl) (hB ⟨3, .phase⟩ (by simp) rfl)
      clear hA hD; refine stepOkT_plain rfl ?_; intro K hK
      have f12 := free_of_block o12
      have c12_0 := cell_of_block (k := 0) o12 rfl
      have c12_1 := cell_of_block (k := 1) o12 rfl
      have c12_2 := cell_of_block (k := 2) o12 rfl
      have c12_3 := cell_of_block (k := 3) o12 rfl
      have f12_0 := f12 0
      have f12_1 := f12 1
      have f12_2 := f12 2
      have f12_3 := f12 3
      clear f12; unfold ptrB at s12 t12; gi_wp2; exact hK undef _ trivial (by repeat (first | exact Below.refl _ _ | refine Below.setCell ?_ (by omega) _)) (SlT.store _ (by intro t ht e; simp only [List.mem_cons, List.not_mem_nil, or_false] at ht; rcases ht with rfl | rfl <;> first | rfl | (exact absurd e (Nat.ne_of_beq_eq_false rfl))) (by intro t ht; simp only [List.mem_cons, List.not_mem_nil, or_false] at ht; rcases ht with rfl | rfl <;> exact Nat.ne_of_beq_eq_false rfl) (List.mem_of_getElem? (i := 0) rfl) rfl b12 (by unfold envOf; rw [t12]; rfl) (heap_set_same (heap_set_same (heap_set_same (heap_set_same o12 _) _) _) _) (by intro k hk; repeat (first | rfl | refine (Below.heap_setCell _ _ _ k (by simpa using hk)).trans ?_)))
    · intro l_ a' w' hA hC hJ hN hB hD; obtain ⟨u13, s13, r13⟩ := hD ⟨3, .data⟩ (by simp) rfl _ rfl; replace r13 : (fun _ _ => True) u13 w' := r13; obtain ⟨u56, s56, r56⟩ := hD ⟨1, .data⟩ (by simp) rfl _ rfl; replace r56 : u56 = _ := r56; subst r56
      obtain ⟨b12, n12, t12, o12⟩ := hJ.at_ _ (List.mem_of_getElem? (i := 0) rfl) (hB ⟨2, .phase⟩ (by simp) rfl)
      obtain ⟨b13, n13, t13, o13⟩ := hJ.at_ _ (List.mem_of_getElem? (i := 1) rfl) (hB ⟨3, .data⟩ (by simp) rfl)
      rw [show l_.getD 5 false = false from hN] at o13
      replace o13 : w'.heap[b13]? = some (.cells #[.int .u8 0, .int .u8 0, .int .u8 0, .int .u8 0] 34 (0, 0)) := o13
      obtain rfl : u13 = ptrB b13 := Option.some.inj (s13.symm.trans t13)
      clear r13
      clear hA hD; refine stepOkT_plain rfl ?_; intro K hK
      have f13 := free_of_block o13
      have c13_0 := cell_of_block (k := 0) o13 rfl
      have c13_1 := cell_of_block (k := 1) o13 rfl
      have c13_2 := cell_of_block (k := 2) o13 rfl
      have c13_3 := cell_of_block (k := 3) o13 rfl
      have f13_0 := f13 0
      have f13_1 := f13 1
      have f13_2 := f13 2
      have f13_3 := f13 3
      clear f13; unfold ptrB at s13 t13; gi_wp2; exact hK undef _ trivial (by repeat (first | exact Below.refl _ _ | refine Below.setCell ?_ (by omega) _)) (SlT.store _ (by intro t ht e; simp only [List.mem_cons, List.not_mem_nil, or_false] at ht; rcases ht with rfl | rfl <;> first | rfl | (exact absurd e (Nat.ne_of_beq_eq_false rfl))) (by intro t ht; simp only [List.mem_cons, List.not_mem_nil, or_false] at ht; rcases ht with rfl | rfl <;> exact Nat.ne_of_beq_eq_false rfl) (List.mem_of_getElem? (i := 1) rfl) rfl b13 (by unfold envOf; rw [t13]; rfl) (heap_set_same (heap_set_same (heap_set_same (heap_set_same o13 _) _) _) _) (by intro k hk; repeat (first | rfl | refine (Below.heap_setCell _ _ _ k (by simpa using hk)).trans ?_)))
   case hend =>
    intro w7 hC
    simp only [EndFrom, eqv, forall_eq, Act.put, List.length_cons, List.length_nil, List.drop_succ_cons, List.drop_zero, Nat.reduceAdd, List.setIfInBounds_toArray, List.set_cons_succ, List.set_cons_zero]
    intro pA _ pB _ pC _ pD _ hX
    obtain ⟨bA, hA1, hA2, hA3⟩ := hX.1 _ (List.mem_of_getElem? (i := 0) rfl)
    obtain ⟨bB, hB1, hB2, hB3⟩ := hX.1 _ (List.mem_of_getElem? (i := 1) rfl)
    have hAB : bA ≠ bB := fun e => hX.2 _ (List.mem_of_getElem? (i := 0) rfl) _ (List.mem_of_getElem? (i := 1) rfl) (by simp) (by rw [hA2, hB2, e])
    obtain rfl : pA = ptrB bA := Option.some.inj hA2
    obtain rfl : pB = ptrB bB := Option.some.inj hB2
    clear hX hA2 hB2
    unfold ptrB
    dsimp only at hA3 hB3
    have fA := free_of_block hA3
    have fB := free_of_block hB3
    have gA := cell_of_block (k := 3) hA3 rfl
    have gB := cell_of_block (k := 3) hB3 rfl
    have hA5 := heap_set_other (b' := bB) (k := 3) (heap_set_same (k := 3) hA3 (.int .u8 255)) (fun e => hAB e.symm) (.int .u8 0)
    have hB5 := heap_set_same (k := 3) (heap_set_other (b' := bA) (k := 3) hB3 hAB (.int .u8 255)) (.int .u8 0)
    have hL5 : Below w6.heap.size w6 ((w7.setCell ⟨bA, 3, none⟩ (.int .u8 255)).setCell ⟨bB, 3, none⟩ (.int .u8 0)) := (hC.setCell (p := ⟨bA, 3, none⟩) hA1 _).setCell (p := ⟨bB, 3, none⟩) hB1 _
    gi_wp2
    repeat ((fail_if_success (with_reducible refine stop_at (id := 11) ?_)); (first | go_values | go_skip | go_guarded | go_step | go_upon | go_back | (simp only [Int.not_lt, Int.not_le] at *; go_simp) | (go_values <;> (try go_simp)) | (go_ite <;> go_prune <;> (try go_simp)) | (split <;> (first | (rename_i hx; exact (hx _ rfl).elim) | go_prune))))
    clear fA fB gA gB
    obtain ⟨w8, hw8⟩ : ∃ w8, (w7.setCell ⟨bA, 3, none⟩ (.int .u8 255)).setCell ⟨bB, 3, none⟩ (.int .u8 0) = w8 := ⟨_, rfl⟩
    rw [hw8] at hA5 hB5 hL5
    first | rw [hw8] | simp only [hw8]
    clear hw8 hA3 hB3 hC
    have HA := Lib.hid (BlkA.mk hA5)
    have HB := Lib.hid (BlkA.mk hB5)
    have HS := Lib.hid (HS.out.below hL5)
    have HE := Lib.hid (HE.out.below hL5)
    have HCP := Lib.hid (HCP.out.below hL5)
    have HD1 := Lib.hid (HD1.out.below hL5)
    have HD2 := Lib.hid (HD2.out.below hL5)
    clear hA5 hB5 hL5
    have HCA := Lib.hid (show okC ⟨r, g, b, 255⟩ from ⟨⟨HC0.out.1.1, HC0.out.1.2⟩, HC0.out.2.1, by simp only; omega⟩)
    have HCB := Lib.hid (show okC ⟨r, g, b, 0⟩ from ⟨⟨HC0.out.1.1, HC0.out.1.2⟩, HC0.out.2.1, by simp only; omega⟩)
    have q0 := cell_of_block (k := 0) HA.out.at_ rfl
    have q1 := cell_of_block (k := 1) HA.out.at_ rfl
    have q2 := cell_of_block (k := 2) HA.out.at_ rfl
    have q3 := cell_of_block (k := 3) HA.out.at_ rfl
    go_wp2_with fail
    clear q0 q1 q2 q3
    refine (wash_ok ⟨r, g, b, 255⟩ HCA.out p C a2 k cap2 LL HL.out.1 (by have := HL.out; omega) HRR.out w8 HCP.out HE.out).mono ?_
    rintro e w9 ⟨d3, rfl, hd, hb⟩
    rw [wash_all HOK.out LL HCA.out rfl] at hd
    have HS := Lib.hid (HS.out.below hb)
    have HE := Lib.hid (HE.out.below hb)
    have HCP := Lib.hid (HCP.out.below hb)
    have HD1 := Lib.hid (HD1.out.below hb)
    have HD2 := Lib.hid (HD2.out.below hb)
    have HA := Lib.hid (HA.out.below hb)
    have HB := Lib.hid (HB.out.below hb)
    have HD3 := Lib.hid hd
    clear hd hb
    have q0 := cell_of_block (k := 0) HA.out.at_ rfl
    have q1 := cell_of_block (k := 1) HA.out.at_ rfl
    have q2 := cell_of_block (k := 2) HA.out.at_ rfl
    have q3 := cell_of_block (k := 3) HA.out.at_ rfl
    go_wp2_with fail
    clear q0 q1 q2 q3
    refine (paint_ok ⟨r, g, b, 255⟩ HCA.out p C a2 k cap2 LL HL.out.1 (by have := HL.out; omega) HRR.out w9 HCP.out HE.out).mono ?_
    rintro e w10 ⟨d4, rfl, hd, hb⟩
    have HS := Lib.hid (HS.out.below hb)
    have HE := Lib.hid (HE.out.below hb)
    have HCP := Lib.hid (HCP.out.below hb)
    have HD1 := Lib.hid (HD1.out.below hb)
    have HD2 := Lib.hid (HD2.out.below hb)
    have HA := Lib.hid (HA.out.below hb)
    have HB := Lib.hid (HB.out.below hb)
    have HD3 := Lib.hid (HD3.out.below hb)
    have HD4 := Lib.hid hd
    clear hd hb
    have q0 := cell_of_block (k := 0) HB.out.at_ rfl
    have q1 := cell_of_block (k := 1) HB.out.at_ rfl
    have q2 := cell_of_block (k := 2) HB.out.at_ rfl
    have q3 := cell_of_block (k := 3) HB.out.at_ rfl
    go_wp2_with fail
    clear q0 q1 q2 q3
    refine (wash_ok ⟨r, g, b, 0⟩ HCB.out p C a2 k cap2 LL HL.out.1 (by have := HL.out; omega) HRR.out w10 HCP.out HE.out).mono ?_
    rintro e w11 ⟨d5, rfl, hd, hb⟩
    rw [wash_none HOK.out LL HCB.out rfl] at hd
    have HS := Lib.hid (HS.out.below hb)
    have HE := Lib.hid (HE.out.below hb)
    have HCP := Lib.hid (HCP.out.below hb)
    have HD1 := Lib.hid (HD1.out.below hb)
    have HD2 := Lib.hid (HD2.out.below hb)
    have HA := Lib.hid (HA.out.below hb)
    have HB := Lib.hid (HB.out.below hb)
    have HD3 := Lib.hid (HD3.out.below hb)
    have HD4 := Lib.hid (HD4.out.below hb)
    have HD5 := Lib.hid hd
    clear hd hb
    go_wp2_with fail
    refine (same_eq _ d2 d1 _ HD2.out HD1.out).mono ?_
    rintro e w12 ⟨rfl, hb⟩
    have HS := Lib.hid (HS.out.below hb)
    have HE := Lib.hid (HE.out.below hb)
    have HCP := Lib.hid (HCP.out.below hb)
    have HD1 := Lib.hid (HD1.out.below hb)
    have HD3 := Lib.hid (HD3.out.below hb)
    have HD4 := Lib.hid (HD4.out.below hb)
    have HD5 := Lib.hid (HD5.out.below hb)
    clear hb
    go_wp2_with fail
    refine (same_eq _ d3 d4 _ HD3.out HD4.out).mono ?_
    rintro e w13 ⟨rfl, hb⟩
    have HS := Lib.hid (HS.out.below hb)
    have HE := Lib.hid (HE.out.below hb)
    have HCP := Lib.hid (HCP.out.below hb)
    have HD1 := Lib.hid (HD1.out.below hb)
    have HD5 := Lib.hid (HD5.out.below hb)
    clear hb
    go_wp2_with fail
    refine (same_eq _ d5 p _ HD5.out HCP.out).mono ?_
    rintro e w14 ⟨rfl, hb⟩
    have HS := Lib.hid (HS.out.below hb)
    have HE := Lib.hid (HE.out.below hb)
    have HCP := Lib.hid (HCP.out.below hb)
    have HD1 := Lib.hid (HD1.out.below hb)
    clear hb
    go_wp2_with fail
    have hdm : ∀ q ∈ diffL C (paintC C LL (fpaint ⟨r, g, b, al⟩)), hasB LL q = true := fun q hq => diff_mem HOK.out LL (fpaint_ok HC0.out) hq
    have hfew := diff_few HOK.out HRR.out (L := LL) (fpaint_ok HC0.out)
    have hcnt : (allL LL).length ≤ 10240 := by rw [allL_right HRR.out]; have := ptsL_le HRR.out; have := H20.out; omega
    have HDF := Lib.hid (fun w' h1 h2 => differ_any C (paintC C LL (fpaint ⟨r, g, b, al⟩)) p d1 (paintC_wide _ _ _).symm (paintC_high _ _ _).symm w' h1 h2)
    obtain ⟨DL, hDL⟩ : ∃ DL, diffL C (paintC C LL (fpaint ⟨r, g, b, al⟩)) = DL := ⟨_, rfl⟩
    rw [hDL] at hdm hfew HDF
    obtain ⟨N, hN⟩ : ∃ N, DL.length = N := ⟨_, rfl⟩
    obtain ⟨M, hM⟩ : ∃ M, (allL LL).length = M := ⟨_, rfl⟩
    rw [hM] at hfew hcnt
    rw [hN] at hfew
    have HDM := Lib.hid hdm
    have HNM := Lib.hid (And.intro hN (And.intro hM (And.intro hfew hcnt)))
    clear hdm hfew hcnt hDL hN hM
    refine (HDF.out _ HCP.out HD1.out).mono ?_
    rintro e w15 ⟨v, rfl, hrow, hb⟩
    have hel := ownsRow_rows encP_len hrow
    obtain ⟨a3, c3, rfl, -⟩ := hel.shape
    rw [HNM.out.1] at hel ⊢
    have HS := Lib.hid (HS.out.below hb)
    have HE := Lib.hid (HE.out.below hb)
    have HCP := Lib.hid (HCP.out.below hb)
    have HD1 := Lib.hid (HD1.out.below hb)
    have HEL := Lib.hid hel
    have HLW := Lib.hid (LowAt.mk (Below.refl w15.heap.size w15))
    clear hel hrow hb
    go_wp2_with fail
    go_loopw [120] (fun i wr => ∃ j : Nat, j ≤ N ∧ i = .int .i64 (j : Int) ∧ LowAt w15 wr) (fun i _ => N - (intOf i).toNat)
    case atStart => exact ⟨0, by omega, rfl, HLW.out⟩
    case round =>
     obtain ⟨j, hj, rfl, hg⟩ := hrel
     clear HLW
     have HG := Lib.hid hg
     clear hg
     by_cases hlt : j < N
     · have HK := Lib.hid hlt
       have e3 : wrap64 ((j : Int) + 1) = ((j + 1 : Nat) : Int) := by have := HNM.out; unfold wrap64; omega
       have HWK := Lib.hid e3
       obtain ⟨q, hx⟩ : ∃ q, DL[j]? = some q := ⟨_, List.getElem?_eq_getElem (by rw [HNM.out.1]; exact hlt)⟩
       have hin := HDM.out q (List.mem_of_getElem? hx)
       obtain ⟨bb, off, rfl, hbb, g0, g1⟩ := ptCells HNM.out.1 HEL.out j q hx
       have g0' := (HG.out.low.cell (p := ⟨bb, off + j * 2, none⟩) hbb).trans g0
       have g1' := (HG.out.low.cell (p := ⟨bb, off + j * 2 + 1, none⟩) hbb).trans g1
       have HHS := Lib.hid (fun w' h => shHas_any a2 k cap2 LL HL.out.1 (by have := HL.out; omega) q w' h)
       rw [HRR.out, hin] at HHS
       simp only [Bool.and_self, PtT.val] at HHS
       have HS := Lib.hid (St.start wr)
       clear g0 g1 hx hin hbb
       repeat ((fail_if_success (with_reducible refine stop_at (id := 19) ?_)); (first | go_values | go_skip | go_guarded | go_step | go_upon | go_back | (simp only [Int.not_lt, Int.not_le] at *; go_simp) | (go_values <;> (try go_simp)) | (go_ite <;> go_prune <;> (try go_simp)) | (split <;> (first | (rename_i hx; exact (hx _ rfl).elim) | go_prune))))
       clear g0' g1'
       have hs_ := (HS.out.alloc (.cells #[.int .i64 q.x, .int .i64 q.y] 26))
       have hk_HG := HG.out.below ((Below.refl _ _).alloc (by exact Nat.le_refl _) (.cells #[.int .i64 q.x, .int .i64 q.y] 26))
       obtain ⟨w16, hw_⟩ : ∃ w16 : World, (wr.alloc (.cells #[.int .i64 q.x, .int .i64 q.y] 26)) = w16 := ⟨_, rfl⟩
       rw [hw_] at hs_ hk_HG
       try simp only [World.size_alloc] at hs_
       have HS := Lib.hid hs_
       have HG := Lib.hid hk_HG
       rw [hw_]
       clear hw_ hs_ hk_HG
       have q0 := cell_of_block (k := 0) (HS.out.blockAt 0 rfl) rfl
       have q1 := cell_of_block (k := 1) (HS.out.blockAt 0 rfl) rfl
       go_wp2_with fail
       clear q0 q1
       refine (HHS.out w16 (HE.out.below HG.out.low)).mono ?_
       rintro e w17 ⟨rfl, hb⟩
       have HG := Lib.hid (HG.out.below hb)
       clear hb
       go_wp2_with fail
       go_roundw
       case rel => exact ⟨j + 1, by omega, by first | exact congrArg (Value.int .i64) HWK.out | exact congrArg (Value.int .i64) (Int.natCast_succ j).symm | (congr 1; omega), HG.out⟩
       case measure => (try rw [HWK.out]); have := HK.out; simp only [intOf]; omega
     · go_wp2_with fail
       refine (HDF.out wr (HCP.out.below HG.out.low) (HD1.out.below HG.out.low)).mono ?_
       rintro e w16 ⟨v, rfl, hrow, hb⟩
       have hel := ownsRow_rows encP_len hrow
       obtain ⟨a4, c4, rfl, -⟩ := hel.shape
       rw [HNM.out.1]
       have HG := Lib.hid (HG.out.below hb)
       clear hel hrow hb
       go_wp2_with fail
       refine (count_any a2 k cap2 LL HL.out.1 (by have := HL.out; omega) w16 (HE.out.below HG.out.low) (by rw [HNM.out.2.1]; have := HNM.out.2.2.2; omega)).mono ?_
       rintro e w17 ⟨rfl, hb⟩
       rw [HNM.out.2.1]
       have HG := Lib.hid (HG.out.below hb)
       have hle : decide ((N : Int) ≤ (M : Int)) = true := by have := HNM.out.2.2.1; simp; omega
       clear hb
       go_wp2_with fail
       go_ret
       exact ⟨ret_bool (by first | exact hle | (simp; have := HNM.out.2.2.1; omega)), HS.out.low.trans (HG.out.low.mono HS.out.low.size)⟩
end Go.Proofs.YthcdkkmjnglmjaaGreatDoor
