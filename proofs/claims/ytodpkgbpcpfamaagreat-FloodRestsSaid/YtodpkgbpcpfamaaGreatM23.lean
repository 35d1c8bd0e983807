/- Merged texts: FlRs. -/
import Derived.Test.YtodpkgbpcpfamaaGreatM21
import Derived.Test.YtodpkgbpcpfamaaGreatM22
/- Layer 8: FloodRests. -/
namespace Go.Proofs.YtodpkgbpcpfamaaGreat
set_option linter.unusedSimpArgs false
set_option linter.unusedVariables false
open Go.RowKit Go.Shelf
attribute [local go_sem] Oper.semAt_some
theorem OfV.ptr {ok : Bool} {C : CanT} {v : Value} {w : World} (h : OfV ok C v w) : ∃ x, v = .pointer x := by
 cases ok with
 | true => obtain ⟨p, h1, _⟩ := h.1 rfl; exact ⟨_, h1⟩
 | false => exact ⟨_, h.2 rfl⟩
theorem wrap_succ' {n : Nat} (h : n ≤ 100000) : wrap64 ((n : Int) + 1) = ((n + 1 : Nat) : Int) := by unfold wrap64; omega
theorem colQ_ok {C : CanT} (hC : okCan C) {q : PtT} (h : onC C q = true) : okC (colP C q) := by
 have h1 := onB_iff.1 (show onB (8 * (C.wide : Int)) (8 * (C.high : Int)) q = true from h)
 unfold colP
 exact (hC.tile (by omega) (by omega)).choose_spec.2.2
theorem union_fill {C : CanT} {p : PtT} {t : Int} {c : ColT} (hC : okCan C) (hc : okC c) (hb : begB C p t = true) (n : Nat) (hn : (regL (placesL (fillC C p t c) p t)).length = n) (a : Option Addr) (cap : Nat) (w : World) (h : RowsR w a [regL (placesL C p t), regL (placesL (fillC C p t c) p t)]) :
 Calls Tryz.prog 8 #[.slice a 2 cap] w (Got 3 encS (regL (placesL (fillC C p t c) p t)) n 0 w) := by
 have hD : okCan (fillC C p t c) := fillC_ok hC hc
 have l1 := regL_len (placesL C p t)
 have l2 := regL_len (placesL (fillC C p t c) p t)
 have m1 := placesL_len hC p t
 have m2 := placesL_len hD p t
 have hs : SetRow (fun q => hasB [regL (placesL C p t), regL (placesL (fillC C p t c) p t)].flatten q = true) (regL (placesL (fillC C p t c) p t)) :=
  ⟨(region_rowOf _ p t).row, fun q => by
   simp only [List.flatten_cons, List.flatten_nil, List.append_nil, hasB_append, Bool.or_eq_true]
   rw [region_has, region_has]
   exact ⟨fun h => .inr h, fun h => h.elim (fun h => fillC_more hC hc (begB_on hb).1 (begB_on hb).2.1 h) id⟩⟩
 refine (shUnion_any a 2 cap [regL (placesL C p t), regL (placesL (fillC C p t c) p t)] rfl (by decide) (by simp only [List.flatten_cons, List.flatten_nil, List.append_nil, List.length_append]; omega) w h).mono fun _ _ h => h.known (by simp [region_right hC, region_right hD]) hs n hn
theorem onC_ptK {C : CanT} (hC : okCan C) {k : Nat} (hk : k < 8 * C.high * (8 * C.wide)) : onC C (ptK (8 * C.wide) k) = true := by
 have hw := hC.wide
 have h1 := Nat.mod_lt k (show 8 * C.wide > 0 by omega)
 have h2 := Nat.div_lt_of_lt_mul (show k < 8 * C.wide * (8 * C.high) by rw [Nat.mul_comm]; exact hk)
 unfold onC ptK
 clear hk
 obtain ⟨x, hx⟩ : ∃ x, k % (8 * C.wide) = x := ⟨_, rfl⟩
 obtain ⟨y, hy⟩ : ∃ y, k / (8 * C.wide) = y := ⟨_, rfl⟩
 rw [hx] at h1 ⊢
 rw [hy] at h2 ⊢
 clear hx hy
 exact onB_iff.2 ⟨⟨by simp only; omega, by simp only; omega⟩, by simp only; omega, by simp only; omega⟩
theorem diffL_on {C D : CanT} (hC : okCan C) {q : PtT} (h : q ∈ diffL C D) : onC C q = true ∧ colP C q ≠ colP D q := by
 unfold diffL gathL at h
 obtain ⟨k, hk, rfl⟩ := List.mem_map.1 h
 obtain ⟨h1, h2⟩ := List.mem_filter.1 hk
 exact ⟨onC_ptK hC (List.mem_range.1 h1), of_decide_eq_true h2⟩
theorem diffL_len {C : CanT} (hC : okCan C) (D : CanT) : (diffL C D).length ≤ 1024 := by
 refine Nat.le_trans (gathL_len _ _ _) ?_
 have h1 := hC.wide
 have h2 := hC.high
 exact Nat.mul_le_mul (show 8 * C.high ≤ 32 by omega) (show 8 * C.wide ≤ 32 by omega)
theorem diff_in {C : CanT} {p : PtT} {t : Int} {c : ColT} (hC : okCan C) (hc : okC c) {q : PtT} (h : q ∈ diffL C (fillC C p t c)) : InReg C p t q := by
 obtain ⟨h1, h2⟩ := diffL_on hC h
 classical
 rw [fillC_col hC hc h1] at h2
 by_cases hi : InReg C p t q
 · exact hi
 · rw [if_neg hi] at h2; exact absurd rfl h2
theorem at_both (C : CanT) (p : Nat) (n : PtT) (w : World) (hC : CanAt w p C) : Calls Tryz.prog 10 #[.pointer (some ⟨p, 0, none⟩), .int .i64 n.x, .int .i64 n.y] w (Gives (.tuple #[(bif onC C n then colP C n else zeroC).val, .bool (onC C n)]) w) := by
 cases h : onC C n with
 | true => exact at_onP C p n h w hC
 | false => exact at_off C p n.x n.y h w hC
theorem four_at (x y : Int) : ∀ j : Nat, j < 4 → ∃ nx ny : Int, (∀ w, (Instr.index 52 (.agg #[.int .i64 (x - 1), .int .i64 y, .int .i64 (x + 1), .int .i64 y, .int .i64 x, .int .i64 (y - 1), .int .i64 x, .int .i64 (y + 1)]) (.int .i64 (j : Int))).run Tryz.prog w = .ok (.agg #[.int .i64 nx, .int .i64 ny]) w) ∧ (⟨nx, ny⟩ : PtT) ∈ nbs ⟨x, y⟩
 | 0, _ => ⟨x - 1, y, fun w => by simp [Instr.index, go_sem], by simp [nbs]⟩
 | 1, _ => ⟨x + 1, y, fun w => by simp [Instr.index, go_sem], by simp [nbs]⟩
 | 2, _ => ⟨x, y - 1, fun w => by simp [Instr.index, go_sem], by simp [nbs]⟩
 | 3, _ => ⟨x, y + 1, fun w => by simp [Instr.index, go_sem], by simp [nbs]⟩
theorem near_out {C : CanT} {p : PtT} {t : Int} {q n : PtT} (hC : okCan C) (hb : begB C p t = true) (h : InReg C p t q) (hn : n ∈ nbs q) (ho : onC C n = true) (hr : regHas C p t n = false) : nearB (colP C p) (colP C n) t = false :=
 reg_beside hC (begB_on hb).1 (begB_on hb).2.1 h hn ho fun hi => by rw [(regHas_iff hC).2 hi] at hr; cases hr

set_option maxRecDepth 100000 in
set_option maxHeartbeats 16000000 in
theorem floodRests_any (wide high : Int) (a : Option Addr) (n cap : Nat) (ts : List TileT) (hl : ts.length = n) (hc : n ≤ cap) (hc2 : cap ≤ 9223372036854775807) (hcol : ∀ t ∈ ts, ∀ c ∈ t.1, okC c) (px py tol : Int) (col : ColT) (hcc : okC col) (w : World) (he : Elems w (.slice a n cap) n 256 (rowC encT ts)) :
 Calls Tryz.prog 3 #[.agg #[.int .i64 wide, .int .i64 high, .slice a n cap], .agg #[.int .i64 px, .int .i64 py, .int .i64 tol], col.val] w (Gives (.bool true) w) := by
 have HS := Lib.hid (St.start w)
 have HOF := Lib.hid (fun w' (hb : Below w.heap.size w w') => lawOf_any wide high a n cap ts hl hc hc2 hcol w' (he.below hb))
 obtain ⟨ok, hok⟩ : ∃ ok, okE wide high (ts.take 17).length = ok := ⟨_, rfl⟩
 obtain ⟨C, hC⟩ : ∃ C : CanT, (⟨wide.toNat, high.toNat, ts.take 17⟩ : CanT) = C := ⟨_, rfl⟩
 obtain ⟨us, hus⟩ : ∃ us, ts.take 17 = us := ⟨_, rfl⟩
 rw [hok, hC, hus] at HOF
 obtain ⟨cr, cg, cb, ca⟩ := col
 have HOC := Lib.hid hcc
 unfold ColT.val
 simp only
 clear hl hc hc2 hcol he hok hC hus hcc
 refine (callsIn_wide (n := 10)).1 ?_
 refine callsIn_of_wp_marks Tryz.func3 rfl trivial ?_ rfl
 simp only [Tryz.ntmps3, List.size_toArray, List.length_cons, List.length_nil, Nat.reduceAdd, Nat.reduceSub, Array.replicate_succ, Array.replicate_zero, List.push_toArray, List.append_toArray, List.nil_append, List.cons_append]
 repeat ((fail_if_success (with_reducible refine stop_atI (id := 1) ?_)); (first | go_values | gi_guarded | gi_step | gi_upon | gi_back | (simp only [Int.not_lt, Int.not_le] at *; go_simp) | (go_values <;> (try go_simp)) | (go_ite <;> go_prune <;> (try go_simp)) | (split <;> (first | (rename_i hx; exact (hx _ rfl).elim) | go_prune))))
 have hs_ := ((((HS.out.alloc (.cells #[.int .i64 wide, .int .i64 high, .slice a n cap] 24)).alloc (.cells #[.int .i64 px, .int .i64 py, .int .i64 tol] 25)).alloc (.cells #[.int .u8 cr, .int .u8 cg, .int .u8 cb, .int .u8 ca] 27)).alloc (.cells #[.bool false] 4))
 obtain ⟨w1, hw_⟩ : ∃ w1 : World, ((((w.alloc (.cells #[.int .i64 wide, .int .i64 high, .slice a n cap] 24)).alloc (.cells #[.int .i64 px, .int .i64 py, .int .i64 tol] 25)).alloc (.cells #[.int .u8 cr, .int .u8 cg, .int .u8 cb, .int .u8 ca] 27)).alloc (.cells #[.bool false] 4)) = w1 := ⟨_, rfl⟩
 rw [hw_] at hs_
 try simp only [World.size_alloc] at hs_
 have HS := Lib.hid hs_
 rw [hw_]
 clear hw_ hs_
 gi_wp2_with fail
 refine (callsIn_wide.2 (flWakes_any _)).mono ?_
 rintro e w2 ⟨rfl, hb_⟩
 have HS := Lib.hid (HS.out.below hb_)
 clear hb_
 have k0 := cell_of_block (k := 0) (HS.out.blockAt 3 rfl) rfl
 have k1 := cell_of_block (k := 1) (HS.out.blockAt 3 rfl) rfl
 have k2 := cell_of_block (k := 2) (HS.out.blockAt 3 rfl) rfl
 gi_wp2_with fail
 clear k0 k1 k2
 refine (callsIn_wide.2 (HOF.out _ HS.out.low)).mono ?_
 rintro e w3 ⟨v, y, rfl, hb, ⟨a3, c3, rfl, hc3, he3⟩, hv1, hv2⟩
 have HS := Lib.hid (HS.out.below hb)
 have hov : OfV ok C v w3 := ⟨hv1, hv2⟩
 obtain ⟨x, rfl⟩ := hov.ptr
 have HV := Lib.hid hov
 clear hb hc3 he3 hv1 hv2 HOF hov
 repeat ((fail_if_success (with_reducible refine stop_atI (id := 4) ?_)); (first | go_values | gi_guarded | gi_step | gi_upon | gi_back | (simp only [Int.not_lt, Int.not_le] at *; go_simp) | (go_values <;> (try go_simp)) | (go_ite <;> go_prune <;> (try go_simp)) | (split <;> (first | (rename_i hx; exact (hx _ rfl).elim) | go_prune))))
 have hs_ := ((HS.out.alloc (.cells #[.pointer x] 29)).alloc (.cells #[.int .i64 wide, .int .i64 high, .slice a3 us.length c3] 24))
 have hk_HV := HV.out.below (((Below.refl _ _).alloc (by exact Nat.le_refl _) (.cells #[.pointer x] 29)).alloc (by simp only [World.size_alloc]; omega) (.cells #[.int .i64 wide, .int .i64 high, .slice a3 us.length c3] 24))
 obtain ⟨w4, hw_⟩ : ∃ w4 : World, ((w3.alloc (.cells #[.pointer x] 29)).alloc (.cells #[.int .i64 wide, .int .i64 high, .slice a3 us.length c3] 24)) = w4 := ⟨_, rfl⟩
 rw [hw_] at hs_ hk_HV
 try simp only [World.size_alloc] at hs_
 have HS := Lib.hid hs_
 have HV := Lib.hid hk_HV
 rw [hw_]
 clear hw_ hs_ hk_HV
 apply wp_region_slots 11 [⟨7, 9, 10, .cells #[.int .i64 0, .int .i64 0] 33 (0, 0), .cells #[.int .i64 px, .int .i64 py] 33 (0, 0)⟩, ⟨8, 10, 11, .cells #[.int .i64 0] 3 (0, 0), .cells #[.int .i64 tol] 3 (0, 0)⟩] _ (Rl := [(eqv _), (eqv _), (eqv _), (eqv _), (eqv _), (eqv _), (eqv _), (fun _ _ => True), (fun _ _ => True), (fun _ _ => True), (fun _ _ => True)])
 case hm => kernel_rfl
 case hk => rfl
 case hst => exact ⟨fun _ _ _ _ h => h, fun _ _ _ _ h => h, fun _ _ _ _ h => h, fun _ _ _ _ h => h, fun _ _ _ _ h => h, fun _ _ _ _ h => h, fun _ _ _ _ h => h, fun _ _ _ _ h => h, fun _ _ _ _ h => h, fun _ _ _ _ h => h, fun _ _ _ _ h => h, trivial⟩
 case hfo => kernel_rfl
 case ht => kernel_rfl
 case hN => exact Nat.le_refl _
 case hok => kernel_rfl
 case hsk => intro s hs; simp only [List.mem_cons, List.not_mem_nil, or_false] at hs; rcases hs with rfl | rfl <;> exact ⟨Nat.le_of_ble_eq_true rfl, Nat.le_of_ble_eq_true rfl⟩
 case hsteps =>
  refine ⟨?_, ?_, ?_, ?_, ?_, ?_, ?_, ?_, ?_, ?_, ?_, trivial⟩
  · intro l_ a' w' hA hC hJ hN hB hD; have s4 : a'.tmps[4]? = some _ := (hA.at 4 (by kernel_rfl)).trans rfl; clear hA hD; refine stepOkT_plain rfl ?_; intro K hK; gi_wp2; exact hK _ _ rfl (Below.refl _ _) (SlT.plainB rfl (Below.refl _ _))
  · intro l_ a' w' hA hC hJ hN hB hD; obtain ⟨u39, s39, r39⟩ := hD ⟨0, .data⟩ (by simp) rfl _ rfl; replace r39 : u39 = _ := r39; subst r39
    have z0 := cell_of_block (k := 0) ((HS.out.below hC).blockAt 4 rfl) rfl
    clear hA hD; refine stepOkT_plain rfl ?_; intro K hK; gi_wp2; exact hK _ _ rfl (Below.refl _ _) (SlT.plainB rfl (Below.refl _ _))
  · intro l_ a' w' hA hC hJ hN hB hD; have s4 : a'.tmps[4]? = some _ := (hA.at 4 (by kernel_rfl)).trans rfl; clear hA hD; refine stepOkT_plain rfl ?_; intro K hK; gi_wp2; exact hK _ _ rfl (Below.refl _ _) (SlT.plainB rfl (Below.refl _ _))
  · intro l_ a' w' hA hC hJ hN hB hD; obtain ⟨u41, s41, r41⟩ := hD ⟨2, .data⟩ (by simp) rfl _ rfl; replace r41 : u41 = _ := r41; subst r41
    have z0 := cell_of_block (k := 1) ((HS.out.below hC).blockAt 4 rfl) rfl
    clear hA hD; refine stepOkT_plain rfl ?_; intro K hK; gi_wp2; exact hK _ _ rfl (Below.refl _ _) (SlT.plainB rfl (Below.refl _ _))
  · intro l_ a' w' hA hC hJ hN hB hD; obtain ⟨u40, s40, r40⟩ := hD ⟨1, .data⟩ (by simp) rfl _ rfl; replace r40 : u40 = _ := r40; subst r40; obtain ⟨u42, s42, r42⟩ := hD ⟨3, .data⟩ (by simp) rfl _ rfl; replace r42 : u42 = _ := r42; subst r42; clear hA hD; refine stepOkT_plain rfl ?_; intro K hK; gi_wp2; exact hK _ _ rfl (Below.refl _ _) (SlT.plainB rfl (Below.refl _ _))
  · intro l_ a' w' hA hC hJ hN hB hD; have s4 : a'.tmps[4]? = some _ := (hA.at 4 (by kernel_rfl)).trans rfl; clear hA hD; refine stepOkT_plain rfl ?_; intro K hK; gi_wp2; exact hK _ _ rfl (Below.refl _ _) (SlT.plainB rfl (Below.refl _ _))
  · intro l_ a' w' hA hC hJ hN hB hD; obtain ⟨u44, s44, r44⟩ := hD ⟨5, .data⟩ (by simp) rfl _ rfl; replace r44 : u44 = _ := r44; subst r44
    have z0 := cell_of_block (k := 2) ((HS.out.below hC).blockAt 4 rfl) rfl
    clear hA hD; refine stepOkT_plain rfl ?_; intro K hK; gi_wp2; exact hK _ _ rfl (Below.refl _ _) (SlT.plainB rfl (Below.refl _ _))
  · intro l_ a' w' hA hC hJ hN hB hD; clear hA hD; refine stepOkT_plain rfl ?_; intro K hK; gi_wp2; exact hK _ _ trivial ((Below.refl _ _).alloc hC.size _) (SlT.alloc (by intro t ht e; simp only [List.mem_cons, List.not_mem_nil, or_false] at ht; rcases ht with rfl | rfl <;> first | rfl | (exact absurd e (Nat.ne_of_beq_eq_false rfl))) (by intro t ht; simp only [List.mem_cons, List.not_mem_nil, or_false] at ht; rcases ht with rfl | rfl <;> exact Nat.ne_of_beq_eq_false rfl))
  · intro l_ a' w' hA hC hJ hN hB hD; clear hA hD; refine stepOkT_plain rfl ?_; intro K hK; gi_wp2; exact hK _ _ trivial ((Below.refl _ _).alloc hC.size _) (SlT.alloc (by intro t ht e; simp only [List.mem_cons, List.not_mem_nil, or_false] at ht; rcases ht with rfl | rfl <;> first | rfl | (exact absurd e (Nat.ne_of_beq_eq_false rfl))) (by intro t ht; simp only [List.mem_cons, List.not_mem_nil, or_false] at ht; rcases ht with rfl | rfl <;> exact Nat.ne_of_beq_eq_false rfl))
  · intro l_ a' w' hA hC hJ hN hB hD; obtain ⟨u10, s10, r10⟩ := hD ⟨7, .data⟩ (by simp) rfl _ rfl; replace r10 : (fun _ _ => True) u10 w' := r10; obtain ⟨u43, s43, r43⟩ := hD ⟨4, .data⟩ (by simp) rfl _ rfl; replace r43 : u43 = _ := r43; subst r43
    obtain ⟨b10, n10, t10, o10⟩ := hJ.at_ _ (List.mem_of_getElem? (i := 0) rfl) (hB ⟨7, .data⟩ (by simp) rfl)
    rw [show l_.getD 9 false = false from hN] at o10
    replace o10 : w'.heap[b10]? = some (.cells #[.int .i64 0, .int .i64 0] 33 (0, 0)) := o10
    obtain rfl : u10 = ptrB b10 := Option.some.inj (s10.symm.trans t10)
    clear r10
    obtain ⟨b11, n11, t11, o11⟩ := hJ.at_ _ (List.mem_of_getElem? (i := 1) rfl) (hB ⟨8, .phase⟩ (by simp) rfl)
    clear hA hD; refine stepOkT_plain rfl ?_; intro K hK
    have f10 := free_of_block o10
    have c10_0 := cell_of_block (k := 0) o10 rfl
    have c10_1 := cell_of_block (k := 1) o10 rfl
    have f10_0 := f10 0
    have f10_1 := f10 1
    clear f10; unfold ptrB at s10 t10; gi_wp2; exact hK undef _ trivial (by repeat (first | exact Below.refl _ _ | refine Below.setCell ?_ (by omega) _)) (SlT.store _ (by intro t ht e; simp only [List.mem_cons, List.not_mem_nil, or_false] at ht; rcases ht with rfl | rfl <;> first | rfl | (exact absurd e (Nat.ne_of_beq_eq_false rfl))) (by intro t ht; simp only [List.mem_cons, List.not_mem_nil, or_false] at ht; rcases ht with rfl | rfl <;> exact Nat.ne_of_beq_eq_false rfl) (List.mem_of_getElem? (i := 0) rfl) rfl b10 (by unfold envOf; rw [t10]; rfl) (heap_set_same (heap_set_same o10 _) _) (by intro k hk; repeat (first | rfl | refine (Below.heap_setCell _ _ _ k (by simpa using hk)).trans ?_)))
  · intro l_ a' w' hA hC hJ hN hB hD; obtain ⟨u11, s11, r11⟩ := hD ⟨8, .data⟩ (by simp) rfl _ rfl; replace r11 : (fun _ _ => True) u11 w' := r11; obtain ⟨u45, s45, r45⟩ := hD ⟨6, .data⟩ (by simp) rfl _ rfl; replace r45 : u45 = _ := r45; subst r45
    obtain ⟨b10, n10, t10, o10⟩ := hJ.at_ _ (List.mem_of_getElem? (i := 0) rfl) (hB ⟨7, .phase⟩ (by simp) rfl)
    obtain ⟨b11, n11, t11, o11⟩ := hJ.at_ _ (List.mem_of_getElem? (i := 1) rfl) (hB ⟨8, .data⟩ (by simp) rfl)
    rw [show l_.getD 10 false = false from hN] at o11
    replace o11 : w'.heap[b11]? = some (.cells #[.int .i64 0] 3 (0, 0)) := o11
    obtain rfl : u11 = ptrB b11 := Option.some.inj (s11.symm.trans t11)
    clear r11
    clear hA hD; refine stepOkT_plain rfl ?_; intro K hK
    have f11 := free_of_block o11
    have c11_0 := cell_of_block (k := 0) o11 rfl
    have f11_0 := f11 0
    clear f11; unfold ptrB at s11 t11; gi_wp2; exact hK undef _ trivial (by repeat (first | exact Below.refl _ _ | refine Below.setCell ?_ (by omega) _)) (SlT.store _ (by intro t ht e; simp only [List.mem_cons, List.not_mem_nil, or_false] at ht; rcases ht with rfl | rfl <;> first | rfl | (exact absurd e (Nat.ne_of_beq_eq_false rfl))) (by intro t ht; simp only [List.mem_cons, List.not_mem_nil, or_false] at ht; rcases ht with rfl | rfl <;> exact Nat.ne_of_beq_eq_false rfl) (List.mem_of_getElem? (i := 1) rfl) rfl b11 (by unfold envOf; rw [t11]; rfl) (heap_set_same o11 _) (by intro k hk; repeat (first | rfl | refine (Below.heap_setCell _ _ _ k (by simpa using hk)).trans ?_)))
 case hend =>
  intro w5 hC
  simp only [EndFrom, eqv, forall_eq, Act.put, List.length_cons, List.length_nil, List.drop_succ_cons, List.drop_zero, Nat.reduceAdd, List.setIfInBounds_toArray, List.set_cons_succ, List.set_cons_zero]
  have HS := Lib.hid (HS.out.below hC)
  have HV := Lib.hid (HV.out.below hC)
  clear hC
  intro p10 _ p11 _ p12 _ p13 _ hE
  obtain ⟨b10, -, hb10, ho10⟩ := hE.1 _ (List.mem_of_getElem? (i := 0) rfl)
  obtain ⟨b11, -, hb11, ho11⟩ := hE.1 _ (List.mem_of_getElem? (i := 1) rfl)
  obtain rfl : p10 = ptrB b10 := Option.some.inj hb10
  obtain rfl : p11 = ptrB b11 := Option.some.inj hb11
  have HP := Lib.hid (BlkAt.mk ho10)
  have HQ := Lib.hid (BlkAt.mk ho11)
  clear hE hb10 hb11 ho10 ho11
  unfold ptrB
  cases ok with
  | false =>
   have f2 := free_of_block (HS.out.blockAt 2 rfl)
   have k2 := cell_of_block (k := 0) (HS.out.blockAt 2 rfl) rfl
   obtain ⟨c1, b1⟩ := ret_store HS.out (HS.out.blockAt 2 rfl) (by omega) (.bool true)
   gi_wp2_with fail
   refine ⟨.bool true, by simp [results, Tryz.results3, go_sem, c1], rfl, b1⟩
  | true =>
   obtain ⟨p, hp, hcp⟩ := HV.out.1 rfl
   have HC := Lib.hid hcp
   cases hp
   clear hcp HV
   cases hbb : begB C ⟨px, py⟩ tol with
   | false =>
    have hE0 := begE_ne hbb
    obtain ⟨E, hE⟩ : ∃ E, begE C ⟨px, py⟩ tol = E := ⟨_, rfl⟩
    rw [hE] at hE0
    have HRG := Lib.hid (fun w' h => region_is (C := C) (c := p) (p := ⟨px, py⟩) (t := tol) hE hbb w' h)
    have HFI := Lib.hid (fun w' h => (show Calls Tryz.prog 7 #[.pointer (some ⟨p, 0, none⟩), .agg #[.int .i64 px, .int .i64 py], .int .i64 tol, .agg #[.int .u8 cr, .int .u8 cg, .int .u8 cb, .int .u8 ca]] w' (Gives (.tuple #[.pointer none, .int .i64 E]) w') by
     have h1 := fill_bad C p ⟨px, py⟩ tol ⟨cr, cg, cb, ca⟩ w' h hbb
     rw [hE] at h1
     exact h1))
    simp only [PtT.val] at HRG
    clear hbb hE
    have t0 := cell_of_block (k := 0) (HS.out.blockAt 1 rfl) rfl
    have q0 := cell_of_block (k := 0) HP.out.at_ rfl
    have q1 := cell_of_block (k := 1) HP.out.at_ rfl
    have r0 := cell_of_block (k := 0) HQ.out.at_ rfl
    rcases hE0 with rfl | rfl <;> (
     gi_wp2_with fail
     clear t0 q0 q1 r0
     refine (callsIn_wide.2 (HRG.out _ HC.out)).mono ?_
     rintro e w7 ⟨rfl, hb_⟩
     have HS := Lib.hid (HS.out.below hb_)
     have HC := Lib.hid (HC.out.below hb_)
     have HP := Lib.hid (HP.out.below hb_)
     have HQ := Lib.hid (HQ.out.below hb_)
     clear hb_
     repeat ((fail_if_success (with_reducible refine stop_atI (id := 8) ?_)); (first | go_values | gi_guarded | gi_step | gi_upon | gi_back | (simp only [Int.not_lt, Int.not_le] at *; go_simp) | (go_values <;> (try go_simp)) | (go_ite <;> go_prune <;> (try go_simp)) | (split <;> (first | (rename_i hx; exact (hx _ rfl).elim) | go_prune))))
     have hs_ := HS.out.alloc (.cells #[.slice none 0 0] 34)
     have hk_HC := HC.out.below ((Below.refl _ _).alloc (Nat.le_refl _) (.cells #[.slice none 0 0] 34))
     have hk_HP := HP.out.below ((Below.refl _ _).alloc (Nat.le_refl _) (.cells #[.slice none 0 0] 34))
     have hk_HQ := HQ.out.below ((Below.refl _ _).alloc (Nat.le_refl _) (.cells #[.slice none 0 0] 34))
     obtain ⟨w8, hw_⟩ : ∃ w8 : World, w7.alloc (.cells #[.slice none 0 0] 34) = w8 := ⟨_, rfl⟩
     rw [hw_] at hs_ hk_HC hk_HP hk_HQ
     have HS := Lib.hid hs_
     have HC := Lib.hid hk_HC
     have HP := Lib.hid hk_HP
     have HQ := Lib.hid hk_HQ
     rw [hw_]
     clear hw_ hs_ hk_HC hk_HP hk_HQ
     have t0 := cell_of_block (k := 0) (HS.out.blockAt 2 rfl) rfl
     have q0 := cell_of_block (k := 0) HP.out.at_ rfl
     have q1 := cell_of_block (k := 1) HP.out.at_ rfl
     have r0 := cell_of_block (k := 0) HQ.out.at_ rfl
     have d0 := cell_of_block (k := 0) (HS.out.blockAt 4 rfl) rfl
     have d1 := cell_of_block (k := 1) (HS.out.blockAt 4 rfl) rfl
     have d2 := cell_of_block (k := 2) (HS.out.blockAt 4 rfl) rfl
     have d3 := cell_of_block (k := 3) (HS.out.blockAt 4 rfl) rfl
     gi_wp2_with fail
     clear t0 q0 q1 r0 d0 d1 d2 d3
     refine (callsIn_wide.2 (HFI.out _ HC.out)).mono ?_
     rintro e w9 ⟨rfl, hb_⟩
     have HS := Lib.hid (HS.out.below hb_)
     have HC := Lib.hid (HC.out.below hb_)
     have HP := Lib.hid (HP.out.below hb_)
     have HQ := Lib.hid (HQ.out.below hb_)
     clear hb_
     repeat ((fail_if_success (with_reducible refine stop_atI (id := 9) ?_)); (first | go_values | gi_guarded | gi_step | gi_upon | gi_back | (simp only [Int.not_lt, Int.not_le] at *; go_simp) | (go_values <;> (try go_simp)) | (go_ite <;> go_prune <;> (try go_simp)) | (split <;> (first | (rename_i hx; exact (hx _ rfl).elim) | go_prune))))
     have hs_ := HS.out.alloc (.cells #[.pointer none] 29)
     have hk_HC := HC.out.below ((Below.refl _ _).alloc (Nat.le_refl _) (.cells #[.pointer none] 29))
     obtain ⟨w10, hw_⟩ : ∃ w10 : World, w9.alloc (.cells #[.pointer none] 29) = w10 := ⟨_, rfl⟩
     rw [hw_] at hs_ hk_HC
     have HS := Lib.hid hs_
     have HC := Lib.hid hk_HC
     rw [hw_]
     clear hw_ hs_ hk_HC
     have g0 := cell_of_block (k := 0) (HS.out.blockAt 0 rfl) rfl
     have f2 := free_of_block (HS.out.blockAt 4 rfl)
     have k2 := cell_of_block (k := 0) (HS.out.blockAt 4 rfl) rfl
     obtain ⟨c1, b1⟩ := ret_store HS.out (HS.out.blockAt 4 rfl) (by omega) (.bool true)
     gi_wp2_with fail
     refine ⟨.bool true, by simp [results, Tryz.results3, go_sem, c1], rfl, b1⟩)
   | true =>
    obtain ⟨D, hD⟩ : ∃ D, fillC C ⟨px, py⟩ tol ⟨cr, cg, cb, ca⟩ = D := ⟨_, rfl⟩
    obtain ⟨ns, hns⟩ : ∃ ns, (regL (placesL C ⟨px, py⟩ tol)).length = ns := ⟨_, rfl⟩
    obtain ⟨nt, hnt⟩ : ∃ nt, (regL (placesL D ⟨px, py⟩ tol)).length = nt := ⟨_, rfl⟩
    have hok := HC.out.ok
    have hDok : okCan D := by rw [← hD]; exact fillC_ok hok HOC.out
    have hbd : begB D ⟨px, py⟩ tol = true := by
     have h1 := hbb
     unfold begB at h1 ⊢
     rw [← hD, fillC_on]
     exact h1
    have hln : ns ≤ 1024 := by
     have h1 := regL_len (placesL C ⟨px, py⟩ tol)
     have h2 := placesL_len hok ⟨px, py⟩ tol
     omega
    have hlt' : nt ≤ 1024 := by
     have h1 := regL_len (placesL D ⟨px, py⟩ tol)
     have h2 := placesL_len hDok ⟨px, py⟩ tol
     omega
    have HNN := Lib.hid (And.intro hns (And.intro hnt (And.intro hln hlt')))
    have HOK := Lib.hid (And.intro hok (And.intro hDok hbb))
    have HRG := Lib.hid (fun w' h => region_got C p ⟨px, py⟩ tol ns hns hbb w' h)
    have HRD := Lib.hid (fun pd w' h => region_got D pd ⟨px, py⟩ tol nt hnt hbd w' h)
    have HFI := Lib.hid (fun w' h => show Calls Tryz.prog 7 #[.pointer (some ⟨p, 0, none⟩), .agg #[.int .i64 px, .int .i64 py], .int .i64 tol, .agg #[.int .u8 cr, .int .u8 cg, .int .u8 cb, .int .u8 ca]] w' (GivesCan D w') from hD ▸ fill_good C p ⟨px, py⟩ tol ⟨cr, cg, cb, ca⟩ HOC.out w' h hbb)
    have HUN := Lib.hid (fun a' c' w' (h : RowsR w' a' [regL (placesL C ⟨px, py⟩ tol), regL (placesL D ⟨px, py⟩ tol)]) => show Calls Tryz.prog 8 #[.slice a' 2 c'] w' (Got 3 encS (regL (placesL D ⟨px, py⟩ tol)) nt 0 w') by
     subst hD
     exact union_fill hok HOC.out hbb nt hnt a' c' w' h)
    have hon := (begB_on hbb).1
    have HDF := Lib.hid (fun pd w' h1 h2 => differ_any C D p pd (by rw [← hD]; exact fillC_wide.symm) (by rw [← hD]; exact fillC_high.symm) w' h1 h2)
    have HDI := Lib.hid (fun q (h : q ∈ diffL C D) => show InReg C ⟨px, py⟩ tol q from diff_in hok HOC.out (hD ▸ h))
    have HDC := Lib.hid (fun q (h : InReg C ⟨px, py⟩ tol q) => show onC D q = true ∧ colP D q = ⟨cr, cg, cb, ca⟩ by
     classical
     rw [← hD, fillC_on, fillC_col hok HOC.out h.1, if_pos h]
     exact ⟨h.1, rfl⟩)
    obtain ⟨fc, hfc⟩ : ∃ fc, colP C ⟨px, py⟩ = fc := ⟨_, rfl⟩
    have hfo : okC fc := by rw [← hfc]; exact colQ_ok hok hon
    have HNO := Lib.hid (fun q n (h1 : InReg C ⟨px, py⟩ tol q) (h2 : n ∈ nbs q) (h3 : onC C n = true) (h4 : regHas C ⟨px, py⟩ tol n = false) => show nearB fc (colP C n) tol = false from hfc ▸ near_out hok hbb h1 h2 h3 h4)
    have HAT := Lib.hid (fun w' h => show Calls Tryz.prog 10 #[.pointer (some ⟨p, 0, none⟩), .int .i64 px, .int .i64 py] w' (Gives (.tuple #[fc.val, .bool true]) w') from hfc ▸ at_onP C p ⟨px, py⟩ hon w' h)
    obtain ⟨fr, fg, fb, fa⟩ := fc
    have HFO := Lib.hid hfo
    simp only [PtT.val] at HRG HRD
    unfold ColT.val at HAT
    simp only at HAT
    clear hD hns hnt hok hDok hbd hln hlt' hbb hon hfc hfo
    have t0 := cell_of_block (k := 0) (HS.out.blockAt 1 rfl) rfl
    have q0 := cell_of_block (k := 0) HP.out.at_ rfl
    have q1 := cell_of_block (k := 1) HP.out.at_ rfl
    have r0 := cell_of_block (k := 0) HQ.out.at_ rfl
    gi_wp2_with fail
    clear t0 q0 q1 r0
    refine (callsIn_wide.2 (HRG.out _ HC.out)).mono ?_
    rintro e w7 ⟨-, sa, sc, rfl, he_, hb_⟩
    have HS := Lib.hid ((HS.out.below hb_).addRow he_)
    have HC := Lib.hid (HC.out.below hb_)
    have HP := Lib.hid (HP.out.below hb_)
    have HQ := Lib.hid (HQ.out.below hb_)
    clear hb_ he_
    repeat ((fail_if_success (with_reducible refine stop_atI (id := 8) ?_)); (first | go_values | gi_guarded | gi_step | gi_upon | gi_back | (simp only [Int.not_lt, Int.not_le] at *; go_simp) | (go_values <;> (try go_simp)) | (go_ite <;> go_prune <;> (try go_simp)) | (split <;> (first | (rename_i hx; exact (hx _ rfl).elim) | go_prune))))
    have hs_ := HS.out.alloc (.cells #[.slice sa ns sc] 34)
    have hk_HC := HC.out.below ((Below.refl _ _).alloc (Nat.le_refl _) (.cells #[.slice sa ns sc] 34))
    have hk_HP := HP.out.below ((Below.refl _ _).alloc (Nat.le_refl _) (.cells #[.slice sa ns sc] 34))
    have hk_HQ := HQ.out.below ((Below.refl _ _).alloc (Nat.le_refl _) (.cells #[.slice sa ns sc] 34))
    obtain ⟨w8, hw_⟩ : ∃ w8 : World, w7.alloc (.cells #[.slice sa ns sc] 34) = w8 := ⟨_, rfl⟩
    rw [hw_] at hs_ hk_HC hk_HP hk_HQ
    have HS := Lib.hid hs_
    have HC := Lib.hid hk_HC
    have HP := Lib.hid hk_HP
    have HQ := Lib.hid hk_HQ
    rw [hw_]
    clear hw_ hs_ hk_HC hk_HP hk_HQ
    have t0 := cell_of_block (k := 0) (HS.out.blockAt 3 rfl) rfl
    have q0 := cell_of_block (k := 0) HP.out.at_ rfl
    have q1 := cell_of_block (k := 1) HP.out.at_ rfl
    have r0 := cell_of_block (k := 0) HQ.out.at_ rfl
    have d0 := cell_of_block (k := 0) (HS.out.blockAt 5 rfl) rfl
    have d1 := cell_of_block (k := 1) (HS.out.blockAt 5 rfl) rfl
    have d2 := cell_of_block (k := 2) (HS.out.blockAt 5 rfl) rfl
    have d3 := cell_of_block (k := 3) (HS.out.blockAt 5 rfl) rfl
    gi_wp2_with fail
    clear t0 q0 q1 r0 d0 d1 d2 d3
    refine (callsIn_wide.2 (HFI.out _ HC.out)).mono ?_
    rintro e w9 ⟨pd, rfl, hd9, -, hb9⟩
    have HD := Lib.hid hd9
    have HS := Lib.hid (HS.out.below hb9)
    have HC := Lib.hid (HC.out.below hb9)
    have HP := Lib.hid (HP.out.below hb9)
    have HQ := Lib.hid (HQ.out.below hb9)
    clear hd9 hb9
    repeat ((fail_if_success (with_reducible refine stop_atI (id := 9) ?_)); (first | go_values | gi_guarded | gi_step | gi_upon | gi_back | (simp only [Int.not_lt, Int.not_le] at *; go_simp) | (go_values <;> (try go_simp)) | (go_ite <;> go_prune <;> (try go_simp)) | (split <;> (first | (rename_i hx; exact (hx _ rfl).elim) | go_prune))))
    have hs_ := HS.out.alloc (.cells #[.pointer (some ⟨pd, 0, none⟩)] 29)
    have hk_HC := HC.out.below ((Below.refl _ _).alloc (Nat.le_refl _) (.cells #[.pointer (some ⟨pd, 0, none⟩)] 29))
    have hk_HD := HD.out.below ((Below.refl _ _).alloc (Nat.le_refl _) (.cells #[.pointer (some ⟨pd, 0, none⟩)] 29))
    have hk_HP := HP.out.below ((Below.refl _ _).alloc (Nat.le_refl _) (.cells #[.pointer (some ⟨pd, 0, none⟩)] 29))
    have hk_HQ := HQ.out.below ((Below.refl _ _).alloc (Nat.le_refl _) (.cells #[.pointer (some ⟨pd, 0, none⟩)] 29))
    obtain ⟨w10, hw_⟩ : ∃ w10 : World, w9.alloc (.cells #[.pointer (some ⟨pd, 0, none⟩)] 29) = w10 := ⟨_, rfl⟩
    rw [hw_] at hs_ hk_HC hk_HD hk_HP hk_HQ
    have HS := Lib.hid hs_
    have HC := Lib.hid hk_HC
    have HD := Lib.hid hk_HD
    have HP := Lib.hid hk_HP
    have HQ := Lib.hid hk_HQ
    rw [hw_]
    clear hw_ hs_ hk_HC hk_HD hk_HP hk_HQ
    have t0 := cell_of_block (k := 0) (HS.out.blockAt 0 rfl) rfl
    have q0 := cell_of_block (k := 0) HP.out.at_ rfl
    have q1 := cell_of_block (k := 1) HP.out.at_ rfl
    have r0 := cell_of_block (k := 0) HQ.out.at_ rfl
    gi_wp2_with fail
    clear t0 q0 q1 r0
    refine (callsIn_wide.2 (HRD.out pd _ HD.out)).mono ?_
    rintro e w11 ⟨-, ta, tc, rfl, he_, hb_⟩
    have HS := Lib.hid ((HS.out.below hb_).addRow he_)
    have HC := Lib.hid (HC.out.below hb_)
    have HD := Lib.hid (HD.out.below hb_)
    have HP := Lib.hid (HP.out.below hb_)
    have HQ := Lib.hid (HQ.out.below hb_)
    clear hb_ he_
    have s0 := cell_of_block (k := 0) (HS.out.blockAt 2 rfl) rfl
    gi_wp2_with fail
    clear s0
    have hs_ := HS.out.alloc (.cells #[.slice sa ns sc, .slice ta nt tc] 34)
    have hk_HC := HC.out.below ((Below.refl _ _).alloc (Nat.le_refl _) (.cells #[.slice sa ns sc, .slice ta nt tc] 34))
    have hk_HD := HD.out.below ((Below.refl _ _).alloc (Nat.le_refl _) (.cells #[.slice sa ns sc, .slice ta nt tc] 34))
    have hk_HP := HP.out.below ((Below.refl _ _).alloc (Nat.le_refl _) (.cells #[.slice sa ns sc, .slice ta nt tc] 34))
    have hk_HQ := HQ.out.below ((Below.refl _ _).alloc (Nat.le_refl _) (.cells #[.slice sa ns sc, .slice ta nt tc] 34))
    obtain ⟨w12, hw_⟩ : ∃ w12 : World, w11.alloc (.cells #[.slice sa ns sc, .slice ta nt tc] 34) = w12 := ⟨_, rfl⟩
    rw [hw_] at hs_ hk_HC hk_HD hk_HP hk_HQ
    have HS := Lib.hid hs_
    have HC := Lib.hid hk_HC
    have HD := Lib.hid hk_HD
    have HP := Lib.hid hk_HP
    have HQ := Lib.hid hk_HQ
    rw [hw_]
    clear hw_ hs_ hk_HC hk_HD hk_HP hk_HQ
    have hrr : RowsR w12 (some ⟨w11.heap.size, 0, none⟩) [regL (placesL C ⟨px, py⟩ tol), regL (placesL D ⟨px, py⟩ tol)] := by
     intro k l hk
     rcases k with _ | _ | k
     · simp only [List.getElem?_cons_zero, Option.some.injEq] at hk
       subst hk
       rw [HNN.out.1]
       exact ⟨_, 0, _, _, rfl, HS.out.lt 0 rfl, cell_of_block (HS.out.blockAt 0 rfl) rfl, HS.out.elems 4 rfl⟩
     · simp only [List.getElem?_cons_succ, List.getElem?_cons_zero, Option.some.injEq] at hk
       subst hk
       rw [HNN.out.2.1]
       exact ⟨_, 0, _, _, rfl, HS.out.lt 0 rfl, cell_of_block (HS.out.blockAt 0 rfl) rfl, HS.out.elems 1 rfl⟩
     · simp at hk
    refine (callsIn_wide.2 (HUN.out _ _ _ hrr)).mono ?_
    rintro e w13 ⟨-, ua, uc, rfl, he_, hb_⟩
    have HS := Lib.hid ((HS.out.below hb_).addRow he_)
    have HC := Lib.hid (HC.out.below hb_)
    have HD := Lib.hid (HD.out.below hb_)
    have HP := Lib.hid (HP.out.below hb_)
    have HQ := Lib.hid (HQ.out.below hb_)
    clear hb_ he_
    clear hrr
    gi_wp2_with fail
    refine (callsIn_wide.2 (eqS_same _ _ _ nt HNN.out.2.1 _ (HS.out.elems 0 rfl) (HS.out.elems 2 rfl) (by have := HNN.out.2.2.2; omega))).mono ?_
    rintro e w14 ⟨rfl, hb_⟩
    have HS := Lib.hid (HS.out.below hb_)
    have HC := Lib.hid (HC.out.below hb_)
    have HD := Lib.hid (HD.out.below hb_)
    have HP := Lib.hid (HP.out.below hb_)
    have HQ := Lib.hid (HQ.out.below hb_)
    clear hb_
    have t0 := cell_of_block (k := 0) (HS.out.blockAt 7 rfl) rfl
    have q0 := cell_of_block (k := 0) HP.out.at_ rfl
    have q1 := cell_of_block (k := 1) HP.out.at_ rfl
    gi_wp2_with fail
    clear t0 q0 q1
    refine (callsIn_wide.2 (HAT.out _ HC.out)).mono ?_
    rintro e w15 ⟨rfl, hb_⟩
    have HS := Lib.hid (HS.out.below hb_)
    have HC := Lib.hid (HC.out.below hb_)
    have HD := Lib.hid (HD.out.below hb_)
    have HP := Lib.hid (HP.out.below hb_)
    have HQ := Lib.hid (HQ.out.below hb_)
    clear hb_
    repeat ((fail_if_success (with_reducible refine stop_atI (id := 16) ?_)); (first | go_values | gi_guarded | gi_step | gi_upon | gi_back | (simp only [Int.not_lt, Int.not_le] at *; go_simp) | (go_values <;> (try go_simp)) | (go_ite <;> go_prune <;> (try go_simp)) | (split <;> (first | (rename_i hx; exact (hx _ rfl).elim) | go_prune))))
    have hs_ := HS.out.alloc (.cells #[.int .u8 fr, .int .u8 fg, .int .u8 fb, .int .u8 fa] 27)
    have hk_HC := HC.out.below ((Below.refl _ _).alloc (Nat.le_refl _) (.cells #[.int .u8 fr, .int .u8 fg, .int .u8 fb, .int .u8 fa] 27))
    have hk_HD := HD.out.below ((Below.refl _ _).alloc (Nat.le_refl _) (.cells #[.int .u8 fr, .int .u8 fg, .int .u8 fb, .int .u8 fa] 27))
    have hk_HP := HP.out.below ((Below.refl _ _).alloc (Nat.le_refl _) (.cells #[.int .u8 fr, .int .u8 fg, .int .u8 fb, .int .u8 fa] 27))
    have hk_HQ := HQ.out.below ((Below.refl _ _).alloc (Nat.le_refl _) (.cells #[.int .u8 fr, .int .u8 fg, .int .u8 fb, .int .u8 fa] 27))
    obtain ⟨w16, hw_⟩ : ∃ w16 : World, w15.alloc (.cells #[.int .u8 fr, .int .u8 fg, .int .u8 fb, .int .u8 fa] 27) = w16 := ⟨_, rfl⟩
    rw [hw_] at hs_ hk_HC hk_HD hk_HP hk_HQ
    have HS := Lib.hid hs_
    have HC := Lib.hid hk_HC
    have HD := Lib.hid hk_HD
    have HP := Lib.hid hk_HP
    have HQ := Lib.hid hk_HQ
    rw [hw_]
    clear hw_ hs_ hk_HC hk_HD hk_HP hk_HQ
    have t0 := cell_of_block (k := 0) (HS.out.blockAt 8 rfl) rfl
    have g0 := cell_of_block (k := 0) (HS.out.blockAt 4 rfl) rfl
    gi_wp2_with fail
    clear t0 g0
    refine (callsIn_wide.2 (HDF.out pd _ HC.out HD.out)).mono ?_
    rintro e w17 ⟨vd, rfl, hrow, hb17⟩
    have hed := ownsRow_rows encP_len hrow
    have hdl := diffL_len HOK.out.1 D
    obtain ⟨DL, hDL⟩ : ∃ DL, diffL C D = DL := ⟨_, rfl⟩
    rw [hDL] at hed hdl hrow HDI
    obtain ⟨nd, hnd⟩ : ∃ nd, DL.length = nd := ⟨_, rfl⟩
    obtain ⟨da, dc, rfl⟩ : ∃ da dc, vd = .slice da nd dc := by
     rw [hnd] at hrow
     rcases hrow.2 with ⟨h1, h0⟩ | ⟨g', cp, cur, h1, _⟩
     · exact ⟨none, 0, by rw [h1, h0]⟩
     · exact ⟨_, cp, h1⟩
    rw [hnd] at hed hdl
    have HND := Lib.hid (And.intro hnd hdl)
    have HS := Lib.hid ((HS.out.below hb17).addRow hed)
    have HC := Lib.hid (HC.out.below hb17)
    have HD := Lib.hid (HD.out.below hb17)
    have HP := Lib.hid (HP.out.below hb17)
    have HQ := Lib.hid (HQ.out.below hb17)
    clear hrow hb17 hed hdl hDL hnd HDF
    gi_wp2_with fail
    have HK := Lib.hid (show Kp w17 w17 from Below.refl _ _)
    gi_loopw [115] (fun i wr => ∃ j : Nat, j ≤ nd ∧ i = .int .i64 (j : Int) ∧ Kp w17 wr) (fun i _ => nd - (intOf i).toNat)
    case atStart => exact ⟨0, by omega, rfl, HK.out⟩
    case round =>
     obtain ⟨j, hj, rfl, hb⟩ := hrel
     have HS := Lib.hid (HS.out.below hb)
     have HC := Lib.hid (HC.out.below hb)
     have HD := Lib.hid (HD.out.below hb)
     have HP := Lib.hid (HP.out.below hb)
     have HQ := Lib.hid (HQ.out.below hb)
     have HK := Lib.hid hb
     clear hb
     by_cases hlt : j < nd
     · obtain ⟨q, hq⟩ : ∃ q, DL[j]? = some q := ⟨_, List.getElem?_eq_getElem (by rw [HND.out.1]; exact hlt)⟩
       obtain ⟨bb, off, rfl, hbb, c0, c1⟩ := ptCells HND.out.1 (HS.out.elems 0 rfl) j q hq
       have HHA := Lib.hid (fun w' h => flHas_is (C := C) (p := ⟨px, py⟩) (t := tol) HNN.out.1 (by have := HNN.out.2.2.1; omega) (q := q) ((regHas_iff HOK.out.1).2 (HDI.out q (List.mem_of_getElem? hq))) sa sc w' h)
       have HJ := Lib.hid hlt
       have HE := Lib.hid (wrap_succ' (n := j) (by have := HND.out.2; omega))
       obtain ⟨qx, qy⟩ := q
       simp only at c0 c1
       simp only [PtT.val] at HHA
       clear hq hbb hj
       repeat ((fail_if_success (with_reducible refine stop_atI (id := 19) ?_)); (first | go_values | gi_guarded | gi_step | gi_upon | gi_back | (simp only [Int.not_lt, Int.not_le] at *; go_simp) | (go_values <;> (try go_simp)) | (go_ite <;> go_prune <;> (try go_simp)) | (split <;> (first | (rename_i hx; exact (hx _ rfl).elim) | go_prune))))
       clear c0 c1 hlt
       have hs_ := HS.out.alloc (.cells #[.int .i64 qx, .int .i64 qy] 33)
       have hk_HC := HC.out.below ((Below.refl _ _).alloc (Nat.le_refl _) (.cells #[.int .i64 qx, .int .i64 qy] 33))
       have hk_HD := HD.out.below ((Below.refl _ _).alloc (Nat.le_refl _) (.cells #[.int .i64 qx, .int .i64 qy] 33))
       have hk_HK := HK.out.below ((Below.refl _ _).alloc (Nat.le_refl _) (.cells #[.int .i64 qx, .int .i64 qy] 33))
       obtain ⟨w18, hw_⟩ : ∃ w18 : World, wr.alloc (.cells #[.int .i64 qx, .int .i64 qy] 33) = w18 := ⟨_, rfl⟩
       rw [hw_] at hs_ hk_HC hk_HD hk_HK
       have HS := Lib.hid hs_
       have HC := Lib.hid hk_HC
       have HD := Lib.hid hk_HD
       have HK := Lib.hid hk_HK
       rw [hw_]
       clear hw_ hs_ hk_HC hk_HD hk_HK
       have s0 := cell_of_block (k := 0) (HS.out.blockAt 7 rfl) rfl
       have q0 := cell_of_block (k := 0) (HS.out.blockAt 0 rfl) rfl
       have q1 := cell_of_block (k := 1) (HS.out.blockAt 0 rfl) rfl
       gi_wp2_with fail
       clear s0 q0 q1
       refine (callsIn_wide.2 (HHA.out _ (HS.out.elems 8 rfl))).mono ?_
       rintro e w19 ⟨rfl, hb_⟩
       have HS := Lib.hid (HS.out.below hb_)
       have HC := Lib.hid (HC.out.below hb_)
       have HD := Lib.hid (HD.out.below hb_)
       have HK := Lib.hid (HK.out.below hb_)
       clear hb_
       gi_wp2_with fail
       go_roundw
       case rel => exact ⟨j + 1, HJ.out, congrArg (Value.int .i64) HE.out, HK.out⟩
       case measure => rw [HE.out]; have := HJ.out; simp only [intOf]; omega
     · have s0 := cell_of_block (k := 0) (HS.out.blockAt 6 rfl) rfl
       clear hj
       gi_wp2_with fail
       clear s0 hlt
       refine (callsIn_wide.2 (all_any sa ns sc wr)).mono ?_
       rintro e w' ⟨rfl, rfl⟩
       have hs_ := HS.out.alloc (.cells #[.slice sa ns sc] 34)
       have hk_HC := HC.out.below ((Below.refl _ _).alloc (Nat.le_refl _) (.cells #[.slice sa ns sc] 34))
       have hk_HD := HD.out.below ((Below.refl _ _).alloc (Nat.le_refl _) (.cells #[.slice sa ns sc] 34))
       have hk_HP := HP.out.below ((Below.refl _ _).alloc (Nat.le_refl _) (.cells #[.slice sa ns sc] 34))
       have hk_HQ := HQ.out.below ((Below.refl _ _).alloc (Nat.le_refl _) (.cells #[.slice sa ns sc] 34))
       obtain ⟨w24, hw_⟩ : ∃ w24 : World, wr.alloc (.cells #[.slice sa ns sc] 34) = w24 := ⟨_, rfl⟩
       rw [hw_] at hs_ hk_HC hk_HD hk_HP hk_HQ
       have HS := Lib.hid hs_
       have HC := Lib.hid hk_HC
       have HD := Lib.hid hk_HD
       have HP := Lib.hid hk_HP
       have HQ := Lib.hid hk_HQ
       rw [hw_]
       clear hw_ hs_ hk_HC hk_HD hk_HP hk_HQ
       gi_wp2_with fail
       have hz24 : wr.heap.size < w24.heap.size := HS.out.lt 0 rfl
       have hbs : ∀ c ∈ wr.heap.size :: aBlk sa, c < w24.heap.size := by
        intro c hc
        rcases List.mem_cons.1 hc with rfl | hc
        · exact hz24
        · exact aBlk_lt (HS.out.elems 8 rfl) c hc
       obtain ⟨A, hA⟩ : ∃ A, allL (regL (placesL C ⟨px, py⟩ tol)) = A := ⟨_, rfl⟩
       have hAin : ∀ i (h : i < A.length), InReg C ⟨px, py⟩ tol A[i] := fun i h => (region_has C ⟨px, py⟩ tol A[i]).1 (mem_ptsL.1 (by rw [← allL_right (region_right HOK.out.1 ⟨px, py⟩ tol), hA]; exact List.getElem_mem _))
       have HAI := Lib.hid hAin
       have hit := all_iter (fun _ _ => False) w24 (ownSt_none _) (fun _ h => h.elim) wr.heap.size (wr.heap.size :: aBlk sa) sa ns sc _ HNN.out.1 (by have := HNN.out.2.2.1; omega) A hA hbs (by simp) (fun b off e => List.mem_cons_of_mem _ (aBlk_mem e)) (cell_of_block (HS.out.blockAt 0 rfl) rfl) (HS.out.elems 8 rfl)
       have HBS := Lib.hid hbs
       clear hAin hA hz24 HK
       apply with_actIn
       intro a0 ha0
       refine range_iterO hit (by omega) (ownSt_none _) (by rw [ha0]; rfl) (enters_of Tryz.func35 (by kernel_rfl) rfl) hbs (fun _ => rfl) (fun x => [(126, (A[x.1]).val)]) (fun _ => by simp)
        (fun _ W => St w24 [] W) (fun _ _ _ => False) (ownFrom_St (w0 := w24) (fun (_ : List (Fin A.length)) => []) (Nat.le_refl _) (by simp)) (fun _ => ownFrom_pure _ _) (St.start w24)
        (fun x a' W => ∃ p', a' = loopAct a0 [(126, (A[x.1]).val), (24, .pointer (some ⟨p', 0, none⟩))] ∧ w24.heap.size ≤ p' ∧ W.heap[p']? = some (.cells #[.int .i64 (A[x.1]).x, .int .i64 (A[x.1]).y] 33 (0, 0))) ?hAx ?assign ?body ?done ?stop
       case hAx =>
        rintro x a' s X Y row ⟨p', e, hge, hp⟩ hg hr
        exact ⟨p', e, hge, (grownBy_keeps_cells hg (fun r e => (hr r e).2) hp rfl).trans hp⟩
       case assign =>
        rintro ly pre x W K hI hK
        have HK := Lib.hid hK
        have HI := Lib.hid hI
        clear hK hI
        rw [ha0] at HK ⊢
        unfold loopAct at HK ⊢
        simp only [PtT.val, List.foldl, List.setIfInBounds_toArray, List.set_cons_succ, List.set_cons_zero] at HK ⊢
        gi_wp2
        have hb := (Below.refl W.heap.size W).alloc (Nat.le_refl _) (.cells #[.int .i64 (A[x.1]).x, .int .i64 (A[x.1]).y] 33)
        exact HK.out _ _ (keepsFrom_below hb) (KO.of_below (ownSt_none _) hb HI.out.low.size (fun c hc => Nat.lt_of_lt_of_le (HBS.out c hc) HI.out.low.size)) (HI.out.below hb) ⟨W.heap.size, rfl, HI.out.low.size, World.alloc_heap_new W _⟩
       case body =>
        rintro ly pre x a' W hI ⟨p', rfl, hpp, hp⟩ hlen
        rw [ha0]
        unfold loopAct
        have hin := HAI.out x.1 x.2
        obtain ⟨q, hq⟩ : ∃ q, A[x.1] = q := ⟨_, rfl⟩
        rw [hq] at hp hin ⊢
        have HIN := Lib.hid hin
        have hdc := HDC.out q hin
        have hqb : (0 ≤ q.x ∧ q.x < 32) ∧ 0 ≤ q.y ∧ q.y < 32 := by
         have h1 := onB_iff.1 (show onB (8 * (C.wide : Int)) (8 * (C.high : Int)) q = true from hin.1)
         have h2 := HOK.out.1.wide
         have h3 := HOK.out.1.high
         omega
        have HS := Lib.hid (HS.out.below hI.low)
        have HC := Lib.hid (HC.out.below hI.low)
        have HD := Lib.hid (HD.out.below hI.low)
        have HQ := Lib.hid (HQ.out.below hI.low)
        have HI := Lib.hid hI
        have HPT := Lib.hid (BlkAt.mk hp)
        have HK := Lib.hid (show Kp W W from Below.refl _ _)
        have HDA := Lib.hid (at_is (C := D) (c := pd) hdc.1 hdc.2 W HD.out)
        have HQB := Lib.hid hqb
        obtain ⟨qx, qy⟩ := q
        simp only at HDA HQB
        simp only [PtT.val, List.foldl, List.setIfInBounds_toArray, List.set_cons_succ, List.set_cons_zero]
        clear hI hin hdc hqb hq hp hpp hlen
        have t0 := cell_of_block (k := 0) (HS.out.blockAt 6 rfl) rfl
        have q0 := cell_of_block (k := 0) HPT.out.at_ rfl
        have q1 := cell_of_block (k := 1) HPT.out.at_ rfl
        gi_wp2_with fail
        clear t0 q0 q1
        refine ((callsIn_wide.2 HDA.out).inRound ly).mono ?_
        rintro e W2 ⟨rfl, hb_⟩
        have HS := Lib.hid (HS.out.below hb_)
        have HC := Lib.hid (HC.out.below hb_)
        have HQ := Lib.hid (HQ.out.below hb_)
        have HPT := Lib.hid (HPT.out.below hb_)
        have HK := Lib.hid (HK.out.below hb_)
        clear hb_ HD HDA
        repeat ((fail_if_success (with_reducible refine stop_atI (id := 25) ?_)); (first | go_values | gi_guarded | gi_step | gi_upon | gi_back | (simp only [Int.not_lt, Int.not_le] at *; go_simp) | (go_values <;> (try go_simp)) | (go_ite <;> go_prune <;> (try go_simp)) | (split <;> (first | (rename_i hx; exact (hx _ rfl).elim) | go_prune))))
        have hs_ := HS.out.alloc (.cells #[.int .u8 cr, .int .u8 cg, .int .u8 cb, .int .u8 ca] 27)
        have hk_HC := HC.out.below ((Below.refl _ _).alloc (Nat.le_refl _) (.cells #[.int .u8 cr, .int .u8 cg, .int .u8 cb, .int .u8 ca] 27))
        have hk_HQ := HQ.out.below ((Below.refl _ _).alloc (Nat.le_refl _) (.cells #[.int .u8 cr, .int .u8 cg, .int .u8 cb, .int .u8 ca] 27))
        have hk_HPT := HPT.out.below ((Below.refl _ _).alloc (Nat.le_refl _) (.cells #[.int .u8 cr, .int .u8 cg, .int .u8 cb, .int .u8 ca] 27))
        have hk_HK := HK.out.below ((Below.refl _ _).alloc (Nat.le_refl _) (.cells #[.int .u8 cr, .int .u8 cg, .int .u8 cb, .int .u8 ca] 27))
        obtain ⟨W3, hw_⟩ : ∃ W3 : World, W2.alloc (.cells #[.int .u8 cr, .int .u8 cg, .int .u8 cb, .int .u8 ca] 27) = W3 := ⟨_, rfl⟩
        rw [hw_] at hs_ hk_HC hk_HQ hk_HPT hk_HK
        have HS := Lib.hid hs_
        have HC := Lib.hid hk_HC
        have HQ := Lib.hid hk_HQ
        have HPT := Lib.hid hk_HPT
        have HK := Lib.hid hk_HK
        rw [hw_]
        clear hw_ hs_ hk_HC hk_HQ hk_HPT hk_HK
        have d0 := cell_of_block (k := 0) (HS.out.blockAt 0 rfl) rfl
        have d1 := cell_of_block (k := 1) (HS.out.blockAt 0 rfl) rfl
        have d2 := cell_of_block (k := 2) (HS.out.blockAt 0 rfl) rfl
        have d3 := cell_of_block (k := 3) (HS.out.blockAt 0 rfl) rfl
        have e0 := cell_of_block (k := 0) (HS.out.blockAt 13 rfl) rfl
        have e1 := cell_of_block (k := 1) (HS.out.blockAt 13 rfl) rfl
        have e2 := cell_of_block (k := 2) (HS.out.blockAt 13 rfl) rfl
        have e3 := cell_of_block (k := 3) (HS.out.blockAt 13 rfl) rfl
        repeat ((fail_if_success (with_reducible refine stop_atI (id := 27) ?_)); (first | go_values | gi_guarded | gi_step | gi_upon | gi_back | (simp only [Int.not_lt, Int.not_le] at *; go_simp) | (go_values <;> (try go_simp)) | (go_ite <;> go_prune <;> (try go_simp)) | (split <;> (first | (rename_i hx; exact (hx _ rfl).elim) | go_prune))))
        clear d0 d1 d2 d3 e0 e1 e2 e3
        have q0 := cell_of_block (k := 0) HPT.out.at_ rfl
        have q1 := cell_of_block (k := 1) HPT.out.at_ rfl
        have hx1 : wrap64 (qx - 1) = qx - 1 := by have := HQB.out; unfold wrap64; omega
        have hx2 : wrap64 (qx + 1) = qx + 1 := by have := HQB.out; unfold wrap64; omega
        have hy1 : wrap64 (qy - 1) = qy - 1 := by have := HQB.out; unfold wrap64; omega
        have hy2 : wrap64 (qy + 1) = qy + 1 := by have := HQB.out; unfold wrap64; omega
        gi_wp2_with fail
        clear q0 q1
        clear hx1 hx2 hy1 hy2
        have HR := Lib.hid (show Kp W3 W3 from Below.refl _ _)
        gi_loopw [164] (fun i wx => ∃ j : Nat, j ≤ 4 ∧ i = .int .i64 (j : Int) ∧ Kp W3 wx) (fun i _ => 4 - (intOf i).toNat)
        case atStart => exact ⟨0, by omega, rfl, HR.out⟩
        case round =>
         obtain ⟨j, hj, rfl, hb⟩ := hrel
         have HS := Lib.hid (HS.out.below hb)
         have HC := Lib.hid (HC.out.below hb)
         have HQ := Lib.hid (HQ.out.below hb)
         have HR := Lib.hid hb
         clear hb
         by_cases hlt : j < 4
         · obtain ⟨nx, ny, hix, hnb⟩ := four_at qx qy j hlt
           have HJ := Lib.hid hlt
           have HE := Lib.hid (wrap_succ' (n := j) (by omega))
           have HAB := Lib.hid (fun w' h => at_both C p ⟨nx, ny⟩ w' h)
           obtain ⟨on, hon⟩ : ∃ on, onC C ⟨nx, ny⟩ = on := ⟨_, rfl⟩
           obtain ⟨wc, hwc⟩ : ∃ wc, (bif on then colP C ⟨nx, ny⟩ else zeroC) = wc := ⟨_, rfl⟩
           obtain ⟨hv, hhv⟩ : ∃ hv, regHas C ⟨px, py⟩ tol ⟨nx, ny⟩ = hv := ⟨_, rfl⟩
           rw [hon, hwc] at HAB
           have HNE := Lib.hid (fun (h1 : on = true) => show okC wc ∧ (hv = false → nearB ⟨fr, fg, fb, fa⟩ wc tol = false) by
            rw [h1] at hwc hon
            rw [← hwc]
            exact ⟨colQ_ok HOK.out.1 hon, fun h2 => HNO.out ⟨qx, qy⟩ ⟨nx, ny⟩ HIN.out hnb hon (hhv.trans h2)⟩)
           have HHA := Lib.hid (fun w' h => flHas_is (C := C) (p := ⟨px, py⟩) (t := tol) HNN.out.1 (by have := HNN.out.2.2.1; omega) (q := ⟨nx, ny⟩) hhv sa sc w' h)
           obtain ⟨vr, vg, vb, va⟩ := wc
           unfold ColT.val at HAB
           simp only [PtT.val] at HAB HHA
           clear hnb hon hwc hhv hj
           repeat ((fail_if_success (with_reducible refine stop_atI (id := 30) ?_)); (first | go_values | gi_guarded | gi_step | gi_upon | gi_back | (simp only [Int.not_lt, Int.not_le] at *; go_simp) | (go_values <;> (try go_simp)) | (go_ite <;> go_prune <;> (try go_simp)) | (split <;> (first | (rename_i hx; exact (hx _ rfl).elim) | go_prune))))
           clear hix hlt
           have hs_ := HS.out.alloc (.cells #[.int .i64 nx, .int .i64 ny] 33)
           have hk_HC := HC.out.below ((Below.refl _ _).alloc (Nat.le_refl _) (.cells #[.int .i64 nx, .int .i64 ny] 33))
           have hk_HQ := HQ.out.below ((Below.refl _ _).alloc (Nat.le_refl _) (.cells #[.int .i64 nx, .int .i64 ny] 33))
           have hk_HR := HR.out.below ((Below.refl _ _).alloc (Nat.le_refl _) (.cells #[.int .i64 nx, .int .i64 ny] 33))
           obtain ⟨w30, hw_⟩ : ∃ w30 : World, wr.alloc (.cells #[.int .i64 nx, .int .i64 ny] 33) = w30 := ⟨_, rfl⟩
           rw [hw_] at hs_ hk_HC hk_HQ hk_HR
           have HS := Lib.hid hs_
           have HC := Lib.hid hk_HC
           have HQ := Lib.hid hk_HQ
           have HR := Lib.hid hk_HR
           rw [hw_]
           clear hw_ hs_ hk_HC hk_HQ hk_HR
           have t0 := cell_of_block (k := 0) (HS.out.blockAt 12 rfl) rfl
           have q0 := cell_of_block (k := 0) (HS.out.blockAt 0 rfl) rfl
           have q1 := cell_of_block (k := 1) (HS.out.blockAt 0 rfl) rfl
           gi_wp2_with fail
           clear t0 q0 q1
           refine ((callsIn_wide.2 (HAB.out _ HC.out)).inRound ly).mono ?_
           rintro e w31 ⟨rfl, hb_⟩
           have HS := Lib.hid (HS.out.below hb_)
           have HC := Lib.hid (HC.out.below hb_)
           have HQ := Lib.hid (HQ.out.below hb_)
           have HR := Lib.hid (HR.out.below hb_)
           clear hb_ HAB
           repeat ((fail_if_success (with_reducible refine stop_atI (id := 31) ?_)); (first | go_values | gi_guarded | gi_step | gi_upon | gi_back | (simp only [Int.not_lt, Int.not_le] at *; go_simp) | (go_values <;> (try go_simp)) | (go_ite <;> go_prune <;> (try go_simp)) | (split <;> (first | (rename_i hx; exact (hx _ rfl).elim) | go_prune))))
           have hs_ := HS.out.alloc (.cells #[.int .u8 vr, .int .u8 vg, .int .u8 vb, .int .u8 va] 27)
           have hk_HC := HC.out.below ((Below.refl _ _).alloc (Nat.le_refl _) (.cells #[.int .u8 vr, .int .u8 vg, .int .u8 vb, .int .u8 va] 27))
           have hk_HQ := HQ.out.below ((Below.refl _ _).alloc (Nat.le_refl _) (.cells #[.int .u8 vr, .int .u8 vg, .int .u8 vb, .int .u8 va] 27))
           have hk_HR := HR.out.below ((Below.refl _ _).alloc (Nat.le_refl _) (.cells #[.int .u8 vr, .int .u8 vg, .int .u8 vb, .int .u8 va] 27))
           obtain ⟨w32, hw_⟩ : ∃ w32 : World, w31.alloc (.cells #[.int .u8 vr, .int .u8 vg, .int .u8 vb, .int .u8 va] 27) = w32 := ⟨_, rfl⟩
           rw [hw_] at hs_ hk_HC hk_HQ hk_HR
           have HS := Lib.hid hs_
           have HC := Lib.hid hk_HC
           have HQ := Lib.hid hk_HQ
           have HR := Lib.hid hk_HR
           rw [hw_]
           clear hw_ hs_ hk_HC hk_HQ hk_HR
           cases on with
           | false =>
            gi_wp2_with fail
            go_roundw
            case rel => exact ⟨j + 1, HJ.out, by first | exact congrArg (Value.int .i64) HE.out | exact congrArg (Value.int .i64) (Int.natCast_succ j).symm, HR.out⟩
            case measure => (try rw [HE.out]); have := HJ.out; simp only [intOf]; omega
           | true =>
            have s0 := cell_of_block (k := 0) (HS.out.blockAt 10 rfl) rfl
            have q0 := cell_of_block (k := 0) (HS.out.blockAt 1 rfl) rfl
            have q1 := cell_of_block (k := 1) (HS.out.blockAt 1 rfl) rfl
            gi_wp2_with fail
            clear s0 q0 q1
            refine ((callsIn_wide.2 (HHA.out _ (HS.out.elems 11 rfl))).inRound ly).mono ?_
            rintro e w33 ⟨rfl, hb_⟩
            have HS := Lib.hid (HS.out.below hb_)
            have HC := Lib.hid (HC.out.below hb_)
            have HQ := Lib.hid (HQ.out.below hb_)
            have HR := Lib.hid (HR.out.below hb_)
            clear hb_ HHA
            cases hv with
            | true =>
             gi_wp2_with fail
             go_roundw
             case rel => exact ⟨j + 1, HJ.out, by first | exact congrArg (Value.int .i64) HE.out | exact congrArg (Value.int .i64) (Int.natCast_succ j).symm, HR.out⟩
             case measure => (try rw [HE.out]); have := HJ.out; simp only [intOf]; omega
            | false =>
             have hnr := (near_any ⟨fr, fg, fb, fa⟩ ⟨vr, vg, vb, va⟩ HFO.out (HNE.out (by first | rfl | trivial)).1 tol w33)
             rw [(HNE.out (by first | rfl | trivial)).2 (by first | rfl | trivial)] at hnr
             have HNR := Lib.hid hnr
             unfold ColT.val at HNR
             simp only at HNR
             clear hnr
             have f0 := cell_of_block (k := 0) (HS.out.blockAt 5 rfl) rfl
             have f1 := cell_of_block (k := 1) (HS.out.blockAt 5 rfl) rfl
             have f2 := cell_of_block (k := 2) (HS.out.blockAt 5 rfl) rfl
             have f3 := cell_of_block (k := 3) (HS.out.blockAt 5 rfl) rfl
             have v0 := cell_of_block (k := 0) (HS.out.blockAt 0 rfl) rfl
             have v1 := cell_of_block (k := 1) (HS.out.blockAt 0 rfl) rfl
             have v2 := cell_of_block (k := 2) (HS.out.blockAt 0 rfl) rfl
             have v3 := cell_of_block (k := 3) (HS.out.blockAt 0 rfl) rfl
             have r0 := cell_of_block (k := 0) HQ.out.at_ rfl
             gi_wp2_with fail
             clear f0 f1 f2 f3 v0 v1 v2 v3 r0
             refine ((callsIn_wide.2 HNR.out).inRound ly).mono ?_
             rintro e w34 ⟨rfl, hb_⟩
             have HR := Lib.hid (HR.out.below hb_)
             clear hb_ HNR
             gi_wp2_with fail
             go_roundw
             case rel => exact ⟨j + 1, HJ.out, by first | exact congrArg (Value.int .i64) HE.out | exact congrArg (Value.int .i64) (Int.natCast_succ j).symm, HR.out⟩
             case measure => (try rw [HE.out]); have := HJ.out; simp only [intOf]; omega
         · have HALL := Lib.hid (show Below W.heap.size W wr from HK.out.below HR.out)
           clear hj
           gi_wp2_with fail
           exact ⟨keepsFrom_below HALL.out, KO.of_below (ownSt_none _) HALL.out HI.out.low.size (fun c hc => Nat.lt_of_lt_of_le (HBS.out c hc) HI.out.low.size), HI.out.below HALL.out⟩
       case done =>
        rintro D' W hD hI hK
        rw [ha0]
        dsimp only
        have hl11 := HS.out.lt 11 rfl
        have HS := Lib.hid (HS.out.below hI.low)
        have HK := Lib.hid hK
        have HDD := Lib.hid (And.intro hD hl11)
        clear hI hK hD hl11 hbs hit
        have cF := cell_of_block (k := 0) (HS.out.blockAt 11 rfl) rfl
        have fF := free_of_block (HS.out.blockAt 11 rfl) 0
        gi_wp2
        have hne : D' ≠ w.heap.size + 1 + 1 + 1 := by have := HDD.out; omega
        have hlow := HS.out.low
        have hbF := heap_set_same (HS.out.blockAt 11 rfl) (.bool true) (k := 0)
        have hkD := (Below.heap_setCell W ⟨w.heap.size + 1 + 1 + 1, 0, none⟩ (.bool true) D' hne).trans HK.out
        have hcF := cell_of_block (k := 0) (v := .bool true) (((grownBy_putObj' (W.setCell ⟨w.heap.size + 1 + 1 + 1, 0, none⟩ (.bool true)) D' (.deferred none)).block (w.heap.size + 1 + 1 + 1) (block_lt hbF) (fun e => hne (by cases e; rfl))).trans hbF) rfl
        refine ret_marked (v := .bool true) rfl hkD ?_ ⟨rfl, below_putObj (hlow.setCell (p := ⟨w.heap.size + 1 + 1 + 1, 0, none⟩) (by show w.heap.size ≤ w.heap.size + 1 + 1 + 1; omega) _) hkD (by have := HDD.out; omega) _⟩
        simp [results, Tryz.results3, go_sem, hcF]
       case stop =>
        intro D c pre W _ _ h
        exact h.elim
end Go.Proofs.YtodpkgbpcpfamaaGreat
