/- VectorIds: the walk. -/
import Derived.Test.YtppaheekpmgifaaIdsA
import Derived.Test.YtppaheekpmgifaaVecW
namespace Go.Proofs.Ytppaheekpmgifaa
set_option linter.unusedSimpArgs false
set_option linter.unusedVariables false
open Go.RowKit Go.Shelf

theorem hasB_is {v : Nat → Int} {i : IdT} (h : bothOk v i = true) : hasB v i = decide (i.seq ≤ v i.site.toNat) := by unfold hasB; rw [h]; rfl
theorem nextB_is {v : Nat → Int} {i : IdT} (h : bothOk v i = true) : nextB v i = (i.seq == v i.site.toNat + 1) := by unfold nextB; rw [h]; rfl

theorem eql_vec_self (x : Nat → Int) (w : World) : Sem.run Try.prog (binOp .eql 24 (.agg (lit9 x)) (.agg (lit9 x))) w = .ok (.bool true) w := by
  obtain ⟨i0, hi, _, hz1, _⟩ := info_parts info22
  have h := run_eql_array w 24 22 9 .u64 i0 Try.underlying24 Try.underlying22 hi hz1 _ _ x x (fun i h => lit9_get x i h) (fun i h => lit9_get x i h)
  rw [show ((List.range 9).all fun k => x k == x k) = true from by simp] at h
  exact h
set_option maxRecDepth 100000 in
set_option maxHeartbeats 4000000 in
theorem ids_F (v : Nat → Int) (hok : vecOk v = false) (hv0 : ∀ k, 0 ≤ v k) (l : List IdT) (a : Option Addr) (cap : Nat) (hcap : l.length ≤ cap) (hmax : cap ≤ maxLen) (w : World) (he : Elems w (.slice a l.length cap) l.length 3 (rowC encId l)) :
    Calls Try.prog 6 #[vecV v, .slice a l.length cap] w (Gives (.bool true) w) := by
  obtain ⟨n, hn⟩ : ∃ n, l.length = n := ⟨_, rfl⟩
  rw [hn] at he hcap ⊢
  obtain ⟨m, hm⟩ : ∃ m, min n 12 = m := ⟨_, rfl⟩
  have hm6 : m ≤ 12 := by omega
  have hmn : m ≤ n := by omega
  have Hn := Lib.hid hn
  have Hm := Lib.hid hm
  have Hv0 := Lib.hid hv0
  have Hok := Lib.hid hok
  unfold maxLen at hmax
  have HS := Lib.hid (((St.start w).addRow he).alloc (.cells (lit9 v) 24))
  clear hn hm hv0 he hok
  go_enter Try.func6, Try.ntmps6
  simp only [vecV, lit9]
  go_wp2_with fail
  refine (wakes_any _).mono ?_
  rintro e w1 ⟨rfl, hb_⟩
  have HS := Lib.hid (HS.out.below hb_)
  clear hb_
  repeat ((fail_if_success (with_reducible refine stop_at (id := 3) ?_)); (first | go_values | go_skip | go_guarded | go_step | go_upon | go_back | (simp only [Int.not_lt, Int.not_le] at *; go_simp) | (go_values <;> (try go_simp)) | (go_ite <;> go_prune <;> (try go_simp)) | (split <;> (first | (rename_i hx; exact (hx _ rfl).elim) | go_prune))))
  refine (wpIn_wide (n := 0)).1 ?_
  apply wp_region_textv 5 (Rl := [(eqv _), (eqv _), (eqv _), (fun v_ _ => v_ = (.int .i64 (m : Int) : Value)), (eqv _)]) (C := (fun x y => Below x.heap.size x y))
  case hk => rfl
  case hCr => exact (fun _ => Below.refl _ _)
  case hCt => intro _ _ _; exact (fun h k => grows_trans h k)
  case hst => exact ⟨fun _ _ _ _ h => h, fun _ _ _ _ h => h, fun _ _ _ _ h => h, fun _ _ _ _ h => h, fun _ _ _ _ h => h, trivial⟩
  case hfo => kernel_rfl
  case hsteps =>
    refine ⟨?_, ?_, ?_, ?_, ?_, trivial⟩
    · -- 0
      intro a' w' hA hC hD
      have s1 : a'.tmps[1]? = some _ := (hA.at 1 (by kernel_rfl)).trans rfl
      clear hA hD
      refine stepOk_plain rfl ?_
      intro K hK
      gi_wp2
      exact hK _ _ rfl ((fun _ => Below.refl _ _) _)
    · -- 1
      intro a' w' hA hC hD
      have s1 : a'.tmps[1]? = some _ := (hA.at 1 (by kernel_rfl)).trans rfl
      clear hA hD
      refine stepOk_plain rfl ?_
      intro K hK
      gi_wp2
      exact hK _ _ rfl ((fun _ => Below.refl _ _) _)
    · -- 2
      intro a' w' hA hC hD
      obtain ⟨u26, s26, r26⟩ := hD ⟨1, .data⟩ (by simp) rfl _ rfl
      replace r26 : u26 = _ := r26
      subst r26
      clear hA hD
      refine stepOk_plain rfl ?_
      intro K hK
      gi_wp2
      exact hK _ _ rfl ((fun _ => Below.refl _ _) _)
    · -- 3
      intro a' w' hA hC hD
      obtain ⟨u27, s27, r27⟩ := hD ⟨2, .data⟩ (by simp) rfl _ rfl
      replace r27 : u27 = _ := r27
      subst r27
      clear hA hD
      refine stepOk_plain rfl ?_
      intro K hK
      have h := hK (.int .i64 (m : Int)) w' rfl (Below.refl _ _); have hm := Hm.out; gi_wp2; rw [show (m : Int) = min (n : Int) 12 from by omega] at h; exact h
    · -- 4
      intro a' w' hA hC hD
      obtain ⟨u25, s25, r25⟩ := hD ⟨0, .data⟩ (by simp) rfl _ rfl
      replace r25 : u25 = _ := r25
      subst r25
      obtain ⟨u28, s28, r28⟩ := hD ⟨3, .data⟩ (by simp) rfl _ rfl
      replace r28 : u28 = .int .i64 (m : Int) := r28
      subst r28
      clear hA hD
      refine stepOk_plain rfl ?_
      intro K hK
      gi_wp2
      exact hK _ _ rfl ((fun _ => Below.refl _ _) _)
  case hend =>
    intro w2 hC
    simp only [EndFrom, eqv, forall_eq, Act.put, List.length_cons, List.length_nil, List.drop_succ_cons, List.drop_zero, Nat.reduceAdd, List.setIfInBounds_toArray, List.set_cons_succ, List.set_cons_zero]
    have HS := Lib.hid (HS.out.below hC)
    have hel := (HS.out.elems 1 rfl).take encId_len Hn.out hmn
    have hLl : (l.take m).length = m := by rw [List.length_take, Hn.out]; omega
    obtain ⟨L, hL⟩ : ∃ L, l.take m = L := ⟨_, rfl⟩
    rw [hL] at hel hLl
    have HS := Lib.hid (HS.out.addRow hel)
    have Hel := Lib.hid hel
    have HLl := Lib.hid hLl
    clear hL hC hel hLl
    gi_wp2_with fail
    refine (callsIn_wide.2 (cloneId_any _ L _ (by rw [HLl.out]; exact Hel.out) (by rw [HLl.out]; omega))).mono ?_
    rintro e w3 ⟨sv, rfl, hrow, _, hb⟩
    have HS := Lib.hid ((HS.out.below hb).addRow (ownsRow_rows encId_len hrow))
    clear hb hrow Hel
    obtain ⟨sa, sc, rfl⟩ : ∃ sa sc, sv = .slice sa L.length sc := by
      obtain ⟨sa, sc, e, _⟩ := (HS.out.elems 0 rfl).shape
      exact ⟨sa, sc, e⟩
    rw [HLl.out] at HS ⊢
    obtain ⟨b0, b1, b2, b3, b4, b5, b6, b7, b8⟩ := vec9 (HS.out.blockAt 2 rfl)
    gi_wp2_with fail
    go_wp2_with fail
    refine (right_any v _).mono ?_
    rintro e w4 ⟨rfl, hb_⟩
    have HS := Lib.hid (HS.out.below hb_)
    clear hb_
    clear b0 b1 b2 b3 b4 b5 b6 b7 b8
    rw [Hok.out]
    obtain ⟨b0, b1, b2, b3, b4, b5, b6, b7, b8⟩ := vec9 (HS.out.blockAt 2 rfl)
    go_wp2_with fail
    refine (vecCheck_any v _).mono ?_
    rintro e w5 ⟨rfl, hb_⟩
    have HS := Lib.hid (HS.out.below hb_)
    clear hb_
    clear b0 b1 b2 b3 b4 b5 b6 b7 b8
    simp only [errOf, Hok.out]
    go_wp2_with fail
    go_loopw [49] (fun i wr => ∃ k : Nat, k ≤ m ∧ i = .int .i64 k ∧ St w [.row (.slice sa m sc) m 3 (rowC encId L) w3.heap.size, .row (.slice a m cap) m 3 (rowC encId L) w2.heap.size, .blk w.heap.size (.cells (lit9 v) 24), .row (.slice a n cap) n 3 (rowC encId l) w.heap.size] wr) (fun i _ => m - (intOf i).toNat)
    case atStart => exact ⟨0, Nat.zero_le _, rfl, HS.out⟩
    case round =>
      obtain ⟨k, hk, rfl, hs⟩ := hrel
      clear HS
      have HS := Lib.hid hs
      clear hs
      by_cases hkm : k < m
      · obtain ⟨bl, off, rfl, hlt, hc⟩ : ∃ bl off, sa = some ⟨bl, off, none⟩ ∧ bl < wr.heap.size ∧ ∀ j, j < m * 3 → wr.cell? ⟨bl, off + j, none⟩ = some (idCells (idAt L) j) := by
          rcases Elems.ids HLl.out (HS.out.elems 0 rfl) with ⟨e, h0⟩ | ⟨bl, off, c, e, hlt, hc⟩
          · omega
          · cases e; exact ⟨bl, off, rfl, hlt, hc⟩
        obtain ⟨e0, e1, e2⟩ := idElem hc hkm
        obtain ⟨x, hx⟩ : ∃ x, idAt L k = x := ⟨_, rfl⟩
        rw [hx] at e0 e1 e2
        clear hx hc hlt
        obtain ⟨wo, hwo⟩ : ∃ wo : World, wo = wr := ⟨_, rfl⟩
        rw [← hwo] at HS e0 e1 e2 ⊢
        clear hwo
        obtain ⟨t, s, q⟩ := x
        dsimp only at e0 e1 e2
        repeat ((fail_if_success (with_reducible refine stop_at (id := 11) ?_)); (first | go_values | go_skip | go_guarded | go_step | go_upon | go_back | (simp only [Int.not_lt, Int.not_le] at *; go_simp) | (go_values <;> (try go_simp)) | (go_ite <;> go_prune <;> (try go_simp)) | (split <;> (first | (rename_i hx; exact (hx _ rfl).elim) | go_prune))))
        clear e0 e1 e2
        obtain ⟨wp, hw_⟩ : ∃ wp : World, wo.alloc (.cells #[.int .u64 t, .int .i64 s, .int .u64 q] 38) = wp := ⟨_, rfl⟩
        have hs_ := HS.out.alloc (.cells #[.int .u64 t, .int .i64 s, .int .u64 q] 38)
        rw [hw_] at hs_
        have HS := Lib.hid hs_
        rw [hw_]
        clear hw_ hs_
        have hbo : bothOk v ⟨t, s, q⟩ = false := by unfold bothOk; rw [Hok.out]; rfl
        have Hhas := Lib.hid (show hasB v ⟨t, s, q⟩ = false by unfold hasB; rw [hbo]; rfl)
        have Hnx := Lib.hid (show nextB v ⟨t, s, q⟩ = false by unfold nextB; rw [hbo]; rfl)
        clear hbo
        obtain ⟨wq, hwq⟩ : ∃ wq, wp = wq := ⟨_, rfl⟩
        rw [hwq] at HS ⊢
        clear hwq
        go_wp2_with fail
        refine (wpIn_wide (n := 0)).1 ?_
        apply wp_region_vals 31 (Rl := [(eqv _), (eqv _), (eqv _), (eqv _), (eqv _), (fun v_ _ => v_ = (undef : Value)), (fun v_ _ => v_ = (undef : Value)), (fun v_ _ => v_ = (undef : Value)), (fun v_ _ => v_ = (undef : Value)), (fun v_ _ => v_ = (undef : Value)), (fun v_ _ => v_ = (undef : Value)), (fun v_ _ => v_ = (undef : Value)), (eqv _), (eqv _), (eqv _), (eqv _), (eqv _), (eqv _), (eqv _), (eqv _), (fun v_ _ => v_ = (undef : Value)), (fun v_ _ => v_ = (undef : Value)), (fun v_ _ => v_ = (undef : Value)), (fun v_ _ => v_ = (undef : Value)), (fun v_ _ => v_ = (undef : Value)), (fun v_ _ => v_ = (undef : Value)), (fun v_ _ => v_ = (undef : Value)), (fun v_ _ => v_ = (undef : Value)), (eqv _), (eqv _), (eqv _)]) (C := (fun x y => Below x.heap.size x y))
        case hm => kernel_rfl
        case hk => rfl
        case hCr => exact (fun _ => Below.refl _ _)
        case hCt => intro _ _ _; exact (fun h k => grows_trans h k)
        case hst => exact ⟨fun _ _ _ _ h => h, fun _ _ _ _ h => h, fun _ _ _ _ h => h, fun _ _ _ _ h => h, fun _ _ _ _ h => h, fun _ _ _ _ h => h, fun _ _ _ _ h => h, fun _ _ _ _ h => h, fun _ _ _ _ h => h, fun _ _ _ _ h => h, fun _ _ _ _ h => h, fun _ _ _ _ h => h, fun _ _ _ _ h => h, fun _ _ _ _ h => h, fun _ _ _ _ h => h, fun _ _ _ _ h => h, fun _ _ _ _ h => h, fun _ _ _ _ h => h, fun _ _ _ _ h => h, fun _ _ _ _ h => h, fun _ _ _ _ h => h, fun _ _ _ _ h => h, fun _ _ _ _ h => h, fun _ _ _ _ h => h, fun _ _ _ _ h => h, fun _ _ _ _ h => h, fun _ _ _ _ h => h, fun _ _ _ _ h => h, fun _ _ _ _ h => h, fun _ _ _ _ h => h, fun _ _ _ _ h => h, trivial⟩
        case hfo => kernel_rfl
        case ht => kernel_rfl
        case hC0 => exact (grows_drew _)
        case hsteps =>
          refine ⟨?_, ?_, ?_, ?_, ?_, ?_, ?_, ?_, ?_, ?_, ?_, ?_, ?_, ?_, ?_, ?_, ?_, ?_, ?_, ?_, ?_, ?_, ?_, ?_, ?_, ?_, ?_, ?_, ?_, ?_, ?_, trivial⟩
          · -- 0
            intro a' w' hA hC hD
            have s2 : a'.tmps[2]? = some _ := (hA.at 2 (by kernel_rfl)).trans rfl
            obtain ⟨b0, b1, b2, b3, b4, b5, b6, b7, b8⟩ := vec9 ((hC.block _ (HS.out.lt 3 rfl)).trans (HS.out.blockAt 3 rfl))
            clear hA hD
            refine stepOk_plain rfl ?_
            intro K hK
            gi_wp2
            exact hK _ _ rfl ((fun _ => Below.refl _ _) _)
          · -- 1
            intro a' w' hA hC hD
            have s9 : a'.tmps[9]? = some _ := (hA.at 9 (by kernel_rfl)).trans rfl
            have hx_ := (hC.block _ (HS.out.lt 0 rfl)).trans (HS.out.blockAt 0 rfl); have c0 := cell_of_block (k := 0) (v := .int .u64 t) hx_ rfl; have c1 := cell_of_block (k := 1) (v := .int .i64 s) hx_ rfl; have c2 := cell_of_block (k := 2) (v := .int .u64 q) hx_ rfl; clear hx_
            clear hA hD
            refine stepOk_plain rfl ?_
            intro K hK
            gi_wp2
            exact hK _ _ rfl ((fun _ => Below.refl _ _) _)
          · -- 2
            intro a' w' hA hC hD
            obtain ⟨u58, s58, r58⟩ := hD ⟨0, .data⟩ (by simp) rfl _ rfl
            replace r58 : u58 = _ := r58
            subst r58
            obtain ⟨u59, s59, r59⟩ := hD ⟨1, .data⟩ (by simp) rfl _ rfl
            replace r59 : u59 = _ := r59
            subst r59
            clear hA hD
            refine stepOk_plain rfl ?_
            intro K hK
            gi_wp2_with fail; refine (callsIn_wide.2 (has_any v ⟨t, s, q⟩ _)).mono ?_; rintro e w2 ⟨rfl, hb⟩; rw [Hhas.out]
            exact hK _ _ rfl hb
          · -- 3
            intro a' w' hA hC hD
            have s10 : a'.tmps[10]? = some _ := (hA.at 10 (by kernel_rfl)).trans rfl
            clear hA hD
            refine stepOk_plain rfl ?_
            intro K hK
            gi_wp2
            exact hK _ _ rfl ((fun _ => Below.refl _ _) _)
          · -- 4
            intro a' w' hA hC hD
            obtain ⟨u61, s61, r61⟩ := hD ⟨3, .data⟩ (by simp) rfl _ rfl
            replace r61 : u61 = _ := r61
            subst r61
            clear hA hD
            refine stepOk_plain rfl ?_
            intro K hK
            gi_wp2
            exact hK _ _ rfl ((fun _ => Below.refl _ _) _)
          · -- 5
            intro a' w' hA hC hD
            have s9 : a'.tmps[9]? = some _ := (hA.at 9 (by kernel_rfl)).trans rfl
            obtain ⟨u62, s62, r62⟩ := hD ⟨4, .guard⟩ (by simp) rfl _ rfl
            replace r62 : u62 = _ := r62
            subst r62
            clear hA hD
            exact stepOk_skip rfl rfl s62 rfl
          · -- 6
            intro a' w' hA hC hD
            obtain ⟨u63, s63, r63⟩ := hD ⟨5, .data⟩ (by simp) rfl _ rfl
            replace r63 : u63 = undef := r63
            subst r63
            obtain ⟨u62, s62, r62⟩ := hD ⟨4, .guard⟩ (by simp) rfl _ rfl
            replace r62 : u62 = _ := r62
            subst r62
            clear hA hD
            exact stepOk_skip rfl rfl s62 rfl
          · -- 7
            intro a' w' hA hC hD
            have s9 : a'.tmps[9]? = some _ := (hA.at 9 (by kernel_rfl)).trans rfl
            obtain ⟨u62, s62, r62⟩ := hD ⟨4, .guard⟩ (by simp) rfl _ rfl
            replace r62 : u62 = _ := r62
            subst r62
            clear hA hD
            exact stepOk_skip rfl rfl s62 rfl
          · -- 8
            intro a' w' hA hC hD
            obtain ⟨u65, s65, r65⟩ := hD ⟨7, .data⟩ (by simp) rfl _ rfl
            replace r65 : u65 = undef := r65
            subst r65
            obtain ⟨u62, s62, r62⟩ := hD ⟨4, .guard⟩ (by simp) rfl _ rfl
            replace r62 : u62 = _ := r62
            subst r62
            clear hA hD
            exact stepOk_skip rfl rfl s62 rfl
          · -- 9
            intro a' w' hA hC hD
            have s2 : a'.tmps[2]? = some _ := (hA.at 2 (by kernel_rfl)).trans rfl
            obtain ⟨u66, s66, r66⟩ := hD ⟨8, .data⟩ (by simp) rfl _ rfl
            replace r66 : u66 = undef := r66
            subst r66
            obtain ⟨u62, s62, r62⟩ := hD ⟨4, .guard⟩ (by simp) rfl _ rfl
            replace r62 : u62 = _ := r62
            subst r62
            clear hA hD
            exact stepOk_skip rfl rfl s62 rfl
          · -- 10
            intro a' w' hA hC hD
            obtain ⟨u67, s67, r67⟩ := hD ⟨9, .data⟩ (by simp) rfl _ rfl
            replace r67 : u67 = undef := r67
            subst r67
            obtain ⟨u62, s62, r62⟩ := hD ⟨4, .guard⟩ (by simp) rfl _ rfl
            replace r62 : u62 = _ := r62
            subst r62
            clear hA hD
            exact stepOk_skip rfl rfl s62 rfl
          · -- 11
            intro a' w' hA hC hD
            obtain ⟨u64, s64, r64⟩ := hD ⟨6, .data⟩ (by simp) rfl _ rfl
            replace r64 : u64 = undef := r64
            subst r64
            obtain ⟨u68, s68, r68⟩ := hD ⟨10, .data⟩ (by simp) rfl _ rfl
            replace r68 : u68 = undef := r68
            subst r68
            obtain ⟨u62, s62, r62⟩ := hD ⟨4, .guard⟩ (by simp) rfl _ rfl
            replace r62 : u62 = _ := r62
            subst r62
            clear hA hD
            exact stepOk_skip rfl rfl s62 rfl
          · -- 12
            intro a' w' hA hC hD
            obtain ⟨u62, s62, r62⟩ := hD ⟨4, .data⟩ (by simp) rfl _ rfl
            replace r62 : u62 = _ := r62
            subst r62
            obtain ⟨u69, s69, r69⟩ := hD ⟨11, .data⟩ (by simp) rfl _ rfl
            replace r69 : u69 = undef := r69
            subst r69
            clear hA hD
            refine stepOk_plain rfl ?_
            intro K hK
            gi_wp2
            exact hK _ _ rfl ((fun _ => Below.refl _ _) _)
          · -- 13
            intro a' w' hA hC hD
            obtain ⟨u60, s60, r60⟩ := hD ⟨2, .data⟩ (by simp) rfl _ rfl
            replace r60 : u60 = _ := r60
            subst r60
            obtain ⟨u70, s70, r70⟩ := hD ⟨12, .data⟩ (by simp) rfl _ rfl
            replace r70 : u70 = _ := r70
            subst r70
            clear hA hD
            refine stepOk_plain rfl ?_
            intro K hK
            gi_wp2
            try simp only [bne_self_eq_false]
            exact hK _ _ rfl ((fun _ => Below.refl _ _) _)
          · -- 14
            intro a' w' hA hC hD
            obtain ⟨u71, s71, r71⟩ := hD ⟨13, .data⟩ (by simp) rfl _ rfl
            replace r71 : u71 = _ := r71
            subst r71
            clear hA hD
            refine stepOk_plain rfl ?_
            intro K hK
            gi_wp2
            exact hK _ _ rfl ((fun _ => Below.refl _ _) _)
          · -- 15
            intro a' w' hA hC hD
            have s2 : a'.tmps[2]? = some _ := (hA.at 2 (by kernel_rfl)).trans rfl
            obtain ⟨u72, s72, r72⟩ := hD ⟨14, .guard⟩ (by simp) rfl _ rfl
            replace r72 : u72 = _ := r72
            subst r72
            obtain ⟨b0, b1, b2, b3, b4, b5, b6, b7, b8⟩ := vec9 ((hC.block _ (HS.out.lt 3 rfl)).trans (HS.out.blockAt 3 rfl))
            clear hA hD
            refine stepOk_want rfl rfl s72 ?_
            intro K hK
            gi_wp2
            exact hK _ _ rfl ((fun _ => Below.refl _ _) _)
          · -- 16
            intro a' w' hA hC hD
            have s9 : a'.tmps[9]? = some _ := (hA.at 9 (by kernel_rfl)).trans rfl
            obtain ⟨u72, s72, r72⟩ := hD ⟨14, .guard⟩ (by simp) rfl _ rfl
            replace r72 : u72 = _ := r72
            subst r72
            have hx_ := (hC.block _ (HS.out.lt 0 rfl)).trans (HS.out.blockAt 0 rfl); have c0 := cell_of_block (k := 0) (v := .int .u64 t) hx_ rfl; have c1 := cell_of_block (k := 1) (v := .int .i64 s) hx_ rfl; have c2 := cell_of_block (k := 2) (v := .int .u64 q) hx_ rfl; clear hx_
            clear hA hD
            refine stepOk_want rfl rfl s72 ?_
            intro K hK
            gi_wp2
            exact hK _ _ rfl ((fun _ => Below.refl _ _) _)
          · -- 17
            intro a' w' hA hC hD
            obtain ⟨u73, s73, r73⟩ := hD ⟨15, .data⟩ (by simp) rfl _ rfl
            replace r73 : u73 = _ := r73
            subst r73
            obtain ⟨u74, s74, r74⟩ := hD ⟨16, .data⟩ (by simp) rfl _ rfl
            replace r74 : u74 = _ := r74
            subst r74
            obtain ⟨u72, s72, r72⟩ := hD ⟨14, .chain⟩ (by simp) rfl _ rfl
            replace r72 : u72 = _ := r72
            subst r72
            clear hA hD
            refine stepOk_want rfl rfl s72 ?_
            intro K hK
            gi_wp2_with fail; refine (callsIn_wide.2 (next_any v Hv0.out ⟨t, s, q⟩ _)).mono ?_; rintro e w2 ⟨rfl, hb⟩; rw [Hnx.out]
            exact hK _ _ rfl hb
          · -- 18
            intro a' w' hA hC hD
            have s10 : a'.tmps[10]? = some _ := (hA.at 10 (by kernel_rfl)).trans rfl
            obtain ⟨u72, s72, r72⟩ := hD ⟨14, .guard⟩ (by simp) rfl _ rfl
            replace r72 : u72 = _ := r72
            subst r72
            clear hA hD
            refine stepOk_want rfl rfl s72 ?_
            intro K hK
            gi_wp2
            exact hK _ _ rfl ((fun _ => Below.refl _ _) _)
          · -- 19
            intro a' w' hA hC hD
            obtain ⟨u76, s76, r76⟩ := hD ⟨18, .data⟩ (by simp) rfl _ rfl
            replace r76 : u76 = _ := r76
            subst r76
            obtain ⟨u72, s72, r72⟩ := hD ⟨14, .guard⟩ (by simp) rfl _ rfl
            replace r72 : u72 = _ := r72
            subst r72
            clear hA hD
            refine stepOk_want rfl rfl s72 ?_
            intro K hK
            gi_wp2
            exact hK _ _ rfl ((fun _ => Below.refl _ _) _)
          · -- 20
            intro a' w' hA hC hD
            have s9 : a'.tmps[9]? = some _ := (hA.at 9 (by kernel_rfl)).trans rfl
            obtain ⟨u77, s77, r77⟩ := hD ⟨19, .guard⟩ (by simp) rfl _ rfl
            replace r77 : u77 = _ := r77
            subst r77
            clear hA hD
            exact stepOk_skip rfl rfl s77 rfl
          · -- 21
            intro a' w' hA hC hD
            obtain ⟨u78, s78, r78⟩ := hD ⟨20, .data⟩ (by simp) rfl _ rfl
            replace r78 : u78 = undef := r78
            subst r78
            obtain ⟨u77, s77, r77⟩ := hD ⟨19, .guard⟩ (by simp) rfl _ rfl
            replace r77 : u77 = _ := r77
            subst r77
            clear hA hD
            exact stepOk_skip rfl rfl s77 rfl
          · -- 22
            intro a' w' hA hC hD
            have s9 : a'.tmps[9]? = some _ := (hA.at 9 (by kernel_rfl)).trans rfl
            obtain ⟨u77, s77, r77⟩ := hD ⟨19, .guard⟩ (by simp) rfl _ rfl
            replace r77 : u77 = _ := r77
            subst r77
            clear hA hD
            exact stepOk_skip rfl rfl s77 rfl
          · -- 23
            intro a' w' hA hC hD
            obtain ⟨u80, s80, r80⟩ := hD ⟨22, .data⟩ (by simp) rfl _ rfl
            replace r80 : u80 = undef := r80
            subst r80
            obtain ⟨u77, s77, r77⟩ := hD ⟨19, .guard⟩ (by simp) rfl _ rfl
            replace r77 : u77 = _ := r77
            subst r77
            clear hA hD
            exact stepOk_skip rfl rfl s77 rfl
          · -- 24
            intro a' w' hA hC hD
            have s2 : a'.tmps[2]? = some _ := (hA.at 2 (by kernel_rfl)).trans rfl
            obtain ⟨u81, s81, r81⟩ := hD ⟨23, .data⟩ (by simp) rfl _ rfl
            replace r81 : u81 = undef := r81
            subst r81
            obtain ⟨u77, s77, r77⟩ := hD ⟨19, .guard⟩ (by simp) rfl _ rfl
            replace r77 : u77 = _ := r77
            subst r77
            clear hA hD
            exact stepOk_skip rfl rfl s77 rfl
          · -- 25
            intro a' w' hA hC hD
            obtain ⟨u82, s82, r82⟩ := hD ⟨24, .data⟩ (by simp) rfl _ rfl
            replace r82 : u82 = undef := r82
            subst r82
            obtain ⟨u77, s77, r77⟩ := hD ⟨19, .guard⟩ (by simp) rfl _ rfl
            replace r77 : u77 = _ := r77
            subst r77
            clear hA hD
            exact stepOk_skip rfl rfl s77 rfl
          · -- 26
            intro a' w' hA hC hD
            obtain ⟨u83, s83, r83⟩ := hD ⟨25, .data⟩ (by simp) rfl _ rfl
            replace r83 : u83 = undef := r83
            subst r83
            obtain ⟨u77, s77, r77⟩ := hD ⟨19, .guard⟩ (by simp) rfl _ rfl
            replace r77 : u77 = _ := r77
            subst r77
            clear hA hD
            exact stepOk_skip rfl rfl s77 rfl
          · -- 27
            intro a' w' hA hC hD
            obtain ⟨u79, s79, r79⟩ := hD ⟨21, .data⟩ (by simp) rfl _ rfl
            replace r79 : u79 = undef := r79
            subst r79
            obtain ⟨u84, s84, r84⟩ := hD ⟨26, .data⟩ (by simp) rfl _ rfl
            replace r84 : u84 = undef := r84
            subst r84
            obtain ⟨u77, s77, r77⟩ := hD ⟨19, .guard⟩ (by simp) rfl _ rfl
            replace r77 : u77 = _ := r77
            subst r77
            clear hA hD
            exact stepOk_skip rfl rfl s77 rfl
          · -- 28
            intro a' w' hA hC hD
            obtain ⟨u77, s77, r77⟩ := hD ⟨19, .data⟩ (by simp) rfl _ rfl
            replace r77 : u77 = _ := r77
            subst r77
            obtain ⟨u85, s85, r85⟩ := hD ⟨27, .data⟩ (by simp) rfl _ rfl
            replace r85 : u85 = undef := r85
            subst r85
            obtain ⟨u72, s72, r72⟩ := hD ⟨14, .guard⟩ (by simp) rfl _ rfl
            replace r72 : u72 = _ := r72
            subst r72
            clear hA hD
            refine stepOk_want rfl rfl s72 ?_
            intro K hK
            gi_wp2
            exact hK _ _ rfl ((fun _ => Below.refl _ _) _)
          · -- 29
            intro a' w' hA hC hD
            obtain ⟨u75, s75, r75⟩ := hD ⟨17, .data⟩ (by simp) rfl _ rfl
            replace r75 : u75 = _ := r75
            subst r75
            obtain ⟨u86, s86, r86⟩ := hD ⟨28, .data⟩ (by simp) rfl _ rfl
            replace r86 : u86 = _ := r86
            subst r86
            obtain ⟨u72, s72, r72⟩ := hD ⟨14, .guard⟩ (by simp) rfl _ rfl
            replace r72 : u72 = _ := r72
            subst r72
            clear hA hD
            refine stepOk_want rfl rfl s72 ?_
            intro K hK
            gi_wp2
            try simp only [bne_self_eq_false]
            exact hK _ _ rfl ((fun _ => Below.refl _ _) _)
          · -- 30
            intro a' w' hA hC hD
            obtain ⟨u72, s72, r72⟩ := hD ⟨14, .data⟩ (by simp) rfl _ rfl
            replace r72 : u72 = _ := r72
            subst r72
            obtain ⟨u87, s87, r87⟩ := hD ⟨29, .data⟩ (by simp) rfl _ rfl
            replace r87 : u87 = _ := r87
            subst r87
            clear hA hD
            refine stepOk_plain rfl ?_
            intro K hK
            gi_wp2
            exact hK _ _ rfl ((fun _ => Below.refl _ _) _)
        case' hend =>
          intro w6 hC
          simp only [EndFrom, eqv, forall_eq, Act.put, List.length_cons, List.length_nil, List.drop_succ_cons, List.drop_zero, Nat.reduceAdd, List.setIfInBounds_toArray, List.set_cons_succ, List.set_cons_zero]
        all_goals
          have HS := Lib.hid (HS.out.below hC)
          clear hC Hhas Hnx
          gi_wp2
          obtain ⟨b0, b1, b2, b3, b4, b5, b6, b7, b8⟩ := vec9 (HS.out.blockAt 3 rfl)
          have hx_ := HS.out.blockAt 0 rfl
          have c0 := cell_of_block (k := 0) (v := .int .u64 t) hx_ rfl
          have c1 := cell_of_block (k := 1) (v := .int .i64 s) hx_ rfl
          have c2 := cell_of_block (k := 2) (v := .int .u64 q) hx_ rfl
          clear hx_
          go_wp2_with fail
          refine (with_any v Hv0.out _ 1 (fun _ => ⟨t, s, q⟩) _ (by omega) (elems_one (i := ⟨t, s, q⟩) (World.alloc_heap_new _ _))).mono ?_
          rintro e w7 ⟨rfl, hb⟩
          have HS := Lib.hid (((HS.out.alloc _).below hb).drop1)
          clear hb c0 c1 c2
          clear b0 b1 b2 b3 b4 b5 b6 b7 b8
          obtain ⟨r, hr⟩ : ∃ r, withB v (fun _ => ⟨t, s, q⟩) 1 = r := ⟨_, rfl⟩
          have Hr := Lib.hid hr
          rw [hr, resV_is]
          clear hr
          simp only [vecV, lit9]
          repeat ((fail_if_success (with_reducible refine stop_at (id := 15) ?_)); (first | go_values | go_skip | go_guarded | go_step | go_upon | go_back | (simp only [Int.not_lt, Int.not_le] at *; go_simp) | (go_values <;> (try go_simp)) | (go_ite <;> go_prune <;> (try go_simp)) | (split <;> (first | (rename_i hx; exact (hx _ rfl).elim) | go_prune))))
          obtain ⟨w8, hw_⟩ : ∃ w8 : World, w7.alloc (.cells (lit9 (resVec r)) 24) = w8 := ⟨_, rfl⟩
          have hs_ := HS.out.alloc (.cells (lit9 (resVec r)) 24)
          rw [hw_] at hs_
          have HS := Lib.hid hs_
          simp only [lit9] at hw_
          rw [hw_]
          clear hw_ hs_
          obtain ⟨b0, b1, b2, b3, b4, b5, b6, b7, b8⟩ := vec9 (HS.out.blockAt 4 rfl)
          have hx_ := HS.out.blockAt 1 rfl
          have c0 := cell_of_block (k := 0) (v := .int .u64 t) hx_ rfl
          have c1 := cell_of_block (k := 1) (v := .int .i64 s) hx_ rfl
          have c2 := cell_of_block (k := 2) (v := .int .u64 q) hx_ rfl
          clear hx_
          go_wp2_with fail
          refine (refWith_any v Hv0.out _ 1 (fun _ => ⟨t, s, q⟩) _ (by omega) (elems_one (i := ⟨t, s, q⟩) (World.alloc_heap_new _ _))).mono ?_
          rintro e w9 ⟨rfl, hb⟩
          have HS := Lib.hid (((HS.out.alloc _).below hb).drop1)
          clear hb c0 c1 c2
          clear b0 b1 b2 b3 b4 b5 b6 b7 b8
          rw [Hr.out, resV_is]
          simp only [vecV, lit9]
          repeat ((fail_if_success (with_reducible refine stop_at (id := 16) ?_)); (first | go_values | go_skip | go_guarded | go_step | go_upon | go_back | (simp only [Int.not_lt, Int.not_le] at *; go_simp) | (go_values <;> (try go_simp)) | (go_ite <;> go_prune <;> (try go_simp)) | (split <;> (first | (rename_i hx; exact (hx _ rfl).elim) | go_prune))))
          obtain ⟨w10, hw_⟩ : ∃ w10 : World, w9.alloc (.cells (lit9 (resVec r)) 24) = w10 := ⟨_, rfl⟩
          have hs_ := HS.out.alloc (.cells (lit9 (resVec r)) 24)
          rw [hw_] at hs_
          have HS := Lib.hid hs_
          simp only [lit9] at hw_
          rw [hw_]
          clear hw_ hs_
          obtain ⟨b0, b1, b2, b3, b4, b5, b6, b7, b8⟩ := vec9 (HS.out.blockAt 0 rfl)
          obtain ⟨c0, c1, c2, c3, c4, c5, c6, c7, c8⟩ := vec9 (HS.out.blockAt 1 rfl)
          have r1 : ∀ w, Sem.run Try.prog (binOp .neq 24 (.agg (lit9 (resVec r))) (.agg (lit9 (resVec r)))) w = .ok (.bool false) w := fun w => by have h := neq_vec.1 (resVec r) (resVec r) w; rw [vecEqB_self] at h; exact h
          unfold lit9 at r1
          go_wp2_with fail
          clear b0 b1 b2 b3 b4 b5 b6 b7 b8
          clear c0 c1 c2 c3 c4 c5 c6 c7 c8
          clear r1
          go_roundw
          case rel => exact ⟨k + 1, by omega, by go_num, HS.out.drop1.drop1.drop1⟩
          case measure => simp [intOf]; omega
      · obtain rfl : k = m := by omega
        obtain ⟨wo, hwo⟩ : ∃ wo : World, wo = wr := ⟨_, rfl⟩
        rw [← hwo] at HS ⊢
        clear hwo
        obtain ⟨r, hr⟩ : ∃ r, withB v (idAt L) k = r := ⟨_, rfl⟩
        obtain ⟨r', hr'⟩ : ∃ r', withB (fun _ => 0) (idAt (sortIds L)) k = r' := ⟨_, rfl⟩
        have Hr := Lib.hid hr
        have Hr' := Lib.hid hr'
        clear hr hr'
        obtain ⟨b0, b1, b2, b3, b4, b5, b6, b7, b8⟩ := vec9 (HS.out.blockAt 2 rfl)
        go_wp2_with fail
        refine (with_any v Hv0.out _ k (idAt L) _ (by omega) (Elems.ids HLl.out (HS.out.elems 0 rfl))).mono ?_
        rintro e w7 ⟨rfl, hb⟩
        have HS := Lib.hid (HS.out.below hb)
        clear hb
        clear b0 b1 b2 b3 b4 b5 b6 b7 b8
        rw [Hr.out, resV_is]
        simp only [vecV, lit9]
        repeat ((fail_if_success (with_reducible refine stop_at (id := 20) ?_)); (first | go_values | go_skip | go_guarded | go_step | go_upon | go_back | (simp only [Int.not_lt, Int.not_le] at *; go_simp) | (go_values <;> (try go_simp)) | (go_ite <;> go_prune <;> (try go_simp)) | (split <;> (first | (rename_i hx; exact (hx _ rfl).elim) | go_prune))))
        obtain ⟨w8, hw_⟩ : ∃ w8 : World, w7.alloc (.cells (lit9 (resVec r)) 24) = w8 := ⟨_, rfl⟩
        have hs_ := HS.out.alloc (.cells (lit9 (resVec r)) 24)
        rw [hw_] at hs_
        have HS := Lib.hid hs_
        simp only [lit9] at hw_
        rw [hw_]
        clear hw_ hs_
        obtain ⟨b0, b1, b2, b3, b4, b5, b6, b7, b8⟩ := vec9 (HS.out.blockAt 3 rfl)
        go_wp2_with fail
        refine (refWith_any v Hv0.out _ k (idAt L) _ (by omega) (Elems.ids HLl.out (HS.out.elems 1 rfl))).mono ?_
        rintro e w9 ⟨rfl, hb⟩
        have HS := Lib.hid (HS.out.below hb)
        clear hb
        clear b0 b1 b2 b3 b4 b5 b6 b7 b8
        rw [Hr.out, resV_is]
        simp only [vecV, lit9]
        repeat ((fail_if_success (with_reducible refine stop_at (id := 21) ?_)); (first | go_values | go_skip | go_guarded | go_step | go_upon | go_back | (simp only [Int.not_lt, Int.not_le] at *; go_simp) | (go_values <;> (try go_simp)) | (go_ite <;> go_prune <;> (try go_simp)) | (split <;> (first | (rename_i hx; exact (hx _ rfl).elim) | go_prune))))
        obtain ⟨w10, hw_⟩ : ∃ w10 : World, w9.alloc (.cells (lit9 (resVec r)) 24) = w10 := ⟨_, rfl⟩
        have hs_ := HS.out.alloc (.cells (lit9 (resVec r)) 24)
        rw [hw_] at hs_
        have HS := Lib.hid hs_
        simp only [lit9] at hw_
        rw [hw_]
        clear hw_ hs_
        go_wp2_with fail
        refine (of_any _ L _ (by rw [HLl.out]; exact HS.out.elems 2 rfl) (by rw [HLl.out]; omega)).mono ?_
        rintro e w11 ⟨rfl, hb⟩
        have HS := Lib.hid (HS.out.below hb)
        clear hb
        rw [HLl.out, Hr'.out, resV_is]
        simp only [vecV, lit9]
        repeat ((fail_if_success (with_reducible refine stop_at (id := 22) ?_)); (first | go_values | go_skip | go_guarded | go_step | go_upon | go_back | (simp only [Int.not_lt, Int.not_le] at *; go_simp) | (go_values <;> (try go_simp)) | (go_ite <;> go_prune <;> (try go_simp)) | (split <;> (first | (rename_i hx; exact (hx _ rfl).elim) | go_prune))))
        obtain ⟨w12, hw_⟩ : ∃ w12 : World, w11.alloc (.cells (lit9 (resVec r')) 24) = w12 := ⟨_, rfl⟩
        have hs_ := HS.out.alloc (.cells (lit9 (resVec r')) 24)
        rw [hw_] at hs_
        have HS := Lib.hid hs_
        simp only [lit9] at hw_
        rw [hw_]
        clear hw_ hs_
        go_wp2_with fail
        refine (refSorted_any _ L _ (by rw [HLl.out]; exact HS.out.elems 3 rfl) (by rw [HLl.out]; omega)).mono ?_
        rintro e w13 ⟨v2, rfl, hrow, hb⟩
        have hel := ownsRow_rows encId_len (show w13.ownsRow _ 38 3 v2 (sortIds L).length ((sortIds L).flatMap encId) by rw [sortIds_length]; exact hrow)
        have hsl : (sortIds L).length = k := by rw [sortIds_length, HLl.out]
        rw [hsl] at hel
        have HS := Lib.hid ((HS.out.below hb).addRow hel)
        have Hsl := Lib.hid hsl
        clear hrow hb hel hsl
        obtain ⟨s2, c2, rfl⟩ : ∃ s2 c2, v2 = .slice s2 k c2 := by
          obtain ⟨s2, c2, e, _⟩ := (HS.out.elems 0 rfl).shape
          exact ⟨s2, c2, e⟩
        go_wp2_with fail
        refine (refWith_any (fun _ => 0) (fun _ => Int.le_refl _) _ k (idAt (sortIds L)) _ (by omega) (Elems.ids Hsl.out (HS.out.elems 0 rfl))).mono ?_
        rintro e w14 ⟨rfl, hb⟩
        have HS := Lib.hid (HS.out.below hb)
        clear hb
        rw [Hr'.out, resV_is]
        simp only [vecV, lit9]
        repeat ((fail_if_success (with_reducible refine stop_at (id := 23) ?_)); (first | go_values | go_skip | go_guarded | go_step | go_upon | go_back | (simp only [Int.not_lt, Int.not_le] at *; go_simp) | (go_values <;> (try go_simp)) | (go_ite <;> go_prune <;> (try go_simp)) | (split <;> (first | (rename_i hx; exact (hx _ rfl).elim) | go_prune))))
        obtain ⟨w15, hw_⟩ : ∃ w15 : World, w14.alloc (.cells (lit9 (resVec r')) 24) = w15 := ⟨_, rfl⟩
        have hs_ := HS.out.alloc (.cells (lit9 (resVec r')) 24)
        rw [hw_] at hs_
        have HS := Lib.hid hs_
        simp only [lit9] at hw_
        rw [hw_]
        clear hw_ hs_
        obtain ⟨b0, b1, b2, b3, b4, b5, b6, b7, b8⟩ := vec9 (HS.out.blockAt 0 rfl)
        obtain ⟨c0, c1, c2, c3, c4, c5, c6, c7, c8⟩ := vec9 (HS.out.blockAt 2 rfl)
        obtain ⟨d0, d1, d2, d3, d4, d5, d6, d7, d8⟩ := vec9 (HS.out.blockAt 3 rfl)
        obtain ⟨e0, e1, e2, e3, e4, e5, e6, e7, e8⟩ := vec9 (HS.out.blockAt 4 rfl)
        have q1 : ∀ w, Sem.run Try.prog (binOp .eql 24 (.agg (lit9 (resVec r))) (.agg (lit9 (resVec r)))) w = .ok (.bool true) w := fun w => eql_vec_self _ w
        have q2 : ∀ w, Sem.run Try.prog (binOp .eql 24 (.agg (lit9 (resVec r'))) (.agg (lit9 (resVec r')))) w = .ok (.bool true) w := fun w => eql_vec_self _ w
        unfold lit9 at q1 q2
        go_wp2_with fail
        refine (eqId_any _ _ L L _ (by rw [HLl.out]; exact HS.out.elems 5 rfl) (by rw [HLl.out]; exact HS.out.elems 6 rfl) (by rw [HLl.out]; omega)).mono ?_
        rintro e w16 ⟨rfl, hb⟩
        have HS := Lib.hid (HS.out.below hb)
        rw [show sameB L L = true from by simp [sameB]]
        clear hb
        clear b0 b1 b2 b3 b4 b5 b6 b7 b8
        clear c0 c1 c2 c3 c4 c5 c6 c7 c8
        clear d0 d1 d2 d3 d4 d5 d6 d7 d8
        clear e0 e1 e2 e3 e4 e5 e6 e7 e8
        go_wp2_with fail
        go_ret
        exact ⟨rfl, HS.out.low⟩

set_option maxRecDepth 100000 in
set_option maxHeartbeats 4000000 in
theorem ids_T (v : Nat → Int) (hok : vecOk v = true) (hv0 : ∀ k, 0 ≤ v k) (l : List IdT) (a : Option Addr) (cap : Nat) (hcap : l.length ≤ cap) (hmax : cap ≤ maxLen) (w : World) (he : Elems w (.slice a l.length cap) l.length 3 (rowC encId l)) :
    Calls Try.prog 6 #[vecV v, .slice a l.length cap] w (Gives (.bool true) w) := by
  obtain ⟨n, hn⟩ : ∃ n, l.length = n := ⟨_, rfl⟩
  rw [hn] at he hcap ⊢
  obtain ⟨m, hm⟩ : ∃ m, min n 12 = m := ⟨_, rfl⟩
  have hm6 : m ≤ 12 := by omega
  have hmn : m ≤ n := by omega
  have Hn := Lib.hid hn
  have Hm := Lib.hid hm
  have Hv0 := Lib.hid hv0
  have Hok := Lib.hid hok
  unfold maxLen at hmax
  have HS := Lib.hid (((St.start w).addRow he).alloc (.cells (lit9 v) 24))
  clear hn hm hv0 he hok
  go_enter Try.func6, Try.ntmps6
  simp only [vecV, lit9]
  go_wp2_with fail
  refine (wakes_any _).mono ?_
  rintro e w1 ⟨rfl, hb_⟩
  have HS := Lib.hid (HS.out.below hb_)
  clear hb_
  repeat ((fail_if_success (with_reducible refine stop_at (id := 3) ?_)); (first | go_values | go_skip | go_guarded | go_step | go_upon | go_back | (simp only [Int.not_lt, Int.not_le] at *; go_simp) | (go_values <;> (try go_simp)) | (go_ite <;> go_prune <;> (try go_simp)) | (split <;> (first | (rename_i hx; exact (hx _ rfl).elim) | go_prune))))
  refine (wpIn_wide (n := 0)).1 ?_
  apply wp_region_textv 5 (Rl := [(eqv _), (eqv _), (eqv _), (fun v_ _ => v_ = (.int .i64 (m : Int) : Value)), (eqv _)]) (C := (fun x y => Below x.heap.size x y))
  case hk => rfl
  case hCr => exact (fun _ => Below.refl _ _)
  case hCt => intro _ _ _; exact (fun h k => grows_trans h k)
  case hst => exact ⟨fun _ _ _ _ h => h, fun _ _ _ _ h => h, fun _ _ _ _ h => h, fun _ _ _ _ h => h, fun _ _ _ _ h => h, trivial⟩
  case hfo => kernel_rfl
  case hsteps =>
    refine ⟨?_, ?_, ?_, ?_, ?_, trivial⟩
    · -- 0
      intro a' w' hA hC hD
      have s1 : a'.tmps[1]? = some _ := (hA.at 1 (by kernel_rfl)).trans rfl
      clear hA hD
      refine stepOk_plain rfl ?_
      intro K hK
      gi_wp2
      exact hK _ _ rfl ((fun _ => Below.refl _ _) _)
    · -- 1
      intro a' w' hA hC hD
      have s1 : a'.tmps[1]? = some _ := (hA.at 1 (by kernel_rfl)).trans rfl
      clear hA hD
      refine stepOk_plain rfl ?_
      intro K hK
      gi_wp2
      exact hK _ _ rfl ((fun _ => Below.refl _ _) _)
    · -- 2
      intro a' w' hA hC hD
      obtain ⟨u26, s26, r26⟩ := hD ⟨1, .data⟩ (by simp) rfl _ rfl
      replace r26 : u26 = _ := r26
      subst r26
      clear hA hD
      refine stepOk_plain rfl ?_
      intro K hK
      gi_wp2
      exact hK _ _ rfl ((fun _ => Below.refl _ _) _)
    · -- 3
      intro a' w' hA hC hD
      obtain ⟨u27, s27, r27⟩ := hD ⟨2, .data⟩ (by simp) rfl _ rfl
      replace r27 : u27 = _ := r27
      subst r27
      clear hA hD
      refine stepOk_plain rfl ?_
      intro K hK
      have h := hK (.int .i64 (m : Int)) w' rfl (Below.refl _ _); have hm := Hm.out; gi_wp2; rw [show (m : Int) = min (n : Int) 12 from by omega] at h; exact h
    · -- 4
      intro a' w' hA hC hD
      obtain ⟨u25, s25, r25⟩ := hD ⟨0, .data⟩ (by simp) rfl _ rfl
      replace r25 : u25 = _ := r25
      subst r25
      obtain ⟨u28, s28, r28⟩ := hD ⟨3, .data⟩ (by simp) rfl _ rfl
      replace r28 : u28 = .int .i64 (m : Int) := r28
      subst r28
      clear hA hD
      refine stepOk_plain rfl ?_
      intro K hK
      gi_wp2
      exact hK _ _ rfl ((fun _ => Below.refl _ _) _)
  case hend =>
    intro w2 hC
    simp only [EndFrom, eqv, forall_eq, Act.put, List.length_cons, List.length_nil, List.drop_succ_cons, List.drop_zero, Nat.reduceAdd, List.setIfInBounds_toArray, List.set_cons_succ, List.set_cons_zero]
    have HS := Lib.hid (HS.out.below hC)
    have hel := (HS.out.elems 1 rfl).take encId_len Hn.out hmn
    have hLl : (l.take m).length = m := by rw [List.length_take, Hn.out]; omega
    obtain ⟨L, hL⟩ : ∃ L, l.take m = L := ⟨_, rfl⟩
    rw [hL] at hel hLl
    have HS := Lib.hid (HS.out.addRow hel)
    have Hel := Lib.hid hel
    have HLl := Lib.hid hLl
    clear hL hC hel hLl
    gi_wp2_with fail
    refine (callsIn_wide.2 (cloneId_any _ L _ (by rw [HLl.out]; exact Hel.out) (by rw [HLl.out]; omega))).mono ?_
    rintro e w3 ⟨sv, rfl, hrow, _, hb⟩
    have HS := Lib.hid ((HS.out.below hb).addRow (ownsRow_rows encId_len hrow))
    clear hb hrow Hel
    obtain ⟨sa, sc, rfl⟩ : ∃ sa sc, sv = .slice sa L.length sc := by
      obtain ⟨sa, sc, e, _⟩ := (HS.out.elems 0 rfl).shape
      exact ⟨sa, sc, e⟩
    rw [HLl.out] at HS ⊢
    obtain ⟨b0, b1, b2, b3, b4, b5, b6, b7, b8⟩ := vec9 (HS.out.blockAt 2 rfl)
    gi_wp2_with fail
    go_wp2_with fail
    refine (right_any v _).mono ?_
    rintro e w4 ⟨rfl, hb_⟩
    have HS := Lib.hid (HS.out.below hb_)
    clear hb_
    clear b0 b1 b2 b3 b4 b5 b6 b7 b8
    rw [Hok.out]
    obtain ⟨b0, b1, b2, b3, b4, b5, b6, b7, b8⟩ := vec9 (HS.out.blockAt 2 rfl)
    go_wp2_with fail
    refine (vecCheck_any v _).mono ?_
    rintro e w5 ⟨rfl, hb_⟩
    have HS := Lib.hid (HS.out.below hb_)
    clear hb_
    clear b0 b1 b2 b3 b4 b5 b6 b7 b8
    simp only [errOf, Hok.out]
    go_wp2_with fail
    go_loopw [49] (fun i wr => ∃ k : Nat, k ≤ m ∧ i = .int .i64 k ∧ St w [.row (.slice sa m sc) m 3 (rowC encId L) w3.heap.size, .row (.slice a m cap) m 3 (rowC encId L) w2.heap.size, .blk w.heap.size (.cells (lit9 v) 24), .row (.slice a n cap) n 3 (rowC encId l) w.heap.size] wr) (fun i _ => m - (intOf i).toNat)
    case atStart => exact ⟨0, Nat.zero_le _, rfl, HS.out⟩
    case round =>
      obtain ⟨k, hk, rfl, hs⟩ := hrel
      clear HS
      have HS := Lib.hid hs
      clear hs
      by_cases hkm : k < m
      · obtain ⟨bl, off, rfl, hlt, hc⟩ : ∃ bl off, sa = some ⟨bl, off, none⟩ ∧ bl < wr.heap.size ∧ ∀ j, j < m * 3 → wr.cell? ⟨bl, off + j, none⟩ = some (idCells (idAt L) j) := by
          rcases Elems.ids HLl.out (HS.out.elems 0 rfl) with ⟨e, h0⟩ | ⟨bl, off, c, e, hlt, hc⟩
          · omega
          · cases e; exact ⟨bl, off, rfl, hlt, hc⟩
        obtain ⟨e0, e1, e2⟩ := idElem hc hkm
        obtain ⟨x, hx⟩ : ∃ x, idAt L k = x := ⟨_, rfl⟩
        rw [hx] at e0 e1 e2
        clear hx hc hlt
        obtain ⟨wo, hwo⟩ : ∃ wo : World, wo = wr := ⟨_, rfl⟩
        rw [← hwo] at HS e0 e1 e2 ⊢
        clear hwo
        obtain ⟨t, s, q⟩ := x
        dsimp only at e0 e1 e2
        repeat ((fail_if_success (with_reducible refine stop_at (id := 11) ?_)); (first | go_values | go_skip | go_guarded | go_step | go_upon | go_back | (simp only [Int.not_lt, Int.not_le] at *; go_simp) | (go_values <;> (try go_simp)) | (go_ite <;> go_prune <;> (try go_simp)) | (split <;> (first | (rename_i hx; exact (hx _ rfl).elim) | go_prune))))
        clear e0 e1 e2
        obtain ⟨wp, hw_⟩ : ∃ wp : World, wo.alloc (.cells #[.int .u64 t, .int .i64 s, .int .u64 q] 38) = wp := ⟨_, rfl⟩
        have hs_ := HS.out.alloc (.cells #[.int .u64 t, .int .i64 s, .int .u64 q] 38)
        rw [hw_] at hs_
        have HS := Lib.hid hs_
        rw [hw_]
        clear hw_ hs_
        have hx_ := HS.out.blockAt 0 rfl
        have c0 := cell_of_block (k := 0) (v := .int .u64 t) hx_ rfl
        have c1 := cell_of_block (k := 1) (v := .int .i64 s) hx_ rfl
        have c2 := cell_of_block (k := 2) (v := .int .u64 q) hx_ rfl
        clear hx_
        go_wp2_with fail
        refine (refIdRight_any ⟨t, s, q⟩ _).mono ?_
        rintro e wq ⟨rfl, hb_⟩
        have HS := Lib.hid (HS.out.below hb_)
        clear hb_ c0 c1 c2
        cases hid : idOk ⟨t, s, q⟩
        case' false =>
          have hbo : bothOk v ⟨t, s, q⟩ = false := by unfold bothOk; rw [hid]; simp
          have Hhas := Lib.hid (show hasB v ⟨t, s, q⟩ = false by unfold hasB; rw [hbo]; rfl)
          have Hnx := Lib.hid (show nextB v ⟨t, s, q⟩ = false by unfold nextB; rw [hbo]; rfl)
          clear hbo hid
          go_wp2_with fail
          refine (wpIn_wide (n := 0)).1 ?_
          apply wp_region_vals 31 (Rl := [(eqv _), (eqv _), (eqv _), (eqv _), (eqv _), (fun v_ _ => v_ = (undef : Value)), (fun v_ _ => v_ = (undef : Value)), (fun v_ _ => v_ = (undef : Value)), (fun v_ _ => v_ = (undef : Value)), (fun v_ _ => v_ = (undef : Value)), (fun v_ _ => v_ = (undef : Value)), (fun v_ _ => v_ = (undef : Value)), (eqv _), (eqv _), (eqv _), (eqv _), (eqv _), (eqv _), (eqv _), (eqv _), (fun v_ _ => v_ = (undef : Value)), (fun v_ _ => v_ = (undef : Value)), (fun v_ _ => v_ = (undef : Value)), (fun v_ _ => v_ = (undef : Value)), (fun v_ _ => v_ = (undef : Value)), (fun v_ _ => v_ = (undef : Value)), (fun v_ _ => v_ = (undef : Value)), (fun v_ _ => v_ = (undef : Value)), (eqv _), (eqv _), (eqv _)]) (C := (fun x y => Below x.heap.size x y))
          case hm => kernel_rfl
          case hk => rfl
          case hCr => exact (fun _ => Below.refl _ _)
          case hCt => intro _ _ _; exact (fun h k => grows_trans h k)
          case hst => exact ⟨fun _ _ _ _ h => h, fun _ _ _ _ h => h, fun _ _ _ _ h => h, fun _ _ _ _ h => h, fun _ _ _ _ h => h, fun _ _ _ _ h => h, fun _ _ _ _ h => h, fun _ _ _ _ h => h, fun _ _ _ _ h => h, fun _ _ _ _ h => h, fun _ _ _ _ h => h, fun _ _ _ _ h => h, fun _ _ _ _ h => h, fun _ _ _ _ h => h, fun _ _ _ _ h => h, fun _ _ _ _ h => h, fun _ _ _ _ h => h, fun _ _ _ _ h => h, fun _ _ _ _ h => h, fun _ _ _ _ h => h, fun _ _ _ _ h => h, fun _ _ _ _ h => h, fun _ _ _ _ h => h, fun _ _ _ _ h => h, fun _ _ _ _ h => h, fun _ _ _ _ h => h, fun _ _ _ _ h => h, fun _ _ _ _ h => h, fun _ _ _ _ h => h, fun _ _ _ _ h => h, fun _ _ _ _ h => h, trivial⟩
          case hfo => kernel_rfl
          case ht => kernel_rfl
          case hC0 => exact (grows_drew _)
          case hsteps =>
            refine ⟨?_, ?_, ?_, ?_, ?_, ?_, ?_, ?_, ?_, ?_, ?_, ?_, ?_, ?_, ?_, ?_, ?_, ?_, ?_, ?_, ?_, ?_, ?_, ?_, ?_, ?_, ?_, ?_, ?_, ?_, ?_, trivial⟩
            · -- 0
              intro a' w' hA hC hD
              have s2 : a'.tmps[2]? = some _ := (hA.at 2 (by kernel_rfl)).trans rfl
              obtain ⟨b0, b1, b2, b3, b4, b5, b6, b7, b8⟩ := vec9 ((hC.block _ (HS.out.lt 3 rfl)).trans (HS.out.blockAt 3 rfl))
              clear hA hD
              refine stepOk_plain rfl ?_
              intro K hK
              gi_wp2
              exact hK _ _ rfl ((fun _ => Below.refl _ _) _)
            · -- 1
              intro a' w' hA hC hD
              have s9 : a'.tmps[9]? = some _ := (hA.at 9 (by kernel_rfl)).trans rfl
              have hx_ := (hC.block _ (HS.out.lt 0 rfl)).trans (HS.out.blockAt 0 rfl); have c0 := cell_of_block (k := 0) (v := .int .u64 t) hx_ rfl; have c1 := cell_of_block (k := 1) (v := .int .i64 s) hx_ rfl; have c2 := cell_of_block (k := 2) (v := .int .u64 q) hx_ rfl; clear hx_
              clear hA hD
              refine stepOk_plain rfl ?_
              intro K hK
              gi_wp2
              exact hK _ _ rfl ((fun _ => Below.refl _ _) _)
            · -- 2
              intro a' w' hA hC hD
              obtain ⟨u58, s58, r58⟩ := hD ⟨0, .data⟩ (by simp) rfl _ rfl
              replace r58 : u58 = _ := r58
              subst r58
              obtain ⟨u59, s59, r59⟩ := hD ⟨1, .data⟩ (by simp) rfl _ rfl
              replace r59 : u59 = _ := r59
              subst r59
              clear hA hD
              refine stepOk_plain rfl ?_
              intro K hK
              gi_wp2_with fail; refine (callsIn_wide.2 (has_any v ⟨t, s, q⟩ _)).mono ?_; rintro e w2 ⟨rfl, hb⟩; rw [Hhas.out]
              exact hK _ _ rfl hb
            · -- 3
              intro a' w' hA hC hD
              have s10 : a'.tmps[10]? = some _ := (hA.at 10 (by kernel_rfl)).trans rfl
              clear hA hD
              refine stepOk_plain rfl ?_
              intro K hK
              gi_wp2
              exact hK _ _ rfl ((fun _ => Below.refl _ _) _)
            · -- 4
              intro a' w' hA hC hD
              obtain ⟨u61, s61, r61⟩ := hD ⟨3, .data⟩ (by simp) rfl _ rfl
              replace r61 : u61 = _ := r61
              subst r61
              clear hA hD
              refine stepOk_plain rfl ?_
              intro K hK
              gi_wp2
              exact hK _ _ rfl ((fun _ => Below.refl _ _) _)
            · -- 5
              intro a' w' hA hC hD
              have s9 : a'.tmps[9]? = some _ := (hA.at 9 (by kernel_rfl)).trans rfl
              obtain ⟨u62, s62, r62⟩ := hD ⟨4, .guard⟩ (by simp) rfl _ rfl
              replace r62 : u62 = _ := r62
              subst r62
              clear hA hD
              exact stepOk_skip rfl rfl s62 rfl
            · -- 6
              intro a' w' hA hC hD
              obtain ⟨u63, s63, r63⟩ := hD ⟨5, .data⟩ (by simp) rfl _ rfl
              replace r63 : u63 = undef := r63
              subst r63
              obtain ⟨u62, s62, r62⟩ := hD ⟨4, .guard⟩ (by simp) rfl _ rfl
              replace r62 : u62 = _ := r62
              subst r62
              clear hA hD
              exact stepOk_skip rfl rfl s62 rfl
            · -- 7
              intro a' w' hA hC hD
              have s9 : a'.tmps[9]? = some _ := (hA.at 9 (by kernel_rfl)).trans rfl
              obtain ⟨u62, s62, r62⟩ := hD ⟨4, .guard⟩ (by simp) rfl _ rfl
              replace r62 : u62 = _ := r62
              subst r62
              clear hA hD
              exact stepOk_skip rfl rfl s62 rfl
            · -- 8
              intro a' w' hA hC hD
              obtain ⟨u65, s65, r65⟩ := hD ⟨7, .data⟩ (by simp) rfl _ rfl
              replace r65 : u65 = undef := r65
              subst r65
              obtain ⟨u62, s62, r62⟩ := hD ⟨4, .guard⟩ (by simp) rfl _ rfl
              replace r62 : u62 = _ := r62
              subst r62
              clear hA hD
              exact stepOk_skip rfl rfl s62 rfl
            · -- 9
              intro a' w' hA hC hD
              have s2 : a'.tmps[2]? = some _ := (hA.at 2 (by kernel_rfl)).trans rfl
              obtain ⟨u66, s66, r66⟩ := hD ⟨8, .data⟩ (by simp) rfl _ rfl
              replace r66 : u66 = undef := r66
              subst r66
              obtain ⟨u62, s62, r62⟩ := hD ⟨4, .guard⟩ (by simp) rfl _ rfl
              replace r62 : u62 = _ := r62
              subst r62
              clear hA hD
              exact stepOk_skip rfl rfl s62 rfl
            · -- 10
              intro a' w' hA hC hD
              obtain ⟨u67, s67, r67⟩ := hD ⟨9, .data⟩ (by simp) rfl _ rfl
              replace r67 : u67 = undef := r67
              subst r67
              obtain ⟨u62, s62, r62⟩ := hD ⟨4, .guard⟩ (by simp) rfl _ rfl
              replace r62 : u62 = _ := r62
              subst r62
              clear hA hD
              exact stepOk_skip rfl rfl s62 rfl
            · -- 11
              intro a' w' hA hC hD
              obtain ⟨u64, s64, r64⟩ := hD ⟨6, .data⟩ (by simp) rfl _ rfl
              replace r64 : u64 = undef := r64
              subst r64
              obtain ⟨u68, s68, r68⟩ := hD ⟨10, .data⟩ (by simp) rfl _ rfl
              replace r68 : u68 = undef := r68
              subst r68
              obtain ⟨u62, s62, r62⟩ := hD ⟨4, .guard⟩ (by simp) rfl _ rfl
              replace r62 : u62 = _ := r62
              subst r62
              clear hA hD
              exact stepOk_skip rfl rfl s62 rfl
            · -- 12
              intro a' w' hA hC hD
              obtain ⟨u62, s62, r62⟩ := hD ⟨4, .data⟩ (by simp) rfl _ rfl
              replace r62 : u62 = _ := r62
              subst r62
              obtain ⟨u69, s69, r69⟩ := hD ⟨11, .data⟩ (by simp) rfl _ rfl
              replace r69 : u69 = undef := r69
              subst r69
              clear hA hD
              refine stepOk_plain rfl ?_
              intro K hK
              gi_wp2
              exact hK _ _ rfl ((fun _ => Below.refl _ _) _)
            · -- 13
              intro a' w' hA hC hD
              obtain ⟨u60, s60, r60⟩ := hD ⟨2, .data⟩ (by simp) rfl _ rfl
              replace r60 : u60 = _ := r60
              subst r60
              obtain ⟨u70, s70, r70⟩ := hD ⟨12, .data⟩ (by simp) rfl _ rfl
              replace r70 : u70 = _ := r70
              subst r70
              clear hA hD
              refine stepOk_plain rfl ?_
              intro K hK
              gi_wp2
              try simp only [bne_self_eq_false]
              exact hK _ _ rfl ((fun _ => Below.refl _ _) _)
            · -- 14
              intro a' w' hA hC hD
              obtain ⟨u71, s71, r71⟩ := hD ⟨13, .data⟩ (by simp) rfl _ rfl
              replace r71 : u71 = _ := r71
              subst r71
              clear hA hD
              refine stepOk_plain rfl ?_
              intro K hK
              gi_wp2
              exact hK _ _ rfl ((fun _ => Below.refl _ _) _)
            · -- 15
              intro a' w' hA hC hD
              have s2 : a'.tmps[2]? = some _ := (hA.at 2 (by kernel_rfl)).trans rfl
              obtain ⟨u72, s72, r72⟩ := hD ⟨14, .guard⟩ (by simp) rfl _ rfl
              replace r72 : u72 = _ := r72
              subst r72
              obtain ⟨b0, b1, b2, b3, b4, b5, b6, b7, b8⟩ := vec9 ((hC.block _ (HS.out.lt 3 rfl)).trans (HS.out.blockAt 3 rfl))
              clear hA hD
              refine stepOk_want rfl rfl s72 ?_
              intro K hK
              gi_wp2
              exact hK _ _ rfl ((fun _ => Below.refl _ _) _)
            · -- 16
              intro a' w' hA hC hD
              have s9 : a'.tmps[9]? = some _ := (hA.at 9 (by kernel_rfl)).trans rfl
              obtain ⟨u72, s72, r72⟩ := hD ⟨14, .guard⟩ (by simp) rfl _ rfl
              replace r72 : u72 = _ := r72
              subst r72
              have hx_ := (hC.block _ (HS.out.lt 0 rfl)).trans (HS.out.blockAt 0 rfl); have c0 := cell_of_block (k := 0) (v := .int .u64 t) hx_ rfl; have c1 := cell_of_block (k := 1) (v := .int .i64 s) hx_ rfl; have c2 := cell_of_block (k := 2) (v := .int .u64 q) hx_ rfl; clear hx_
              clear hA hD
              refine stepOk_want rfl rfl s72 ?_
              intro K hK
              gi_wp2
              exact hK _ _ rfl ((fun _ => Below.refl _ _) _)
            · -- 17
              intro a' w' hA hC hD
              obtain ⟨u73, s73, r73⟩ := hD ⟨15, .data⟩ (by simp) rfl _ rfl
              replace r73 : u73 = _ := r73
              subst r73
              obtain ⟨u74, s74, r74⟩ := hD ⟨16, .data⟩ (by simp) rfl _ rfl
              replace r74 : u74 = _ := r74
              subst r74
              obtain ⟨u72, s72, r72⟩ := hD ⟨14, .chain⟩ (by simp) rfl _ rfl
              replace r72 : u72 = _ := r72
              subst r72
              clear hA hD
              refine stepOk_want rfl rfl s72 ?_
              intro K hK
              gi_wp2_with fail; refine (callsIn_wide.2 (next_any v Hv0.out ⟨t, s, q⟩ _)).mono ?_; rintro e w2 ⟨rfl, hb⟩; rw [Hnx.out]
              exact hK _ _ rfl hb
            · -- 18
              intro a' w' hA hC hD
              have s10 : a'.tmps[10]? = some _ := (hA.at 10 (by kernel_rfl)).trans rfl
              obtain ⟨u72, s72, r72⟩ := hD ⟨14, .guard⟩ (by simp) rfl _ rfl
              replace r72 : u72 = _ := r72
              subst r72
              clear hA hD
              refine stepOk_want rfl rfl s72 ?_
              intro K hK
              gi_wp2
              exact hK _ _ rfl ((fun _ => Below.refl _ _) _)
            · -- 19
              intro a' w' hA hC hD
              obtain ⟨u76, s76, r76⟩ := hD ⟨18, .data⟩ (by simp) rfl _ rfl
              replace r76 : u76 = _ := r76
              subst r76
              obtain ⟨u72, s72, r72⟩ := hD ⟨14, .guard⟩ (by simp) rfl _ rfl
              replace r72 : u72 = _ := r72
              subst r72
              clear hA hD
              refine stepOk_want rfl rfl s72 ?_
              intro K hK
              gi_wp2
              exact hK _ _ rfl ((fun _ => Below.refl _ _) _)
            · -- 20
              intro a' w' hA hC hD
              have s9 : a'.tmps[9]? = some _ := (hA.at 9 (by kernel_rfl)).trans rfl
              obtain ⟨u77, s77, r77⟩ := hD ⟨19, .guard⟩ (by simp) rfl _ rfl
              replace r77 : u77 = _ := r77
              subst r77
              clear hA hD
              exact stepOk_skip rfl rfl s77 rfl
            · -- 21
              intro a' w' hA hC hD
              obtain ⟨u78, s78, r78⟩ := hD ⟨20, .data⟩ (by simp) rfl _ rfl
              replace r78 : u78 = undef := r78
              subst r78
              obtain ⟨u77, s77, r77⟩ := hD ⟨19, .guard⟩ (by simp) rfl _ rfl
              replace r77 : u77 = _ := r77
              subst r77
              clear hA hD
              exact stepOk_skip rfl rfl s77 rfl
            · -- 22
              intro a' w' hA hC hD
              have s9 : a'.tmps[9]? = some _ := (hA.at 9 (by kernel_rfl)).trans rfl
              obtain ⟨u77, s77, r77⟩ := hD ⟨19, .guard⟩ (by simp) rfl _ rfl
              replace r77 : u77 = _ := r77
              subst r77
              clear hA hD
              exact stepOk_skip rfl rfl s77 rfl
            · -- 23
              intro a' w' hA hC hD
              obtain ⟨u80, s80, r80⟩ := hD ⟨22, .data⟩ (by simp) rfl _ rfl
              replace r80 : u80 = undef := r80
              subst r80
              obtain ⟨u77, s77, r77⟩ := hD ⟨19, .guard⟩ (by simp) rfl _ rfl
              replace r77 : u77 = _ := r77
              subst r77
              clear hA hD
              exact stepOk_skip rfl rfl s77 rfl
            · -- 24
              intro a' w' hA hC hD
              have s2 : a'.tmps[2]? = some _ := (hA.at 2 (by kernel_rfl)).trans rfl
              obtain ⟨u81, s81, r81⟩ := hD ⟨23, .data⟩ (by simp) rfl _ rfl
              replace r81 : u81 = undef := r81
              subst r81
              obtain ⟨u77, s77, r77⟩ := hD ⟨19, .guard⟩ (by simp) rfl _ rfl
              replace r77 : u77 = _ := r77
              subst r77
              clear hA hD
              exact stepOk_skip rfl rfl s77 rfl
            · -- 25
              intro a' w' hA hC hD
              obtain ⟨u82, s82, r82⟩ := hD ⟨24, .data⟩ (by simp) rfl _ rfl
              replace r82 : u82 = undef := r82
              subst r82
              obtain ⟨u77, s77, r77⟩ := hD ⟨19, .guard⟩ (by simp) rfl _ rfl
              replace r77 : u77 = _ := r77
              subst r77
              clear hA hD
              exact stepOk_skip rfl rfl s77 rfl
            · -- 26
              intro a' w' hA hC hD
              obtain ⟨u83, s83, r83⟩ := hD ⟨25, .data⟩ (by simp) rfl _ rfl
              replace r83 : u83 = undef := r83
              subst r83
              obtain ⟨u77, s77, r77⟩ := hD ⟨19, .guard⟩ (by simp) rfl _ rfl
              replace r77 : u77 = _ := r77
              subst r77
              clear hA hD
              exact stepOk_skip rfl rfl s77 rfl
            · -- 27
              intro a' w' hA hC hD
              obtain ⟨u79, s79, r79⟩ := hD ⟨21, .data⟩ (by simp) rfl _ rfl
              replace r79 : u79 = undef := r79
              subst r79
              obtain ⟨u84, s84, r84⟩ := hD ⟨26, .data⟩ (by simp) rfl _ rfl
              replace r84 : u84 = undef := r84
              subst r84
              obtain ⟨u77, s77, r77⟩ := hD ⟨19, .guard⟩ (by simp) rfl _ rfl
              replace r77 : u77 = _ := r77
              subst r77
              clear hA hD
              exact stepOk_skip rfl rfl s77 rfl
            · -- 28
              intro a' w' hA hC hD
              obtain ⟨u77, s77, r77⟩ := hD ⟨19, .data⟩ (by simp) rfl _ rfl
              replace r77 : u77 = _ := r77
              subst r77
              obtain ⟨u85, s85, r85⟩ := hD ⟨27, .data⟩ (by simp) rfl _ rfl
              replace r85 : u85 = undef := r85
              subst r85
              obtain ⟨u72, s72, r72⟩ := hD ⟨14, .guard⟩ (by simp) rfl _ rfl
              replace r72 : u72 = _ := r72
              subst r72
              clear hA hD
              refine stepOk_want rfl rfl s72 ?_
              intro K hK
              gi_wp2
              exact hK _ _ rfl ((fun _ => Below.refl _ _) _)
            · -- 29
              intro a' w' hA hC hD
              obtain ⟨u75, s75, r75⟩ := hD ⟨17, .data⟩ (by simp) rfl _ rfl
              replace r75 : u75 = _ := r75
              subst r75
              obtain ⟨u86, s86, r86⟩ := hD ⟨28, .data⟩ (by simp) rfl _ rfl
              replace r86 : u86 = _ := r86
              subst r86
              obtain ⟨u72, s72, r72⟩ := hD ⟨14, .guard⟩ (by simp) rfl _ rfl
              replace r72 : u72 = _ := r72
              subst r72
              clear hA hD
              refine stepOk_want rfl rfl s72 ?_
              intro K hK
              gi_wp2
              try simp only [bne_self_eq_false]
              exact hK _ _ rfl ((fun _ => Below.refl _ _) _)
            · -- 30
              intro a' w' hA hC hD
              obtain ⟨u72, s72, r72⟩ := hD ⟨14, .data⟩ (by simp) rfl _ rfl
              replace r72 : u72 = _ := r72
              subst r72
              obtain ⟨u87, s87, r87⟩ := hD ⟨29, .data⟩ (by simp) rfl _ rfl
              replace r87 : u87 = _ := r87
              subst r87
              clear hA hD
              refine stepOk_plain rfl ?_
              intro K hK
              gi_wp2
              exact hK _ _ rfl ((fun _ => Below.refl _ _) _)
          case' hend =>
            intro w6 hC
            simp only [EndFrom, eqv, forall_eq, Act.put, List.length_cons, List.length_nil, List.drop_succ_cons, List.drop_zero, Nat.reduceAdd, List.setIfInBounds_toArray, List.set_cons_succ, List.set_cons_zero]
        case' true =>
          obtain ⟨_, ⟨hs1, hs2⟩, hq1, hq2⟩ := (idOk_iff _).1 hid
          dsimp only at hs1 hs2
          clear hq1 hq2
          have Hid := Lib.hid hid
          clear hid
          obtain ⟨sN, hsN⟩ := Int.eq_ofNat_of_zero_le (show 0 ≤ s by omega)
          have hs9 : sN < 9 := by omega
          have hs1' : 1 ≤ sN := by omega
          have Hb1 := Lib.hid (show v sN ≤ 4611686018427387904 by have := ((vecOk_iff v).1 Hok.out).2 sN hs1' hs9; unfold MaxT at this; exact this)
          have hbo : bothOk v ⟨t, s, q⟩ = true := by unfold bothOk; rw [Hok.out, Hid.out]; rfl
          have hhas := hasB_is hbo
          have hnx := nextB_is hbo
          dsimp only at hhas hnx
          rw [show s.toNat = sN from by omega, hsN] at hhas hnx
          have Hhas := Lib.hid hhas
          have Hnx := Lib.hid hnx
          have HsN := Lib.hid hsN
          clear hs1 hs2 hbo hhas hnx hs1'
          have HS' := HS.out
          rw [hsN] at HS' ⊢
          clear HS hsN
          have HS := Lib.hid HS'
          clear HS'
          go_wp2_with fail
          refine (wpIn_wide (n := 0)).1 ?_
          apply wp_region_vals 31 (Rl := [(eqv _), (eqv _), (eqv _), (eqv _), (eqv _), (eqv _), (eqv _), (eqv _), (eqv _), (eqv _), (eqv _), (eqv _), (eqv _), (eqv _), (eqv _), (eqv _), (eqv _), (eqv _), (eqv _), (eqv _), (eqv _), (eqv _), (eqv _), (eqv _), (eqv _), (eqv _), (eqv _), (eqv _), (eqv _), (eqv _), (eqv _)]) (C := (fun x y => Below x.heap.size x y))
          case hm => kernel_rfl
          case hk => rfl
          case hCr => exact (fun _ => Below.refl _ _)
          case hCt => intro _ _ _; exact (fun h k => grows_trans h k)
          case hst => exact ⟨fun _ _ _ _ h => h, fun _ _ _ _ h => h, fun _ _ _ _ h => h, fun _ _ _ _ h => h, fun _ _ _ _ h => h, fun _ _ _ _ h => h, fun _ _ _ _ h => h, fun _ _ _ _ h => h, fun _ _ _ _ h => h, fun _ _ _ _ h => h, fun _ _ _ _ h => h, fun _ _ _ _ h => h, fun _ _ _ _ h => h, fun _ _ _ _ h => h, fun _ _ _ _ h => h, fun _ _ _ _ h => h, fun _ _ _ _ h => h, fun _ _ _ _ h => h, fun _ _ _ _ h => h, fun _ _ _ _ h => h, fun _ _ _ _ h => h, fun _ _ _ _ h => h, fun _ _ _ _ h => h, fun _ _ _ _ h => h, fun _ _ _ _ h => h, fun _ _ _ _ h => h, fun _ _ _ _ h => h, fun _ _ _ _ h => h, fun _ _ _ _ h => h, fun _ _ _ _ h => h, fun _ _ _ _ h => h, trivial⟩
          case hfo => kernel_rfl
          case ht => kernel_rfl
          case hC0 => exact (grows_drew _)
          case hsteps =>
            refine ⟨?_, ?_, ?_, ?_, ?_, ?_, ?_, ?_, ?_, ?_, ?_, ?_, ?_, ?_, ?_, ?_, ?_, ?_, ?_, ?_, ?_, ?_, ?_, ?_, ?_, ?_, ?_, ?_, ?_, ?_, ?_, trivial⟩
            · -- 0
              intro a' w' hA hC hD
              have s2 : a'.tmps[2]? = some _ := (hA.at 2 (by kernel_rfl)).trans rfl
              obtain ⟨b0, b1, b2, b3, b4, b5, b6, b7, b8⟩ := vec9 ((hC.block _ (HS.out.lt 3 rfl)).trans (HS.out.blockAt 3 rfl))
              clear hA hD
              refine stepOk_plain rfl ?_
              intro K hK
              gi_wp2
              exact hK _ _ rfl ((fun _ => Below.refl _ _) _)
            · -- 1
              intro a' w' hA hC hD
              have s9 : a'.tmps[9]? = some _ := (hA.at 9 (by kernel_rfl)).trans rfl
              have hx_ := (hC.block _ (HS.out.lt 0 rfl)).trans (HS.out.blockAt 0 rfl); have c0 := cell_of_block (k := 0) (v := .int .u64 t) hx_ rfl; have c1 := cell_of_block (k := 1) (v := .int .i64 sN) hx_ rfl; have c2 := cell_of_block (k := 2) (v := .int .u64 q) hx_ rfl; clear hx_
              clear hA hD
              refine stepOk_plain rfl ?_
              intro K hK
              gi_wp2
              exact hK _ _ rfl ((fun _ => Below.refl _ _) _)
            · -- 2
              intro a' w' hA hC hD
              obtain ⟨u58, s58, r58⟩ := hD ⟨0, .data⟩ (by simp) rfl _ rfl
              replace r58 : u58 = _ := r58
              subst r58
              obtain ⟨u59, s59, r59⟩ := hD ⟨1, .data⟩ (by simp) rfl _ rfl
              replace r59 : u59 = _ := r59
              subst r59
              clear hA hD
              refine stepOk_plain rfl ?_
              intro K hK
              gi_wp2_with fail; refine (callsIn_wide.2 (has_any v ⟨t, sN, q⟩ _)).mono ?_; rintro e w2 ⟨rfl, hb⟩; rw [Hhas.out]
              exact hK _ _ rfl hb
            · -- 3
              intro a' w' hA hC hD
              have s10 : a'.tmps[10]? = some _ := (hA.at 10 (by kernel_rfl)).trans rfl
              clear hA hD
              refine stepOk_plain rfl ?_
              intro K hK
              gi_wp2
              exact hK _ _ rfl ((fun _ => Below.refl _ _) _)
            · -- 4
              intro a' w' hA hC hD
              obtain ⟨u61, s61, r61⟩ := hD ⟨3, .data⟩ (by simp) rfl _ rfl
              replace r61 : u61 = _ := r61
              subst r61
              clear hA hD
              refine stepOk_plain rfl ?_
              intro K hK
              gi_wp2
              exact hK _ _ rfl ((fun _ => Below.refl _ _) _)
            · -- 5
              intro a' w' hA hC hD
              have s9 : a'.tmps[9]? = some _ := (hA.at 9 (by kernel_rfl)).trans rfl
              obtain ⟨u62, s62, r62⟩ := hD ⟨4, .guard⟩ (by simp) rfl _ rfl
              replace r62 : u62 = _ := r62
              subst r62
              clear hA hD
              refine stepOk_want rfl rfl s62 ?_
              intro K hK
              gi_wp2
              exact hK _ _ rfl ((fun _ => Below.refl _ _) _)
            · -- 6
              intro a' w' hA hC hD
              obtain ⟨u63, s63, r63⟩ := hD ⟨5, .data⟩ (by simp) rfl _ rfl
              replace r63 : u63 = _ := r63
              subst r63
              obtain ⟨u62, s62, r62⟩ := hD ⟨4, .guard⟩ (by simp) rfl _ rfl
              replace r62 : u62 = _ := r62
              subst r62
              have hx_ := (hC.block _ (HS.out.lt 0 rfl)).trans (HS.out.blockAt 0 rfl); have c0 := cell_of_block (k := 0) (v := .int .u64 t) hx_ rfl; have c1 := cell_of_block (k := 1) (v := .int .i64 sN) hx_ rfl; have c2 := cell_of_block (k := 2) (v := .int .u64 q) hx_ rfl; clear hx_
              clear hA hD
              refine stepOk_want rfl rfl s62 ?_
              intro K hK
              gi_wp2
              exact hK _ _ rfl ((fun _ => Below.refl _ _) _)
            · -- 7
              intro a' w' hA hC hD
              have s9 : a'.tmps[9]? = some _ := (hA.at 9 (by kernel_rfl)).trans rfl
              obtain ⟨u62, s62, r62⟩ := hD ⟨4, .guard⟩ (by simp) rfl _ rfl
              replace r62 : u62 = _ := r62
              subst r62
              clear hA hD
              refine stepOk_want rfl rfl s62 ?_
              intro K hK
              gi_wp2
              exact hK _ _ rfl ((fun _ => Below.refl _ _) _)
            · -- 8
              intro a' w' hA hC hD
              obtain ⟨u65, s65, r65⟩ := hD ⟨7, .data⟩ (by simp) rfl _ rfl
              replace r65 : u65 = _ := r65
              subst r65
              obtain ⟨u62, s62, r62⟩ := hD ⟨4, .guard⟩ (by simp) rfl _ rfl
              replace r62 : u62 = _ := r62
              subst r62
              have hx_ := (hC.block _ (HS.out.lt 0 rfl)).trans (HS.out.blockAt 0 rfl); have c0 := cell_of_block (k := 0) (v := .int .u64 t) hx_ rfl; have c1 := cell_of_block (k := 1) (v := .int .i64 sN) hx_ rfl; have c2 := cell_of_block (k := 2) (v := .int .u64 q) hx_ rfl; clear hx_
              clear hA hD
              refine stepOk_want rfl rfl s62 ?_
              intro K hK
              gi_wp2
              exact hK _ _ rfl ((fun _ => Below.refl _ _) _)
            · -- 9
              intro a' w' hA hC hD
              have s2 : a'.tmps[2]? = some _ := (hA.at 2 (by kernel_rfl)).trans rfl
              obtain ⟨u66, s66, r66⟩ := hD ⟨8, .data⟩ (by simp) rfl _ rfl
              replace r66 : u66 = _ := r66
              subst r66
              obtain ⟨u62, s62, r62⟩ := hD ⟨4, .guard⟩ (by simp) rfl _ rfl
              replace r62 : u62 = _ := r62
              subst r62
              clear hA hD
              refine stepOk_want rfl rfl s62 ?_
              intro K hK
              gi_wp2
              exact hK _ _ rfl ((fun _ => Below.refl _ _) _)
            · -- 10
              intro a' w' hA hC hD
              obtain ⟨u67, s67, r67⟩ := hD ⟨9, .data⟩ (by simp) rfl _ rfl
              replace r67 : u67 = _ := r67
              subst r67
              obtain ⟨u62, s62, r62⟩ := hD ⟨4, .guard⟩ (by simp) rfl _ rfl
              replace r62 : u62 = _ := r62
              subst r62
              have c9 := heap9_get ((hC.block _ (HS.out.lt 3 rfl)).trans (HS.out.blockAt 3 rfl)) hs9
              clear hA hD
              refine stepOk_want rfl rfl s62 ?_
              intro K hK
              gi_wp2
              exact hK _ _ rfl ((fun _ => Below.refl _ _) _)
            · -- 11
              intro a' w' hA hC hD
              obtain ⟨u64, s64, r64⟩ := hD ⟨6, .data⟩ (by simp) rfl _ rfl
              replace r64 : u64 = _ := r64
              subst r64
              obtain ⟨u68, s68, r68⟩ := hD ⟨10, .data⟩ (by simp) rfl _ rfl
              replace r68 : u68 = _ := r68
              subst r68
              obtain ⟨u62, s62, r62⟩ := hD ⟨4, .guard⟩ (by simp) rfl _ rfl
              replace r62 : u62 = _ := r62
              subst r62
              clear hA hD
              refine stepOk_want rfl rfl s62 ?_
              intro K hK
              gi_wp2
              exact hK _ _ rfl ((fun _ => Below.refl _ _) _)
            · -- 12
              intro a' w' hA hC hD
              obtain ⟨u62, s62, r62⟩ := hD ⟨4, .data⟩ (by simp) rfl _ rfl
              replace r62 : u62 = _ := r62
              subst r62
              obtain ⟨u69, s69, r69⟩ := hD ⟨11, .data⟩ (by simp) rfl _ rfl
              replace r69 : u69 = _ := r69
              subst r69
              clear hA hD
              refine stepOk_plain rfl ?_
              intro K hK
              gi_wp2
              exact hK _ _ rfl ((fun _ => Below.refl _ _) _)
            · -- 13
              intro a' w' hA hC hD
              obtain ⟨u60, s60, r60⟩ := hD ⟨2, .data⟩ (by simp) rfl _ rfl
              replace r60 : u60 = _ := r60
              subst r60
              obtain ⟨u70, s70, r70⟩ := hD ⟨12, .data⟩ (by simp) rfl _ rfl
              replace r70 : u70 = _ := r70
              subst r70
              clear hA hD
              refine stepOk_plain rfl ?_
              intro K hK
              gi_wp2
              try simp only [bne_self_eq_false]
              exact hK _ _ rfl ((fun _ => Below.refl _ _) _)
            · -- 14
              intro a' w' hA hC hD
              obtain ⟨u71, s71, r71⟩ := hD ⟨13, .data⟩ (by simp) rfl _ rfl
              replace r71 : u71 = _ := r71
              subst r71
              clear hA hD
              refine stepOk_plain rfl ?_
              intro K hK
              gi_wp2
              exact hK _ _ rfl ((fun _ => Below.refl _ _) _)
            · -- 15
              intro a' w' hA hC hD
              have s2 : a'.tmps[2]? = some _ := (hA.at 2 (by kernel_rfl)).trans rfl
              obtain ⟨u72, s72, r72⟩ := hD ⟨14, .guard⟩ (by simp) rfl _ rfl
              replace r72 : u72 = _ := r72
              subst r72
              obtain ⟨b0, b1, b2, b3, b4, b5, b6, b7, b8⟩ := vec9 ((hC.block _ (HS.out.lt 3 rfl)).trans (HS.out.blockAt 3 rfl))
              clear hA hD
              refine stepOk_want rfl rfl s72 ?_
              intro K hK
              gi_wp2
              exact hK _ _ rfl ((fun _ => Below.refl _ _) _)
            · -- 16
              intro a' w' hA hC hD
              have s9 : a'.tmps[9]? = some _ := (hA.at 9 (by kernel_rfl)).trans rfl
              obtain ⟨u72, s72, r72⟩ := hD ⟨14, .guard⟩ (by simp) rfl _ rfl
              replace r72 : u72 = _ := r72
              subst r72
              have hx_ := (hC.block _ (HS.out.lt 0 rfl)).trans (HS.out.blockAt 0 rfl); have c0 := cell_of_block (k := 0) (v := .int .u64 t) hx_ rfl; have c1 := cell_of_block (k := 1) (v := .int .i64 sN) hx_ rfl; have c2 := cell_of_block (k := 2) (v := .int .u64 q) hx_ rfl; clear hx_
              clear hA hD
              refine stepOk_want rfl rfl s72 ?_
              intro K hK
              gi_wp2
              exact hK _ _ rfl ((fun _ => Below.refl _ _) _)
            · -- 17
              intro a' w' hA hC hD
              obtain ⟨u73, s73, r73⟩ := hD ⟨15, .data⟩ (by simp) rfl _ rfl
              replace r73 : u73 = _ := r73
              subst r73
              obtain ⟨u74, s74, r74⟩ := hD ⟨16, .data⟩ (by simp) rfl _ rfl
              replace r74 : u74 = _ := r74
              subst r74
              obtain ⟨u72, s72, r72⟩ := hD ⟨14, .chain⟩ (by simp) rfl _ rfl
              replace r72 : u72 = _ := r72
              subst r72
              clear hA hD
              refine stepOk_want rfl rfl s72 ?_
              intro K hK
              gi_wp2_with fail; refine (callsIn_wide.2 (next_any v Hv0.out ⟨t, sN, q⟩ _)).mono ?_; rintro e w2 ⟨rfl, hb⟩; rw [Hnx.out]
              exact hK _ _ rfl hb
            · -- 18
              intro a' w' hA hC hD
              have s10 : a'.tmps[10]? = some _ := (hA.at 10 (by kernel_rfl)).trans rfl
              obtain ⟨u72, s72, r72⟩ := hD ⟨14, .guard⟩ (by simp) rfl _ rfl
              replace r72 : u72 = _ := r72
              subst r72
              clear hA hD
              refine stepOk_want rfl rfl s72 ?_
              intro K hK
              gi_wp2
              exact hK _ _ rfl ((fun _ => Below.refl _ _) _)
            · -- 19
              intro a' w' hA hC hD
              obtain ⟨u76, s76, r76⟩ := hD ⟨18, .data⟩ (by simp) rfl _ rfl
              replace r76 : u76 = _ := r76
              subst r76
              obtain ⟨u72, s72, r72⟩ := hD ⟨14, .guard⟩ (by simp) rfl _ rfl
              replace r72 : u72 = _ := r72
              subst r72
              clear hA hD
              refine stepOk_want rfl rfl s72 ?_
              intro K hK
              gi_wp2
              exact hK _ _ rfl ((fun _ => Below.refl _ _) _)
            · -- 20
              intro a' w' hA hC hD
              have s9 : a'.tmps[9]? = some _ := (hA.at 9 (by kernel_rfl)).trans rfl
              obtain ⟨u77, s77, r77⟩ := hD ⟨19, .guard⟩ (by simp) rfl _ rfl
              replace r77 : u77 = _ := r77
              subst r77
              clear hA hD
              refine stepOk_want rfl rfl s77 ?_
              intro K hK
              gi_wp2
              exact hK _ _ rfl ((fun _ => Below.refl _ _) _)
            · -- 21
              intro a' w' hA hC hD
              obtain ⟨u78, s78, r78⟩ := hD ⟨20, .data⟩ (by simp) rfl _ rfl
              replace r78 : u78 = _ := r78
              subst r78
              obtain ⟨u77, s77, r77⟩ := hD ⟨19, .guard⟩ (by simp) rfl _ rfl
              replace r77 : u77 = _ := r77
              subst r77
              have hx_ := (hC.block _ (HS.out.lt 0 rfl)).trans (HS.out.blockAt 0 rfl); have c0 := cell_of_block (k := 0) (v := .int .u64 t) hx_ rfl; have c1 := cell_of_block (k := 1) (v := .int .i64 sN) hx_ rfl; have c2 := cell_of_block (k := 2) (v := .int .u64 q) hx_ rfl; clear hx_
              clear hA hD
              refine stepOk_want rfl rfl s77 ?_
              intro K hK
              gi_wp2
              exact hK _ _ rfl ((fun _ => Below.refl _ _) _)
            · -- 22
              intro a' w' hA hC hD
              have s9 : a'.tmps[9]? = some _ := (hA.at 9 (by kernel_rfl)).trans rfl
              obtain ⟨u77, s77, r77⟩ := hD ⟨19, .guard⟩ (by simp) rfl _ rfl
              replace r77 : u77 = _ := r77
              subst r77
              clear hA hD
              refine stepOk_want rfl rfl s77 ?_
              intro K hK
              gi_wp2
              exact hK _ _ rfl ((fun _ => Below.refl _ _) _)
            · -- 23
              intro a' w' hA hC hD
              obtain ⟨u80, s80, r80⟩ := hD ⟨22, .data⟩ (by simp) rfl _ rfl
              replace r80 : u80 = _ := r80
              subst r80
              obtain ⟨u77, s77, r77⟩ := hD ⟨19, .guard⟩ (by simp) rfl _ rfl
              replace r77 : u77 = _ := r77
              subst r77
              have hx_ := (hC.block _ (HS.out.lt 0 rfl)).trans (HS.out.blockAt 0 rfl); have c0 := cell_of_block (k := 0) (v := .int .u64 t) hx_ rfl; have c1 := cell_of_block (k := 1) (v := .int .i64 sN) hx_ rfl; have c2 := cell_of_block (k := 2) (v := .int .u64 q) hx_ rfl; clear hx_
              clear hA hD
              refine stepOk_want rfl rfl s77 ?_
              intro K hK
              gi_wp2
              exact hK _ _ rfl ((fun _ => Below.refl _ _) _)
            · -- 24
              intro a' w' hA hC hD
              have s2 : a'.tmps[2]? = some _ := (hA.at 2 (by kernel_rfl)).trans rfl
              obtain ⟨u81, s81, r81⟩ := hD ⟨23, .data⟩ (by simp) rfl _ rfl
              replace r81 : u81 = _ := r81
              subst r81
              obtain ⟨u77, s77, r77⟩ := hD ⟨19, .guard⟩ (by simp) rfl _ rfl
              replace r77 : u77 = _ := r77
              subst r77
              clear hA hD
              refine stepOk_want rfl rfl s77 ?_
              intro K hK
              gi_wp2
              exact hK _ _ rfl ((fun _ => Below.refl _ _) _)
            · -- 25
              intro a' w' hA hC hD
              obtain ⟨u82, s82, r82⟩ := hD ⟨24, .data⟩ (by simp) rfl _ rfl
              replace r82 : u82 = _ := r82
              subst r82
              obtain ⟨u77, s77, r77⟩ := hD ⟨19, .guard⟩ (by simp) rfl _ rfl
              replace r77 : u77 = _ := r77
              subst r77
              have c9 := heap9_get ((hC.block _ (HS.out.lt 3 rfl)).trans (HS.out.blockAt 3 rfl)) hs9
              clear hA hD
              refine stepOk_want rfl rfl s77 ?_
              intro K hK
              gi_wp2
              exact hK _ _ rfl ((fun _ => Below.refl _ _) _)
            · -- 26
              intro a' w' hA hC hD
              obtain ⟨u83, s83, r83⟩ := hD ⟨25, .data⟩ (by simp) rfl _ rfl
              replace r83 : u83 = _ := r83
              subst r83
              obtain ⟨u77, s77, r77⟩ := hD ⟨19, .guard⟩ (by simp) rfl _ rfl
              replace r77 : u77 = _ := r77
              subst r77
              have hb1 := Hb1.out; have hb0 := Hv0.out sN
              clear hA hD
              refine stepOk_want rfl rfl s77 ?_
              intro K hK
              gi_wp2
              exact hK _ _ rfl ((fun _ => Below.refl _ _) _)
            · -- 27
              intro a' w' hA hC hD
              obtain ⟨u79, s79, r79⟩ := hD ⟨21, .data⟩ (by simp) rfl _ rfl
              replace r79 : u79 = _ := r79
              subst r79
              obtain ⟨u84, s84, r84⟩ := hD ⟨26, .data⟩ (by simp) rfl _ rfl
              replace r84 : u84 = _ := r84
              subst r84
              obtain ⟨u77, s77, r77⟩ := hD ⟨19, .guard⟩ (by simp) rfl _ rfl
              replace r77 : u77 = _ := r77
              subst r77
              clear hA hD
              refine stepOk_want rfl rfl s77 ?_
              intro K hK
              gi_wp2
              exact hK _ _ rfl ((fun _ => Below.refl _ _) _)
            · -- 28
              intro a' w' hA hC hD
              obtain ⟨u77, s77, r77⟩ := hD ⟨19, .data⟩ (by simp) rfl _ rfl
              replace r77 : u77 = _ := r77
              subst r77
              obtain ⟨u85, s85, r85⟩ := hD ⟨27, .data⟩ (by simp) rfl _ rfl
              replace r85 : u85 = _ := r85
              subst r85
              obtain ⟨u72, s72, r72⟩ := hD ⟨14, .guard⟩ (by simp) rfl _ rfl
              replace r72 : u72 = _ := r72
              subst r72
              clear hA hD
              refine stepOk_want rfl rfl s72 ?_
              intro K hK
              gi_wp2
              exact hK _ _ rfl ((fun _ => Below.refl _ _) _)
            · -- 29
              intro a' w' hA hC hD
              obtain ⟨u75, s75, r75⟩ := hD ⟨17, .data⟩ (by simp) rfl _ rfl
              replace r75 : u75 = _ := r75
              subst r75
              obtain ⟨u86, s86, r86⟩ := hD ⟨28, .data⟩ (by simp) rfl _ rfl
              replace r86 : u86 = _ := r86
              subst r86
              obtain ⟨u72, s72, r72⟩ := hD ⟨14, .guard⟩ (by simp) rfl _ rfl
              replace r72 : u72 = _ := r72
              subst r72
              clear hA hD
              refine stepOk_want rfl rfl s72 ?_
              intro K hK
              gi_wp2
              try simp only [bne_self_eq_false]
              exact hK _ _ rfl ((fun _ => Below.refl _ _) _)
            · -- 30
              intro a' w' hA hC hD
              obtain ⟨u72, s72, r72⟩ := hD ⟨14, .data⟩ (by simp) rfl _ rfl
              replace r72 : u72 = _ := r72
              subst r72
              obtain ⟨u87, s87, r87⟩ := hD ⟨29, .data⟩ (by simp) rfl _ rfl
              replace r87 : u87 = _ := r87
              subst r87
              clear hA hD
              refine stepOk_plain rfl ?_
              intro K hK
              gi_wp2
              exact hK _ _ rfl ((fun _ => Below.refl _ _) _)
          case' hend =>
            intro w6 hC
            simp only [EndFrom, eqv, forall_eq, Act.put, List.length_cons, List.length_nil, List.drop_succ_cons, List.drop_zero, Nat.reduceAdd, List.setIfInBounds_toArray, List.set_cons_succ, List.set_cons_zero]
            have HS' := HS.out
            rw [← HsN.out] at HS' ⊢
            clear HS HsN
            have HS := Lib.hid HS'
            clear HS' Hb1 Hid
        all_goals
          have HS := Lib.hid (HS.out.below hC)
          clear hC Hhas Hnx
          gi_wp2
          obtain ⟨b0, b1, b2, b3, b4, b5, b6, b7, b8⟩ := vec9 (HS.out.blockAt 3 rfl)
          have hx_ := HS.out.blockAt 0 rfl
          have c0 := cell_of_block (k := 0) (v := .int .u64 t) hx_ rfl
          have c1 := cell_of_block (k := 1) (v := .int .i64 s) hx_ rfl
          have c2 := cell_of_block (k := 2) (v := .int .u64 q) hx_ rfl
          clear hx_
          go_wp2_with fail
          refine (with_any v Hv0.out _ 1 (fun _ => ⟨t, s, q⟩) _ (by omega) (elems_one (i := ⟨t, s, q⟩) (World.alloc_heap_new _ _))).mono ?_
          rintro e w7 ⟨rfl, hb⟩
          have HS := Lib.hid (((HS.out.alloc _).below hb).drop1)
          clear hb c0 c1 c2
          clear b0 b1 b2 b3 b4 b5 b6 b7 b8
          obtain ⟨r, hr⟩ : ∃ r, withB v (fun _ => ⟨t, s, q⟩) 1 = r := ⟨_, rfl⟩
          have Hr := Lib.hid hr
          rw [hr, resV_is]
          clear hr
          simp only [vecV, lit9]
          repeat ((fail_if_success (with_reducible refine stop_at (id := 15) ?_)); (first | go_values | go_skip | go_guarded | go_step | go_upon | go_back | (simp only [Int.not_lt, Int.not_le] at *; go_simp) | (go_values <;> (try go_simp)) | (go_ite <;> go_prune <;> (try go_simp)) | (split <;> (first | (rename_i hx; exact (hx _ rfl).elim) | go_prune))))
          obtain ⟨w8, hw_⟩ : ∃ w8 : World, w7.alloc (.cells (lit9 (resVec r)) 24) = w8 := ⟨_, rfl⟩
          have hs_ := HS.out.alloc (.cells (lit9 (resVec r)) 24)
          rw [hw_] at hs_
          have HS := Lib.hid hs_
          simp only [lit9] at hw_
          rw [hw_]
          clear hw_ hs_
          obtain ⟨b0, b1, b2, b3, b4, b5, b6, b7, b8⟩ := vec9 (HS.out.blockAt 4 rfl)
          have hx_ := HS.out.blockAt 1 rfl
          have c0 := cell_of_block (k := 0) (v := .int .u64 t) hx_ rfl
          have c1 := cell_of_block (k := 1) (v := .int .i64 s) hx_ rfl
          have c2 := cell_of_block (k := 2) (v := .int .u64 q) hx_ rfl
          clear hx_
          go_wp2_with fail
          refine (refWith_any v Hv0.out _ 1 (fun _ => ⟨t, s, q⟩) _ (by omega) (elems_one (i := ⟨t, s, q⟩) (World.alloc_heap_new _ _))).mono ?_
          rintro e w9 ⟨rfl, hb⟩
          have HS := Lib.hid (((HS.out.alloc _).below hb).drop1)
          clear hb c0 c1 c2
          clear b0 b1 b2 b3 b4 b5 b6 b7 b8
          rw [Hr.out, resV_is]
          simp only [vecV, lit9]
          repeat ((fail_if_success (with_reducible refine stop_at (id := 16) ?_)); (first | go_values | go_skip | go_guarded | go_step | go_upon | go_back | (simp only [Int.not_lt, Int.not_le] at *; go_simp) | (go_values <;> (try go_simp)) | (go_ite <;> go_prune <;> (try go_simp)) | (split <;> (first | (rename_i hx; exact (hx _ rfl).elim) | go_prune))))
          obtain ⟨w10, hw_⟩ : ∃ w10 : World, w9.alloc (.cells (lit9 (resVec r)) 24) = w10 := ⟨_, rfl⟩
          have hs_ := HS.out.alloc (.cells (lit9 (resVec r)) 24)
          rw [hw_] at hs_
          have HS := Lib.hid hs_
          simp only [lit9] at hw_
          rw [hw_]
          clear hw_ hs_
          obtain ⟨b0, b1, b2, b3, b4, b5, b6, b7, b8⟩ := vec9 (HS.out.blockAt 0 rfl)
          obtain ⟨c0, c1, c2, c3, c4, c5, c6, c7, c8⟩ := vec9 (HS.out.blockAt 1 rfl)
          have r1 : ∀ w, Sem.run Try.prog (binOp .neq 24 (.agg (lit9 (resVec r))) (.agg (lit9 (resVec r)))) w = .ok (.bool false) w := fun w => by have h := neq_vec.1 (resVec r) (resVec r) w; rw [vecEqB_self] at h; exact h
          unfold lit9 at r1
          go_wp2_with fail
          clear b0 b1 b2 b3 b4 b5 b6 b7 b8
          clear c0 c1 c2 c3 c4 c5 c6 c7 c8
          clear r1
          go_roundw
          case rel => exact ⟨k + 1, by omega, by go_num, HS.out.drop1.drop1.drop1⟩
          case measure => simp [intOf]; omega
      · obtain rfl : k = m := by omega
        obtain ⟨wo, hwo⟩ : ∃ wo : World, wo = wr := ⟨_, rfl⟩
        rw [← hwo] at HS ⊢
        clear hwo
        obtain ⟨r, hr⟩ : ∃ r, withB v (idAt L) k = r := ⟨_, rfl⟩
        obtain ⟨r', hr'⟩ : ∃ r', withB (fun _ => 0) (idAt (sortIds L)) k = r' := ⟨_, rfl⟩
        have Hr := Lib.hid hr
        have Hr' := Lib.hid hr'
        clear hr hr'
        obtain ⟨b0, b1, b2, b3, b4, b5, b6, b7, b8⟩ := vec9 (HS.out.blockAt 2 rfl)
        go_wp2_with fail
        refine (with_any v Hv0.out _ k (idAt L) _ (by omega) (Elems.ids HLl.out (HS.out.elems 0 rfl))).mono ?_
        rintro e w7 ⟨rfl, hb⟩
        have HS := Lib.hid (HS.out.below hb)
        clear hb
        clear b0 b1 b2 b3 b4 b5 b6 b7 b8
        rw [Hr.out, resV_is]
        simp only [vecV, lit9]
        repeat ((fail_if_success (with_reducible refine stop_at (id := 20) ?_)); (first | go_values | go_skip | go_guarded | go_step | go_upon | go_back | (simp only [Int.not_lt, Int.not_le] at *; go_simp) | (go_values <;> (try go_simp)) | (go_ite <;> go_prune <;> (try go_simp)) | (split <;> (first | (rename_i hx; exact (hx _ rfl).elim) | go_prune))))
        obtain ⟨w8, hw_⟩ : ∃ w8 : World, w7.alloc (.cells (lit9 (resVec r)) 24) = w8 := ⟨_, rfl⟩
        have hs_ := HS.out.alloc (.cells (lit9 (resVec r)) 24)
        rw [hw_] at hs_
        have HS := Lib.hid hs_
        simp only [lit9] at hw_
        rw [hw_]
        clear hw_ hs_
        obtain ⟨b0, b1, b2, b3, b4, b5, b6, b7, b8⟩ := vec9 (HS.out.blockAt 3 rfl)
        go_wp2_with fail
        refine (refWith_any v Hv0.out _ k (idAt L) _ (by omega) (Elems.ids HLl.out (HS.out.elems 1 rfl))).mono ?_
        rintro e w9 ⟨rfl, hb⟩
        have HS := Lib.hid (HS.out.below hb)
        clear hb
        clear b0 b1 b2 b3 b4 b5 b6 b7 b8
        rw [Hr.out, resV_is]
        simp only [vecV, lit9]
        repeat ((fail_if_success (with_reducible refine stop_at (id := 21) ?_)); (first | go_values | go_skip | go_guarded | go_step | go_upon | go_back | (simp only [Int.not_lt, Int.not_le] at *; go_simp) | (go_values <;> (try go_simp)) | (go_ite <;> go_prune <;> (try go_simp)) | (split <;> (first | (rename_i hx; exact (hx _ rfl).elim) | go_prune))))
        obtain ⟨w10, hw_⟩ : ∃ w10 : World, w9.alloc (.cells (lit9 (resVec r)) 24) = w10 := ⟨_, rfl⟩
        have hs_ := HS.out.alloc (.cells (lit9 (resVec r)) 24)
        rw [hw_] at hs_
        have HS := Lib.hid hs_
        simp only [lit9] at hw_
        rw [hw_]
        clear hw_ hs_
        go_wp2_with fail
        refine (of_any _ L _ (by rw [HLl.out]; exact HS.out.elems 2 rfl) (by rw [HLl.out]; omega)).mono ?_
        rintro e w11 ⟨rfl, hb⟩
        have HS := Lib.hid (HS.out.below hb)
        clear hb
        rw [HLl.out, Hr'.out, resV_is]
        simp only [vecV, lit9]
        repeat ((fail_if_success (with_reducible refine stop_at (id := 22) ?_)); (first | go_values | go_skip | go_guarded | go_step | go_upon | go_back | (simp only [Int.not_lt, Int.not_le] at *; go_simp) | (go_values <;> (try go_simp)) | (go_ite <;> go_prune <;> (try go_simp)) | (split <;> (first | (rename_i hx; exact (hx _ rfl).elim) | go_prune))))
        obtain ⟨w12, hw_⟩ : ∃ w12 : World, w11.alloc (.cells (lit9 (resVec r')) 24) = w12 := ⟨_, rfl⟩
        have hs_ := HS.out.alloc (.cells (lit9 (resVec r')) 24)
        rw [hw_] at hs_
        have HS := Lib.hid hs_
        simp only [lit9] at hw_
        rw [hw_]
        clear hw_ hs_
        go_wp2_with fail
        refine (refSorted_any _ L _ (by rw [HLl.out]; exact HS.out.elems 3 rfl) (by rw [HLl.out]; omega)).mono ?_
        rintro e w13 ⟨v2, rfl, hrow, hb⟩
        have hel := ownsRow_rows encId_len (show w13.ownsRow _ 38 3 v2 (sortIds L).length ((sortIds L).flatMap encId) by rw [sortIds_length]; exact hrow)
        have hsl : (sortIds L).length = k := by rw [sortIds_length, HLl.out]
        rw [hsl] at hel
        have HS := Lib.hid ((HS.out.below hb).addRow hel)
        have Hsl := Lib.hid hsl
        clear hrow hb hel hsl
        obtain ⟨s2, c2, rfl⟩ : ∃ s2 c2, v2 = .slice s2 k c2 := by
          obtain ⟨s2, c2, e, _⟩ := (HS.out.elems 0 rfl).shape
          exact ⟨s2, c2, e⟩
        go_wp2_with fail
        refine (refWith_any (fun _ => 0) (fun _ => Int.le_refl _) _ k (idAt (sortIds L)) _ (by omega) (Elems.ids Hsl.out (HS.out.elems 0 rfl))).mono ?_
        rintro e w14 ⟨rfl, hb⟩
        have HS := Lib.hid (HS.out.below hb)
        clear hb
        rw [Hr'.out, resV_is]
        simp only [vecV, lit9]
        repeat ((fail_if_success (with_reducible refine stop_at (id := 23) ?_)); (first | go_values | go_skip | go_guarded | go_step | go_upon | go_back | (simp only [Int.not_lt, Int.not_le] at *; go_simp) | (go_values <;> (try go_simp)) | (go_ite <;> go_prune <;> (try go_simp)) | (split <;> (first | (rename_i hx; exact (hx _ rfl).elim) | go_prune))))
        obtain ⟨w15, hw_⟩ : ∃ w15 : World, w14.alloc (.cells (lit9 (resVec r')) 24) = w15 := ⟨_, rfl⟩
        have hs_ := HS.out.alloc (.cells (lit9 (resVec r')) 24)
        rw [hw_] at hs_
        have HS := Lib.hid hs_
        simp only [lit9] at hw_
        rw [hw_]
        clear hw_ hs_
        obtain ⟨b0, b1, b2, b3, b4, b5, b6, b7, b8⟩ := vec9 (HS.out.blockAt 0 rfl)
        obtain ⟨c0, c1, c2, c3, c4, c5, c6, c7, c8⟩ := vec9 (HS.out.blockAt 2 rfl)
        obtain ⟨d0, d1, d2, d3, d4, d5, d6, d7, d8⟩ := vec9 (HS.out.blockAt 3 rfl)
        obtain ⟨e0, e1, e2, e3, e4, e5, e6, e7, e8⟩ := vec9 (HS.out.blockAt 4 rfl)
        have q1 : ∀ w, Sem.run Try.prog (binOp .eql 24 (.agg (lit9 (resVec r))) (.agg (lit9 (resVec r)))) w = .ok (.bool true) w := fun w => eql_vec_self _ w
        have q2 : ∀ w, Sem.run Try.prog (binOp .eql 24 (.agg (lit9 (resVec r'))) (.agg (lit9 (resVec r')))) w = .ok (.bool true) w := fun w => eql_vec_self _ w
        unfold lit9 at q1 q2
        go_wp2_with fail
        refine (eqId_any _ _ L L _ (by rw [HLl.out]; exact HS.out.elems 5 rfl) (by rw [HLl.out]; exact HS.out.elems 6 rfl) (by rw [HLl.out]; omega)).mono ?_
        rintro e w16 ⟨rfl, hb⟩
        have HS := Lib.hid (HS.out.below hb)
        rw [show sameB L L = true from by simp [sameB]]
        clear hb
        clear b0 b1 b2 b3 b4 b5 b6 b7 b8
        clear c0 c1 c2 c3 c4 c5 c6 c7 c8
        clear d0 d1 d2 d3 d4 d5 d6 d7 d8
        clear e0 e1 e2 e3 e4 e5 e6 e7 e8
        go_wp2_with fail
        go_ret
        exact ⟨rfl, HS.out.low⟩
theorem ids_any (v : Nat → Int) (hv0 : ∀ k, 0 ≤ v k) (l : List IdT) (a : Option Addr) (cap : Nat) (hcap : l.length ≤ cap) (hmax : cap ≤ maxLen) (w : World) (he : Elems w (.slice a l.length cap) l.length 3 (rowC encId l)) :
    Calls Try.prog 6 #[vecV v, .slice a l.length cap] w (Gives (.bool true) w) := by
  cases h : vecOk v
  · exact ids_F v h hv0 l a cap hcap hmax w he
  · exact ids_T v h hv0 l a cap hcap hmax w he
end Go.Proofs.Ytppaheekpmgifaa
