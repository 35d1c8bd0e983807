/- VectorMeets: the walk. -/
import Derived.Test.YtppaheekpmgifaaMeetsA
import Derived.Test.YtppaheekpmgifaaVecW
namespace Go.Proofs.Ytppaheekpmgifaa
set_option linter.unusedSimpArgs false
set_option linter.unusedVariables false
open Go.RowKit Go.Shelf

theorem lacks_len (a b : Nat → Int) : (lacks a b).length ≤ 8 := by
  unfold lacks
  split
  · unfold lackOf
    rw [List.length_map]
    exact Nat.le_trans (List.length_filter_le _ _) (by simp)
  · simp
set_option maxRecDepth 100000 in
set_option maxHeartbeats 4000000 in
theorem meets_any (v : Nat → Int) (hv0 : ∀ k, 0 ≤ v k) (l : List (Nat → Int)) (a : Option Addr) (cap : Nat) (hcap : l.length ≤ cap) (hmax : cap ≤ maxLen) (w : World) (he : Elems w (.slice a l.length cap) l.length 9 (rowC encV l)) :
    Calls Try.prog 5 #[vecV v, .slice a l.length cap] w (Gives (.bool true) w) := by
  obtain ⟨n, hn⟩ : ∃ n, l.length = n := ⟨_, rfl⟩
  rw [hn] at he hcap ⊢
  obtain ⟨m, hm⟩ : ∃ m, min n 6 = m := ⟨_, rfl⟩
  have hm6 : m ≤ 6 := by omega
  have hmn : m ≤ n := by omega
  have Hn := Lib.hid hn
  have Hm := Lib.hid hm
  have Hv0 := Lib.hid hv0
  unfold maxLen at hmax
  have HS := Lib.hid (((St.start w).addRow he).alloc (.cells (lit9 v) 24))
  clear hn hm hv0 he
  go_enter Try.func5, Try.ntmps5
  simp only [vecV, lit9]
  go_wp2_with fail
  refine (wakes_any _).mono ?_
  rintro e w1 ⟨rfl, hb⟩
  have HS := Lib.hid (HS.out.below hb)
  clear hb
  repeat ((fail_if_success (with_reducible refine stop_at (id := 3) ?_)); (first | go_values | go_skip | go_guarded | go_step | go_upon | go_back | (simp only [Int.not_lt, Int.not_le] at *; go_simp) | (go_values <;> (try go_simp)) | (go_ite <;> go_prune <;> (try go_simp)) | (split <;> (first | (rename_i hx; exact (hx _ rfl).elim) | go_prune))))
  refine (wpIn_wide (n := 0)).1 ?_
  apply wp_region_textv 5 (Rl := [(eqv _), (eqv _), (eqv _), (fun v_ _ => v_ = (.int .i64 (m : Int) : Value)), (eqv _)]) (C := (fun x y => Below x.heap.size x y))
  case hk => rfl
  case hCr => exact (fun _ => Below.refl _ _)
  case hCt => intro _ _ _; exact (fun h k => grows_trans h k)
  case hst => exact ⟨fun _ _ _ _ h => h, fun _ _ _ _ h => h, fun _ _ _ _ h => h, fun _ _ _ _ h => h, fun _ _ _ _ h => h, trivial⟩
  case hfo => kernel_rfl
  case hsteps =>
    refine ⟨?_, ?_, ?_, ?_, ?_, trivial⟩
    · -- 0
      intro a' w' hA hC hD
      have s1 : a'.tmps[1]? = some _ := (hA.at 1 (by kernel_rfl)).trans rfl
      clear hA hD
      refine stepOk_plain rfl ?_
      intro K hK
      gi_wp2
      exact hK _ _ rfl ((fun _ => Below.refl _ _) _)
    · -- 1
      intro a' w' hA hC hD
      have s1 : a'.tmps[1]? = some _ := (hA.at 1 (by kernel_rfl)).trans rfl
      clear hA hD
      refine stepOk_plain rfl ?_
      intro K hK
      gi_wp2
      exact hK _ _ rfl ((fun _ => Below.refl _ _) _)
    · -- 2
      intro a' w' hA hC hD
      obtain ⟨u21, s21, r21⟩ := hD ⟨1, .data⟩ (by simp) rfl _ rfl
      replace r21 : u21 = _ := r21
      subst r21
      clear hA hD
      refine stepOk_plain rfl ?_
      intro K hK
      gi_wp2
      exact hK _ _ rfl ((fun _ => Below.refl _ _) _)
    · -- 3
      intro a' w' hA hC hD
      obtain ⟨u22, s22, r22⟩ := hD ⟨2, .data⟩ (by simp) rfl _ rfl
      replace r22 : u22 = _ := r22
      subst r22
      clear hA hD
      refine stepOk_plain rfl ?_
      intro K hK
      have h := hK (.int .i64 (m : Int)) w' rfl (Below.refl _ _); have hm := Hm.out; gi_wp2; rw [show (m : Int) = min (n : Int) 6 from by omega] at h; exact h
    · -- 4
      intro a' w' hA hC hD
      obtain ⟨u20, s20, r20⟩ := hD ⟨0, .data⟩ (by simp) rfl _ rfl
      replace r20 : u20 = _ := r20
      subst r20
      obtain ⟨u23, s23, r23⟩ := hD ⟨3, .data⟩ (by simp) rfl _ rfl
      replace r23 : u23 = .int .i64 (m : Int) := r23
      subst r23
      clear hA hD
      refine stepOk_plain rfl ?_
      intro K hK
      gi_wp2
      exact hK _ _ rfl ((fun _ => Below.refl _ _) _)
  case hend =>
    intro w2 hC
    simp only [EndFrom, eqv, forall_eq, Act.put, List.length_cons, List.length_nil, List.drop_succ_cons, List.drop_zero, Nat.reduceAdd, List.setIfInBounds_toArray, List.set_cons_succ, List.set_cons_zero]
    have HS := Lib.hid (HS.out.below hC)
    have hel := (HS.out.elems 1 rfl).take encV_len Hn.out hmn
    have hLl : (l.take m).length = m := by rw [List.length_take, Hn.out]; omega
    obtain ⟨L, hL⟩ : ∃ L, l.take m = L := ⟨_, rfl⟩
    rw [hL] at hel hLl
    have HL := Lib.hid hL
    have HS := Lib.hid (HS.out.addRow hel)
    have Hel := Lib.hid hel
    have HLl := Lib.hid hLl
    clear hL hC hel hLl
    gi_wp2_with fail
    refine (callsIn_wide.2 (cloneVec_any _ L _ (by rw [HLl.out]; exact Hel.out) (by rw [HLl.out]; omega))).mono ?_
    rintro e w3 ⟨sv, rfl, hrow, _, hb⟩
    have HS := Lib.hid ((HS.out.below hb).addRow (ownsRow_rows encV_len hrow))
    clear hb hrow Hel
    obtain ⟨sa, sc, rfl⟩ : ∃ sa sc, sv = .slice sa L.length sc := by
      obtain ⟨sa, sc, e, _⟩ := (HS.out.elems 0 rfl).shape
      exact ⟨sa, sc, e⟩
    rw [HLl.out] at HS ⊢
    have HE := Lib.hid (Elems.vecs HLl.out (HS.out.elems 0 rfl))
    obtain ⟨b0, b1, b2, b3, b4, b5, b6, b7, b8⟩ := vec9 (HS.out.blockAt 2 rfl)
    gi_wp2_with fail
    go_wp2_with fail
    refine (join_any v _ m (vAt L) _ (by omega) HE.out).mono ?_
    rintro e w4 ⟨rfl, hb⟩
    have HE := Lib.hid (HE.out.below hb)
    have HS := Lib.hid (HS.out.below hb)
    clear hb
    clear b0 b1 b2 b3 b4 b5 b6 b7 b8
    obtain ⟨j, hj⟩ : ∃ j, mergeR max v (vAt L) m = j := ⟨_, rfl⟩
    obtain ⟨ok, hok⟩ : ∃ ok, okTo v (vAt L) m = ok := ⟨_, rfl⟩
    rw [hj, hok]
    have Hj := Lib.hid hj
    have Hok := Lib.hid hok
    clear hj hok
    simp only [vecV, lit9]
    repeat ((fail_if_success (with_reducible refine stop_at (id := 5) ?_)); (first | go_values | go_skip | go_guarded | go_step | go_upon | go_back | (simp only [Int.not_lt, Int.not_le] at *; go_simp) | (go_values <;> (try go_simp)) | (go_ite <;> go_prune <;> (try go_simp)) | (split <;> (first | (rename_i hx; exact (hx _ rfl).elim) | go_prune))))
    obtain ⟨w5, hw_⟩ : ∃ w5 : World, w4.alloc (.cells (lit9 j) 24) = w5 := ⟨_, rfl⟩
    have hs_ := HS.out.alloc (.cells (lit9 j) 24)
    rw [hw_] at hs_
    have HS := Lib.hid hs_
    simp only [lit9] at hw_
    rw [hw_]
    clear hw_ hs_
    have HE := Lib.hid (Elems.vecs HLl.out (HS.out.elems 1 rfl))
    obtain ⟨b0, b1, b2, b3, b4, b5, b6, b7, b8⟩ := vec9 (HS.out.blockAt 3 rfl)
    go_wp2_with fail
    refine (meet_any v _ m (vAt L) _ (by omega) HE.out).mono ?_
    rintro e w6 ⟨rfl, hb⟩
    have HS := Lib.hid (HS.out.below hb)
    clear hb HE
    clear b0 b1 b2 b3 b4 b5 b6 b7 b8
    obtain ⟨q, hq⟩ : ∃ q, mergeR min v (vAt L) m = q := ⟨_, rfl⟩
    rw [hq, Hok.out]
    have Hq := Lib.hid hq
    clear hq
    simp only [vecV, lit9]
    repeat ((fail_if_success (with_reducible refine stop_at (id := 6) ?_)); (first | go_values | go_skip | go_guarded | go_step | go_upon | go_back | (simp only [Int.not_lt, Int.not_le] at *; go_simp) | (go_values <;> (try go_simp)) | (go_ite <;> go_prune <;> (try go_simp)) | (split <;> (first | (rename_i hx; exact (hx _ rfl).elim) | go_prune))))
    obtain ⟨w7, hw_⟩ : ∃ w7 : World, w6.alloc (.cells (lit9 q) 24) = w7 := ⟨_, rfl⟩
    have hs_ := HS.out.alloc (.cells (lit9 q) 24)
    rw [hw_] at hs_
    have HS := Lib.hid hs_
    simp only [lit9] at hw_
    rw [hw_]
    clear hw_ hs_
    have HE := Lib.hid (Elems.vecs HLl.out (HS.out.elems 2 rfl))
    obtain ⟨b0, b1, b2, b3, b4, b5, b6, b7, b8⟩ := vec9 (HS.out.blockAt 4 rfl)
    go_wp2_with fail
    refine (refJoin_any v _ m (vAt L) _ (by omega) HE.out).mono ?_
    rintro e w8 ⟨rfl, hb⟩
    have HS := Lib.hid (HS.out.below hb)
    clear hb HE
    clear b0 b1 b2 b3 b4 b5 b6 b7 b8
    rw [Hok.out]
    simp only [vecV, lit9]
    repeat ((fail_if_success (with_reducible refine stop_at (id := 7) ?_)); (first | go_values | go_skip | go_guarded | go_step | go_upon | go_back | (simp only [Int.not_lt, Int.not_le] at *; go_simp) | (go_values <;> (try go_simp)) | (go_ite <;> go_prune <;> (try go_simp)) | (split <;> (first | (rename_i hx; exact (hx _ rfl).elim) | go_prune))))
    obtain ⟨w9, hw_⟩ : ∃ w9 : World, w8.alloc (.cells (lit9 (mergeN max v (vAt L) m)) 24) = w9 := ⟨_, rfl⟩
    have hs_ := HS.out.alloc (.cells (lit9 (mergeN max v (vAt L) m)) 24)
    rw [hw_] at hs_
    have HS := Lib.hid hs_
    simp only [lit9] at hw_
    rw [hw_]
    clear hw_ hs_
    have HE := Lib.hid (Elems.vecs HLl.out (HS.out.elems 3 rfl))
    obtain ⟨b0, b1, b2, b3, b4, b5, b6, b7, b8⟩ := vec9 (HS.out.blockAt 5 rfl)
    go_wp2_with fail
    refine (refMeet_any v _ m (vAt L) _ (by omega) HE.out).mono ?_
    rintro e w10 ⟨rfl, hb⟩
    have HS := Lib.hid (HS.out.below hb)
    clear hb HE
    clear b0 b1 b2 b3 b4 b5 b6 b7 b8
    rw [Hok.out]
    simp only [vecV, lit9]
    repeat ((fail_if_success (with_reducible refine stop_at (id := 9) ?_)); (first | go_values | go_skip | go_guarded | go_step | go_upon | go_back | (simp only [Int.not_lt, Int.not_le] at *; go_simp) | (go_values <;> (try go_simp)) | (go_ite <;> go_prune <;> (try go_simp)) | (split <;> (first | (rename_i hx; exact (hx _ rfl).elim) | go_prune))))
    obtain ⟨w11, hw_⟩ : ∃ w11 : World, w10.alloc (.cells (lit9 (mergeN min v (vAt L) m)) 24) = w11 := ⟨_, rfl⟩
    have hs_ := HS.out.alloc (.cells (lit9 (mergeN min v (vAt L) m)) 24)
    rw [hw_] at hs_
    have HS := Lib.hid hs_
    simp only [lit9] at hw_
    rw [hw_]
    clear hw_ hs_
    cases ok
    case' false =>
      have hne : w8.heap.size < w10.heap.size := HS.out.ord.2.1 _ (List.mem_cons_self ..)
      have hne2 : ¬ w10.heap.size = w8.heap.size := by omega
      obtain ⟨b0, b1, b2, b3, b4, b5, b6, b7, b8⟩ := vec9 (HS.out.blockAt 0 rfl)
      obtain ⟨c0, c1, c2, c3, c4, c5, c6, c7, c8⟩ := vec9 (HS.out.blockAt 1 rfl)
      have fb := fun k => free_of_block (HS.out.blockAt 0 rfl) k
      have fc := fun k => free_of_block (HS.out.blockAt 1 rfl) k
      repeat ((fail_if_success (with_reducible refine stop_at (id := 11) ?_)); (first | go_values | go_skip | go_guarded | go_step | go_upon | go_back | (simp only [Int.not_lt, Int.not_le] at *; go_simp) | (go_values <;> (try go_simp)) | (go_ite <;> go_prune <;> (try go_simp)) | (split <;> (first | (rename_i hx; exact (hx _ rfl).elim) | go_prune))))
      clear b0 b1 b2 b3 b4 b5 b6 b7 b8
      clear c0 c1 c2 c3 c4 c5 c6 c7 c8
      clear fb fc
      have e1 : j = fun _ => 0 := by rw [← Hj.out]; unfold mergeR; rw [if_neg (by rw [Hok.out]; simp)]
      have e2 : q = fun _ => 0 := by rw [← Hq.out]; unfold mergeR; rw [if_neg (by rw [Hok.out]; simp)]
      obtain ⟨w12, hw⟩ : ∃ w12 : World, set9 (set9 w11 w8.heap.size j) w10.heap.size q = w12 := ⟨_, rfl⟩
      have hs := St.set9 (pre := []) (St.set9 (pre := [_]) HS.out j (by simp)) q (by simp)
      rw [hw] at hs
      simp only [List.append, List.cons_append, List.nil_append] at hs
      rw [e1, e2] at hw
      simp only [set9] at hw
      rw [hw]
      clear hw e1 e2
    case' true =>
      have e1 : mergeN max v (vAt L) m = j := by rw [← Hj.out]; unfold mergeR; rw [if_pos Hok.out]
      have e2 : mergeN min v (vAt L) m = q := by rw [← Hq.out]; unfold mergeR; rw [if_pos Hok.out]
      have hs := HS.out
      rw [e1, e2] at hs
      clear e1 e2
      repeat ((fail_if_success (with_reducible refine stop_at (id := 11) ?_)); (first | go_values | go_skip | go_guarded | go_step | go_upon | go_back | (simp only [Int.not_lt, Int.not_le] at *; go_simp) | (go_values <;> (try go_simp)) | (go_ite <;> go_prune <;> (try go_simp)) | (split <;> (first | (rename_i hx; exact (hx _ rfl).elim) | go_prune))))
      obtain ⟨w12, hw⟩ : ∃ w12, w11 = w12 := ⟨_, rfl⟩
      rw [hw] at hs ⊢
      clear hw
    all_goals
      clear HS
      have HS := Lib.hid hs
      clear hs
      obtain ⟨a0, a1, a2, a3, a4, a5, a6, a7, a8⟩ := vec9 (HS.out.blockAt 0 rfl)
      obtain ⟨b0, b1, b2, b3, b4, b5, b6, b7, b8⟩ := vec9 (HS.out.blockAt 1 rfl)
      obtain ⟨c0, c1, c2, c3, c4, c5, c6, c7, c8⟩ := vec9 (HS.out.blockAt 2 rfl)
      obtain ⟨d0, d1, d2, d3, d4, d5, d6, d7, d8⟩ := vec9 (HS.out.blockAt 3 rfl)
      have r1 : ∀ w, Sem.run Try.prog (binOp .neq 24 (.agg (lit9 j)) (.agg (lit9 j))) w = .ok (.bool false) w := fun w => by have h := neq_vec.1 j j w; rw [vecEqB_self] at h; exact h
      have r2 : ∀ w, Sem.run Try.prog (binOp .neq 24 (.agg (lit9 q)) (.agg (lit9 q))) w = .ok (.bool false) w := fun w => by have h := neq_vec.1 q q w; rw [vecEqB_self] at h; exact h
      unfold lit9 at r1 r2
      simp only [errOf]
      go_wp2_with fail
      clear a0 a1 a2 a3 a4 a5 a6 a7 a8
      clear b0 b1 b2 b3 b4 b5 b6 b7 b8
      clear c0 c1 c2 c3 c4 c5 c6 c7 c8
      clear d0 d1 d2 d3 d4 d5 d6 d7 d8
      clear r1 r2
      have HS := Lib.hid HS.out.drop1.drop1.drop1.drop1
      go_loopw [74] (fun i wr => ∃ k : Nat, k ≤ m ∧ i = .int .i64 k ∧ St w [.row (.slice sa m sc) m 9 (rowC encV L) w3.heap.size, .row (.slice a m cap) m 9 (rowC encV L) w2.heap.size, .blk w.heap.size (.cells (lit9 v) 24), .row (.slice a n cap) n 9 (rowC encV l) w.heap.size] wr) (fun i _ => m - (intOf i).toNat)
      case atStart => exact ⟨0, Nat.zero_le _, rfl, HS.out⟩
      case round =>
        obtain ⟨k, hk, rfl, hs⟩ := hrel
        clear HS
        have HS := Lib.hid hs
        clear hs
        by_cases hkm : k < m
        · obtain ⟨bl, off, rfl, hlt, hc⟩ : ∃ bl off, sa = some ⟨bl, off, none⟩ ∧ bl < wr.heap.size ∧ ∀ j, j < m * 9 → wr.cell? ⟨bl, off + j, none⟩ = some (vecCells (vAt L) j) := by
            rcases Elems.vecs HLl.out (HS.out.elems 0 rfl) with ⟨e, h0⟩ | ⟨bl, off, c, e, hlt, hc⟩
            · omega
            · cases e; exact ⟨bl, off, rfl, hlt, hc⟩
          obtain ⟨e0, e1, e2, e3, e4, e5, e6, e7, e8⟩ := vecElem hc hkm
          obtain ⟨x, hx⟩ : ∃ x, vAt L k = x := ⟨_, rfl⟩
          rw [hx] at e0 e1 e2 e3 e4 e5 e6 e7 e8
          clear hx hc hlt
          obtain ⟨wo, hwo⟩ : ∃ wo : World, wo = wr := ⟨_, rfl⟩
          rw [← hwo] at HS e0 e1 e2 e3 e4 e5 e6 e7 e8 ⊢
          clear hwo
          repeat ((fail_if_success (with_reducible refine stop_at (id := 16) ?_)); (first | go_values | go_skip | go_guarded | go_step | go_upon | go_back | (simp only [Int.not_lt, Int.not_le] at *; go_simp) | (go_values <;> (try go_simp)) | (go_ite <;> go_prune <;> (try go_simp)) | (split <;> (first | (rename_i hx; exact (hx _ rfl).elim) | go_prune))))
          clear e0 e1 e2 e3 e4 e5 e6 e7 e8
          obtain ⟨wp, hw_⟩ : ∃ wp : World, wo.alloc (.cells (lit9 x) 24) = wp := ⟨_, rfl⟩
          have hs_ := HS.out.alloc (.cells (lit9 x) 24)
          rw [hw_] at hs_
          have HS := Lib.hid hs_
          simp only [lit9] at hw_
          rw [hw_]
          clear hw_ hs_
          obtain ⟨b0, b1, b2, b3, b4, b5, b6, b7, b8⟩ := vec9 (HS.out.blockAt 0 rfl)
          obtain ⟨c0, c1, c2, c3, c4, c5, c6, c7, c8⟩ := vec9 (HS.out.blockAt 3 rfl)
          go_wp2_with fail
          refine (refLacks_any v x Hv0.out _).mono ?_
          rintro e wq ⟨rv, rfl, hrow, hb⟩
          clear b0 b1 b2 b3 b4 b5 b6 b7 b8
          clear c0 c1 c2 c3 c4 c5 c6 c7 c8
          have HS := Lib.hid ((HS.out.below hb).addRow (ownsRow_strs hrow))
          clear hrow hb
          have hso := lacks_ok v x Hv0.out
          have hlen : (lacks v x).length ≤ 1000000 := Nat.le_trans (lacks_len v x) (by omega)
          obtain ⟨ls, hls⟩ : ∃ ls, lacks v x = ls := ⟨_, rfl⟩
          obtain ⟨cv, hcv⟩ : ∃ cv, covers v x = cv := ⟨_, rfl⟩
          rw [hls] at HS hso hlen
          have Hls := Lib.hid hls
          have Hcv := Lib.hid hcv
          have Hso := Lib.hid hso
          have Hlen := Lib.hid hlen
          clear hls hcv hso hlen
          go_wp2_with fail
          refine (wpIn_wide (n := 0)).1 ?_
          apply wp_region_vals 23 (Rl := [(eqv _), (eqv _), (eqv _), (eqv _), (eqv _), (eqv _), (eqv _), (eqv _), (eqv _), (eqv _), (fun v_ w_ => Elems w_ v_ ls.length 3 (strCells ls)), (eqv _), (eqv _), (eqv _), (eqv _), (eqv _), (eqv _), (eqv _), (eqv _), (eqv _), (eqv _), (eqv _), (eqv _)]) (C := (fun x y => Below x.heap.size x y))
          case hm => kernel_rfl
          case hk => rfl
          case hCr => exact (fun _ => Below.refl _ _)
          case hCt => intro _ _ _; exact (fun h k => grows_trans h k)
          case hst => exact ⟨fun _ _ _ _ h => h, fun _ _ _ _ h => h, fun _ _ _ _ h => h, fun _ _ _ _ h => h, fun _ _ _ _ h => h, fun _ _ _ _ h => h, fun _ _ _ _ h => h, fun _ _ _ _ h => h, fun _ _ _ _ h => h, fun _ _ _ _ h => h, fun _ _ _ hC h => h.below hC, fun _ _ _ _ h => h, fun _ _ _ _ h => h, fun _ _ _ _ h => h, fun _ _ _ _ h => h, fun _ _ _ _ h => h, fun _ _ _ _ h => h, fun _ _ _ _ h => h, fun _ _ _ _ h => h, fun _ _ _ _ h => h, fun _ _ _ _ h => h, fun _ _ _ _ h => h, fun _ _ _ _ h => h, trivial⟩
          case hfo => kernel_rfl
          case ht => kernel_rfl
          case hC0 => exact (grows_drew _)
          case hsteps =>
            refine ⟨?_, ?_, ?_, ?_, ?_, ?_, ?_, ?_, ?_, ?_, ?_, ?_, ?_, ?_, ?_, ?_, ?_, ?_, ?_, ?_, ?_, ?_, ?_, trivial⟩
            · -- 0
              intro a' w' hA hC hD
              have s2 : a'.tmps[2]? = some _ := (hA.at 2 (by kernel_rfl)).trans rfl
              obtain ⟨b0, b1, b2, b3, b4, b5, b6, b7, b8⟩ := vec9 ((hC.block _ (HS.out.lt 4 rfl)).trans (HS.out.blockAt 4 rfl))
              clear hA hD
              refine stepOk_plain rfl ?_
              intro K hK
              gi_wp2
              exact hK _ _ rfl ((fun _ => Below.refl _ _) _)
            · -- 1
              intro a' w' hA hC hD
              have s16 : a'.tmps[16]? = some _ := (hA.at 16 (by kernel_rfl)).trans rfl
              obtain ⟨b0, b1, b2, b3, b4, b5, b6, b7, b8⟩ := vec9 ((hC.block _ (HS.out.lt 1 rfl)).trans (HS.out.blockAt 1 rfl))
              clear hA hD
              refine stepOk_plain rfl ?_
              intro K hK
              gi_wp2
              exact hK _ _ rfl ((fun _ => Below.refl _ _) _)
            · -- 2
              intro a' w' hA hC hD
              obtain ⟨u81, s81, r81⟩ := hD ⟨0, .data⟩ (by simp) rfl _ rfl
              replace r81 : u81 = _ := r81
              subst r81
              obtain ⟨u82, s82, r82⟩ := hD ⟨1, .data⟩ (by simp) rfl _ rfl
              replace r82 : u82 = _ := r82
              subst r82
              clear hA hD
              refine stepOk_plain rfl ?_
              intro K hK
              gi_wp2_with fail; refine (callsIn_wide.2 (covers_any _ _ _)).mono ?_; rintro e w2 ⟨rfl, hb⟩; rw [Hcv.out]
              exact hK _ _ rfl hb
            · -- 3
              intro a' w' hA hC hD
              have s2 : a'.tmps[2]? = some _ := (hA.at 2 (by kernel_rfl)).trans rfl
              obtain ⟨b0, b1, b2, b3, b4, b5, b6, b7, b8⟩ := vec9 ((hC.block _ (HS.out.lt 4 rfl)).trans (HS.out.blockAt 4 rfl))
              clear hA hD
              refine stepOk_plain rfl ?_
              intro K hK
              gi_wp2
              exact hK _ _ rfl ((fun _ => Below.refl _ _) _)
            · -- 4
              intro a' w' hA hC hD
              have s16 : a'.tmps[16]? = some _ := (hA.at 16 (by kernel_rfl)).trans rfl
              obtain ⟨b0, b1, b2, b3, b4, b5, b6, b7, b8⟩ := vec9 ((hC.block _ (HS.out.lt 1 rfl)).trans (HS.out.blockAt 1 rfl))
              clear hA hD
              refine stepOk_plain rfl ?_
              intro K hK
              gi_wp2
              exact hK _ _ rfl ((fun _ => Below.refl _ _) _)
            · -- 5
              intro a' w' hA hC hD
              obtain ⟨u84, s84, r84⟩ := hD ⟨3, .data⟩ (by simp) rfl _ rfl
              replace r84 : u84 = _ := r84
              subst r84
              obtain ⟨u85, s85, r85⟩ := hD ⟨4, .data⟩ (by simp) rfl _ rfl
              replace r85 : u85 = _ := r85
              subst r85
              clear hA hD
              refine stepOk_plain rfl ?_
              intro K hK
              gi_wp2_with fail; refine (callsIn_wide.2 (refCovers_any _ _ _)).mono ?_; rintro e w2 ⟨rfl, hb⟩; rw [Hcv.out]
              exact hK _ _ rfl hb
            · -- 6
              intro a' w' hA hC hD
              obtain ⟨u83, s83, r83⟩ := hD ⟨2, .data⟩ (by simp) rfl _ rfl
              replace r83 : u83 = _ := r83
              subst r83
              obtain ⟨u86, s86, r86⟩ := hD ⟨5, .data⟩ (by simp) rfl _ rfl
              replace r86 : u86 = _ := r86
              subst r86
              clear hA hD
              refine stepOk_plain rfl ?_
              intro K hK
              gi_wp2
              try simp only [bne_self_eq_false]
              exact hK _ _ rfl ((fun _ => Below.refl _ _) _)
            · -- 7
              intro a' w' hA hC hD
              obtain ⟨u87, s87, r87⟩ := hD ⟨6, .data⟩ (by simp) rfl _ rfl
              replace r87 : u87 = _ := r87
              subst r87
              clear hA hD
              refine stepOk_plain rfl ?_
              intro K hK
              gi_wp2
              exact hK _ _ rfl ((fun _ => Below.refl _ _) _)
            · -- 8
              intro a' w' hA hC hD
              have s2 : a'.tmps[2]? = some _ := (hA.at 2 (by kernel_rfl)).trans rfl
              obtain ⟨u88, s88, r88⟩ := hD ⟨7, .guard⟩ (by simp) rfl _ rfl
              replace r88 : u88 = _ := r88
              subst r88
              obtain ⟨b0, b1, b2, b3, b4, b5, b6, b7, b8⟩ := vec9 ((hC.block _ (HS.out.lt 4 rfl)).trans (HS.out.blockAt 4 rfl))
              clear hA hD
              refine stepOk_want rfl rfl s88 ?_
              intro K hK
              gi_wp2
              exact hK _ _ rfl ((fun _ => Below.refl _ _) _)
            · -- 9
              intro a' w' hA hC hD
              have s16 : a'.tmps[16]? = some _ := (hA.at 16 (by kernel_rfl)).trans rfl
              obtain ⟨u88, s88, r88⟩ := hD ⟨7, .guard⟩ (by simp) rfl _ rfl
              replace r88 : u88 = _ := r88
              subst r88
              obtain ⟨b0, b1, b2, b3, b4, b5, b6, b7, b8⟩ := vec9 ((hC.block _ (HS.out.lt 1 rfl)).trans (HS.out.blockAt 1 rfl))
              clear hA hD
              refine stepOk_want rfl rfl s88 ?_
              intro K hK
              gi_wp2
              exact hK _ _ rfl ((fun _ => Below.refl _ _) _)
            · -- 10
              intro a' w' hA hC hD
              obtain ⟨u89, s89, r89⟩ := hD ⟨8, .data⟩ (by simp) rfl _ rfl
              replace r89 : u89 = _ := r89
              subst r89
              obtain ⟨u90, s90, r90⟩ := hD ⟨9, .data⟩ (by simp) rfl _ rfl
              replace r90 : u90 = _ := r90
              subst r90
              obtain ⟨u88, s88, r88⟩ := hD ⟨7, .chain⟩ (by simp) rfl _ rfl
              replace r88 : u88 = _ := r88
              subst r88
              clear hA hD
              refine stepOk_want rfl rfl s88 ?_
              intro K hK
              gi_wp2_with fail; refine (callsIn_wide.2 (lacks_any v x Hv0.out _)).mono ?_; rintro e w2 ⟨u, rfl, hrow, hb⟩
              exact hK u _ (Hls.out ▸ ownsRow_strs hrow) hb
            · -- 11
              intro a' w' hA hC hD
              have s17 : a'.tmps[17]? = some _ := (hA.at 17 (by kernel_rfl)).trans rfl
              obtain ⟨u88, s88, r88⟩ := hD ⟨7, .guard⟩ (by simp) rfl _ rfl
              replace r88 : u88 = _ := r88
              subst r88
              clear hA hD
              refine stepOk_want rfl rfl s88 ?_
              intro K hK
              gi_wp2
              exact hK _ _ rfl ((fun _ => Below.refl _ _) _)
            · -- 12
              intro a' w' hA hC hD
              obtain ⟨u91, s91, r91⟩ := hD ⟨10, .data⟩ (by simp) rfl _ rfl
              replace r91 : (fun v_ w_ => Elems w_ v_ ls.length 3 (strCells ls)) u91 w' := r91
              obtain ⟨u92, s92, r92⟩ := hD ⟨11, .data⟩ (by simp) rfl _ rfl
              replace r92 : u92 = _ := r92
              subst r92
              obtain ⟨u88, s88, r88⟩ := hD ⟨7, .guard⟩ (by simp) rfl _ rfl
              replace r88 : u88 = _ := r88
              subst r88
              clear hA hD
              refine stepOk_want rfl rfl s88 ?_
              intro K hK
              gi_wp2_with fail; refine (callsIn_wide.2 (strEqual_any ls ls _ _ _ Hlen.out r91 ((HS.out.elems 0 rfl).below hC) Hlen.out)).mono ?_; rintro e w2 ⟨rfl, hb⟩; rw [strsEq_self]; exact hK _ _ rfl hb
            · -- 13
              intro a' w' hA hC hD
              obtain ⟨u93, s93, r93⟩ := hD ⟨12, .data⟩ (by simp) rfl _ rfl
              replace r93 : u93 = _ := r93
              subst r93
              obtain ⟨u88, s88, r88⟩ := hD ⟨7, .guard⟩ (by simp) rfl _ rfl
              replace r88 : u88 = _ := r88
              subst r88
              clear hA hD
              refine stepOk_want rfl rfl s88 ?_
              intro K hK
              gi_wp2
              exact hK _ _ rfl ((fun _ => Below.refl _ _) _)
            · -- 14
              intro a' w' hA hC hD
              obtain ⟨u88, s88, r88⟩ := hD ⟨7, .data⟩ (by simp) rfl _ rfl
              replace r88 : u88 = _ := r88
              subst r88
              obtain ⟨u94, s94, r94⟩ := hD ⟨13, .data⟩ (by simp) rfl _ rfl
              replace r94 : u94 = _ := r94
              subst r94
              clear hA hD
              refine stepOk_plain rfl ?_
              intro K hK
              gi_wp2
              exact hK _ _ rfl ((fun _ => Below.refl _ _) _)
            · -- 15
              intro a' w' hA hC hD
              obtain ⟨u95, s95, r95⟩ := hD ⟨14, .data⟩ (by simp) rfl _ rfl
              replace r95 : u95 = _ := r95
              subst r95
              clear hA hD
              refine stepOk_plain rfl ?_
              intro K hK
              gi_wp2
              exact hK _ _ rfl ((fun _ => Below.refl _ _) _)
            · -- 16
              intro a' w' hA hC hD
              have s2 : a'.tmps[2]? = some _ := (hA.at 2 (by kernel_rfl)).trans rfl
              obtain ⟨u96, s96, r96⟩ := hD ⟨15, .guard⟩ (by simp) rfl _ rfl
              replace r96 : u96 = _ := r96
              subst r96
              obtain ⟨b0, b1, b2, b3, b4, b5, b6, b7, b8⟩ := vec9 ((hC.block _ (HS.out.lt 4 rfl)).trans (HS.out.blockAt 4 rfl))
              clear hA hD
              refine stepOk_want rfl rfl s96 ?_
              intro K hK
              gi_wp2
              exact hK _ _ rfl ((fun _ => Below.refl _ _) _)
            · -- 17
              intro a' w' hA hC hD
              have s16 : a'.tmps[16]? = some _ := (hA.at 16 (by kernel_rfl)).trans rfl
              obtain ⟨u96, s96, r96⟩ := hD ⟨15, .guard⟩ (by simp) rfl _ rfl
              replace r96 : u96 = _ := r96
              subst r96
              obtain ⟨b0, b1, b2, b3, b4, b5, b6, b7, b8⟩ := vec9 ((hC.block _ (HS.out.lt 1 rfl)).trans (HS.out.blockAt 1 rfl))
              clear hA hD
              refine stepOk_want rfl rfl s96 ?_
              intro K hK
              gi_wp2
              exact hK _ _ rfl ((fun _ => Below.refl _ _) _)
            · -- 18
              intro a' w' hA hC hD
              obtain ⟨u97, s97, r97⟩ := hD ⟨16, .data⟩ (by simp) rfl _ rfl
              replace r97 : u97 = _ := r97
              subst r97
              obtain ⟨u98, s98, r98⟩ := hD ⟨17, .data⟩ (by simp) rfl _ rfl
              replace r98 : u98 = _ := r98
              subst r98
              obtain ⟨u96, s96, r96⟩ := hD ⟨15, .chain⟩ (by simp) rfl _ rfl
              replace r96 : u96 = _ := r96
              subst r96
              clear hA hD
              refine stepOk_want rfl rfl s96 ?_
              intro K hK
              gi_wp2_with fail; refine (callsIn_wide.2 (many_any v x Hv0.out _)).mono ?_; rintro e w2 ⟨rfl, hb⟩; rw [Hls.out]
              exact hK _ _ rfl hb
            · -- 19
              intro a' w' hA hC hD
              have s17 : a'.tmps[17]? = some _ := (hA.at 17 (by kernel_rfl)).trans rfl
              obtain ⟨u96, s96, r96⟩ := hD ⟨15, .guard⟩ (by simp) rfl _ rfl
              replace r96 : u96 = _ := r96
              subst r96
              clear hA hD
              refine stepOk_want rfl rfl s96 ?_
              intro K hK
              gi_wp2
              exact hK _ _ rfl ((fun _ => Below.refl _ _) _)
            · -- 20
              intro a' w' hA hC hD
              obtain ⟨u100, s100, r100⟩ := hD ⟨19, .data⟩ (by simp) rfl _ rfl
              replace r100 : u100 = _ := r100
              subst r100
              obtain ⟨u96, s96, r96⟩ := hD ⟨15, .guard⟩ (by simp) rfl _ rfl
              replace r96 : u96 = _ := r96
              subst r96
              clear hA hD
              refine stepOk_want rfl rfl s96 ?_
              intro K hK
              gi_wp2_with fail; refine (callsIn_wide.2 (refMany_any ls Hso.out Hlen.out _ _ ((HS.out.elems 0 rfl).below hC))).mono ?_; rintro e w2 ⟨rfl, hb⟩
              exact hK _ _ rfl hb
            · -- 21
              intro a' w' hA hC hD
              obtain ⟨u99, s99, r99⟩ := hD ⟨18, .data⟩ (by simp) rfl _ rfl
              replace r99 : u99 = _ := r99
              subst r99
              obtain ⟨u101, s101, r101⟩ := hD ⟨20, .data⟩ (by simp) rfl _ rfl
              replace r101 : u101 = _ := r101
              subst r101
              obtain ⟨u96, s96, r96⟩ := hD ⟨15, .guard⟩ (by simp) rfl _ rfl
              replace r96 : u96 = _ := r96
              subst r96
              clear hA hD
              refine stepOk_want rfl rfl s96 ?_
              intro K hK
              gi_wp2
              try simp only [bne_self_eq_false]
              exact hK _ _ rfl ((fun _ => Below.refl _ _) _)
            · -- 22
              intro a' w' hA hC hD
              obtain ⟨u96, s96, r96⟩ := hD ⟨15, .data⟩ (by simp) rfl _ rfl
              replace r96 : u96 = _ := r96
              subst r96
              obtain ⟨u102, s102, r102⟩ := hD ⟨21, .data⟩ (by simp) rfl _ rfl
              replace r102 : u102 = _ := r102
              subst r102
              clear hA hD
              refine stepOk_plain rfl ?_
              intro K hK
              gi_wp2
              exact hK _ _ rfl ((fun _ => Below.refl _ _) _)
          case hend =>
            intro w3 hC
            simp only [EndFrom, eqv, forall_eq, Act.put, List.length_cons, List.length_nil, List.drop_succ_cons, List.drop_zero, Nat.reduceAdd, List.setIfInBounds_toArray, List.set_cons_succ, List.set_cons_zero]
            intro u hu
            clear hu
            have HS := Lib.hid (HS.out.below hC).drop1.drop1
            clear hC
            gi_wp2
            go_wp2_with fail
            go_roundw
            case rel => exact ⟨k + 1, by omega, by go_num, HS.out⟩
            case measure => simp [intOf]; omega
        · obtain rfl : k = m := by omega
          go_wp2_with fail
          refine (eqVec_any _ _ L L _ (by rw [HLl.out]; exact HS.out.elems 0 rfl) (by rw [HLl.out]; exact HS.out.elems 1 rfl) (by rw [HLl.out]; omega)).mono ?_
          rintro e w3 ⟨rfl, hb⟩
          rw [allEq_self vecEqB vecEqB_self]
          have HS := Lib.hid (HS.out.below hb)
          clear hb
          go_wp2_with fail
          go_ret
          exact ⟨rfl, HS.out.low⟩
end Go.Proofs.Ytppaheekpmgifaa
