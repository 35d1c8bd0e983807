/- Merged texts: Diff DrQ WkD DrS DrT OpV. -/
import Derived.Test.YtgdcfkbimkclaaaGreatDoorM17
import Derived.Test.YtgdcfkbimkclaaaGreatDoorM13
import Derived.Test.YtgdcfkbimkclaaaGreatDoorM10
import Derived.Laws.EntriesVeiled
import Derived.Test.YtgdcfkbimkclaaaGreatDoorM14
import Derived.LaidEqlPtr
set_option linter.unusedSimpArgs false
set_option linter.unusedVariables false
/- Layer 5: Differ. -/
namespace Go.Proofs.YtgdcfkbimkclaaaGreatDoor
open Go.RowKit Go.Shelf
attribute [local go_sem] Oper.semAt_some
theorem CanAt.two {w : World} {p : Nat} {C : CanT} (h : CanAt w p C) : w.cell? ⟨p, 0, none⟩ = some (.int .i64 C.wide) ∧ w.cell? ⟨p, 1, none⟩ = some (.int .i64 C.high) := by
 obtain ⟨ok, b, cap, qs, h1, -⟩ := h
 exact ⟨c7b h1 rfl, c7b h1 rfl⟩
def isD (C D : CanT) (k : Nat) : Bool := decide (colP C (ptK (8 * C.wide) k) ≠ colP D (ptK (8 * C.wide) k))
/-- Where two canvases differ, row by row. -/
def diffL (C D : CanT) : List PtT := gathL (8 * C.wide) (isD C D) (8 * C.high * (8 * C.wide))
def takeD (W : Nat) (is : Nat → Bool) {N : Nat} (pre : List (Fin N)) : List PtT := (pre.filter fun x => is x.1).map fun x => ptK W x.1
theorem takeD_snoc (W : Nat) (is : Nat → Bool) {N : Nat} (pre : List (Fin N)) (x : Fin N) : takeD W is (pre ++ [x]) = takeD W is pre ++ (if is x.1 = true then [ptK W x.1] else []) := by
 unfold takeD
 rw [List.filter_append, List.map_append]
 congr 1
 by_cases h : is x.1 = true <;> simp [h]
theorem takeD_len (W : Nat) (is : Nat → Bool) {N : Nat} (pre : List (Fin N)) : (takeD W is pre).length ≤ pre.length := by
 unfold takeD
 rw [List.length_map]
 exact List.length_filter_le _ _
theorem finRange_val (n : Nat) : (List.finRange n).map (fun x => x.1) = List.range n := by
 refine List.ext_getElem (by simp) fun i h1 h2 => ?_
 simp
theorem takeD_all (W : Nat) (is : Nat → Bool) (N : Nat) : takeD W is (List.finRange N) = gathL W is N := by
 unfold takeD gathL
 rw [← finRange_val, List.filter_map, List.map_map]
 rfl
set_option maxRecDepth 100000 in
set_option maxHeartbeats 1000000 in
theorem differCl_any (B1 B2 c d : Nat) (C D : CanT) (hw : C.wide = D.wide) (hh : C.high = D.high) (x y : Nat) (hx : x < 8 * C.wide) (hy : y < 8 * C.high) (w : World)
 (h1 : w.heap[B1]? = some (.cells #[.pointer (some ⟨c, 0, none⟩)] 55 (0, 0))) (h2 : w.heap[B2]? = some (.cells #[.pointer (some ⟨d, 0, none⟩)] 55 (0, 0))) (hC : CanAt w c C) (hD : CanAt w d D) :
 Calls Tryz.prog 73 #[.agg #[.int .i64 x, .int .i64 y], .pointer (some ⟨B1, 0, none⟩), .pointer (some ⟨B2, 0, none⟩)] w (Gives (.bool (decide (colC C x y ≠ colC D x y))) w) := by
 have HS := H7 (St.start w)
 have H1 := H7 (BlkA.mk h1)
 have H2 := H7 (BlkA.mk h2)
 have HA := H7 (fun w' h => at_on C c x y hx hy w' h)
 have HB := H7 (fun w' h => at_on D d x y (by omega) (by omega) w' h)
 have HC := H7 hC
 have HD := H7 hD
 obtain ⟨p, hp⟩ : ∃ p, colC C x y = p := ⟨_, rfl⟩
 obtain ⟨q, hq⟩ : ∃ q, colC D x y = q := ⟨_, rfl⟩
 rw [hp] at HA ⊢
 rw [hq] at HB ⊢
 obtain ⟨pr, pg, pb, pa⟩ := p
 obtain ⟨qr, qg, qb, qa⟩ := q
 unfold ColT.val at HA HB
 simp only at HA HB
 clear hw hh hx hy h1 h2 hC hD hp hq
 go_enter Tryz.func73, Tryz.ntmps73
 repeat ((fail_if_success (with_reducible refine stop_at (id := 1) ?_)); (first | go_values | go_skip | go_guarded | go_step | go_upon | go_back | (simp only [Int.not_lt, Int.not_le] at *; go_simp) | (go_values <;> (try go_simp)) | (go_ite <;> go_prune <;> (try go_simp)) | (split <;> (first | (rename_i hx; exact (hx _ rfl).elim) | go_prune))))
 have hs_ := HS.out.alloc (.cells #[.int .i64 x, .int .i64 y] 69)
 have hk_HC := HC.out.below ((B7 _ _).alloc (Nat.le_refl _) (.cells #[.int .i64 x, .int .i64 y] 69))
 have hk_HD := HD.out.below ((B7 _ _).alloc (Nat.le_refl _) (.cells #[.int .i64 x, .int .i64 y] 69))
 have hk_H1 := H1.out.below ((B7 _ _).alloc (Nat.le_refl _) (.cells #[.int .i64 x, .int .i64 y] 69))
 have hk_H2 := H2.out.below ((B7 _ _).alloc (Nat.le_refl _) (.cells #[.int .i64 x, .int .i64 y] 69))
 obtain ⟨w1, hw_⟩ : ∃ w1 : World, w.alloc (.cells #[.int .i64 x, .int .i64 y] 69) = w1 := ⟨_, rfl⟩
 rw [hw_] at hs_ hk_HC hk_HD hk_H1 hk_H2
 have HS := H7 hs_
 have HC := H7 hk_HC
 have HD := H7 hk_HD
 have H1 := H7 hk_H1
 have H2 := H7 hk_H2
 rw [hw_]
 clear hw_ hs_ hk_HC hk_HD hk_H1 hk_H2
 have b0 := c7b (k := 0) H1.out.at_ rfl
 have p0 := h7c HS 0 0 rfl rfl
 have p1 := h7c HS 0 1 rfl rfl
 go_wp2_with fail
 clear b0 p0 p1
 refine (HA.out _ HC.out).mono ?_
 rintro e w2 ⟨rfl, hb_⟩
 have HS := H7 (HS.out.below hb_)
 have HC := H7 (HC.out.below hb_)
 have HD := H7 (HD.out.below hb_)
 have H1 := H7 (H1.out.below hb_)
 have H2 := H7 (H2.out.below hb_)
 clear hb_
 repeat ((fail_if_success (with_reducible refine stop_at (id := 2) ?_)); (first | go_values | go_skip | go_guarded | go_step | go_upon | go_back | (simp only [Int.not_lt, Int.not_le] at *; go_simp) | (go_values <;> (try go_simp)) | (go_ite <;> go_prune <;> (try go_simp)) | (split <;> (first | (rename_i hx; exact (hx _ rfl).elim) | go_prune))))
 have hs_ := HS.out.alloc (.cells #[.int .u8 pr, .int .u8 pg, .int .u8 pb, .int .u8 pa] 26)
 have hk_HC := HC.out.below ((B7 _ _).alloc (Nat.le_refl _) (.cells #[.int .u8 pr, .int .u8 pg, .int .u8 pb, .int .u8 pa] 26))
 have hk_HD := HD.out.below ((B7 _ _).alloc (Nat.le_refl _) (.cells #[.int .u8 pr, .int .u8 pg, .int .u8 pb, .int .u8 pa] 26))
 have hk_H1 := H1.out.below ((B7 _ _).alloc (Nat.le_refl _) (.cells #[.int .u8 pr, .int .u8 pg, .int .u8 pb, .int .u8 pa] 26))
 have hk_H2 := H2.out.below ((B7 _ _).alloc (Nat.le_refl _) (.cells #[.int .u8 pr, .int .u8 pg, .int .u8 pb, .int .u8 pa] 26))
 obtain ⟨w3, hw_⟩ : ∃ w3 : World, w2.alloc (.cells #[.int .u8 pr, .int .u8 pg, .int .u8 pb, .int .u8 pa] 26) = w3 := ⟨_, rfl⟩
 rw [hw_] at hs_ hk_HC hk_HD hk_H1 hk_H2
 have HS := H7 hs_
 have HC := H7 hk_HC
 have HD := H7 hk_HD
 have H1 := H7 hk_H1
 have H2 := H7 hk_H2
 rw [hw_]
 clear hw_ hs_ hk_HC hk_HD hk_H1 hk_H2
 have b0 := c7b (k := 0) H2.out.at_ rfl
 have p0 := h7c HS 1 0 rfl rfl
 have p1 := h7c HS 1 1 rfl rfl
 go_wp2_with fail
 clear b0 p0 p1
 refine (HB.out _ HD.out).mono ?_
 rintro e w4 ⟨rfl, hb_⟩
 have HS := H7 (HS.out.below hb_)
 have HC := H7 (HC.out.below hb_)
 have HD := H7 (HD.out.below hb_)
 have H1 := H7 (H1.out.below hb_)
 have H2 := H7 (H2.out.below hb_)
 clear hb_
 repeat ((fail_if_success (with_reducible refine stop_at (id := 3) ?_)); (first | go_values | go_skip | go_guarded | go_step | go_upon | go_back | (simp only [Int.not_lt, Int.not_le] at *; go_simp) | (go_values <;> (try go_simp)) | (go_ite <;> go_prune <;> (try go_simp)) | (split <;> (first | (rename_i hx; exact (hx _ rfl).elim) | go_prune))))
 have hs_ := HS.out.alloc (.cells #[.int .u8 qr, .int .u8 qg, .int .u8 qb, .int .u8 qa] 26)
 have hk_HC := HC.out.below ((B7 _ _).alloc (Nat.le_refl _) (.cells #[.int .u8 qr, .int .u8 qg, .int .u8 qb, .int .u8 qa] 26))
 have hk_HD := HD.out.below ((B7 _ _).alloc (Nat.le_refl _) (.cells #[.int .u8 qr, .int .u8 qg, .int .u8 qb, .int .u8 qa] 26))
 have hk_H1 := H1.out.below ((B7 _ _).alloc (Nat.le_refl _) (.cells #[.int .u8 qr, .int .u8 qg, .int .u8 qb, .int .u8 qa] 26))
 have hk_H2 := H2.out.below ((B7 _ _).alloc (Nat.le_refl _) (.cells #[.int .u8 qr, .int .u8 qg, .int .u8 qb, .int .u8 qa] 26))
 obtain ⟨w5, hw_⟩ : ∃ w5 : World, w4.alloc (.cells #[.int .u8 qr, .int .u8 qg, .int .u8 qb, .int .u8 qa] 26) = w5 := ⟨_, rfl⟩
 rw [hw_] at hs_ hk_HC hk_HD hk_H1 hk_H2
 have HS := H7 hs_
 have HC := H7 hk_HC
 have HD := H7 hk_HD
 have H1 := H7 hk_H1
 have H2 := H7 hk_H2
 rw [hw_]
 clear hw_ hs_ hk_HC hk_HD hk_H1 hk_H2
 have q0 := h7c HS 0 0 rfl rfl
 have q1 := h7c HS 0 1 rfl rfl
 have q2 := h7c HS 0 2 rfl rfl
 have q3 := h7c HS 0 3 rfl rfl
 have p0 := h7c HS 1 0 rfl rfl
 have p1 := h7c HS 1 1 rfl rfl
 have p2 := h7c HS 1 2 rfl rfl
 have p3 := h7c HS 1 3 rfl rfl
 by_cases g1 : pr = qr <;> by_cases g2 : pg = qg <;> by_cases g3 : pb = qb <;> by_cases g4 : pa = qa <;> (
  go_wp2_with fail
  go_ret
  exact ⟨ret_bool (by simp [g1, g2, g3, g4]), HS.out.low⟩)
set_option maxRecDepth 100000 in
set_option maxHeartbeats 4000000 in
theorem differ_any (C D : CanT) (c d : Nat) (hw : C.wide = D.wide) (hh : C.high = D.high) (w : World) (hC : CanAt w c C) (hD : CanAt w d D) :
 Calls Tryz.prog 30 #[.pointer (some ⟨c, 0, none⟩), .pointer (some ⟨d, 0, none⟩)] w (GivesRow 69 2 (diffL C D).length ((diffL C D).flatMap encP) w) := by
 have HS := H7 (St.start w)
 have HC := H7 hC
 have HD := H7 hD
 have HCL := H7 (fun B1 B2 x y hx hy w' h1 h2 h3 h4 => differCl_any B1 B2 c d C D hw hh x y hx hy w' h1 h2 h3 h4)
 obtain ⟨wi, hwi⟩ : ∃ wi, C.wide = wi := ⟨_, rfl⟩
 obtain ⟨hi, hhi⟩ : ∃ hi, C.high = hi := ⟨_, rfl⟩
 obtain ⟨Wd, hWd⟩ : ∃ Wd, 8 * wi = Wd := ⟨_, rfl⟩
 obtain ⟨Hd, hHd⟩ : ∃ Hd, 8 * hi = Hd := ⟨_, rfl⟩
 have HWH := H7 (show wi ≤ 4 ∧ hi ≤ 4 ∧ 8 * wi = Wd ∧ 8 * hi = Hd ∧ 8 * C.wide = Wd ∧ 8 * C.high = Hd by have h1 := hC.ok.wide; have h2 := hC.ok.high; rw [hwi, hhi, hWd, hHd]; omega)
 have HT := H7 (fun w' (h : CanAt w' c C) => show w'.cell? ⟨c, 0, none⟩ = some (.int .i64 wi) ∧ w'.cell? ⟨c, 1, none⟩ = some (.int .i64 hi) by have := h.two; rw [hwi, hhi] at this; exact this)
 have HU := H7 (fun w' (h : CanAt w' d D) => show w'.cell? ⟨d, 0, none⟩ = some (.int .i64 wi) ∧ w'.cell? ⟨d, 1, none⟩ = some (.int .i64 hi) by have := h.two; rw [← hw, ← hh, hwi, hhi] at this; exact this)
 rw [HWH.out.2.2.2.2.1, HWH.out.2.2.2.2.2] at HCL
 obtain ⟨L, hL⟩ : ∃ L, diffL C D = L := ⟨_, rfl⟩
 obtain ⟨is, his⟩ : ∃ is, isD C D = is := ⟨_, rfl⟩
 have HL := H7 (show gathL Wd is (Hd * Wd) = L by rw [← hL, ← his]; unfold diffL; rw [HWH.out.2.2.2.2.1, HWH.out.2.2.2.2.2])
 have HIS := H7 (fun (x y : Nat) (hx : x < Wd) => show is (y * Wd + x) = decide (colC C x y ≠ colC D x y) by
  rw [← his]
  unfold isD
  rw [HWH.out.2.2.2.2.1, ptK_at hx]
  rfl)
 rw [hL]
 have HZW := H7 (show Hd * Wd ≤ 1024 from Nat.mul_le_mul (show Hd ≤ 32 by have := HWH.out; omega) (show Wd ≤ 32 by have := HWH.out; omega))
 clear hw hh hC hD hwi hhi hWd hHd hL his
 refine (callsIn_wide (n := 10)).1 ?_
 refine callsIn_of_wp_marks Tryz.func30 rfl trivial ?_ rfl
 simp only [Tryz.ntmps30, List.size_toArray, List.length_cons, List.length_nil, Nat.reduceAdd, Nat.reduceSub, Array.replicate_succ, Array.replicate_zero, List.push_toArray, List.append_toArray, List.nil_append, List.cons_append]
 repeat ((fail_if_success (with_reducible refine stop_atI (id := 1) ?_)); (first | go_values | gi_guarded | gi_step | gi_upon | gi_back | (simp only [Int.not_lt, Int.not_le] at *; go_simp) | (go_values <;> (try go_simp)) | (go_ite <;> go_prune <;> (try go_simp)) | (split <;> (first | (rename_i hx; exact (hx _ rfl).elim) | go_prune))))
 have hs_ := ((HS.out.alloc (.cells #[.pointer (some ⟨c, 0, none⟩)] 55)).alloc (.cells #[.pointer (some ⟨d, 0, none⟩)] 55))
 obtain ⟨w1, hw_⟩ : ∃ w1 : World, ((w.alloc (.cells #[.pointer (some ⟨c, 0, none⟩)] 55)).alloc (.cells #[.pointer (some ⟨d, 0, none⟩)] 55)) = w1 := ⟨_, rfl⟩
 rw [hw_] at hs_
 try simp only [World.size_alloc] at hs_
 have HS := H7 hs_
 rw [hw_]
 clear hw_ hs_
 have HC0 := HC
 have HD0 := HD
 have HC := H7 (HC.out.below HS.out.low)
 have HD := H7 (HD.out.below HS.out.low)
 apply w7v 17 (Rl := [(eqv _), (eqv _), (eqv _), (eqv _), (eqv _), (eqv _), (eqv _), (eqv _), (eqv _), (eqv _), (eqv _), (eqv _), (eqv _), (eqv _), (eqv _), (eqv _), (eqv _)]) (C := (fun x y => Below x.heap.size x y))
 case hm => kernel_rfl
 case hk => rfl
 case hCr => exact (fun _ => B7 _ _)
 case hCt => intro _ _ _; exact (fun h k => g7t h k)
 case hst => repeat (first | exact trivial | refine ⟨fun _ _ _ _ h => h, ?_⟩)
 case hfo => kernel_rfl
 case ht => kernel_rfl
 case hC0 => exact (g7d _)
 case hsteps =>
  refine ⟨?_, ?_, ?_, ?_, ?_, ?_, ?_, ?_, ?_, ?_, ?_, ?_, ?_, ?_, ?_, ?_, ?_, trivial⟩
  · intro a' w' hA hC hD; have s2 := hA.to 2 (by kernel_rfl) rfl
    have h1_ := (HS.out.below hC).blockAt 1 rfl; have c1_0 := c7b (k := 0) h1_ rfl; clear h1_
    clear hA hD; refine o7p rfl ?_; intro K hK; gi_wp2; exact hK _ _ rfl (B7 _ _)
  · intro a' w' hA hC hD; obtain ⟨u8, s8, rfl⟩ := hD ⟨0, .data⟩ (by simp) rfl _ rfl; clear hA hD; refine o7p rfl ?_; intro K hK; gi_wp2; exact hK _ _ rfl (B7 _ _)
  · intro a' w' hA hC hD; obtain ⟨u9, s9, rfl⟩ := hD ⟨1, .data⟩ (by simp) rfl _ rfl; clear hA hD; refine o7p rfl ?_; intro K hK; gi_wp2; exact hK _ _ rfl (B7 _ _)
  · intro a' w' hA hC hD; have s3 := hA.to 3 (by kernel_rfl) rfl; obtain ⟨u10, s10, rfl⟩ := hD ⟨2, .guard⟩ (by simp) rfl _ rfl
    have h1_ := (HS.out.below hC).blockAt 0 rfl; have c1_0 := c7b (k := 0) h1_ rfl; clear h1_
    clear hA hD; refine o7w rfl rfl s10 ?_; intro K hK; gi_wp2; exact hK _ _ rfl (B7 _ _)
  · intro a' w' hA hC hD; obtain ⟨u11, s11, rfl⟩ := hD ⟨3, .data⟩ (by simp) rfl _ rfl; obtain ⟨u10, s10, rfl⟩ := hD ⟨2, .guard⟩ (by simp) rfl _ rfl; clear hA hD; refine o7w rfl rfl s10 ?_; intro K hK; gi_wp2; exact hK _ _ rfl (B7 _ _)
  · intro a' w' hA hC hD; obtain ⟨u10, s10, rfl⟩ := hD ⟨2, .data⟩ (by simp) rfl _ rfl; obtain ⟨u12, s12, rfl⟩ := hD ⟨4, .data⟩ (by simp) rfl _ rfl; clear hA hD; refine o7p rfl ?_; intro K hK; gi_wp2; exact hK _ _ rfl (B7 _ _)
  · intro a' w' hA hC hD; obtain ⟨u13, s13, rfl⟩ := hD ⟨5, .data⟩ (by simp) rfl _ rfl; clear hA hD; refine o7p rfl ?_; intro K hK; gi_wp2; exact hK _ _ rfl (B7 _ _)
  · intro a' w' hA hC hD; have s2 := hA.to 2 (by kernel_rfl) rfl; obtain ⟨u14, s14, rfl⟩ := hD ⟨6, .guard⟩ (by simp) rfl _ rfl
    have h1_ := (HS.out.below hC).blockAt 1 rfl; have c1_0 := c7b (k := 0) h1_ rfl; clear h1_
    clear hA hD; refine o7w rfl rfl s14 ?_; intro K hK; gi_wp2; exact hK _ _ rfl (B7 _ _)
  · intro a' w' hA hC hD; obtain ⟨u15, s15, rfl⟩ := hD ⟨7, .data⟩ (by simp) rfl _ rfl; obtain ⟨u14, s14, rfl⟩ := hD ⟨6, .guard⟩ (by simp) rfl _ rfl; clear hA hD; refine o7w rfl rfl s14 ?_; intro K hK; gi_wp2; exact hK _ _ rfl (B7 _ _)
  · intro a' w' hA hC hD; obtain ⟨u16, s16, rfl⟩ := hD ⟨8, .data⟩ (by simp) rfl _ rfl; obtain ⟨u14, s14, rfl⟩ := hD ⟨6, .guard⟩ (by simp) rfl _ rfl; clear hA hD; refine o7w rfl rfl s14 ?_; intro K hK; gi_wp2; exact hK _ _ rfl (B7 _ _)
  · intro a' w' hA hC hD; obtain ⟨u17, s17, rfl⟩ := hD ⟨9, .data⟩ (by simp) rfl _ rfl; obtain ⟨u14, s14, rfl⟩ := hD ⟨6, .guard⟩ (by simp) rfl _ rfl
    have t0 := (HT.out w' (HC.out.below hC)).1; have t1 := (HT.out w' (HC.out.below hC)).2
    clear hA hD; refine o7w rfl rfl s14 ?_; intro K hK; gi_wp2; exact hK _ _ rfl (B7 _ _)
  · intro a' w' hA hC hD; have s3 := hA.to 3 (by kernel_rfl) rfl; obtain ⟨u14, s14, rfl⟩ := hD ⟨6, .guard⟩ (by simp) rfl _ rfl
    have h1_ := (HS.out.below hC).blockAt 0 rfl; have c1_0 := c7b (k := 0) h1_ rfl; clear h1_
    clear hA hD; refine o7w rfl rfl s14 ?_; intro K hK; gi_wp2; exact hK _ _ rfl (B7 _ _)
  · intro a' w' hA hC hD; obtain ⟨u19, s19, rfl⟩ := hD ⟨11, .data⟩ (by simp) rfl _ rfl; obtain ⟨u14, s14, rfl⟩ := hD ⟨6, .guard⟩ (by simp) rfl _ rfl; clear hA hD; refine o7w rfl rfl s14 ?_; intro K hK; gi_wp2; exact hK _ _ rfl (B7 _ _)
  · intro a' w' hA hC hD; obtain ⟨u20, s20, rfl⟩ := hD ⟨12, .data⟩ (by simp) rfl _ rfl; obtain ⟨u14, s14, rfl⟩ := hD ⟨6, .guard⟩ (by simp) rfl _ rfl; clear hA hD; refine o7w rfl rfl s14 ?_; intro K hK; gi_wp2; exact hK _ _ rfl (B7 _ _)
  · intro a' w' hA hC hD; obtain ⟨u21, s21, rfl⟩ := hD ⟨13, .data⟩ (by simp) rfl _ rfl; obtain ⟨u14, s14, rfl⟩ := hD ⟨6, .guard⟩ (by simp) rfl _ rfl
    have t0 := (HU.out w' (HD.out.below hC)).1; have t1 := (HU.out w' (HD.out.below hC)).2
    clear hA hD; refine o7w rfl rfl s14 ?_; intro K hK; gi_wp2; exact hK _ _ rfl (B7 _ _)
  · intro a' w' hA hC hD; obtain ⟨u18, s18, rfl⟩ := hD ⟨10, .data⟩ (by simp) rfl _ rfl; obtain ⟨u22, s22, rfl⟩ := hD ⟨14, .data⟩ (by simp) rfl _ rfl; obtain ⟨u14, s14, rfl⟩ := hD ⟨6, .guard⟩ (by simp) rfl _ rfl; clear hA hD; refine o7w rfl rfl s14 ?_; intro K hK; gi_wp2; exact hK _ _ rfl (B7 _ _)
  · intro a' w' hA hC hD; obtain ⟨u14, s14, rfl⟩ := hD ⟨6, .data⟩ (by simp) rfl _ rfl; obtain ⟨u23, s23, rfl⟩ := hD ⟨15, .data⟩ (by simp) rfl _ rfl; clear hA hD; refine o7p rfl ?_; intro K hK; gi_wp2; exact hK _ _ rfl (B7 _ _)
 case hend =>
  intro w2 hC
  simp only [EndFrom, eqv, forall_eq, Act.put, List.length_cons, List.length_nil, List.drop_succ_cons, List.drop_zero, Nat.reduceAdd, List.setIfInBounds_toArray, List.set_cons_succ, List.set_cons_zero]
  have HS := H7 (HS.out.below hC)
  have HC := H7 (HC.out.below hC)
  have HD := H7 (HD.out.below hC)
  clear hC
  clear HC HD
  repeat ((fail_if_success (with_reducible refine stop_atI (id := 5) ?_)); (first | go_values | gi_guarded | gi_step | gi_upon | gi_back | (simp only [Int.not_lt, Int.not_le] at *; go_simp) | (go_values <;> (try go_simp)) | (go_ite <;> go_prune <;> (try go_simp)) | (split <;> (first | (rename_i hx; exact (hx _ rfl).elim) | go_prune))))
  have hs_ := ((HS.out.alloc (.cells #[.func (.func 73) #[] #[.pointer (some ⟨w.heap.size, 0, none⟩), .pointer (some ⟨w.heap.size + 1, 0, none⟩)]] 126)).alloc (.cells #[.slice none 0 0] 66))
  obtain ⟨w3, hw_⟩ : ∃ w3 : World, ((w2.alloc (.cells #[.func (.func 73) #[] #[.pointer (some ⟨w.heap.size, 0, none⟩), .pointer (some ⟨w.heap.size + 1, 0, none⟩)]] 126)).alloc (.cells #[.slice none 0 0] 66)) = w3 := ⟨_, rfl⟩
  rw [hw_] at hs_
  try simp only [World.size_alloc] at hs_
  have HS := H7 hs_
  rw [hw_]
  clear hw_ hs_
  have b1 := h7c HS 3 0 rfl rfl
  have t0 := (HT.out w3 (HC0.out.below HS.out.low)).1
  have t1 := (HT.out w3 (HC0.out.below HS.out.low)).2
  gi_wp2_with fail
  clear b1 t0 t1
  refine (callsIn_wide.2 (points_cl wi hi w3)).mono ?_
  rintro e w' ⟨rfl, rfl⟩
  have hs_ := (HS.out.alloc (.cells #[.int .i64 wi, .int .i64 hi] 106))
  obtain ⟨w4, hw_⟩ : ∃ w4 : World, (w3.alloc (.cells #[.int .i64 wi, .int .i64 hi] 106)) = w4 := ⟨_, rfl⟩
  rw [hw_] at hs_
  try simp only [World.size_alloc] at hs_
  have HS := H7 hs_
  rw [hw_]
  clear hw_ hs_
  gi_wp2_with fail
  have hbx : BoxS w [.blk w2.heap.size (.cells #[.func (.func 73) #[] #[.pointer (some ⟨w.heap.size, 0, none⟩), .pointer (some ⟨w.heap.size + 1, 0, none⟩)]] 126 (0, 0)), .blk (w.heap.size + 1) (.cells #[.pointer (some ⟨d, 0, none⟩)] 55 (0, 0)), .blk w.heap.size (.cells #[.pointer (some ⟨c, 0, none⟩)] 55 (0, 0))] w4.heap.size (w2.heap.size + 1) 66 69 2 encP (.slice none 0 0) ([] : List PtT) w4 := by
   have h1 := HS.out.ord
   have h2 := HS.out.lt 1 rfl
   refine ⟨StO.start (HS.out.sub (.cons _ (.cons _ (List.Sublist.refl _)))) _ _ _, HS.out.blockAt 1 rfl, ?_, ?_, h2⟩
   · have h3 := h1.2.2.2.1
     simpa using h3
   · have := HS.out.low.size
     simp [ItOrd, It.top] at h1
     omega
  have hord : w2.heap.size + 1 < w3.heap.size ∧ w3.heap.size < w4.heap.size ∧ w.heap.size ≤ w4.heap.size := by
   have h1 := HS.out.ord
   have h2 := HS.out.lt 0 rfl
   have h3 := HS.out.size
   simp [ItOrd, It.top] at h1
   omega
  have HO := H7 hord
  have hbs : ∀ b ∈ [w3.heap.size], b < w4.heap.size := by intro b hb; rw [List.mem_singleton.1 hb]; exact hord.2.1
  have hit := points_iter (ownBox (w2.heap.size + 1) 66) w4 (ownSt_box (by omega)) hbx.wf w3.heap.size [w3.heap.size] wi hi Wd Hd HWH.out.2.2.1 HWH.out.2.2.2.1 HWH.out.1 HWH.out.2.1 hbs (by simp) (c7b (HS.out.blockAt 0 rfl) rfl) (c7b (HS.out.blockAt 0 rfl) rfl)
  have HBX := H7 hbx
  clear HS hbx
  apply with_actIn
  intro a0 ha0
  refine range_iterO hit (by omega) (ownSt_box (by omega)) (by rw [ha0]; rfl) (enters_of Tryz.func120 (by kernel_rfl) rfl) hbs (fun _ => rfl) (fun x => [(31, (ptK Wd x.1).val)]) (fun _ => by simp)
   (fun pre W => (∃ v, BoxS w [.blk w2.heap.size (.cells #[.func (.func 73) #[] #[.pointer (some ⟨w.heap.size, 0, none⟩), .pointer (some ⟨w.heap.size + 1, 0, none⟩)]] 126 (0, 0)), .blk (w.heap.size + 1) (.cells #[.pointer (some ⟨d, 0, none⟩)] 55 (0, 0)), .blk w.heap.size (.cells #[.pointer (some ⟨c, 0, none⟩)] 55 (0, 0))] w4.heap.size (w2.heap.size + 1) 66 69 2 encP v (takeD Wd is pre) W) ∧ w4.heap.size ≤ W.heap.size)
   (fun _ _ _ => False) (OwnFrom.and (ownFrom_BoxS _ HO.out.2.2 (by intro b o hb; simp at hb; rcases hb with ⟨_, rfl⟩ | ⟨_, rfl⟩ | ⟨_, rfl⟩ <;> rfl)) (ownFrom_size _)) (fun _ => ownFrom_pure _ _) ⟨⟨_, HBX.out⟩, Nat.le_refl _⟩
   (fun x a' W => ∃ p, a' = loopAct a0 [(31, (ptK Wd x.1).val), (7, .pointer (some ⟨p, 0, none⟩))] ∧ w4.heap.size ≤ p ∧ W.heap[p]? = some (.cells #[.int .i64 (ptK Wd x.1).x, .int .i64 (ptK Wd x.1).y] 69 (0, 0))) ?hAx ?assign ?body ?done ?stop
  case hAx =>
   rintro x a' s X Y row ⟨p, e, hge, hp⟩ hg hr
   exact ⟨p, e, hge, (grownBy_keeps_cells hg (fun r e => (hr r e).2) hp rfl).trans hp⟩
  case assign =>
   rintro ly pre x W K ⟨⟨v, hI⟩, hlt5⟩ hK
   have HK := H7 hK
   have HI := H7 hI
   clear hK hI
   rw [ha0] at HK ⊢
   unfold loopAct at HK ⊢
   simp only [PtT.val, List.foldl, List.setIfInBounds_toArray, List.set_cons_succ, List.set_cons_zero] at HK ⊢
   gi_wp2
   have hb := (B7 W.heap.size W).alloc (Nat.le_refl _) (.cells #[.int .i64 (ptK Wd x.1).x, .int .i64 (ptK Wd x.1).y] 69)
   exact HK.out _ _ (keepsFrom_below hb) (KO.of_below (ownSt_box (by omega)) hb hlt5 (fun c hc => Nat.lt_of_lt_of_le (hbs c hc) hlt5)) ⟨⟨v, HI.out.below hb⟩, Nat.le_trans hlt5 hb.size⟩ ⟨W.heap.size, rfl, hlt5, World.alloc_heap_new W _⟩
  case body =>
   rintro ly pre x a' W ⟨⟨v, hI⟩, hlt5⟩ ⟨p', rfl, hpp, hp⟩ hlen
   rw [ha0]
   unfold loopAct
   obtain ⟨k, hk⟩ : ∃ k, x.1 = k := ⟨_, rfl⟩
   have hkl : k < Hd * Wd := hk ▸ x.2
   have hWp : 0 < Wd := by
    rcases Nat.eq_zero_or_pos Wd with h | h
    · rw [h, Nat.mul_zero] at hkl; omega
    · exact h
   obtain ⟨X, hX⟩ : ∃ X, k % Wd = X := ⟨_, rfl⟩
   obtain ⟨Y, hY⟩ : ∃ Y, k / Wd = Y := ⟨_, rfl⟩
   have hX2 : X < Wd := by rw [← hX]; exact Nat.mod_lt _ hWp
   have hY2 : Y < Hd := by rw [← hY]; exact Nat.div_lt_of_lt_mul (by rw [Nat.mul_comm]; exact hkl)
   have hxy : x.1 = Y * Wd + X := by rw [hk, ← hX, ← hY, Nat.mul_comm]; exact (Nat.div_add_mod _ _).symm
   have hpt : ptK Wd x.1 = ⟨(X : Int), (Y : Int)⟩ := by rw [hxy]; exact ptK_at hX2
   have hsn := takeD_snoc Wd is pre x
   have hle := takeD_len Wd is pre
   rw [hpt] at hp hsn ⊢
   have hisx : is x.1 = decide (colC C X Y ≠ colC D X Y) := by rw [hxy]; exact HIS.out X Y hX2
   rw [hisx] at hsn
   obtain ⟨bv, hbv⟩ : ∃ bv, decide (colC C X Y ≠ colC D X Y) = bv := ⟨_, rfl⟩
   rw [hbv] at hsn
   have HSN := H7 hsn
   obtain ⟨L0, hL0⟩ : ∃ L0, takeD Wd is pre = L0 := ⟨_, rfl⟩
   rw [hL0] at hI hle
   have HL0 := H7 hL0
   obtain ⟨n0, hn0⟩ : ∃ n0, L0.length = n0 := ⟨_, rfl⟩
   have HN0 := H7 (And.intro hn0 (show n0 ≤ 1024 by have := HZW.out; omega))
   have HBX := H7 hI
   have HP := H7 (BlkA.mk hp)
   have hcl := HCL.out w.heap.size (w.heap.size + 1) X Y hX2 hY2 W (hI.o.st.blockAt 2 rfl) (hI.o.st.blockAt 1 rfl) (HC0.out.below hI.o.st.low) (HD0.out.below hI.o.st.low)
   rw [hbv] at hcl
   have HCA := H7 hcl
   have f5 := c7b (k := 0) (hI.o.st.blockAt 0 rfl) rfl
   have q0 := c7b (k := 0) hp rfl
   have q1 := c7b (k := 1) hp rfl
   simp only [PtT.val, List.foldl, List.setIfInBounds_toArray, List.set_cons_succ, List.set_cons_zero]
   clear hI hp hlen hk hkl hX hY hX2 hY2 hxy hpt hsn hle hisx hbv hL0 hn0 hcl hWp
   gi_wp2_with fail
   clear f5 q0 q1
   refine ((callsIn_wide.2 HCA.out).inRound ly).mono ?_
   rintro e W2 ⟨rfl, hb2⟩
   have HB2 := H7 hb2
   have HBX2 := H7 (HBX.out.below hb2)
   have HP2 := H7 (HP.out.below hb2)
   clear hb2
   cases bv with
   | false =>
    gi_wp2
    refine ⟨keepsFrom_below HB2.out, KO.of_below (ownSt_box (by omega)) HB2.out hlt5 (fun c hc => Nat.lt_of_lt_of_le (hbs c hc) hlt5), ⟨v, ?_⟩, Nat.le_trans hlt5 HB2.out.size⟩
    have h1 := HSN.out
    simp only [Bool.false_eq_true, if_false, List.append_nil] at h1
    rw [h1, HL0.out]
    exact HBX2.out
   | true =>
    have f6 := c7b (k := 0) HBX2.out.at_ rfl
    have q0 := c7b (k := 0) HP2.out.at_ rfl
    have q1 := c7b (k := 1) HP2.out.at_ rfl
    gi_wp2_with (gi_at_builtin; refine wpListIn_app1l rowP encP_len encP_one HBX2.out.o (B7 _ _) ⟨(X : Int), (Y : Int)⟩ n0 HN0.out.1 (by have := HN0.out.2; omega) (by decide) _ _ rfl rfl rfl _ rfl (by rfl) ?_; intro v' W3 ho3 hsh hg3 hl3; obtain ⟨ad3, cp3, rfl⟩ := hsh; have c3 := c7b (k := 0) ((hg3.block _ (b7t HBX2.out.at_) (fun e => HBX2.out.nb e.symm)).trans HBX2.out.at_) rfl; have f3 := f7b ((hg3.block _ (b7t HBX2.out.at_) (fun e => HBX2.out.nb e.symm)).trans HBX2.out.at_) 0; have HO3 := H7 ho3; have HG3 := H7 hg3; have HL3 := H7 hl3; clear ho3 hg3 hl3)
    clear f6 q0 q1 c3 f3
    refine ⟨(keepsFrom_below HB2.out).trans (HBX2.out.keepsFrom (B7 _ _) HG3.out), (KO.of_below (ownSt_box (by omega)) HB2.out hlt5 (fun c hc => Nat.lt_of_lt_of_le (hbs c hc) hlt5)).trans (HBX2.out.ko (B7 _ _) HO3.out HG3.out (HL3.out.imp_right fun ⟨b, h1, h2⟩ => ⟨b, h1, Nat.le_of_lt h2⟩) (by omega) (Nat.le_refl _) (Nat.le_trans hlt5 HB2.out.size) (fun b hb => by rw [List.mem_singleton.1 hb]; have := HO.out; omega)), ⟨.slice (some ad3) (n0 + 1) cp3, ?_⟩, ?_⟩
    · have h1 := HSN.out
      simp only [if_true] at h1
      rw [HL0.out] at h1
      rw [h1]
      exact HBX2.out.push (B7 _ _) HO3.out HG3.out
    · rw [World.size_setCell]
      exact Nat.le_trans (Nat.le_trans hlt5 HB2.out.size) HG3.out.size
  case done =>
   rintro D W hD ⟨⟨v, hI⟩, -⟩ hK
   have hall : takeD Wd is (List.finRange (Hd * Wd)) = L := (takeD_all Wd is (Hd * Wd)).trans HL.out
   rw [hall] at hI
   obtain ⟨ad, cap, rfl, -⟩ := hI.o.shape
   have c6 := c7b (k := 0) hI.at_ rfl
   have HI := H7 hI
   have HK := H7 hK
   have HDD := H7 (show w.heap.size ≤ D by have := HO.out; omega)
   rw [ha0]
   dsimp only
   clear hI hK hall hD
   gi_wp2
   refine ret_marked rfl HK.out (v := .slice ad L.length cap) (by simp [results, Tryz.results30, go_sem]) ⟨_, rfl, ownsRow_mono (HI.out.o.row.kept (grownBy_putObj' W D _) ?_) HO.out.2.2, below_putObj HI.out.o.st.low HK.out HDD.out _⟩
   cases hv : (Value.slice ad L.length cap).ownBlock with
   | none => exact .inl rfl
   | some b =>
    refine .inr fun e => ?_
    obtain ⟨cs, f, h1⟩ := ownsRow_typed HI.out.o.row b hv
    cases e
    rw [HK.out] at h1
    cases h1
  case stop =>
   intro D c pre W _ _ h
   exact h.elim
end Go.Proofs.YtgdcfkbimkclaaaGreatDoor
/- Layer 7: what the layer's first look counts, plain. -/
namespace Go.Proofs.YtgdcfkbimkclaaaGreatDoor
open Go.RowKit Go.Shelf
def redC : ColT := ⟨255, 0, 0, 255⟩
theorem redC_ok : okC redC := by unfold okC redC; simp
theorem canE_col (x y : Nat) (hx : x < 8) (hy : y < 8) : colC canE x y = zeroC := by
 have h1 : y / 8 * canE.wide + x / 8 = 0 := by rw [show x / 8 = 0 by omega, show y / 8 = 0 by omega]; simp
 unfold colC
 rw [h1]
 show ((List.replicate 64 zeroC)[y % 8 * 8 + x % 8]?).getD zeroC = zeroC
 rw [List.getElem?_replicate]
 split <;> rfl
/-- Red on some places of the empty canvas: as many places differ. -/
theorem diff_count {D : CanT} (q : Nat → Nat → Bool) (h : ∀ x y, x < 8 → y < 8 → colC D x y = if q x y = true then redC else zeroC) : (diffL canE D).length = ((List.range 64).filter fun k => q (k % 8) (k / 8)).length := by
 unfold diffL gathL
 rw [List.length_map]
 congr 1
 refine List.filter_congr fun k hk => ?_
 have hk2 : k < 64 := List.mem_range.1 hk
 unfold isD
 have e : ptK (8 * canE.wide) k = ⟨((k % 8 : Nat) : Int), ((k / 8 : Nat) : Int)⟩ := rfl
 have c1 : ∀ C : CanT, colP C ⟨((k % 8 : Nat) : Int), ((k / 8 : Nat) : Int)⟩ = colC C (k % 8) (k / 8) := fun C => rfl
 rw [e, c1, c1, canE_col _ _ (by omega) (by omega), h _ _ (by omega) (by omega)]
 cases q (k % 8) (k / 8)
 · simp
 · simp [redC, zeroC]
/-- What is painted red where it is told. -/
theorem painted_count {Q : PtT → Prop} {D : CanT} (hD : Painted canE Q (fpaint redC) D) (q : Nat → Nat → Bool) (hq : ∀ x y : Nat, x < 8 → y < 8 → (Q ⟨(x : Int), (y : Int)⟩ ↔ q x y = true)) :
 (diffL canE D).length = ((List.range 64).filter fun k => q (k % 8) (k / 8)).length ∧ D.wide = 1 ∧ D.high = 1 := by
 obtain ⟨M, hM, rfl⟩ := hD
 refine ⟨diff_count q fun x y hx hy => ?_, by rw [paintC_wide]; rfl, by rw [paintC_high]; rfl⟩
 rw [paintC_col canE_ok M (fpaint_ok redC_ok) (by simpa [canE] using hx) (by simpa [canE] using hy), canE_col x y hx hy]
 have h1 := (hM.has ⟨(x : Int), (y : Int)⟩).trans (hq x y hx hy)
 by_cases h : q x y = true
 · rw [if_pos h, if_pos (h1.2 h)]; rfl
 · rw [if_neg h, if_neg (fun h2 => h (h1.1 h2))]
end Go.Proofs.YtgdcfkbimkclaaaGreatDoor
/- Drawings that differ from the empty canvas at so many places. -/
namespace Go.Proofs.YtgdcfkbimkclaaaGreatDoor
open Go.RowKit Go.Shelf
attribute [local go_sem] Oper.semAt_some
theorem differ_len (C D : CanT) (c d : Nat) (hw : C.wide = D.wide) (hh : C.high = D.high) (N : Nat) (hN : (diffL C D).length = N) (w : World) (hC : CanAt w c C) (hD : CanAt w d D) :
 Calls Tryz.prog 30 #[.pointer (some ⟨c, 0, none⟩), .pointer (some ⟨d, 0, none⟩)] w fun e w' => ∃ a cap, e = .returned (.slice a N cap) ∧ Below w.heap.size w w' :=
 (differ_any C D c d hw hh w hC hD).mono fun e w' h => by
  obtain ⟨v, he, hr, hb⟩ := h
  have h1 := ownsRow_rows encP_len hr
  obtain ⟨a, cap, rfl, -⟩ := h1.shape
  rw [hN] at he
  exact ⟨a, cap, he, hb⟩
/- canvas.Same of two canvases that show the same. -/
theorem tileEq_run (T U : TileT) (w : World) : (binOp .eql 54 (.agg (encT T).toArray) (.agg (encT U).toArray)).run Tryz.prog w = .ok (.bool (decide (T = U))) w := by
 simp [binOp, tileE_run T U w]
theorem tileEqS_run (T : TileT) (w : World) : (binOp .eql 54 (.agg (encT T).toArray) (.agg (encT T).toArray)).run Tryz.prog w = .ok (.bool true) w := by
 rw [tileEq_run, decide_eq_true (rfl : T = T)]
theorem tileGE_run (x y : Operand) (a b : Array Value) (w : World) : (eqGuard .eql 54 x y (.agg a) (.agg b)).run Tryz.prog w = .ok () w := by
 have h : Tryz.prog.eqGuardType Tryz.prog.depth 54 = false := by kernel_rfl
 simp [eqGuard, h]
theorem tile_info : ∃ j, Tryz.prog.info? 54 = some j ∧ j.size ≠ 0 := by
 have h := size_T zeroT
 cases hi : Tryz.prog.info? 54 with
 | none => simp [hi] at h
 | some j =>
  refine ⟨j, rfl, ?_⟩
  rw [hi] at h
  simp [encT_len] at h
  omega
theorem ptrT_same (a : Nat) (w : World) : (binOp .eql 103 (.pointer (some ⟨a, 0, none⟩)) (.pointer (some ⟨a, 0, none⟩))).run Tryz.prog w = .ok (.bool true) w := by
 obtain ⟨j, h1, h2⟩ := tile_info
 exact run_eql_ptr_same w ⟨a, 0, none⟩ Tryz.underlying103 h1
theorem ptrT_other (a b : Nat) (hne : a ≠ b) {T U : TileT} {w : World} (ha : BlkA a (.cells (encT T).toArray 54 (0, 0)) w) (hb : BlkA b (.cells (encT U).toArray 54 (0, 0)) w) : (binOp .eql 103 (.pointer (some ⟨a, 0, none⟩)) (.pointer (some ⟨b, 0, none⟩))).run Tryz.prog w = .ok (.bool false) w := by
 obtain ⟨j, h1, h2⟩ := tile_info
 exact run_eql_ptr_other w (a := ⟨a, 0, none⟩) (b := ⟨b, 0, none⟩) Tryz.underlying103 h1 h2 (fun e => hne (by cases e; rfl)) ha.at_ hb.at_
set_option maxRecDepth 100000 in
set_option maxHeartbeats 2000000 in
theorem same1_any (a b : Nat) (T : TileT) (w : World) (ha : BlkA a (.cells (encT T).toArray 54 (0, 0)) w) (hb : BlkA b (.cells (encT T).toArray 54 (0, 0)) w) :
 Calls Tryz.prog 64 #[.pointer (some ⟨a, 0, none⟩), .pointer (some ⟨b, 0, none⟩)] w (Gives (.bool true) w) := by
 have HA := H7 ha
 have HB := H7 hb
 have HSZ := H7 (size_T T)
 clear ha hb
 by_cases h : a = b
 · subst h
   go_enter Tryz.func64, Tryz.ntmps64
   repeat ((fail_if_success (with_reducible refine stop_at (id := 1) ?_)); (first | go_values | go_skip | go_guarded | go_step | go_upon | go_back | (simp only [Int.not_lt, Int.not_le] at *; go_simp) | (go_values <;> (try go_simp)) | (go_ite <;> go_prune <;> (try go_simp)) | (split <;> (first | (rename_i hx; exact (hx _ rfl).elim) | go_prune))))
   refine (wpIn_wide (n := 0)).1 ?_
   apply w7v 13 (Rl := [(eqv _), (eqv _), (fun v_ _ => v_ = (.bool true : Value)), (fun v_ _ => v_ = (.bool true : Value)), (fun v_ _ => v_ = (undef : Value)), (fun v_ _ => v_ = (undef : Value)), (fun v_ _ => v_ = (undef : Value)), (fun v_ _ => v_ = (undef : Value)), (fun v_ _ => v_ = (undef : Value)), (fun v_ _ => v_ = (undef : Value)), (fun v_ _ => v_ = (undef : Value)), (eqv _), (eqv _)]) (C := (fun x y => Below x.heap.size x y))
   case hm => kernel_rfl
   case hk => rfl
   case hCr => exact (fun _ => B7 _ _)
   case hCt => intro _ _ _; exact (fun h k => g7t h k)
   case hst => repeat (first | exact trivial | refine ⟨fun _ _ _ _ h => h, ?_⟩)
   case hfo => kernel_rfl
   case ht => kernel_rfl
   case hC0 => exact (g7d _)
   case hsteps =>
    refine ⟨?_, ?_, ?_, ?_, ?_, ?_, ?_, ?_, ?_, ?_, ?_, ?_, ?_, trivial⟩
    · intro a' w' hA hC hD; have s0 := hA.to 0 (by kernel_rfl) rfl; clear hA hD; refine o7p rfl ?_; intro K hK; gi_wp2; exact hK _ _ rfl (B7 _ _)
    · intro a' w' hA hC hD; have s1 := hA.to 1 (by kernel_rfl) rfl; clear hA hD; refine o7p rfl ?_; intro K hK; gi_wp2; exact hK _ _ rfl (B7 _ _)
    · intro a' w' hA hC hD; obtain ⟨u5, s5, rfl⟩ := hD ⟨0, .data⟩ (by simp) rfl _ rfl; obtain ⟨u6, s6, rfl⟩ := hD ⟨1, .data⟩ (by simp) rfl _ rfl
      have hp := ptrT_same a w'
      clear hA hD; refine o7p rfl ?_; intro K hK; gi_wp2; exact hK (.bool true) _ rfl (B7 _ _)
    · intro a' w' hA hC hD; obtain ⟨u7, s7, r7⟩ := hD ⟨2, .data⟩ (by simp) rfl _ rfl; replace r7 : u7 = .bool true := r7; subst r7; clear hA hD; refine o7p rfl ?_; intro K hK; gi_wp2; exact hK (.bool true) _ rfl (B7 _ _)
    · intro a' w' hA hC hD; have s0 := hA.to 0 (by kernel_rfl) rfl; obtain ⟨u8, s8, r8⟩ := hD ⟨3, .guard⟩ (by simp) rfl _ rfl; replace r8 : u8 = .bool true := r8; subst r8; clear hA hD
      exact o7s rfl rfl s8 rfl
    · intro a' w' hA hC hD; obtain ⟨u9, s9, r9⟩ := hD ⟨4, .data⟩ (by simp) rfl _ rfl; replace r9 : u9 = undef := r9; subst r9; obtain ⟨u8, s8, r8⟩ := hD ⟨3, .guard⟩ (by simp) rfl _ rfl; replace r8 : u8 = .bool true := r8; subst r8; clear hA hD
      exact o7s rfl rfl s8 rfl
    · intro a' w' hA hC hD; obtain ⟨u10, s10, r10⟩ := hD ⟨5, .data⟩ (by simp) rfl _ rfl; replace r10 : u10 = undef := r10; subst r10; obtain ⟨u8, s8, r8⟩ := hD ⟨3, .guard⟩ (by simp) rfl _ rfl; replace r8 : u8 = .bool true := r8; subst r8; clear hA hD
      exact o7s rfl rfl s8 rfl
    · intro a' w' hA hC hD; have s1 := hA.to 1 (by kernel_rfl) rfl; obtain ⟨u8, s8, r8⟩ := hD ⟨3, .guard⟩ (by simp) rfl _ rfl; replace r8 : u8 = .bool true := r8; subst r8; clear hA hD
      exact o7s rfl rfl s8 rfl
    · intro a' w' hA hC hD; obtain ⟨u12, s12, r12⟩ := hD ⟨7, .data⟩ (by simp) rfl _ rfl; replace r12 : u12 = undef := r12; subst r12; obtain ⟨u8, s8, r8⟩ := hD ⟨3, .guard⟩ (by simp) rfl _ rfl; replace r8 : u8 = .bool true := r8; subst r8; clear hA hD
      exact o7s rfl rfl s8 rfl
    · intro a' w' hA hC hD; obtain ⟨u13, s13, r13⟩ := hD ⟨8, .data⟩ (by simp) rfl _ rfl; replace r13 : u13 = undef := r13; subst r13; obtain ⟨u8, s8, r8⟩ := hD ⟨3, .guard⟩ (by simp) rfl _ rfl; replace r8 : u8 = .bool true := r8; subst r8; clear hA hD
      exact o7s rfl rfl s8 rfl
    · intro a' w' hA hC hD; obtain ⟨u11, s11, r11⟩ := hD ⟨6, .data⟩ (by simp) rfl _ rfl; replace r11 : u11 = undef := r11; subst r11; obtain ⟨u14, s14, r14⟩ := hD ⟨9, .data⟩ (by simp) rfl _ rfl; replace r14 : u14 = undef := r14; subst r14; obtain ⟨u8, s8, r8⟩ := hD ⟨3, .guard⟩ (by simp) rfl _ rfl; replace r8 : u8 = .bool true := r8; subst r8; clear hA hD
      exact o7s rfl rfl s8 rfl
    · intro a' w' hA hC hD; obtain ⟨u8, s8, r8⟩ := hD ⟨3, .data⟩ (by simp) rfl _ rfl; replace r8 : u8 = .bool true := r8; subst r8; obtain ⟨u15, s15, r15⟩ := hD ⟨10, .data⟩ (by simp) rfl _ rfl; replace r15 : u15 = undef := r15; subst r15; clear hA hD; refine o7p rfl ?_; intro K hK; gi_wp2; exact hK _ _ rfl (B7 _ _)
    · intro a' w' hA hC hD; obtain ⟨u16, s16, rfl⟩ := hD ⟨11, .data⟩ (by simp) rfl _ rfl; clear hA hD; refine o7p rfl ?_; intro K hK; gi_wp2; exact hK _ _ rfl (B7 _ _)
   case hend =>
    intro w4 hC
    simp only [EndFrom, eqv, forall_eq, Act.put, List.length_cons, List.length_nil, List.drop_succ_cons, List.drop_zero, Nat.reduceAdd, List.setIfInBounds_toArray, List.set_cons_succ, List.set_cons_zero]
    have HC := H7 hC
    clear hC
    gi_wp2
    go_wp2_with fail
    go_ret
    exact ⟨rfl, HC.out⟩
 · have h2 : ¬ b = a := fun e => h e.symm
   go_enter Tryz.func64, Tryz.ntmps64
   repeat ((fail_if_success (with_reducible refine stop_at (id := 1) ?_)); (first | go_values | go_skip | go_guarded | go_step | go_upon | go_back | (simp only [Int.not_lt, Int.not_le] at *; go_simp) | (go_values <;> (try go_simp)) | (go_ite <;> go_prune <;> (try go_simp)) | (split <;> (first | (rename_i hx; exact (hx _ rfl).elim) | go_prune))))
   refine (wpIn_wide (n := 0)).1 ?_
   apply w7v 13 (Rl := [(eqv _), (eqv _), (fun v_ _ => v_ = (.bool false : Value)), (fun v_ _ => v_ = (.bool false : Value)), (eqv _), (eqv _), (fun v_ _ => v_ = (.agg (encT T).toArray : Value)), (eqv _), (eqv _), (fun v_ _ => v_ = (.agg (encT T).toArray : Value)), (fun v_ _ => v_ = (.bool true : Value)), (eqv _), (eqv _)]) (C := (fun x y => Below x.heap.size x y))
   case hm => kernel_rfl
   case hk => rfl
   case hCr => exact (fun _ => B7 _ _)
   case hCt => intro _ _ _; exact (fun h k => g7t h k)
   case hst => repeat (first | exact trivial | refine ⟨fun _ _ _ _ h => h, ?_⟩)
   case hfo => kernel_rfl
   case ht => kernel_rfl
   case hC0 => exact (g7d _)
   case hsteps =>
    refine ⟨?_, ?_, ?_, ?_, ?_, ?_, ?_, ?_, ?_, ?_, ?_, ?_, ?_, trivial⟩
    · intro a' w' hA hC hD; have s0 := hA.to 0 (by kernel_rfl) rfl; clear hA hD; refine o7p rfl ?_; intro K hK; gi_wp2; exact hK _ _ rfl (B7 _ _)
    · intro a' w' hA hC hD; have s1 := hA.to 1 (by kernel_rfl) rfl; clear hA hD; refine o7p rfl ?_; intro K hK; gi_wp2; exact hK _ _ rfl (B7 _ _)
    · intro a' w' hA hC hD; obtain ⟨u5, s5, rfl⟩ := hD ⟨0, .data⟩ (by simp) rfl _ rfl; obtain ⟨u6, s6, rfl⟩ := hD ⟨1, .data⟩ (by simp) rfl _ rfl
      have hp := ptrT_other a b h (HA.out.below hC) (HB.out.below hC)
      clear hA hD; refine o7p rfl ?_; intro K hK; gi_wp2; exact hK (.bool false) _ rfl (B7 _ _)
    · intro a' w' hA hC hD; obtain ⟨u7, s7, r7⟩ := hD ⟨2, .data⟩ (by simp) rfl _ rfl; replace r7 : u7 = .bool false := r7; subst r7; clear hA hD; refine o7p rfl ?_; intro K hK; gi_wp2; exact hK (.bool false) _ rfl (B7 _ _)
    · intro a' w' hA hC hD; have s0 := hA.to 0 (by kernel_rfl) rfl; obtain ⟨u8, s8, r8⟩ := hD ⟨3, .guard⟩ (by simp) rfl _ rfl; replace r8 : u8 = .bool false := r8; subst r8; clear hA hD; refine o7w rfl rfl s8 ?_; intro K hK; gi_wp2; exact hK _ _ rfl (B7 _ _)
    · intro a' w' hA hC hD; obtain ⟨u9, s9, rfl⟩ := hD ⟨4, .data⟩ (by simp) rfl _ rfl; obtain ⟨u8, s8, r8⟩ := hD ⟨3, .guard⟩ (by simp) rfl _ rfl; replace r8 : u8 = .bool false := r8; subst r8; clear hA hD; refine o7w rfl rfl s8 ?_; intro K hK; gi_wp2; exact hK _ _ rfl (B7 _ _)
    · intro a' w' hA hC hD; obtain ⟨u10, s10, rfl⟩ := hD ⟨5, .data⟩ (by simp) rfl _ rfl; obtain ⟨u8, s8, r8⟩ := hD ⟨3, .guard⟩ (by simp) rfl _ rfl; replace r8 : u8 = .bool false := r8; subst r8; clear hA hD; refine o7w rfl rfl s8 ?_; intro K hK
      refine opIn_load 54 _ rfl a (by simp [Act.eval, s10]) 54 (encT T).toArray (0, 0) _ (HA.out.below hC).at_ Tryz.underlying54 rfl HSZ.out (hK _ _ rfl (B7 _ _))
    · intro a' w' hA hC hD; have s1 := hA.to 1 (by kernel_rfl) rfl; obtain ⟨u8, s8, r8⟩ := hD ⟨3, .guard⟩ (by simp) rfl _ rfl; replace r8 : u8 = .bool false := r8; subst r8; clear hA hD; refine o7w rfl rfl s8 ?_; intro K hK; gi_wp2; exact hK _ _ rfl (B7 _ _)
    · intro a' w' hA hC hD; obtain ⟨u12, s12, rfl⟩ := hD ⟨7, .data⟩ (by simp) rfl _ rfl; obtain ⟨u8, s8, r8⟩ := hD ⟨3, .guard⟩ (by simp) rfl _ rfl; replace r8 : u8 = .bool false := r8; subst r8; clear hA hD; refine o7w rfl rfl s8 ?_; intro K hK; gi_wp2; exact hK _ _ rfl (B7 _ _)
    · intro a' w' hA hC hD; obtain ⟨u13, s13, rfl⟩ := hD ⟨8, .data⟩ (by simp) rfl _ rfl; obtain ⟨u8, s8, r8⟩ := hD ⟨3, .guard⟩ (by simp) rfl _ rfl; replace r8 : u8 = .bool false := r8; subst r8; clear hA hD; refine o7w rfl rfl s8 ?_; intro K hK
      refine opIn_load 54 _ rfl b (by simp [Act.eval, s13]) 54 (encT T).toArray (0, 0) _ (HB.out.below hC).at_ Tryz.underlying54 rfl HSZ.out (hK _ _ rfl (B7 _ _))
    · intro a' w' hA hC hD; obtain ⟨u11, s11, r11⟩ := hD ⟨6, .data⟩ (by simp) rfl _ rfl; replace r11 : u11 = .agg (encT T).toArray := r11; subst r11; obtain ⟨u14, s14, r14⟩ := hD ⟨9, .data⟩ (by simp) rfl _ rfl; replace r14 : u14 = .agg (encT T).toArray := r14; subst r14; obtain ⟨u8, s8, r8⟩ := hD ⟨3, .guard⟩ (by simp) rfl _ rfl; replace r8 : u8 = .bool false := r8; subst r8; clear hA hD; refine o7w rfl rfl s8 ?_; intro K hK
      refine opIn_bin _ _ _ _ _ rfl (by simp [Act.eval, s11]) (by simp [Act.eval, s14]) (tileGE_run _ _ _ _ w') (tileEqS_run T w') (hK _ _ rfl (B7 _ _))
    · intro a' w' hA hC hD; obtain ⟨u8, s8, r8⟩ := hD ⟨3, .data⟩ (by simp) rfl _ rfl; replace r8 : u8 = .bool false := r8; subst r8; obtain ⟨u15, s15, r15⟩ := hD ⟨10, .data⟩ (by simp) rfl _ rfl; replace r15 : u15 = .bool true := r15; subst r15; clear hA hD; refine o7p rfl ?_; intro K hK; gi_wp2; exact hK _ _ rfl (B7 _ _)
    · intro a' w' hA hC hD; obtain ⟨u16, s16, rfl⟩ := hD ⟨11, .data⟩ (by simp) rfl _ rfl; clear hA hD; refine o7p rfl ?_; intro K hK; gi_wp2; exact hK _ _ rfl (B7 _ _)
   case hend =>
    intro w4 hC
    simp only [EndFrom, eqv, forall_eq, Act.put, List.length_cons, List.length_nil, List.drop_succ_cons, List.drop_zero, Nat.reduceAdd, List.setIfInBounds_toArray, List.set_cons_succ, List.set_cons_zero]
    have HC := H7 hC
    clear hC
    gi_wp2
    go_wp2_with fail
    go_ret
    exact ⟨rfl, HC.out⟩
/- canvas.Same of two canvases that show the same, whole. -/
set_option maxRecDepth 100000 in
set_option maxHeartbeats 2000000 in
theorem tilesSame_any (b b2 n cap cap2 : Nat) (hn : n ≤ 1000) (w : World) (h : ∀ k, k < n → ∃ q q2 T, w.cell? ⟨b, k, none⟩ = some (.pointer (some ⟨q, 0, none⟩)) ∧ w.cell? ⟨b2, k, none⟩ = some (.pointer (some ⟨q2, 0, none⟩)) ∧ BlkA q (.cells (encT T).toArray 54 (0, 0)) w ∧ BlkA q2 (.cells (encT T).toArray 54 (0, 0)) w) :
 Calls Tryz.prog 63 #[.slice (some ⟨b, 0, none⟩) n cap, .slice (some ⟨b2, 0, none⟩) n cap2, .func (.func 64) #[] #[]] w (Gives (.bool true) w) := by
 have HH := H7 h
 have HN := H7 hn
 have HS := H7 (LowAt.mk (B7 w.heap.size w))
 clear h hn
 go_enter Tryz.func63, Tryz.ntmps63
 go_wp2_with fail
 go_loopw [17] (fun i wr => ∃ k : Nat, k ≤ n ∧ i = .int .i64 (k : Int) ∧ LowAt w wr) (fun i _ => n - (intOf i).toNat)
 case atStart => exact ⟨0, by omega, rfl, HS.out⟩
 case round =>
  obtain ⟨k, hk, rfl, hg⟩ := hrel
  clear HS
  have HG := H7 hg
  clear hg
  by_cases hlt : k < n
  · have HK := H7 hlt
    have e3 : wrap64 ((k : Int) + 1) = ((k + 1 : Nat) : Int) := by have := HN.out; unfold wrap64; omega
    have HWK := H7 e3
    obtain ⟨q, q2, T, h1, h2, h3, h4⟩ := HH.out k hlt
    have c1 := (HG.out.low.cell (p := ⟨b, k, none⟩) (cell_lt h1)).trans h1
    have c2 := (HG.out.low.cell (p := ⟨b2, k, none⟩) (cell_lt h2)).trans h2
    have HQ := H7 (h3.below HG.out.low)
    have HQ2 := H7 (h4.below HG.out.low)
    clear h1 h2 h3 h4
    go_wp2_with fail
    clear c1 c2
    refine (same1_any q q2 T wr HQ.out HQ2.out).mono ?_
    rintro e w2 ⟨rfl, hb⟩
    have HG := H7 (HG.out.below hb)
    clear hb
    go_wp2_with fail
    go_roundw
    case rel => exact ⟨k + 1, by omega, by first | exact congrArg (Value.int .i64) HWK.out | exact congrArg (Value.int .i64) (Int.natCast_succ k).symm | (congr 1; omega), HG.out⟩
    case measure => (try rw [HWK.out]); have := HK.out; simp only [intOf]; omega
  · go_wp2_with fail
    go_ret
    exact ⟨rfl, HG.out.low⟩
set_option maxRecDepth 100000 in
set_option maxHeartbeats 2000000 in
theorem same_eq (C : CanT) (c d : Nat) (w : World) (hC : CanAt w c C) (hD : CanAt w d C) :
 Calls Tryz.prog 25 #[.pointer (some ⟨c, 0, none⟩), .pointer (some ⟨d, 0, none⟩)] w (Gives (.bool true) w) := by
 obtain ⟨ok, b, cap, qs, h1, h2, h3, h4, h5⟩ := hC
 obtain ⟨-, b2, cap2, qs2, g1, g2, g3, g4, g5⟩ := hD
 have HP := H7 (BlkA.mk h1)
 have HQ := H7 (BlkA.mk g1)
 have hlen := ok.len
 obtain ⟨wide, high, tiles⟩ := C
 simp only at *
 obtain ⟨n, hn⟩ : ∃ n, tiles.length = n := ⟨_, rfl⟩
 rw [hn] at HP HQ
 have HE : Hid (∀ w', Below w.heap.size w w' → Calls Tryz.prog 63 #[.slice (some ⟨b, 0, none⟩) n cap, .slice (some ⟨b2, 0, none⟩) n cap2, .func (.func 64) #[] #[]] w' (Gives (.bool true) w')) := H7 fun w' hb => by
  refine tilesSame_any b b2 n cap cap2 (by omega) w' fun k hk => ?_
  have k1 : k < qs.length := by omega
  have k2 : k < qs2.length := by omega
  have k3 : k < tiles.length := by omega
  have e1 := h4 k _ (List.getElem?_eq_getElem k1)
  have e2 := g4 k _ (List.getElem?_eq_getElem k2)
  exact ⟨_, _, _, (hb.cell (p := ⟨b, k, none⟩) (cell_lt e1)).trans e1, (hb.cell (p := ⟨b2, k, none⟩) (cell_lt e2)).trans e2, (BlkA.mk (h5 k _ _ (List.getElem?_eq_getElem k1) (List.getElem?_eq_getElem k3))).below hb, (BlkA.mk (g5 k _ _ (List.getElem?_eq_getElem k2) (List.getElem?_eq_getElem k3))).below hb⟩
 clear ok h1 h2 h3 h4 h5 g1 g2 g3 g4 g5 hlen hn
 go_enter Tryz.func25, Tryz.ntmps25
 repeat ((fail_if_success (with_reducible refine stop_at (id := 3) ?_)); (first | go_values | go_skip | go_guarded | go_step | go_upon | go_back | (simp only [Int.not_lt, Int.not_le] at *; go_simp) | (go_values <;> (try go_simp)) | (go_ite <;> go_prune <;> (try go_simp)) | (split <;> (first | (rename_i hx; exact (hx _ rfl).elim) | go_prune))))
 refine (wpIn_wide (n := 0)).1 ?_
 apply w7v 21 (Rl := [(eqv _), (eqv _), (eqv _), (eqv _), (eqv _), (eqv _), (eqv _), (eqv _), (fun v_ _ => v_ = (.bool true : Value)), (fun v_ _ => v_ = (.bool true : Value)), (eqv _), (eqv _), (eqv _), (eqv _), (eqv _), (eqv _), (eqv _), (eqv _), (eqv _), (eqv _), (eqv _)]) (C := (fun x y => Below x.heap.size x y))
 case hm => kernel_rfl
 case hk => rfl
 case hCr => exact (fun _ => B7 _ _)
 case hCt => intro _ _ _; exact (fun h k => g7t h k)
 case hst => repeat (first | exact trivial | refine ⟨fun _ _ _ _ h => h, ?_⟩)
 case hfo => kernel_rfl
 case ht => kernel_rfl
 case hC0 => exact (g7d _)
 case hsteps =>
  refine ⟨?_, ?_, ?_, ?_, ?_, ?_, ?_, ?_, ?_, ?_, ?_, ?_, ?_, ?_, ?_, ?_, ?_, ?_, ?_, ?_, ?_, trivial⟩
  · intro a' w' hA hC hD; have s0 := hA.to 0 (by kernel_rfl) rfl; clear hA hD; refine o7p rfl ?_; intro K hK; gi_wp2; exact hK _ _ rfl (B7 _ _)
  · intro a' w' hA hC hD; obtain ⟨u14, s14, rfl⟩ := hD ⟨0, .data⟩ (by simp) rfl _ rfl; clear hA hD; refine o7p rfl ?_; intro K hK; gi_wp2; exact hK _ _ rfl (B7 _ _)
  · intro a' w' hA hC hD; obtain ⟨u15, s15, rfl⟩ := hD ⟨1, .data⟩ (by simp) rfl _ rfl; clear hA hD; refine o7p rfl ?_; intro K hK; gi_wp2; exact hK _ _ rfl (B7 _ _)
  · intro a' w' hA hC hD; obtain ⟨u16, s16, rfl⟩ := hD ⟨2, .data⟩ (by simp) rfl _ rfl
    have z0 := c7b (k := 0) (HP.out.below hC).at_ rfl; have z1 := c7b (k := 1) (HP.out.below hC).at_ rfl
    clear hA hD; refine o7p rfl ?_; intro K hK; gi_wp2; exact hK _ _ rfl (B7 _ _)
  · intro a' w' hA hC hD; have s1 := hA.to 1 (by kernel_rfl) rfl; clear hA hD; refine o7p rfl ?_; intro K hK; gi_wp2; exact hK _ _ rfl (B7 _ _)
  · intro a' w' hA hC hD; obtain ⟨u18, s18, rfl⟩ := hD ⟨4, .data⟩ (by simp) rfl _ rfl; clear hA hD; refine o7p rfl ?_; intro K hK; gi_wp2; exact hK _ _ rfl (B7 _ _)
  · intro a' w' hA hC hD; obtain ⟨u19, s19, rfl⟩ := hD ⟨5, .data⟩ (by simp) rfl _ rfl; clear hA hD; refine o7p rfl ?_; intro K hK; gi_wp2; exact hK _ _ rfl (B7 _ _)
  · intro a' w' hA hC hD; obtain ⟨u20, s20, rfl⟩ := hD ⟨6, .data⟩ (by simp) rfl _ rfl
    have z0 := c7b (k := 0) (HQ.out.below hC).at_ rfl; have z1 := c7b (k := 1) (HQ.out.below hC).at_ rfl
    clear hA hD; refine o7p rfl ?_; intro K hK; gi_wp2; exact hK _ _ rfl (B7 _ _)
  · intro a' w' hA hC hD; obtain ⟨u17, s17, rfl⟩ := hD ⟨3, .data⟩ (by simp) rfl _ rfl; obtain ⟨u21, s21, rfl⟩ := hD ⟨7, .data⟩ (by simp) rfl _ rfl; clear hA hD; refine o7p rfl ?_; intro K hK; gi_wp2; exact hK (.bool true) _ rfl (B7 _ _)
  · intro a' w' hA hC hD; obtain ⟨u22, s22, r22⟩ := hD ⟨8, .data⟩ (by simp) rfl _ rfl; replace r22 : u22 = .bool true := r22; subst r22; clear hA hD; refine o7p rfl ?_; intro K hK; gi_wp2; exact hK (.bool true) _ rfl (B7 _ _)
  · intro a' w' hA hC hD; have s0 := hA.to 0 (by kernel_rfl) rfl; obtain ⟨u23, s23, r23⟩ := hD ⟨9, .guard⟩ (by simp) rfl _ rfl; replace r23 : u23 = .bool true := r23; subst r23; clear hA hD; refine o7w rfl rfl s23 ?_; intro K hK; gi_wp2; exact hK _ _ rfl (B7 _ _)
  · intro a' w' hA hC hD; obtain ⟨u24, s24, rfl⟩ := hD ⟨10, .data⟩ (by simp) rfl _ rfl; obtain ⟨u23, s23, r23⟩ := hD ⟨9, .guard⟩ (by simp) rfl _ rfl; replace r23 : u23 = .bool true := r23; subst r23; clear hA hD; refine o7w rfl rfl s23 ?_; intro K hK; gi_wp2; exact hK _ _ rfl (B7 _ _)
  · intro a' w' hA hC hD; obtain ⟨u25, s25, rfl⟩ := hD ⟨11, .data⟩ (by simp) rfl _ rfl; obtain ⟨u23, s23, r23⟩ := hD ⟨9, .guard⟩ (by simp) rfl _ rfl; replace r23 : u23 = .bool true := r23; subst r23; clear hA hD; refine o7w rfl rfl s23 ?_; intro K hK; gi_wp2; exact hK _ _ rfl (B7 _ _)
  · intro a' w' hA hC hD; obtain ⟨u26, s26, rfl⟩ := hD ⟨12, .data⟩ (by simp) rfl _ rfl; obtain ⟨u23, s23, r23⟩ := hD ⟨9, .guard⟩ (by simp) rfl _ rfl; replace r23 : u23 = .bool true := r23; subst r23
    have z0 := c7b (k := 2) (HP.out.below hC).at_ rfl
    clear hA hD; refine o7w rfl rfl s23 ?_; intro K hK; gi_wp2; exact hK _ _ rfl (B7 _ _)
  · intro a' w' hA hC hD; have s1 := hA.to 1 (by kernel_rfl) rfl; obtain ⟨u23, s23, r23⟩ := hD ⟨9, .guard⟩ (by simp) rfl _ rfl; replace r23 : u23 = .bool true := r23; subst r23; clear hA hD; refine o7w rfl rfl s23 ?_; intro K hK; gi_wp2; exact hK _ _ rfl (B7 _ _)
  · intro a' w' hA hC hD; obtain ⟨u28, s28, rfl⟩ := hD ⟨14, .data⟩ (by simp) rfl _ rfl; obtain ⟨u23, s23, r23⟩ := hD ⟨9, .guard⟩ (by simp) rfl _ rfl; replace r23 : u23 = .bool true := r23; subst r23; clear hA hD; refine o7w rfl rfl s23 ?_; intro K hK; gi_wp2; exact hK _ _ rfl (B7 _ _)
  · intro a' w' hA hC hD; obtain ⟨u29, s29, rfl⟩ := hD ⟨15, .data⟩ (by simp) rfl _ rfl; obtain ⟨u23, s23, r23⟩ := hD ⟨9, .guard⟩ (by simp) rfl _ rfl; replace r23 : u23 = .bool true := r23; subst r23; clear hA hD; refine o7w rfl rfl s23 ?_; intro K hK; gi_wp2; exact hK _ _ rfl (B7 _ _)
  · intro a' w' hA hC hD; obtain ⟨u30, s30, rfl⟩ := hD ⟨16, .data⟩ (by simp) rfl _ rfl; obtain ⟨u23, s23, r23⟩ := hD ⟨9, .guard⟩ (by simp) rfl _ rfl; replace r23 : u23 = .bool true := r23; subst r23
    have z0 := c7b (k := 2) (HQ.out.below hC).at_ rfl
    clear hA hD; refine o7w rfl rfl s23 ?_; intro K hK; gi_wp2; exact hK _ _ rfl (B7 _ _)
  · intro a' w' hA hC hD; obtain ⟨u27, s27, rfl⟩ := hD ⟨13, .data⟩ (by simp) rfl _ rfl; obtain ⟨u31, s31, rfl⟩ := hD ⟨17, .data⟩ (by simp) rfl _ rfl; obtain ⟨u23, s23, r23⟩ := hD ⟨9, .chain⟩ (by simp) rfl _ rfl; replace r23 : u23 = .bool true := r23; subst r23; clear hA hD; refine o7w rfl rfl s23 ?_; intro K hK
    gi_wp2_with fail; refine (callsIn_wide.2 (HE.out _ hC)).mono ?_; rintro e w2 ⟨rfl, hb⟩
    exact hK _ _ rfl hb
  · intro a' w' hA hC hD; obtain ⟨u23, s23, r23⟩ := hD ⟨9, .data⟩ (by simp) rfl _ rfl; replace r23 : u23 = .bool true := r23; subst r23; obtain ⟨u32, s32, rfl⟩ := hD ⟨18, .data⟩ (by simp) rfl _ rfl; clear hA hD; refine o7p rfl ?_; intro K hK; gi_wp2; exact hK _ _ rfl (B7 _ _)
  · intro a' w' hA hC hD; obtain ⟨u33, s33, rfl⟩ := hD ⟨19, .data⟩ (by simp) rfl _ rfl; clear hA hD; refine o7p rfl ?_; intro K hK; gi_wp2; exact hK _ _ rfl (B7 _ _)
 case hend =>
  intro w4 hC
  simp only [EndFrom, eqv, forall_eq, Act.put, List.length_cons, List.length_nil, List.drop_succ_cons, List.drop_zero, Nat.reduceAdd, List.setIfInBounds_toArray, List.set_cons_succ, List.set_cons_zero]
  have HC := H7 hC
  clear hC
  gi_wp2
  go_wp2_with fail
  go_ret
  exact ⟨rfl, HC.out⟩
/- Layer 12's laws: the chapter's operations; rect. -/
/-- The statements' colour is laid. -/
structure RedO (w : World) : Prop where
 c0 : w.cell? ⟨0, 0, none⟩ = some (.int .u8 255)
 c1 : w.cell? ⟨0, 1, none⟩ = some (.int .u8 0)
 c2 : w.cell? ⟨0, 2, none⟩ = some (.int .u8 0)
 c3 : w.cell? ⟨0, 3, none⟩ = some (.int .u8 255)
theorem RedO.below {w w' : World} (h : RedO w) (hb : Below w.heap.size w w') : RedO w' := by
 have hl : 0 < w.heap.size := cell_lt h.c0
 exact ⟨(hb.cell (p := ⟨0, 0, none⟩) hl).trans h.c0, (hb.cell (p := ⟨0, 1, none⟩) hl).trans h.c1, (hb.cell (p := ⟨0, 2, none⟩) hl).trans h.c2, (hb.cell (p := ⟨0, 3, none⟩) hl).trans h.c3⟩
def rectO : OpT := ⟨⟨1, 1, 1⟩, 3, 6, 6, 9, 9, 0, redC, 0, 0, [], ⟨0, 0, 0⟩⟩
def fillO : OpT := ⟨⟨1, 1, 1⟩, 5, 8, 0, 0, 0, 0, redC, 0, 0, [], ⟨0, 0, 0⟩⟩
def undoO : OpT := ⟨⟨2, 1, 2⟩, 7, 0, 0, 0, 0, 0, redC, 0, 0, [], ⟨1, 1, 1⟩⟩
abbrev nilP : Value := .slice none 0 0
theorem built_rectO : Tryz.prog.built 31 [(0, .agg #[.int .u64 1, .int .i64 1, .int .u64 1]), (1, .int .i64 3), (2, .int .i64 6), (3, .int .i64 6), (4, .int .i64 9), (5, .int .i64 9), (7, .agg #[.int .u8 255, .int .u8 0, .int .u8 0, .int .u8 255])] = some (rectO.cells nilP) := by kernel_rfl
theorem built_fillO : Tryz.prog.built 31 [(0, .agg #[.int .u64 1, .int .i64 1, .int .u64 1]), (1, .int .i64 5), (2, .int .i64 8), (7, .agg #[.int .u8 255, .int .u8 0, .int .u8 0, .int .u8 255])] = some (fillO.cells nilP) := by kernel_rfl
theorem built_undoO : Tryz.prog.built 31 [(0, .agg #[.int .u64 2, .int .i64 1, .int .u64 2]), (1, .int .i64 7), (9, .agg #[.int .u64 1, .int .i64 1, .int .u64 1]), (7, .agg #[.int .u8 255, .int .u8 0, .int .u8 0, .int .u8 255])] = some (undoO.cells nilP) := by kernel_rfl
theorem okO_nil (o : OpT) (h : o.px = []) (w : World) : OkO w (o, nilP) := by
 refine ⟨⟨none, 0, ?_, ?_, ?_⟩, ?_⟩
 · show nilP = _
   rw [h]
   rfl
 · show o.px.length ≤ 0
   rw [h]
   exact Nat.le_refl _
 · rw [show (o, nilP).1.px = [] from h]
   exact .inl ⟨rfl, rfl⟩
 · show o.px.length ≤ _
   rw [h]
   exact Nat.zero_le _
set_option maxRecDepth 100000 in
set_option maxHeartbeats 2000000 in
theorem rect12_any (w : World) (hr : RedO w) : Calls Tryz.prog 36 #[] w (Gives (.agg (rectO.cells nilP)) w) := by
 have HS := H7 (St.start w)
 have HR := H7 hr
 clear hr
 go_enter Tryz.func36, Tryz.ntmps36
 repeat ((fail_if_success (with_reducible refine stop_at (id := 1) ?_)); (first | go_values | go_skip | go_guarded | go_step | go_upon | go_back | (simp only [Int.not_lt, Int.not_le] at *; go_simp) | (go_values <;> (try go_simp)) | (go_ite <;> go_prune <;> (try go_simp)) | (split <;> (first | (rename_i hx; exact (hx _ rfl).elim) | go_prune))))
 rw [← opZ.eq_1]
 have hs_ := (HS.out.alloc (.cells opZ 31))
 have hk_HR := HR.out.below ((B7 _ _).alloc (by exact Nat.le_refl _) (.cells opZ 31))
 obtain ⟨w1, hw_⟩ : ∃ w1 : World, (w.alloc (.cells opZ 31)) = w1 := ⟨_, rfl⟩
 rw [hw_] at hs_ hk_HR
 try simp only [World.size_alloc] at hs_
 have HS := H7 hs_
 have HR := H7 hk_HR
 rw [hw_]
 clear hw_ hs_ hk_HR
 have c0 := HR.out.c0
 have c1 := HR.out.c1
 have c2 := HR.out.c2
 have c3 := HR.out.c3
 have hR := HS.out.blockAt 0 rfl
 refine (wpIn_wide (n := 0)).1 ?_
 repeat ((fail_if_success (refine opIn_build 31 _ rfl (rectO.cells nilP) ?_ ?_)); gi_step)
 refine opIn_build 31 _ rfl (rectO.cells nilP) ?hb ?_
 case hb => simpa [Act.eval] using built_rectO
 simp only [Act.put, List.setIfInBounds_toArray, List.set_cons_succ, List.set_cons_zero]
 repeat ((fail_if_success (refine opIn_store 31 _ _ rfl w.heap.size 31 opZ (rectO.cells nilP) rfl rfl hR (by kernel_rfl) rfl (by kernel_rfl) ?_)); gi_step)
 refine opIn_store 31 _ _ rfl w.heap.size 31 opZ (rectO.cells nilP) rfl rfl hR (by kernel_rfl) rfl (by kernel_rfl) ?_
 simp only [Act.put, List.setIfInBounds_toArray, List.set_cons_succ, List.set_cons_zero]
 have hs5 := HS.out.putRow (c' := rectO.cells nilP) (pre := []) (by simp)
 obtain ⟨w5, hw5⟩ : ∃ w5, w1.setRow w.heap.size (rectO.cells nilP) = w5 := ⟨_, rfl⟩
 rw [hw5] at hs5 ⊢
 clear hw5 hR c0 c1 c2 c3
 have HS := H7 hs5
 clear hs5
 gi_wp2_with fail
 go_wp2_with fail
 have hl := run_loadVar_row (P := Tryz.prog) w5 w.heap.size 31 31 (rectO.cells nilP) (0, 0) _ (HS.out.blockAt 0 rfl) Tryz.underlying31 rfl (by kernel_rfl)
 exact bodyPost_ret (results_cell1 Tryz.results36 rfl hl) rfl ⟨rfl, HS.out.low⟩
/-- What the chapter's operations do. -/
def OpdW (o : OpT) (C D : CanT) : Prop := (o.kind = 3 ∧ Painted C (RectP o.f o.t) (fpaint o.c) D ∧ D.wide = 1 ∧ D.high = 1) ∨ (o.kind = 5 ∧ D = C ∧ D.wide = 1 ∧ D.high = 1)
def G11 (C : CanT) : Prop := C.wide = 1 ∧ C.high = 1
theorem opdW_g (o : OpT) (C D : CanT) (h : OpdW o C D) : G11 D := by rcases h with h | h <;> exact h.2.2
theorem rectO_may : opMayB rectO = true := by kernel_rfl
theorem fillO_may : opMayB fillO = true := by kernel_rfl
theorem undoO_may : opMayB undoO = false := by kernel_rfl
theorem plainUndo_may : opMayB (plainO undoO) = true := by kernel_rfl
theorem rectO_meth (w : World) : MethOk G11 OpdW w (rectO, nilP) := by
 intro w' P d C _ hP hC hG
 refine (op_rect_any rectO none 0 0 redC_ok (may_drawn rectO_may).1 (may_drawn rectO_may).2 P d C w' ⟨hP, hC⟩).mono ?_
 rintro e w2 ⟨d', D, rfl, h1, h2, h3⟩
 obtain ⟨M, hM, rfl⟩ := id h1
 exact ⟨d', _, rfl, .inl ⟨rfl, h1, (paintC_wide _ _ _).trans hG.1, (paintC_high _ _ _).trans hG.2⟩, h2, h3⟩
theorem fillO_meth (w : World) : MethOk G11 OpdW w (fillO, nilP) := by
 intro w' P d C _ hP hC hG
 refine (op_fill_off fillO nilP P d C (by rw [hG.1, hG.2]; decide) w' ⟨hP, hC⟩).mono ?_
 rintro e w2 ⟨rfl, h3⟩
 exact ⟨d, C, rfl, .inr ⟨rfl, rfl, hG.1, hG.2⟩, hC.below h3, h3⟩
end Go.Proofs.YtgdcfkbimkclaaaGreatDoor
