/- Merged texts: Points RegL. -/
import Derived.Test.YtodpkgbpcpfamaaGreatM15
import Derived.Test.YtodpkgbpcpfamaaGreatM11
/- Layer 8: points; Steps. -/
namespace Go.Proofs.YtodpkgbpcpfamaaGreat
set_option linter.unusedSimpArgs false
set_option linter.unusedVariables false
open Go.RowKit Go.Shelf
attribute [local go_sem] Oper.semAt_some

/-- Is place k met? -/
def metB (W : Nat) (m : Nat → Nat) (k : Nat) : Bool := decide (0 < m (ixP (ptK W k)))
theorem metB_at {W x y : Nat} (hx : x < W) (m : Nat → Nat) : metB W m (y * W + x) = decide (0 < m (y * 32 + x)) := by
 unfold metB
 rw [ptK_at hx]; rw [show ixP ⟨(x : Int), (y : Int)⟩ = y * 32 + x by unfold ixP; simp only; omega]

set_option maxRecDepth 100000 in
set_option maxHeartbeats 1000000 in
theorem points_any (S c W H : Nat) (hW : W ≤ 32) (hH : H ≤ 32) (m : Nat → Nat) (v : Value) (w : World) (hs : w.heap[S]? = some (seaO c W H m v)) :
 Calls Tryz.prog 24 #[.pointer (some ⟨S, 0, none⟩)] w (GivesRow 33 2 (gathL W (metB W m) (H * W)).length ((gathL W (metB W m) (H * W)).flatMap encP) w) := by
 have HB := Lib.hid (And.intro hW hH)
 have HS := Lib.hid (St.start w)
 have HH := Lib.hid hs
 clear hs hW hH
 go_enter Tryz.func24, Tryz.ntmps24
 repeat ((fail_if_success (with_reducible refine stop_at (id := 1) ?_)); (first | go_values | go_skip | go_guarded | go_step | go_upon | go_back | (simp only [Int.not_lt, Int.not_le] at *; go_simp) | (go_values <;> (try go_simp)) | (go_ite <;> go_prune <;> (try go_simp)) | (split <;> (first | (rename_i hx; exact (hx _ rfl).elim) | go_prune))))
 have hs_ := (HS.out.alloc (.cells #[.pointer (some ⟨S, 0, none⟩)] 69))
 obtain ⟨w1, hw_⟩ : ∃ w1 : World, (w.alloc (.cells #[.pointer (some ⟨S, 0, none⟩)] 69)) = w1 := ⟨_, rfl⟩
 rw [hw_] at hs_
 try simp only [World.size_alloc] at hs_
 have HS := Lib.hid hs_
 rw [hw_]
 clear hw_ hs_
 have b1 := cell_of_block (k := 0) (HS.out.blockAt 0 rfl) rfl
 have hlt : w.heap.size < w1.heap.size := HS.out.lt 0 rfl
 have hs1 := (HS.out.low.block S (block_lt HH.out)).trans HH.out
 have HG := Lib.hid (gath_points S W H HB.out.1 HB.out.2 (.pointer (some ⟨w.heap.size, 0, none⟩)) (metB W m) (fun _ x => x.heap[S]? = some (seaO c W H m v) ∧ x.heap[w.heap.size]? = some (.cells #[.pointer (some ⟨S, 0, none⟩)] 69 (0, 0))) w1 (block_lt hs1)
  (fun k wr h => ⟨cell_of_block h.1 (seaA_1 _ _ _ _ _), cell_of_block h.1 (seaA_2 _ _ _ _ _)⟩)
  (fun k wr wr' h hk => ⟨(hk S (block_lt hs1)).trans h.1, (hk _ hlt).trans h.2⟩)
  (fun x y wr hx hy h _ => (pts_cl w.heap.size S c W H m v x y (by have := HB.out; omega) (by have := HB.out; omega) wr (cell_of_block (k := 0) h.2 rfl) h.1).mono (by
   rintro e w' ⟨rfl, hb⟩
   exact ⟨by rw [metB_at hx], ⟨(hb.block S (block_lt h.1)).trans h.1, (hb.block _ (block_lt h.2)).trans h.2⟩, (Turned.refl _ _).belowT hb⟩))
  ⟨hs1, HS.out.blockAt 0 rfl⟩)
 clear hlt hs1
 go_wp2_with fail
 refine HG.out.mono ?_
 rintro e w2 ⟨u, rfl, hr, hi, ht⟩
 have HR := Lib.hid (And.intro hr (And.intro hi ht))
 clear hr hi ht HG b1
 go_wp2_with fail
 go_ret
 refine ⟨u, rfl, ownsRow_mono HR.out.1 HS.out.low.size, ?_⟩
 refine HS.out.low.trans ⟨HR.out.2.2.os, HR.out.2.2.tape, HR.out.2.2.output, HR.out.2.2.size, fun k hk => ?_⟩
 by_cases hkS : k = S
 · subst hkS
   rw [HR.out.2.1.1]
   exact ((HS.out.low.block k hk).trans HH.out).symm
 · exact HR.out.2.2.block k (Nat.lt_of_lt_of_le hk HS.out.size) hkS

/-- How far all is from a pixel, and 1. -/
def metC (C : CanT) (p : PtT) (t : Int) : Nat → Nat := (runB (nearP C p t) (8 * (C.wide : Int)) (8 * (C.high : Int)) (fun _ => 0) p).m
def onC (C : CanT) (p : PtT) : Bool := onB (8 * (C.wide : Int)) (8 * (C.high : Int)) p
theorem metC_le {C : CanT} (hC : okCan C) {p : PtT} (hp : onC C p = true) {t : Int} (ht : 0 ≤ t) (i : Nat) : metC C p t i ≤ 1025 := by
 have hW : 8 * (C.wide : Int) ≤ 32 := by have := hC.wide; omega
 have hH : 8 * (C.high : Int) ≤ 32 := by have := hC.high; omega
 have h := runB_inv (N := nearP C p t) hW hH hp (nearP_self C p ht) (m0 := fun _ => 0) rfl
 unfold metC
 by_cases hq : ∃ q ∈ (runB (nearP C p t) (8 * (C.wide : Int)) (8 * (C.high : Int)) (fun _ => 0) p).l, ixP q = i
 · obtain ⟨q, hq, rfl⟩ := hq
   obtain ⟨j, hj⟩ := List.mem_iff_getElem?.1 hq
   have h1 := (h.val j q hj).2
   have h2 := h.len hW hH
   have h3 := (List.getElem?_eq_some_iff.1 hj).1
   omega
 · rw [h.out i fun q hq' e => hq ⟨q, hq', e⟩]
   omega
/-- What Steps tells, and the error. -/
def stepsR (C : CanT) (p q : PtT) (t : Int) : Int × Int := bif tolB t then (bif onC C p && (onC C q && decide (0 < metC C p t (ixP q))) then ((metC C p t (ixP q) : Int) - 1, 0) else (0, 4)) else (0, 2)

set_option maxRecDepth 100000 in
set_option maxHeartbeats 1000000 in
theorem steps_any (C : CanT) (c : Nat) (p q : PtT) (t : Int) (w : World) (hC : CanAt w c C) : Calls Tryz.prog 17 #[.pointer (some ⟨c, 0, none⟩), p.val, q.val, .int .i64 t] w (Gives (.tuple #[.int .i64 (stepsR C p q t).1, .int .i64 (stepsR C p q t).2]) w) := by
 have HCA := Lib.hid hC
 have HS := Lib.hid (St.start w)
 have HBA := Lib.hid (fun (ht : tolB t = false) w => begun_arg c p t ht w)
 have HBN := Lib.hid (fun (ht : tolB t = true) (hp : onC C p = false) w h => begun_none C c p t ht hp w h)
 have HBO := Lib.hid (fun (ht : tolB t = true) (hp : onC C p = true) w h => begun_on C c p t ht hp w h)
 have HON := Lib.hid (fun S w h1 h2 => show Calls _ _ _ _ (Gives (.bool (onC C q)) w) from on_any S (8 * (C.wide : Int)) (8 * (C.high : Int)) q w h1 h2)
 have HQ32 := Lib.hid (fun (h : onC C q = true) => show (0 ≤ q.x ∧ q.x < 32) ∧ (0 ≤ q.y ∧ q.y < 32) by
  have h1 := onB_iff.1 h
  have h2 := hC.ok.wide
  have h3 := hC.ok.high
  omega)
 have HLE := Lib.hid (fun (h1 : tolB t = true) (h2 : onC C p = true) i => metC_le hC.ok h2 (t := t) (by unfold tolB at h1; simp at h1; omega) i)
 unfold stepsR
 obtain ⟨tb, htb⟩ : ∃ tb, tolB t = tb := ⟨_, rfl⟩
 obtain ⟨pb, hpb⟩ : ∃ pb, onC C p = pb := ⟨_, rfl⟩
 obtain ⟨qb, hqb⟩ : ∃ qb, onC C q = qb := ⟨_, rfl⟩
 change Hid (∀ (ht : tolB t = true) (hp : onC C p = true) w, CanAt w c C → Calls _ _ _ _ (GivesSea c (8 * (C.wide : Int)) (8 * (C.high : Int)) (metC C p t) w)) at HBO
 obtain ⟨M, hM⟩ : ∃ M, metC C p t = M := ⟨_, rfl⟩
 rw [htb, hpb, hqb, hM]
 simp only [htb, hpb, hqb, hM] at HBA HBN HBO HON HQ32 HLE
 obtain ⟨px, py⟩ := p
 obtain ⟨qx, qy⟩ := q
 unfold PtT.val at *
 simp only at *
 clear hC htb hpb hqb hM
 cases tb
 · have HB := Lib.hid (HBA.out rfl)
   clear HBA HBN HBO HON HQ32 HLE
   simp only [cond_false]
   go_enter Tryz.func17, Tryz.ntmps17
   repeat ((fail_if_success (with_reducible refine stop_at (id := 1) ?_)); (first | go_values | go_skip | go_guarded | go_step | go_upon | go_back | (simp only [Int.not_lt, Int.not_le] at *; go_simp) | (go_values <;> (try go_simp)) | (go_ite <;> go_prune <;> (try go_simp)) | (split <;> (first | (rename_i hx; exact (hx _ rfl).elim) | go_prune))))
   have hs_ := ((HS.out.alloc (.cells #[.int .i64 px, .int .i64 py] 33)).alloc (.cells #[.int .i64 qx, .int .i64 qy] 33))
   obtain ⟨w1, hw_⟩ : ∃ w1 : World, ((w.alloc (.cells #[.int .i64 px, .int .i64 py] 33)).alloc (.cells #[.int .i64 qx, .int .i64 qy] 33)) = w1 := ⟨_, rfl⟩
   rw [hw_] at hs_
   try simp only [World.size_alloc] at hs_
   have HS := Lib.hid hs_
   rw [hw_]
   clear hw_ hs_
   have k0 := cell_of_block (k := 0) (HS.out.blockAt 1 rfl) rfl
   have k1 := cell_of_block (k := 1) (HS.out.blockAt 1 rfl) rfl
   go_wp2_with fail
   clear k0 k1
   refine (HB.out _).mono ?_
   rintro e w2 ⟨rfl, hb_⟩
   have HS := Lib.hid (HS.out.below hb_)
   clear hb_
   go_wp2_with fail
   refine bodyPost_ret (v := .tuple #[.int .i64 0, .int .i64 2]) (by simp [results, Tryz.results17, go_sem]) rfl ⟨rfl, HS.out.low⟩
 cases pb
 · have HB := Lib.hid (HBN.out rfl rfl)
   clear HBA HBN HBO HON HQ32 HLE
   simp only [cond_true, Bool.false_and, cond_false]
   go_enter Tryz.func17, Tryz.ntmps17
   repeat ((fail_if_success (with_reducible refine stop_at (id := 1) ?_)); (first | go_values | go_skip | go_guarded | go_step | go_upon | go_back | (simp only [Int.not_lt, Int.not_le] at *; go_simp) | (go_values <;> (try go_simp)) | (go_ite <;> go_prune <;> (try go_simp)) | (split <;> (first | (rename_i hx; exact (hx _ rfl).elim) | go_prune))))
   have hs_ := ((HS.out.alloc (.cells #[.int .i64 px, .int .i64 py] 33)).alloc (.cells #[.int .i64 qx, .int .i64 qy] 33))
   obtain ⟨w1, hw_⟩ : ∃ w1 : World, ((w.alloc (.cells #[.int .i64 px, .int .i64 py] 33)).alloc (.cells #[.int .i64 qx, .int .i64 qy] 33)) = w1 := ⟨_, rfl⟩
   rw [hw_] at hs_
   try simp only [World.size_alloc] at hs_
   have HS := Lib.hid hs_
   rw [hw_]
   clear hw_ hs_
   have k0 := cell_of_block (k := 0) (HS.out.blockAt 1 rfl) rfl
   have k1 := cell_of_block (k := 1) (HS.out.blockAt 1 rfl) rfl
   go_wp2_with fail
   clear k0 k1
   refine (HB.out _ (HCA.out.below HS.out.low)).mono ?_
   rintro e w2 ⟨rfl, hb_⟩
   have HS := Lib.hid (HS.out.below hb_)
   clear hb_
   go_wp2_with fail
   refine bodyPost_ret (v := .tuple #[.int .i64 0, .int .i64 4]) (by simp [results, Tryz.results17, go_sem]) rfl ⟨rfl, HS.out.low⟩
 have HB := Lib.hid (HBO.out rfl rfl)
 clear HBA HBN HBO
 simp only [cond_true, Bool.true_and]
 obtain ⟨W, hW⟩ : ∃ W, 8 * (C.wide : Int) = W := ⟨_, rfl⟩
 obtain ⟨H, hH⟩ : ∃ H, 8 * (C.high : Int) = H := ⟨_, rfl⟩
 rw [hW, hH] at HB HON
 clear hW hH
 cases qb
 · simp only [Bool.false_and, cond_false]
   go_enter Tryz.func17, Tryz.ntmps17
   repeat ((fail_if_success (with_reducible refine stop_at (id := 1) ?_)); (first | go_values | go_skip | go_guarded | go_step | go_upon | go_back | (simp only [Int.not_lt, Int.not_le] at *; go_simp) | (go_values <;> (try go_simp)) | (go_ite <;> go_prune <;> (try go_simp)) | (split <;> (first | (rename_i hx; exact (hx _ rfl).elim) | go_prune))))
   have hs_ := ((HS.out.alloc (.cells #[.int .i64 px, .int .i64 py] 33)).alloc (.cells #[.int .i64 qx, .int .i64 qy] 33))
   obtain ⟨w1, hw_⟩ : ∃ w1 : World, ((w.alloc (.cells #[.int .i64 px, .int .i64 py] 33)).alloc (.cells #[.int .i64 qx, .int .i64 qy] 33)) = w1 := ⟨_, rfl⟩
   rw [hw_] at hs_
   try simp only [World.size_alloc] at hs_
   have HS := Lib.hid hs_
   rw [hw_]
   clear hw_ hs_
   have k0 := cell_of_block (k := 0) (HS.out.blockAt 1 rfl) rfl
   have k1 := cell_of_block (k := 1) (HS.out.blockAt 1 rfl) rfl
   go_wp2_with fail
   clear k0 k1
   refine (HB.out _ (HCA.out.below HS.out.low)).mono ?_
   rintro e w2 ⟨S, v', rfl, hS, hs, hb⟩
   have HS := Lib.hid (HS.out.below hb)
   have HSB := Lib.hid hs
   clear hS hs hb HB
   repeat ((fail_if_success (with_reducible refine stop_at (id := 4) ?_)); (first | go_values | go_skip | go_guarded | go_step | go_upon | go_back | (simp only [Int.not_lt, Int.not_le] at *; go_simp) | (go_values <;> (try go_simp)) | (go_ite <;> go_prune <;> (try go_simp)) | (split <;> (first | (rename_i hx; exact (hx _ rfl).elim) | go_prune))))
   refine (wpIn_wide (n := 0)).1 ?_
   apply wp_region_vals 17 (Rl := [(eqv _), (eqv _), (eqv _), (eqv _), (eqv _), (fun v_ _ => v_ = (undef : Value)), (fun v_ _ => v_ = (undef : Value)), (fun v_ _ => v_ = (undef : Value)), (fun v_ _ => v_ = (undef : Value)), (fun v_ _ => v_ = (undef : Value)), (fun v_ _ => v_ = (undef : Value)), (fun v_ _ => v_ = (undef : Value)), (fun v_ _ => v_ = (undef : Value)), (fun v_ _ => v_ = (undef : Value)), (fun v_ _ => v_ = (undef : Value)), (fun v_ _ => v_ = (undef : Value)), (eqv _)]) (C := (fun x y => Below x.heap.size x y))
   case hm => kernel_rfl
   case hk => rfl
   case hCr => exact (fun _ => Below.refl _ _)
   case hCt => intro _ _ _; exact (fun h k => grows_trans h k)
   case hst => exact ⟨fun _ _ _ _ h => h, fun _ _ _ _ h => h, fun _ _ _ _ h => h, fun _ _ _ _ h => h, fun _ _ _ _ h => h, fun _ _ _ _ h => h, fun _ _ _ _ h => h, fun _ _ _ _ h => h, fun _ _ _ _ h => h, fun _ _ _ _ h => h, fun _ _ _ _ h => h, fun _ _ _ _ h => h, fun _ _ _ _ h => h, fun _ _ _ _ h => h, fun _ _ _ _ h => h, fun _ _ _ _ h => h, fun _ _ _ _ h => h, trivial⟩
   case hfo => kernel_rfl
   case ht => kernel_rfl
   case hC0 => exact (grows_drew _)
   case hsteps =>
    refine ⟨?_, ?_, ?_, ?_, ?_, ?_, ?_, ?_, ?_, ?_, ?_, ?_, ?_, ?_, ?_, ?_, ?_, trivial⟩
    · intro a' w' hA hC hD; have s10 : a'.tmps[10]? = some _ := (hA.at 10 (by kernel_rfl)).trans rfl; clear hA hD; refine stepOk_plain rfl ?_; intro K hK; gi_wp2; exact hK _ _ rfl ((fun _ => Below.refl _ _) _)
    · intro a' w' hA hC hD; have s6 : a'.tmps[6]? = some _ := (hA.at 6 (by kernel_rfl)).trans rfl
      have h1_ := (HS.out.below hC).blockAt 0 rfl; have c1_0 := cell_of_block (k := 0) h1_ rfl; have c1_1 := cell_of_block (k := 1) h1_ rfl; clear h1_
      clear hA hD; refine stepOk_plain rfl ?_; intro K hK; gi_wp2; exact hK _ _ rfl ((fun _ => Below.refl _ _) _)
    · intro a' w' hA hC hD; obtain ⟨u22, s22, r22⟩ := hD ⟨0, .data⟩ (by simp) rfl _ rfl; replace r22 : u22 = _ := r22; subst r22; obtain ⟨u23, s23, r23⟩ := hD ⟨1, .data⟩ (by simp) rfl _ rfl; replace r23 : u23 = _ := r23; subst r23
      have h1_ := (hC.block S (block_lt HSB.out)).trans HSB.out; have c1 := cell_of_block h1_ (seaA_1 _ _ _ _ _); have c2 := cell_of_block h1_ (seaA_2 _ _ _ _ _); clear h1_
      clear hA hD; refine stepOk_plain rfl ?_; intro K hK
      gi_wp2_with fail; refine (callsIn_wide.2 (HON.out S _ c1 c2)).mono ?_; rintro e w2 ⟨rfl, hb⟩; exact hK _ _ rfl hb
    · intro a' w' hA hC hD; obtain ⟨u24, s24, r24⟩ := hD ⟨2, .data⟩ (by simp) rfl _ rfl; replace r24 : u24 = _ := r24; subst r24; clear hA hD; refine stepOk_plain rfl ?_; intro K hK; gi_wp2; exact hK _ _ rfl ((fun _ => Below.refl _ _) _)
    · intro a' w' hA hC hD; obtain ⟨u25, s25, r25⟩ := hD ⟨3, .data⟩ (by simp) rfl _ rfl; replace r25 : u25 = _ := r25; subst r25; clear hA hD; refine stepOk_plain rfl ?_; intro K hK; gi_wp2; exact hK _ _ rfl ((fun _ => Below.refl _ _) _)
    · intro a' w' hA hC hD; have s10 : a'.tmps[10]? = some _ := (hA.at 10 (by kernel_rfl)).trans rfl; obtain ⟨u26, s26, r26⟩ := hD ⟨4, .guard⟩ (by simp) rfl _ rfl; replace r26 : u26 = _ := r26; subst r26; clear hA hD
      exact stepOk_skip rfl rfl s26 rfl
    · intro a' w' hA hC hD; have s6 : a'.tmps[6]? = some _ := (hA.at 6 (by kernel_rfl)).trans rfl; obtain ⟨u26, s26, r26⟩ := hD ⟨4, .guard⟩ (by simp) rfl _ rfl; replace r26 : u26 = _ := r26; subst r26; clear hA hD
      exact stepOk_skip rfl rfl s26 rfl
    · intro a' w' hA hC hD; obtain ⟨u28, s28, r28⟩ := hD ⟨6, .data⟩ (by simp) rfl _ rfl; replace r28 : u28 = undef := r28; subst r28; obtain ⟨u26, s26, r26⟩ := hD ⟨4, .guard⟩ (by simp) rfl _ rfl; replace r26 : u26 = _ := r26; subst r26; clear hA hD
      exact stepOk_skip rfl rfl s26 rfl
    · intro a' w' hA hC hD; have s6 : a'.tmps[6]? = some _ := (hA.at 6 (by kernel_rfl)).trans rfl; obtain ⟨u26, s26, r26⟩ := hD ⟨4, .guard⟩ (by simp) rfl _ rfl; replace r26 : u26 = _ := r26; subst r26; clear hA hD
      exact stepOk_skip rfl rfl s26 rfl
    · intro a' w' hA hC hD; obtain ⟨u30, s30, r30⟩ := hD ⟨8, .data⟩ (by simp) rfl _ rfl; replace r30 : u30 = undef := r30; subst r30; obtain ⟨u26, s26, r26⟩ := hD ⟨4, .guard⟩ (by simp) rfl _ rfl; replace r26 : u26 = _ := r26; subst r26; clear hA hD
      exact stepOk_skip rfl rfl s26 rfl
    · intro a' w' hA hC hD; obtain ⟨u27, s27, r27⟩ := hD ⟨5, .data⟩ (by simp) rfl _ rfl; replace r27 : u27 = undef := r27; subst r27; obtain ⟨u26, s26, r26⟩ := hD ⟨4, .guard⟩ (by simp) rfl _ rfl; replace r26 : u26 = _ := r26; subst r26; clear hA hD
      exact stepOk_skip rfl rfl s26 rfl
    · intro a' w' hA hC hD; obtain ⟨u32, s32, r32⟩ := hD ⟨10, .data⟩ (by simp) rfl _ rfl; replace r32 : u32 = undef := r32; subst r32; obtain ⟨u26, s26, r26⟩ := hD ⟨4, .guard⟩ (by simp) rfl _ rfl; replace r26 : u26 = _ := r26; subst r26; clear hA hD
      exact stepOk_skip rfl rfl s26 rfl
    · intro a' w' hA hC hD; obtain ⟨u33, s33, r33⟩ := hD ⟨11, .data⟩ (by simp) rfl _ rfl; replace r33 : u33 = undef := r33; subst r33; obtain ⟨u29, s29, r29⟩ := hD ⟨7, .data⟩ (by simp) rfl _ rfl; replace r29 : u29 = undef := r29; subst r29; obtain ⟨u26, s26, r26⟩ := hD ⟨4, .guard⟩ (by simp) rfl _ rfl; replace r26 : u26 = _ := r26; subst r26; clear hA hD
      exact stepOk_skip rfl rfl s26 rfl
    · intro a' w' hA hC hD; obtain ⟨u34, s34, r34⟩ := hD ⟨12, .data⟩ (by simp) rfl _ rfl; replace r34 : u34 = undef := r34; subst r34; obtain ⟨u31, s31, r31⟩ := hD ⟨9, .data⟩ (by simp) rfl _ rfl; replace r31 : u31 = undef := r31; subst r31; obtain ⟨u26, s26, r26⟩ := hD ⟨4, .guard⟩ (by simp) rfl _ rfl; replace r26 : u26 = _ := r26; subst r26; clear hA hD
      exact stepOk_skip rfl rfl s26 rfl
    · intro a' w' hA hC hD; obtain ⟨u35, s35, r35⟩ := hD ⟨13, .data⟩ (by simp) rfl _ rfl; replace r35 : u35 = undef := r35; subst r35; obtain ⟨u26, s26, r26⟩ := hD ⟨4, .guard⟩ (by simp) rfl _ rfl; replace r26 : u26 = _ := r26; subst r26; clear hA hD
      exact stepOk_skip rfl rfl s26 rfl
    · intro a' w' hA hC hD; obtain ⟨u36, s36, r36⟩ := hD ⟨14, .data⟩ (by simp) rfl _ rfl; replace r36 : u36 = undef := r36; subst r36; obtain ⟨u26, s26, r26⟩ := hD ⟨4, .guard⟩ (by simp) rfl _ rfl; replace r26 : u26 = _ := r26; subst r26; clear hA hD
      exact stepOk_skip rfl rfl s26 rfl
    · intro a' w' hA hC hD; obtain ⟨u26, s26, r26⟩ := hD ⟨4, .data⟩ (by simp) rfl _ rfl; replace r26 : u26 = _ := r26; subst r26; obtain ⟨u37, s37, r37⟩ := hD ⟨15, .data⟩ (by simp) rfl _ rfl; replace r37 : u37 = undef := r37; subst r37; clear hA hD; refine stepOk_plain rfl ?_; intro K hK; gi_wp2; exact hK _ _ rfl ((fun _ => Below.refl _ _) _)
   case hend =>
    intro w4 hC
    simp only [EndFrom, eqv, forall_eq, Act.put, List.length_cons, List.length_nil, List.drop_succ_cons, List.drop_zero, Nat.reduceAdd, List.setIfInBounds_toArray, List.set_cons_succ, List.set_cons_zero]
    have HS := Lib.hid (HS.out.below hC)
    clear hC
    gi_wp2
    go_wp2_with fail
    refine bodyPost_ret (v := .tuple #[.int .i64 0, .int .i64 4]) (by simp [results, Tryz.results17, go_sem]) rfl ⟨rfl, HS.out.low⟩
 have HLE := Lib.hid (fun i => HLE.out rfl rfl i)
 obtain ⟨⟨hx0, hx1⟩, hy0, hy1⟩ := HQ32.out rfl
 obtain ⟨qx, rfl⟩ := Int.eq_ofNat_of_zero_le hx0
 obtain ⟨qy, rfl⟩ := Int.eq_ofNat_of_zero_le hy0
 have hix : ixP ⟨(qx : Int), (qy : Int)⟩ = qy * 32 + qx := by unfold ixP; simp only; omega
 rw [hix]
 have x1 : qx < 32 := by omega
 have x2 : qy < 32 := by omega
 have HI := Lib.hid (show qy * 32 + qx < 1024 by omega)
 obtain ⟨mv, hmv⟩ : ∃ mv, M (qy * 32 + qx) = mv := ⟨_, rfl⟩
 have HMV := Lib.hid hmv
 rw [hmv]
 clear hmv hix hx0 hx1 hy0 hy1 HQ32
 simp only [Bool.true_and]
 cases mv
 · have hd : decide (0 < 0) = false := rfl
   rw [hd]
   clear hd
   simp only [cond_false]
   go_enter Tryz.func17, Tryz.ntmps17
   repeat ((fail_if_success (with_reducible refine stop_at (id := 1) ?_)); (first | go_values | go_skip | go_guarded | go_step | go_upon | go_back | (simp only [Int.not_lt, Int.not_le] at *; go_simp) | (go_values <;> (try go_simp)) | (go_ite <;> go_prune <;> (try go_simp)) | (split <;> (first | (rename_i hx; exact (hx _ rfl).elim) | go_prune))))
   have hs_ := ((HS.out.alloc (.cells #[.int .i64 px, .int .i64 py] 33)).alloc (.cells #[.int .i64 qx, .int .i64 qy] 33))
   obtain ⟨w1, hw_⟩ : ∃ w1 : World, ((w.alloc (.cells #[.int .i64 px, .int .i64 py] 33)).alloc (.cells #[.int .i64 qx, .int .i64 qy] 33)) = w1 := ⟨_, rfl⟩
   rw [hw_] at hs_
   try simp only [World.size_alloc] at hs_
   have HS := Lib.hid hs_
   rw [hw_]
   clear hw_ hs_
   have k0 := cell_of_block (k := 0) (HS.out.blockAt 1 rfl) rfl
   have k1 := cell_of_block (k := 1) (HS.out.blockAt 1 rfl) rfl
   go_wp2_with fail
   clear k0 k1
   refine (HB.out _ (HCA.out.below HS.out.low)).mono ?_
   rintro e w2 ⟨S, v', rfl, hS, hs, hb⟩
   have HS := Lib.hid (HS.out.below hb)
   have HSB := Lib.hid hs
   clear hS hs hb HB
   repeat ((fail_if_success (with_reducible refine stop_at (id := 4) ?_)); (first | go_values | go_skip | go_guarded | go_step | go_upon | go_back | (simp only [Int.not_lt, Int.not_le] at *; go_simp) | (go_values <;> (try go_simp)) | (go_ite <;> go_prune <;> (try go_simp)) | (split <;> (first | (rename_i hx; exact (hx _ rfl).elim) | go_prune))))
   refine (wpIn_wide (n := 0)).1 ?_
   apply wp_region_vals 17 (Rl := [(eqv _), (eqv _), (eqv _), (eqv _), (eqv _), (eqv _), (eqv _), (eqv _), (eqv _), (eqv _), (eqv _), (eqv _), (eqv _), (eqv _), (eqv _), (eqv _), (eqv _)]) (C := (fun x y => Below x.heap.size x y))
   case hm => kernel_rfl
   case hk => rfl
   case hCr => exact (fun _ => Below.refl _ _)
   case hCt => intro _ _ _; exact (fun h k => grows_trans h k)
   case hst => exact ⟨fun _ _ _ _ h => h, fun _ _ _ _ h => h, fun _ _ _ _ h => h, fun _ _ _ _ h => h, fun _ _ _ _ h => h, fun _ _ _ _ h => h, fun _ _ _ _ h => h, fun _ _ _ _ h => h, fun _ _ _ _ h => h, fun _ _ _ _ h => h, fun _ _ _ _ h => h, fun _ _ _ _ h => h, fun _ _ _ _ h => h, fun _ _ _ _ h => h, fun _ _ _ _ h => h, fun _ _ _ _ h => h, fun _ _ _ _ h => h, trivial⟩
   case hfo => kernel_rfl
   case ht => kernel_rfl
   case hC0 => exact (grows_drew _)
   case hsteps =>
    refine ⟨?_, ?_, ?_, ?_, ?_, ?_, ?_, ?_, ?_, ?_, ?_, ?_, ?_, ?_, ?_, ?_, ?_, trivial⟩
    · intro a' w' hA hC hD; have s10 : a'.tmps[10]? = some _ := (hA.at 10 (by kernel_rfl)).trans rfl; clear hA hD; refine stepOk_plain rfl ?_; intro K hK; gi_wp2; exact hK _ _ rfl ((fun _ => Below.refl _ _) _)
    · intro a' w' hA hC hD; have s6 : a'.tmps[6]? = some _ := (hA.at 6 (by kernel_rfl)).trans rfl
      have h1_ := (HS.out.below hC).blockAt 0 rfl; have c1_0 := cell_of_block (k := 0) h1_ rfl; have c1_1 := cell_of_block (k := 1) h1_ rfl; clear h1_
      clear hA hD; refine stepOk_plain rfl ?_; intro K hK; gi_wp2; exact hK _ _ rfl ((fun _ => Below.refl _ _) _)
    · intro a' w' hA hC hD; obtain ⟨u22, s22, r22⟩ := hD ⟨0, .data⟩ (by simp) rfl _ rfl; replace r22 : u22 = _ := r22; subst r22; obtain ⟨u23, s23, r23⟩ := hD ⟨1, .data⟩ (by simp) rfl _ rfl; replace r23 : u23 = _ := r23; subst r23
      have h1_ := (hC.block S (block_lt HSB.out)).trans HSB.out; have c1 := cell_of_block h1_ (seaA_1 _ _ _ _ _); have c2 := cell_of_block h1_ (seaA_2 _ _ _ _ _); clear h1_
      clear hA hD; refine stepOk_plain rfl ?_; intro K hK
      gi_wp2_with fail; refine (callsIn_wide.2 (HON.out S _ c1 c2)).mono ?_; rintro e w2 ⟨rfl, hb⟩; exact hK _ _ rfl hb
    · intro a' w' hA hC hD; obtain ⟨u24, s24, r24⟩ := hD ⟨2, .data⟩ (by simp) rfl _ rfl; replace r24 : u24 = _ := r24; subst r24; clear hA hD; refine stepOk_plain rfl ?_; intro K hK; gi_wp2; exact hK _ _ rfl ((fun _ => Below.refl _ _) _)
    · intro a' w' hA hC hD; obtain ⟨u25, s25, r25⟩ := hD ⟨3, .data⟩ (by simp) rfl _ rfl; replace r25 : u25 = _ := r25; subst r25; clear hA hD; refine stepOk_plain rfl ?_; intro K hK; gi_wp2; exact hK _ _ rfl ((fun _ => Below.refl _ _) _)
    · intro a' w' hA hC hD; have s10 : a'.tmps[10]? = some _ := (hA.at 10 (by kernel_rfl)).trans rfl; obtain ⟨u26, s26, r26⟩ := hD ⟨4, .guard⟩ (by simp) rfl _ rfl; replace r26 : u26 = _ := r26; subst r26; clear hA hD; refine stepOk_want rfl rfl s26 ?_; intro K hK; gi_wp2; exact hK _ _ rfl ((fun _ => Below.refl _ _) _)
    · intro a' w' hA hC hD; have s6 : a'.tmps[6]? = some _ := (hA.at 6 (by kernel_rfl)).trans rfl; obtain ⟨u26, s26, r26⟩ := hD ⟨4, .guard⟩ (by simp) rfl _ rfl; replace r26 : u26 = _ := r26; subst r26; clear hA hD; refine stepOk_want rfl rfl s26 ?_; intro K hK; gi_wp2; exact hK _ _ rfl ((fun _ => Below.refl _ _) _)
    · intro a' w' hA hC hD; obtain ⟨u28, s28, r28⟩ := hD ⟨6, .data⟩ (by simp) rfl _ rfl; replace r28 : u28 = _ := r28; subst r28; obtain ⟨u26, s26, r26⟩ := hD ⟨4, .guard⟩ (by simp) rfl _ rfl; replace r26 : u26 = _ := r26; subst r26
      have h1_ := (HS.out.below hC).blockAt 0 rfl; have c1_0 := cell_of_block (k := 0) h1_ rfl; have c1_1 := cell_of_block (k := 1) h1_ rfl; clear h1_
      clear hA hD; refine stepOk_want rfl rfl s26 ?_; intro K hK; gi_wp2; exact hK _ _ rfl ((fun _ => Below.refl _ _) _)
    · intro a' w' hA hC hD; have s6 : a'.tmps[6]? = some _ := (hA.at 6 (by kernel_rfl)).trans rfl; obtain ⟨u26, s26, r26⟩ := hD ⟨4, .guard⟩ (by simp) rfl _ rfl; replace r26 : u26 = _ := r26; subst r26; clear hA hD; refine stepOk_want rfl rfl s26 ?_; intro K hK; gi_wp2; exact hK _ _ rfl ((fun _ => Below.refl _ _) _)
    · intro a' w' hA hC hD; obtain ⟨u30, s30, r30⟩ := hD ⟨8, .data⟩ (by simp) rfl _ rfl; replace r30 : u30 = _ := r30; subst r30; obtain ⟨u26, s26, r26⟩ := hD ⟨4, .guard⟩ (by simp) rfl _ rfl; replace r26 : u26 = _ := r26; subst r26
      have h1_ := (HS.out.below hC).blockAt 0 rfl; have c1_0 := cell_of_block (k := 0) h1_ rfl; have c1_1 := cell_of_block (k := 1) h1_ rfl; clear h1_
      clear hA hD; refine stepOk_want rfl rfl s26 ?_; intro K hK; gi_wp2; exact hK _ _ rfl ((fun _ => Below.refl _ _) _)
    · intro a' w' hA hC hD; obtain ⟨u27, s27, r27⟩ := hD ⟨5, .data⟩ (by simp) rfl _ rfl; replace r27 : u27 = _ := r27; subst r27; obtain ⟨u26, s26, r26⟩ := hD ⟨4, .guard⟩ (by simp) rfl _ rfl; replace r26 : u26 = _ := r26; subst r26; clear hA hD; refine stepOk_want rfl rfl s26 ?_; intro K hK; gi_wp2; exact hK _ _ rfl ((fun _ => Below.refl _ _) _)
    · intro a' w' hA hC hD; obtain ⟨u32, s32, r32⟩ := hD ⟨10, .data⟩ (by simp) rfl _ rfl; replace r32 : u32 = _ := r32; subst r32; obtain ⟨u26, s26, r26⟩ := hD ⟨4, .guard⟩ (by simp) rfl _ rfl; replace r26 : u26 = _ := r26; subst r26; clear hA hD; refine stepOk_want rfl rfl s26 ?_; intro K hK; gi_wp2; exact hK _ _ rfl ((fun _ => Below.refl _ _) _)
    · intro a' w' hA hC hD; obtain ⟨u33, s33, r33⟩ := hD ⟨11, .data⟩ (by simp) rfl _ rfl; replace r33 : u33 = _ := r33; subst r33; obtain ⟨u29, s29, r29⟩ := hD ⟨7, .data⟩ (by simp) rfl _ rfl; replace r29 : u29 = _ := r29; subst r29; obtain ⟨u26, s26, r26⟩ := hD ⟨4, .guard⟩ (by simp) rfl _ rfl; replace r26 : u26 = _ := r26; subst r26; clear hA hD; refine stepOk_want rfl rfl s26 ?_; intro K hK; gi_wp2; exact hK _ _ rfl ((fun _ => Below.refl _ _) _)
    · intro a' w' hA hC hD; obtain ⟨u34, s34, r34⟩ := hD ⟨12, .data⟩ (by simp) rfl _ rfl; replace r34 : u34 = _ := r34; subst r34; obtain ⟨u31, s31, r31⟩ := hD ⟨9, .data⟩ (by simp) rfl _ rfl; replace r31 : u31 = _ := r31; subst r31; obtain ⟨u26, s26, r26⟩ := hD ⟨4, .guard⟩ (by simp) rfl _ rfl; replace r26 : u26 = _ := r26; subst r26; clear hA hD; refine stepOk_want rfl rfl s26 ?_; intro K hK; gi_wp2; exact hK _ _ rfl ((fun _ => Below.refl _ _) _)
    · intro a' w' hA hC hD; obtain ⟨u35, s35, r35⟩ := hD ⟨13, .data⟩ (by simp) rfl _ rfl; replace r35 : u35 = _ := r35; subst r35; obtain ⟨u26, s26, r26⟩ := hD ⟨4, .guard⟩ (by simp) rfl _ rfl; replace r26 : u26 = _ := r26; subst r26
      have b1 := cell_of_block ((hC.block S (block_lt HSB.out)).trans HSB.out) (seaA_met _ _ _ _ _ (i := qy * 32 + qx) HI.out); rw [← Nat.add_assoc, HMV.out] at b1
      clear hA hD; refine stepOk_want rfl rfl s26 ?_; intro K hK; gi_wp2; exact hK _ _ rfl ((fun _ => Below.refl _ _) _)
    · intro a' w' hA hC hD; obtain ⟨u36, s36, r36⟩ := hD ⟨14, .data⟩ (by simp) rfl _ rfl; replace r36 : u36 = _ := r36; subst r36; obtain ⟨u26, s26, r26⟩ := hD ⟨4, .guard⟩ (by simp) rfl _ rfl; replace r26 : u26 = _ := r26; subst r26; clear hA hD; refine stepOk_want rfl rfl s26 ?_; intro K hK; gi_wp2; exact hK _ _ rfl ((fun _ => Below.refl _ _) _)
    · intro a' w' hA hC hD; obtain ⟨u26, s26, r26⟩ := hD ⟨4, .data⟩ (by simp) rfl _ rfl; replace r26 : u26 = _ := r26; subst r26; obtain ⟨u37, s37, r37⟩ := hD ⟨15, .data⟩ (by simp) rfl _ rfl; replace r37 : u37 = _ := r37; subst r37; clear hA hD; refine stepOk_plain rfl ?_; intro K hK; gi_wp2; exact hK _ _ rfl ((fun _ => Below.refl _ _) _)
   case hend =>
    intro w4 hC
    simp only [EndFrom, eqv, forall_eq, Act.put, List.length_cons, List.length_nil, List.drop_succ_cons, List.drop_zero, Nat.reduceAdd, List.setIfInBounds_toArray, List.set_cons_succ, List.set_cons_zero]
    have HS := Lib.hid (HS.out.below hC)
    clear hC
    gi_wp2
    go_wp2_with fail
    refine bodyPost_ret (v := .tuple #[.int .i64 0, .int .i64 4]) (by simp [results, Tryz.results17, go_sem]) rfl ⟨rfl, HS.out.low⟩
 rename_i mv
 have hd : decide (0 < mv + 1) = true := by simp
 rw [hd]
 clear hd
 simp only [cond_true]
 have hd : (((mv + 1 : Nat) : Int)) - 1 = (mv : Int) := by omega
 rw [hd]
 clear hd
 have HMB := Lib.hid (show mv < 100000 by have := HLE.out (qy * 32 + qx); rw [HMV.out] at this; omega)
 go_enter Tryz.func17, Tryz.ntmps17
 repeat ((fail_if_success (with_reducible refine stop_at (id := 1) ?_)); (first | go_values | go_skip | go_guarded | go_step | go_upon | go_back | (simp only [Int.not_lt, Int.not_le] at *; go_simp) | (go_values <;> (try go_simp)) | (go_ite <;> go_prune <;> (try go_simp)) | (split <;> (first | (rename_i hx; exact (hx _ rfl).elim) | go_prune))))
 have hs_ := ((HS.out.alloc (.cells #[.int .i64 px, .int .i64 py] 33)).alloc (.cells #[.int .i64 qx, .int .i64 qy] 33))
 obtain ⟨w1, hw_⟩ : ∃ w1 : World, ((w.alloc (.cells #[.int .i64 px, .int .i64 py] 33)).alloc (.cells #[.int .i64 qx, .int .i64 qy] 33)) = w1 := ⟨_, rfl⟩
 rw [hw_] at hs_
 try simp only [World.size_alloc] at hs_
 have HS := Lib.hid hs_
 rw [hw_]
 clear hw_ hs_
 have k0 := cell_of_block (k := 0) (HS.out.blockAt 1 rfl) rfl
 have k1 := cell_of_block (k := 1) (HS.out.blockAt 1 rfl) rfl
 go_wp2_with fail
 clear k0 k1
 refine (HB.out _ (HCA.out.below HS.out.low)).mono ?_
 rintro e w2 ⟨S, v', rfl, hS, hs, hb⟩
 have HS := Lib.hid (HS.out.below hb)
 have HSB := Lib.hid hs
 clear hS hs hb HB
 repeat ((fail_if_success (with_reducible refine stop_at (id := 4) ?_)); (first | go_values | go_skip | go_guarded | go_step | go_upon | go_back | (simp only [Int.not_lt, Int.not_le] at *; go_simp) | (go_values <;> (try go_simp)) | (go_ite <;> go_prune <;> (try go_simp)) | (split <;> (first | (rename_i hx; exact (hx _ rfl).elim) | go_prune))))
 refine (wpIn_wide (n := 0)).1 ?_
 apply wp_region_vals 17 (Rl := [(eqv _), (eqv _), (eqv _), (eqv _), (eqv _), (eqv _), (eqv _), (eqv _), (eqv _), (eqv _), (eqv _), (eqv _), (eqv _), (eqv _), (eqv _), (eqv _), (eqv _)]) (C := (fun x y => Below x.heap.size x y))
 case hm => kernel_rfl
 case hk => rfl
 case hCr => exact (fun _ => Below.refl _ _)
 case hCt => intro _ _ _; exact (fun h k => grows_trans h k)
 case hst => exact ⟨fun _ _ _ _ h => h, fun _ _ _ _ h => h, fun _ _ _ _ h => h, fun _ _ _ _ h => h, fun _ _ _ _ h => h, fun _ _ _ _ h => h, fun _ _ _ _ h => h, fun _ _ _ _ h => h, fun _ _ _ _ h => h, fun _ _ _ _ h => h, fun _ _ _ _ h => h, fun _ _ _ _ h => h, fun _ _ _ _ h => h, fun _ _ _ _ h => h, fun _ _ _ _ h => h, fun _ _ _ _ h => h, fun _ _ _ _ h => h, trivial⟩
 case hfo => kernel_rfl
 case ht => kernel_rfl
 case hC0 => exact (grows_drew _)
 case hsteps =>
  refine ⟨?_, ?_, ?_, ?_, ?_, ?_, ?_, ?_, ?_, ?_, ?_, ?_, ?_, ?_, ?_, ?_, ?_, trivial⟩
  · intro a' w' hA hC hD; have s10 : a'.tmps[10]? = some _ := (hA.at 10 (by kernel_rfl)).trans rfl; clear hA hD; refine stepOk_plain rfl ?_; intro K hK; gi_wp2; exact hK _ _ rfl ((fun _ => Below.refl _ _) _)
  · intro a' w' hA hC hD; have s6 : a'.tmps[6]? = some _ := (hA.at 6 (by kernel_rfl)).trans rfl
    have h1_ := (HS.out.below hC).blockAt 0 rfl; have c1_0 := cell_of_block (k := 0) h1_ rfl; have c1_1 := cell_of_block (k := 1) h1_ rfl; clear h1_
    clear hA hD; refine stepOk_plain rfl ?_; intro K hK; gi_wp2; exact hK _ _ rfl ((fun _ => Below.refl _ _) _)
  · intro a' w' hA hC hD; obtain ⟨u22, s22, r22⟩ := hD ⟨0, .data⟩ (by simp) rfl _ rfl; replace r22 : u22 = _ := r22; subst r22; obtain ⟨u23, s23, r23⟩ := hD ⟨1, .data⟩ (by simp) rfl _ rfl; replace r23 : u23 = _ := r23; subst r23
    have h1_ := (hC.block S (block_lt HSB.out)).trans HSB.out; have c1 := cell_of_block h1_ (seaA_1 _ _ _ _ _); have c2 := cell_of_block h1_ (seaA_2 _ _ _ _ _); clear h1_
    clear hA hD; refine stepOk_plain rfl ?_; intro K hK
    gi_wp2_with fail; refine (callsIn_wide.2 (HON.out S _ c1 c2)).mono ?_; rintro e w2 ⟨rfl, hb⟩; exact hK _ _ rfl hb
  · intro a' w' hA hC hD; obtain ⟨u24, s24, r24⟩ := hD ⟨2, .data⟩ (by simp) rfl _ rfl; replace r24 : u24 = _ := r24; subst r24; clear hA hD; refine stepOk_plain rfl ?_; intro K hK; gi_wp2; exact hK _ _ rfl ((fun _ => Below.refl _ _) _)
  · intro a' w' hA hC hD; obtain ⟨u25, s25, r25⟩ := hD ⟨3, .data⟩ (by simp) rfl _ rfl; replace r25 : u25 = _ := r25; subst r25; clear hA hD; refine stepOk_plain rfl ?_; intro K hK; gi_wp2; exact hK _ _ rfl ((fun _ => Below.refl _ _) _)
  · intro a' w' hA hC hD; have s10 : a'.tmps[10]? = some _ := (hA.at 10 (by kernel_rfl)).trans rfl; obtain ⟨u26, s26, r26⟩ := hD ⟨4, .guard⟩ (by simp) rfl _ rfl; replace r26 : u26 = _ := r26; subst r26; clear hA hD; refine stepOk_want rfl rfl s26 ?_; intro K hK; gi_wp2; exact hK _ _ rfl ((fun _ => Below.refl _ _) _)
  · intro a' w' hA hC hD; have s6 : a'.tmps[6]? = some _ := (hA.at 6 (by kernel_rfl)).trans rfl; obtain ⟨u26, s26, r26⟩ := hD ⟨4, .guard⟩ (by simp) rfl _ rfl; replace r26 : u26 = _ := r26; subst r26; clear hA hD; refine stepOk_want rfl rfl s26 ?_; intro K hK; gi_wp2; exact hK _ _ rfl ((fun _ => Below.refl _ _) _)
  · intro a' w' hA hC hD; obtain ⟨u28, s28, r28⟩ := hD ⟨6, .data⟩ (by simp) rfl _ rfl; replace r28 : u28 = _ := r28; subst r28; obtain ⟨u26, s26, r26⟩ := hD ⟨4, .guard⟩ (by simp) rfl _ rfl; replace r26 : u26 = _ := r26; subst r26
    have h1_ := (HS.out.below hC).blockAt 0 rfl; have c1_0 := cell_of_block (k := 0) h1_ rfl; have c1_1 := cell_of_block (k := 1) h1_ rfl; clear h1_
    clear hA hD; refine stepOk_want rfl rfl s26 ?_; intro K hK; gi_wp2; exact hK _ _ rfl ((fun _ => Below.refl _ _) _)
  · intro a' w' hA hC hD; have s6 : a'.tmps[6]? = some _ := (hA.at 6 (by kernel_rfl)).trans rfl; obtain ⟨u26, s26, r26⟩ := hD ⟨4, .guard⟩ (by simp) rfl _ rfl; replace r26 : u26 = _ := r26; subst r26; clear hA hD; refine stepOk_want rfl rfl s26 ?_; intro K hK; gi_wp2; exact hK _ _ rfl ((fun _ => Below.refl _ _) _)
  · intro a' w' hA hC hD; obtain ⟨u30, s30, r30⟩ := hD ⟨8, .data⟩ (by simp) rfl _ rfl; replace r30 : u30 = _ := r30; subst r30; obtain ⟨u26, s26, r26⟩ := hD ⟨4, .guard⟩ (by simp) rfl _ rfl; replace r26 : u26 = _ := r26; subst r26
    have h1_ := (HS.out.below hC).blockAt 0 rfl; have c1_0 := cell_of_block (k := 0) h1_ rfl; have c1_1 := cell_of_block (k := 1) h1_ rfl; clear h1_
    clear hA hD; refine stepOk_want rfl rfl s26 ?_; intro K hK; gi_wp2; exact hK _ _ rfl ((fun _ => Below.refl _ _) _)
  · intro a' w' hA hC hD; obtain ⟨u27, s27, r27⟩ := hD ⟨5, .data⟩ (by simp) rfl _ rfl; replace r27 : u27 = _ := r27; subst r27; obtain ⟨u26, s26, r26⟩ := hD ⟨4, .guard⟩ (by simp) rfl _ rfl; replace r26 : u26 = _ := r26; subst r26; clear hA hD; refine stepOk_want rfl rfl s26 ?_; intro K hK; gi_wp2; exact hK _ _ rfl ((fun _ => Below.refl _ _) _)
  · intro a' w' hA hC hD; obtain ⟨u32, s32, r32⟩ := hD ⟨10, .data⟩ (by simp) rfl _ rfl; replace r32 : u32 = _ := r32; subst r32; obtain ⟨u26, s26, r26⟩ := hD ⟨4, .guard⟩ (by simp) rfl _ rfl; replace r26 : u26 = _ := r26; subst r26; clear hA hD; refine stepOk_want rfl rfl s26 ?_; intro K hK; gi_wp2; exact hK _ _ rfl ((fun _ => Below.refl _ _) _)
  · intro a' w' hA hC hD; obtain ⟨u33, s33, r33⟩ := hD ⟨11, .data⟩ (by simp) rfl _ rfl; replace r33 : u33 = _ := r33; subst r33; obtain ⟨u29, s29, r29⟩ := hD ⟨7, .data⟩ (by simp) rfl _ rfl; replace r29 : u29 = _ := r29; subst r29; obtain ⟨u26, s26, r26⟩ := hD ⟨4, .guard⟩ (by simp) rfl _ rfl; replace r26 : u26 = _ := r26; subst r26; clear hA hD; refine stepOk_want rfl rfl s26 ?_; intro K hK; gi_wp2; exact hK _ _ rfl ((fun _ => Below.refl _ _) _)
  · intro a' w' hA hC hD; obtain ⟨u34, s34, r34⟩ := hD ⟨12, .data⟩ (by simp) rfl _ rfl; replace r34 : u34 = _ := r34; subst r34; obtain ⟨u31, s31, r31⟩ := hD ⟨9, .data⟩ (by simp) rfl _ rfl; replace r31 : u31 = _ := r31; subst r31; obtain ⟨u26, s26, r26⟩ := hD ⟨4, .guard⟩ (by simp) rfl _ rfl; replace r26 : u26 = _ := r26; subst r26; clear hA hD; refine stepOk_want rfl rfl s26 ?_; intro K hK; gi_wp2; exact hK _ _ rfl ((fun _ => Below.refl _ _) _)
  · intro a' w' hA hC hD; obtain ⟨u35, s35, r35⟩ := hD ⟨13, .data⟩ (by simp) rfl _ rfl; replace r35 : u35 = _ := r35; subst r35; obtain ⟨u26, s26, r26⟩ := hD ⟨4, .guard⟩ (by simp) rfl _ rfl; replace r26 : u26 = _ := r26; subst r26
    have b1 := cell_of_block ((hC.block S (block_lt HSB.out)).trans HSB.out) (seaA_met _ _ _ _ _ (i := qy * 32 + qx) HI.out); rw [← Nat.add_assoc, HMV.out] at b1
    clear hA hD; refine stepOk_want rfl rfl s26 ?_; intro K hK; gi_wp2; exact hK _ _ rfl ((fun _ => Below.refl _ _) _)
  · intro a' w' hA hC hD; obtain ⟨u36, s36, r36⟩ := hD ⟨14, .data⟩ (by simp) rfl _ rfl; replace r36 : u36 = _ := r36; subst r36; obtain ⟨u26, s26, r26⟩ := hD ⟨4, .guard⟩ (by simp) rfl _ rfl; replace r26 : u26 = _ := r26; subst r26; clear hA hD; refine stepOk_want rfl rfl s26 ?_; intro K hK; gi_wp2; exact hK _ _ rfl ((fun _ => Below.refl _ _) _)
  · intro a' w' hA hC hD; obtain ⟨u26, s26, r26⟩ := hD ⟨4, .data⟩ (by simp) rfl _ rfl; replace r26 : u26 = _ := r26; subst r26; obtain ⟨u37, s37, r37⟩ := hD ⟨15, .data⟩ (by simp) rfl _ rfl; replace r37 : u37 = _ := r37; subst r37; clear hA hD; refine stepOk_plain rfl ?_; intro K hK; gi_wp2; exact hK _ _ rfl ((fun _ => Below.refl _ _) _)
 case hend =>
  intro w4 hC
  simp only [EndFrom, eqv, forall_eq, Act.put, List.length_cons, List.length_nil, List.drop_succ_cons, List.drop_zero, Nat.reduceAdd, List.setIfInBounds_toArray, List.set_cons_succ, List.set_cons_zero]
  have HS := Lib.hid (HS.out.below hC)
  have HSB := Lib.hid ((hC.block S (block_lt HSB.out)).trans HSB.out)
  clear hC
  gi_wp2
  repeat ((fail_if_success (with_reducible refine stop_at (id := 6) ?_)); (first | go_values | go_skip | go_guarded | go_step | go_upon | go_back | (simp only [Int.not_lt, Int.not_le] at *; go_simp) | (go_values <;> (try go_simp)) | (go_ite <;> go_prune <;> (try go_simp)) | (split <;> (first | (rename_i hx; exact (hx _ rfl).elim) | go_prune))))
  have e1 : wrap64 ((mv : Int) + 1 - 1) = (mv : Int) := by have := HMB.out; unfold wrap64; omega
  have e2 : wrap64 ((mv : Int)) = (mv : Int) := by have := HMB.out; unfold wrap64; omega
  refine (wpIn_wide (n := 0)).1 ?_
  apply wp_region_vals 11 (Rl := [(eqv _), (eqv _), (eqv _), (eqv _), (eqv _), (eqv _), (eqv _), (eqv _), (eqv _), (eqv _), (eqv _)]) (C := (fun x y => Below x.heap.size x y))
  case hm => kernel_rfl
  case hk => rfl
  case hCr => exact (fun _ => Below.refl _ _)
  case hCt => intro _ _ _; exact (fun h k => grows_trans h k)
  case hst => exact ⟨fun _ _ _ _ h => h, fun _ _ _ _ h => h, fun _ _ _ _ h => h, fun _ _ _ _ h => h, fun _ _ _ _ h => h, fun _ _ _ _ h => h, fun _ _ _ _ h => h, fun _ _ _ _ h => h, fun _ _ _ _ h => h, fun _ _ _ _ h => h, fun _ _ _ _ h => h, trivial⟩
  case hfo => kernel_rfl
  case ht => kernel_rfl
  case hC0 => exact (grows_drew _)
  case hsteps =>
   refine ⟨?_, ?_, ?_, ?_, ?_, ?_, ?_, ?_, ?_, ?_, ?_, trivial⟩
   · intro a' w' hA hC hD; have s10 : a'.tmps[10]? = some _ := (hA.at 10 (by kernel_rfl)).trans rfl; clear hA hD; refine stepOk_plain rfl ?_; intro K hK; gi_wp2; exact hK _ _ rfl ((fun _ => Below.refl _ _) _)
   · intro a' w' hA hC hD; have s6 : a'.tmps[6]? = some _ := (hA.at 6 (by kernel_rfl)).trans rfl; clear hA hD; refine stepOk_plain rfl ?_; intro K hK; gi_wp2; exact hK _ _ rfl ((fun _ => Below.refl _ _) _)
   · intro a' w' hA hC hD; obtain ⟨u40, s40, r40⟩ := hD ⟨1, .data⟩ (by simp) rfl _ rfl; replace r40 : u40 = _ := r40; subst r40
     have h1_ := (HS.out.below hC).blockAt 0 rfl; have c1_0 := cell_of_block (k := 0) h1_ rfl; have c1_1 := cell_of_block (k := 1) h1_ rfl; clear h1_
     clear hA hD; refine stepOk_plain rfl ?_; intro K hK; gi_wp2; exact hK _ _ rfl ((fun _ => Below.refl _ _) _)
   · intro a' w' hA hC hD; have s6 : a'.tmps[6]? = some _ := (hA.at 6 (by kernel_rfl)).trans rfl; clear hA hD; refine stepOk_plain rfl ?_; intro K hK; gi_wp2; exact hK _ _ rfl ((fun _ => Below.refl _ _) _)
   · intro a' w' hA hC hD; obtain ⟨u42, s42, r42⟩ := hD ⟨3, .data⟩ (by simp) rfl _ rfl; replace r42 : u42 = _ := r42; subst r42
     have h1_ := (HS.out.below hC).blockAt 0 rfl; have c1_0 := cell_of_block (k := 0) h1_ rfl; have c1_1 := cell_of_block (k := 1) h1_ rfl; clear h1_
     clear hA hD; refine stepOk_plain rfl ?_; intro K hK; gi_wp2; exact hK _ _ rfl ((fun _ => Below.refl _ _) _)
   · intro a' w' hA hC hD; obtain ⟨u39, s39, r39⟩ := hD ⟨0, .data⟩ (by simp) rfl _ rfl; replace r39 : u39 = _ := r39; subst r39; clear hA hD; refine stepOk_plain rfl ?_; intro K hK; gi_wp2; exact hK _ _ rfl ((fun _ => Below.refl _ _) _)
   · intro a' w' hA hC hD; obtain ⟨u44, s44, r44⟩ := hD ⟨5, .data⟩ (by simp) rfl _ rfl; replace r44 : u44 = _ := r44; subst r44; clear hA hD; refine stepOk_plain rfl ?_; intro K hK; gi_wp2; exact hK _ _ rfl ((fun _ => Below.refl _ _) _)
   · intro a' w' hA hC hD; obtain ⟨u45, s45, r45⟩ := hD ⟨6, .data⟩ (by simp) rfl _ rfl; replace r45 : u45 = _ := r45; subst r45; obtain ⟨u41, s41, r41⟩ := hD ⟨2, .data⟩ (by simp) rfl _ rfl; replace r41 : u41 = _ := r41; subst r41; clear hA hD; refine stepOk_plain rfl ?_; intro K hK; gi_wp2; exact hK _ _ rfl ((fun _ => Below.refl _ _) _)
   · intro a' w' hA hC hD; obtain ⟨u46, s46, r46⟩ := hD ⟨7, .data⟩ (by simp) rfl _ rfl; replace r46 : u46 = _ := r46; subst r46; obtain ⟨u43, s43, r43⟩ := hD ⟨4, .data⟩ (by simp) rfl _ rfl; replace r43 : u43 = _ := r43; subst r43; clear hA hD; refine stepOk_plain rfl ?_; intro K hK; gi_wp2; exact hK _ _ rfl ((fun _ => Below.refl _ _) _)
   · intro a' w' hA hC hD; obtain ⟨u47, s47, r47⟩ := hD ⟨8, .data⟩ (by simp) rfl _ rfl; replace r47 : u47 = _ := r47; subst r47
     have b1 := cell_of_block ((hC.block S (block_lt HSB.out)).trans HSB.out) (seaA_met _ _ _ _ _ (i := qy * 32 + qx) HI.out); rw [← Nat.add_assoc, HMV.out] at b1
     clear hA hD; refine stepOk_plain rfl ?_; intro K hK; gi_wp2; exact hK _ _ rfl ((fun _ => Below.refl _ _) _)
   · intro a' w' hA hC hD; obtain ⟨u48, s48, r48⟩ := hD ⟨9, .data⟩ (by simp) rfl _ rfl; replace r48 : u48 = _ := r48; subst r48; clear hA hD; refine stepOk_plain rfl ?_; intro K hK; gi_wp2; exact hK _ _ rfl ((fun _ => Below.refl _ _) _)
  case hend =>
   intro w5 hC
   simp only [EndFrom, eqv, forall_eq, Act.put, List.length_cons, List.length_nil, List.drop_succ_cons, List.drop_zero, Nat.reduceAdd, List.setIfInBounds_toArray, List.set_cons_succ, List.set_cons_zero]
   have HS := Lib.hid (HS.out.below hC)
   clear hC
   gi_wp2
   go_wp2_with fail
   refine bodyPost_ret (v := .tuple #[.int .i64 mv, .int .i64 0]) (by simp [results, Tryz.results17, go_sem]) rfl ⟨rfl, HS.out.low⟩
end Go.Proofs.YtodpkgbpcpfamaaGreat

/- Layer 8, plain: spans of places, one behind the other. -/
namespace Go.Proofs.YtodpkgbpcpfamaaGreat
set_option linter.unusedSimpArgs false
set_option linter.unusedVariables false
open Go.RowKit Go.Shelf

/-- A place more. -/
def regAdd (L : List SpT) (q : PtT) : List SpT := match L.getLast? with
 | some s => if s.y = q.y ∧ s.t = q.x - 1 then L.dropLast ++ [⟨s.y, s.f, q.x⟩] else L ++ [⟨q.y, q.x, q.x⟩]
 | none => [⟨q.y, q.x, q.x⟩]
theorem regAdd_nil (q : PtT) : regAdd [] q = [⟨q.y, q.x, q.x⟩] := rfl
theorem regAdd_snoc (L0 : List SpT) (s : SpT) (q : PtT) : regAdd (L0 ++ [s]) q = if s.y = q.y ∧ s.t = q.x - 1 then L0 ++ [⟨s.y, s.f, q.x⟩] else (L0 ++ [s]) ++ [⟨q.y, q.x, q.x⟩] := by
 unfold regAdd
 simp
theorem regAdd_len (L : List SpT) (q : PtT) : (regAdd L q).length ≤ L.length + 1 := by
 rcases List.eq_nil_or_concat L with rfl | ⟨L0, s, rfl⟩
 · simp [regAdd_nil]
 · rw [List.concat_eq_append, regAdd_snoc]
   split <;> simp
def regL (Q : List PtT) : List SpT := Q.foldl regAdd []
theorem regF_len : ∀ (Q : List PtT) (L : List SpT), (Q.foldl regAdd L).length ≤ L.length + Q.length
 | [], L => Nat.le_refl _
 | q :: Q, L => by
  rw [List.foldl_cons]
  have h1 := regF_len Q (regAdd L q)
  have h2 := regAdd_len L q
  simp only [List.length_cons]
  omega
theorem regL_len (Q : List PtT) : (regL Q).length ≤ Q.length := by simpa [regL] using regF_len Q []
theorem regL_take {Q : List PtT} {k : Nat} {q : PtT} (hq : Q[k]? = some q) : regL (Q.take (k + 1)) = regAdd (regL (Q.take k)) q := by
 unfold regL
 rw [List.take_add_one, hq, List.foldl_append]
 rfl
/-- Of a field, place by place. -/
theorem reg_row (W : Nat) (is : Nat → Bool) (j : Nat) : ∀ i, i ≤ W → RowTo 0 0 W (fun r c => is (r * W + c)) (regL (gathL W is (j * W))) j 0 → (∃ ob, OpenTo 0 0 (regL (gathL W is (j * W + i))) j i ob) ∧ RowTo 0 0 W (fun r c => is (r * W + c)) (regL (gathL W is (j * W + i))) j i
 | 0, _, h => ⟨⟨false, fun s hs e => by have h1 := (h.box s hs).2.2.2.2 e; have h2 := (h.box s hs).2.2.1; have h3 := h.row.sp s hs; omega⟩, h⟩
 | i + 1, hi, h => by
  obtain ⟨⟨ob, ho⟩, ht⟩ := reg_row W is j i (by omega) h
  rw [← Nat.add_assoc, gathL_succ, ptK_at (show i < W by omega)]
  by_cases hF : is (j * W + i) = true
  · rw [if_pos hF]
    have e : regL (gathL W is (j * W + i) ++ [⟨(i : Int), (j : Int)⟩]) = regAdd (regL (gathL W is (j * W + i))) ⟨(i : Int), (j : Int)⟩ := by unfold regL; rw [List.foldl_append]; rfl
    rw [e]
    cases ob with
    | true =>
     obtain ⟨L0, s, hL, hy, hst⟩ := ho
     obtain ⟨h1, h2⟩ := ht.open (by omega) hF hL hy hst
     rw [hL, regAdd_snoc, if_pos ⟨by simp only; omega, by simp only; omega⟩]
     have e2 : (⟨s.y, s.f, (0 : Int) + (i : Int)⟩ : SpT) = ⟨s.y, s.f, (i : Int)⟩ := by simp
     rw [e2] at h1 h2
     exact ⟨⟨true, h2⟩, h1⟩
    | false =>
     obtain ⟨h1, h2⟩ := ht.new (by omega) hF ho
     have e3 : regAdd (regL (gathL W is (j * W + i))) ⟨(i : Int), (j : Int)⟩ = regL (gathL W is (j * W + i)) ++ [⟨(0 : Int) + (j : Int), (0 : Int) + (i : Int), (0 : Int) + (i : Int)⟩] := by
      rw [Int.zero_add, Int.zero_add]
      rcases List.eq_nil_or_concat (regL (gathL W is (j * W + i))) with h0 | ⟨L0, s, h0⟩
      · rw [h0]; rfl
      · rw [List.concat_eq_append] at h0
        rw [h0, regAdd_snoc, if_neg]
        rintro ⟨a, b⟩
        have := ho s (by rw [h0]; simp) (by simp only at a; omega)
        simp only at b
        omega
     rw [e3]
     exact ⟨⟨true, h2⟩, h1⟩
  · rw [if_neg hF, List.append_nil]
    obtain ⟨h1, h2⟩ := ht.skip (by omega) (by simpa using hF)
    exact ⟨⟨false, h2⟩, h1⟩
theorem reg_rows (W : Nat) (is : Nat → Bool) : ∀ j, RowTo 0 0 W (fun r c => is (r * W + c)) (regL (gathL W is (j * W))) j 0
 | 0 => by rw [Nat.zero_mul]; exact rowTo_start _ _ _ _
 | j + 1 => by
  have h := (reg_row W is j W (Nat.le_refl _) (reg_rows W is j)).2.down.1
  rw [Nat.add_mul, Nat.one_mul]
  exact h
theorem reg_rowOf (W : Nat) (is : Nat → Bool) (H : Nat) : RowOf 0 0 H W (fun r c => is (r * W + c)) (regL (gathL W is (H * W))) := (reg_rows W is H).rowOf
end Go.Proofs.YtodpkgbpcpfamaaGreat
