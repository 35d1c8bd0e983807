/- Merged texts: DrM OpP OpU DrN DrO DrP Goes Begun Gath PointsI. -/
import Derived.Test.YtgdcfkbimkclaaaGreatDoorM16
import Derived.Test.YtgdcfkbimkclaaaGreatDoorM12
import Derived.Test.YtgdcfkbimkclaaaGreatDoorM13
import Derived.Test.YtgdcfkbimkclaaaGreatDoorM4
import Derived.Shelf.Strings.OnBuilder
import Derived.Test.YtgdcfkbimkclaaaGreatDoorM10
import Derived.Test.YtgdcfkbimkclaaaGreatDoorM11
set_option linter.unusedSimpArgs false
set_option linter.unusedVariables false
/- Package draw: Rect and Veil themselves. -/
namespace Go.Proofs.YtgdcfkbimkclaaaGreatDoor
open Go.RowKit Go.Shelf
attribute [local go_sem] Oper.semAt_some
set_option maxRecDepth 100000 in
set_option maxHeartbeats 1000000 in
theorem dRectr_any (c : ColT) (hc : okC c) (f t : PtT) (p : Nat) (C : CanT) (w : World) (hC : CanAt w p C) :
 Calls Tryz.prog 160 #[.pointer (some ⟨p, 0, none⟩), c.val, f.val, t.val, .func (.func 161) #[] #[]] w (DrawnP (errOf (drawnB f && drawnB t) 2) (Painted C (RectP f t) (fpaint c)) w) := by
 have HS := H7 (St.start w)
 have HD := H7 (fun E qn qf qt qc w1 (hb : Below w.heap.size w w1) hE h0 h1 h2 h3 => dRectc_any c hc f t E p qn qf qt qc C w1 hE (hC.below hb) h0 h1 h2 h3)
 have hmf : ∀ (fn : Fn) (first cap : Array Value) (w : World), (Instr.makeFunc fn first cap).run Tryz.prog w = .ok (.func fn first cap) w := fun _ _ _ _ => rfl
 obtain ⟨S, hS⟩ : ∃ S, Painted C (RectP f t) (fpaint c) = S := ⟨_, rfl⟩
 obtain ⟨er, her⟩ : ∃ er, errOf (drawnB f && drawnB t) 2 = er := ⟨_, rfl⟩
 rw [hS, her] at HD ⊢
 unfold ColT.val PtT.val
 clear hC hc hS her
 go_enter Tryz.func160, Tryz.ntmps160
 repeat ((fail_if_success (with_reducible refine stop_at (id := 1) ?_)); (first | go_values | go_skip | go_guarded | go_step | go_upon | go_back | (simp only [Int.not_lt, Int.not_le] at *; go_simp) | (go_values <;> (try go_simp)) | (go_ite <;> go_prune <;> (try go_simp)) | (split <;> (first | (rename_i hx; exact (hx _ rfl).elim) | go_prune))))
 have hs_ := ((((HS.out.alloc (.cells #[.int .u8 c.r, .int .u8 c.g, .int .u8 c.b, .int .u8 c.a] 26)).alloc (.cells #[.int .i64 f.x, .int .i64 f.y] 69)).alloc (.cells #[.int .i64 t.x, .int .i64 t.y] 69)).alloc (.cells #[.func (.func 161) #[] #[]] 220))
 obtain ⟨w1, hw_⟩ : ∃ w1 : World, ((((w.alloc (.cells #[.int .u8 c.r, .int .u8 c.g, .int .u8 c.b, .int .u8 c.a] 26)).alloc (.cells #[.int .i64 f.x, .int .i64 f.y] 69)).alloc (.cells #[.int .i64 t.x, .int .i64 t.y] 69)).alloc (.cells #[.func (.func 161) #[] #[]] 220)) = w1 := ⟨_, rfl⟩
 rw [hw_] at hs_
 try simp only [World.size_alloc] at hs_
 have HS := H7 hs_
 rw [hw_]
 clear hw_ hs_
 go_wp2_with fail
 refine (dTriesP_any 187 #[.pointer (some ⟨w.heap.size + 1 + 1 + 1, 0, none⟩), .pointer (some ⟨w.heap.size + 1, 0, none⟩), .pointer (some ⟨w.heap.size + 1 + 1, 0, none⟩), .pointer (some ⟨w.heap.size, 0, none⟩)] p er S w1 (fun _ _ => by simp [go_sem]) (fun w2 E hE hb hE2 => HD.out E (w.heap.size + 1 + 1 + 1) (w.heap.size + 1) (w.heap.size + 1 + 1) w.heap.size w2 (HS.out.below hb).low hE2 ⟨(HS.out.below hb).blockAt 0 rfl⟩ ⟨(HS.out.below hb).blockAt 2 rfl⟩ ⟨(HS.out.below hb).blockAt 1 rfl⟩ ⟨(HS.out.below hb).blockAt 3 rfl⟩)).mono ?_
 intro e w3 h
 have HR := H7 (h.of_below HS.out.low)
 clear h
 rcases Classical.em (er = 0) with h0 | h0
 · obtain ⟨d, rfl, -⟩ := HR.out.2.1 h0
   go_wp2_with fail
   refine bodyPost_ret (v := .tuple #[.pointer (some ⟨d, 0, none⟩), .int .i64 0]) (by simp [results, Tryz.results160, go_sem]) rfl HR.out
 · obtain rfl := HR.out.2.2 h0
   go_wp2_with fail
   refine bodyPost_ret (v := .tuple #[.pointer none, .int .i64 er]) (by simp [results, Tryz.results160, go_sem]) rfl HR.out
set_option maxRecDepth 100000 in
set_option maxHeartbeats 1000000 in
theorem dRect_any (c : ColT) (hc : okC c) (f t : PtT) (p : Nat) (C : CanT) (w : World) (hC : CanAt w p C) :
 Calls Tryz.prog 132 #[.pointer (some ⟨p, 0, none⟩), c.val, f.val, t.val] w (DrawnP (errOf (drawnB f && drawnB t) 2) (Painted C (RectP f t) (fpaint c)) w) := by
 have HS := H7 (St.start w)
 have HD := H7 (fun w1 (hb : Below w.heap.size w w1) => dRectr_any c hc f t p C w1 (hC.below hb))
 obtain ⟨S, hS⟩ : ∃ S, Painted C (RectP f t) (fpaint c) = S := ⟨_, rfl⟩
 obtain ⟨er, her⟩ : ∃ er, errOf (drawnB f && drawnB t) 2 = er := ⟨_, rfl⟩
 rw [hS, her] at HD ⊢
 unfold ColT.val PtT.val at *
 clear hC hc hS her
 go_enter Tryz.func132, Tryz.ntmps132
 repeat ((fail_if_success (with_reducible refine stop_at (id := 1) ?_)); (first | go_values | go_skip | go_guarded | go_step | go_upon | go_back | (simp only [Int.not_lt, Int.not_le] at *; go_simp) | (go_values <;> (try go_simp)) | (go_ite <;> go_prune <;> (try go_simp)) | (split <;> (first | (rename_i hx; exact (hx _ rfl).elim) | go_prune))))
 have hs_ := (((HS.out.alloc (.cells #[.int .u8 c.r, .int .u8 c.g, .int .u8 c.b, .int .u8 c.a] 26)).alloc (.cells #[.int .i64 f.x, .int .i64 f.y] 69)).alloc (.cells #[.int .i64 t.x, .int .i64 t.y] 69))
 obtain ⟨w1, hw_⟩ : ∃ w1 : World, (((w.alloc (.cells #[.int .u8 c.r, .int .u8 c.g, .int .u8 c.b, .int .u8 c.a] 26)).alloc (.cells #[.int .i64 f.x, .int .i64 f.y] 69)).alloc (.cells #[.int .i64 t.x, .int .i64 t.y] 69)) = w1 := ⟨_, rfl⟩
 rw [hw_] at hs_
 try simp only [World.size_alloc] at hs_
 have HS := H7 hs_
 rw [hw_]
 clear hw_ hs_
 have c0 := h7c HS 2 0 rfl rfl
 have c1 := h7c HS 2 1 rfl rfl
 have c2 := h7c HS 2 2 rfl rfl
 have c3 := h7c HS 2 3 rfl rfl
 have x0 := h7c HS 1 0 rfl rfl
 have x1 := h7c HS 1 1 rfl rfl
 have y0 := h7c HS 0 0 rfl rfl
 have y1 := h7c HS 0 1 rfl rfl
 go_wp2_with fail
 clear c0 c1 c2 c3 x0 x1 y0 y1
 refine (HD.out _ HS.out.low).mono ?_
 intro e w3 h
 have HR := H7 (h.of_below HS.out.low)
 clear h
 rcases Classical.em (er = 0) with h0 | h0
 · obtain ⟨d, rfl, -⟩ := HR.out.2.1 h0
   go_wp2_with fail
   refine bodyPost_ret (v := .tuple #[.pointer (some ⟨d, 0, none⟩), .int .i64 0]) (by simp [results, Tryz.results132, go_sem]) rfl HR.out
 · obtain rfl := HR.out.2.2 h0
   go_wp2_with fail
   refine bodyPost_ret (v := .tuple #[.pointer none, .int .i64 er]) (by simp [results, Tryz.results132, go_sem]) rfl HR.out
/- Layer 12: what the kinds paint, and reach: rectangles, washes, nothing; fills beside the canvas. -/
/-- An operation's places. -/
def OpT.f (o : OpT) : PtT := ⟨o.x, o.y⟩
def OpT.t (o : OpT) : PtT := ⟨o.x2, o.y2⟩
theorem may_drawn {o : OpT} (h : opMayB o = true) : drawnB o.f = true ∧ drawnB o.t = true := by
 unfold opMayB at h
 simp only [Bool.and_eq_true] at h
 have h2 := (numsB_iff o).1 h.2.1
 have h0 := h2 0 (by omega)
 have h1 := h2 1 (by omega)
 have h3 := h2 2 (by omega)
 have h4 := h2 3 (by omega)
 simp only [numB, numAt, Bool.and_eq_true, decide_eq_true_eq] at h0 h1 h3 h4
 constructor
 · unfold drawnB OpT.f; exact decide_eq_true ⟨h0.1, h0.2, h1.1, h1.2⟩
 · unfold drawnB OpT.t; exact decide_eq_true ⟨h3.1, h3.2, h4.1, h4.2⟩
theorem ownsRow_shape {w : World} {base e k n : Nat} {v : Value} {xs : List Value} (h : w.ownsRow base e k v n xs) : ∃ a cap, v = .slice a n cap ∧ n ≤ cap := by
 rcases h.2 with ⟨rfl, h0⟩ | ⟨g, cap, cur, rfl, -, -, h1, -⟩
 · exact ⟨none, 0, by rw [h0], by omega⟩
 · exact ⟨_, cap, rfl, h1⟩
set_option maxRecDepth 100000 in
set_option maxHeartbeats 4000000 in
theorem op_rect_any (o : OpT) (a : Option Addr) (n cap : Nat) (hc : okC o.c) (hf : drawnB o.f = true) (ht : drawnB o.t = true) (P d : Nat) (C : CanT) (w : World) (hP : PtrC P d C w) :
 Calls Tryz.prog 98 #[.pointer (some ⟨P, 0, none⟩), .agg (o.cells (.slice a n cap))] w fun e w' => ∃ d' D, e = .returned (.tuple #[.pointer (some ⟨d', 0, none⟩), .int .i64 0]) ∧ Painted C (RectP o.f o.t) (fpaint o.c) D ∧ CanAt w' d' D ∧ Below w.heap.size w w' := by
 have HS := H7 (St.start w)
 have HP := H7 hP
 have HD := H7 (fun w' (h : CanAt w' d C) => dRect_any o.c hc o.f o.t d C w' h)
 rw [hf, ht] at HD
 obtain ⟨Q, hQ⟩ : ∃ Q, Painted C (RectP o.f o.t) (fpaint o.c) = Q := ⟨_, rfl⟩
 rw [hQ] at HD
 simp only [hQ]
 unfold OpT.f OpT.t ColT.val PtT.val at HD
 clear hP hc hf ht hQ
 go_enter Tryz.func98, Tryz.ntmps98
 repeat ((fail_if_success (with_reducible refine stop_at (id := 1) ?_)); (first | go_values | go_skip | go_guarded | go_step | go_upon | go_back | (simp only [Int.not_lt, Int.not_le] at *; go_simp) | (go_values <;> (try go_simp)) | (go_ite <;> go_prune <;> (try go_simp)) | (split <;> (first | (rename_i hx; exact (hx _ rfl).elim) | go_prune))))
 have hs_ := (HS.out.alloc (.cells (o.cells (.slice a n cap)) 31))
 have hk_HP := HP.out.below ((B7 _ _).alloc (by exact Nat.le_refl _) (.cells (o.cells (.slice a n cap)) 31))
 obtain ⟨w1, hw_⟩ : ∃ w1 : World, (w.alloc (.cells (o.cells (.slice a n cap)) 31)) = w1 := ⟨_, rfl⟩
 rw [hw_] at hs_ hk_HP
 try simp only [World.size_alloc] at hs_
 have HS := H7 hs_
 have HP := H7 hk_HP
 rw [hw_]
 clear hw_ hs_ hk_HP
 refine (wpIn_wide (n := 0)).1 ?_
 apply w7v 13 (Rl := [(eqv _), (eqv _), (eqv _), (eqv _), (eqv _), (eqv _), (eqv _), (eqv _), (eqv _), (eqv _), (fun v_ w_ => ∃ d D, v_ = .tuple #[.pointer (some ⟨d, 0, none⟩), .int .i64 0] ∧ Q D ∧ CanAt w_ d D), (fun v_ w_ => ∃ d D, v_ = .pointer (some ⟨d, 0, none⟩) ∧ Q D ∧ CanAt w_ d D), (eqv _)]) (C := (fun x y => Below x.heap.size x y))
 case hm => kernel_rfl
 case hk => rfl
 case hCr => exact (fun _ => B7 _ _)
 case hCt => intro _ _ _; exact (fun h k => g7t h k)
 case hst => exact ⟨fun _ _ _ _ h => h, fun _ _ _ _ h => h, fun _ _ _ _ h => h, fun _ _ _ _ h => h, fun _ _ _ _ h => h, fun _ _ _ _ h => h, fun _ _ _ _ h => h, fun _ _ _ _ h => h, fun _ _ _ _ h => h, fun _ _ _ _ h => h, fun _ _ _ hC ⟨d, D, h1, h2, h3⟩ => ⟨d, D, h1, h2, h3.below hC⟩, fun _ _ _ hC ⟨d, D, h1, h2, h3⟩ => ⟨d, D, h1, h2, h3.below hC⟩, fun _ _ _ _ h => h, trivial⟩
 case hfo => kernel_rfl
 case ht => kernel_rfl
 case hC0 => exact (g7d _)
 case hsteps =>
  refine ⟨?_, ?_, ?_, ?_, ?_, ?_, ?_, ?_, ?_, ?_, ?_, ?_, ?_, trivial⟩
  · intro a' w' hA hC hD; have s0 := hA.to 0 (by kernel_rfl) rfl; clear hA hD; refine o7p rfl ?_; intro K hK; gi_wp2; exact hK _ _ rfl (B7 _ _)
  · intro a' w' hA hC hD; obtain ⟨u6, s6, rfl⟩ := hD ⟨0, .data⟩ (by simp) rfl _ rfl; clear hA hD; refine o7p rfl ?_; intro K hK; gi_wp2; exact hK _ _ rfl (B7 _ _)
  · intro a' w' hA hC hD; obtain ⟨u7, s7, rfl⟩ := hD ⟨1, .data⟩ (by simp) rfl _ rfl; clear hA hD; refine o7p rfl ?_; intro K hK; gi_wp2; exact hK _ _ rfl (B7 _ _)
  · intro a' w' hA hC hD; obtain ⟨u8, s8, rfl⟩ := hD ⟨2, .data⟩ (by simp) rfl _ rfl
    have z0 := c7b (k := 0) (HP.out.below hC).1 rfl
    clear hA hD; refine o7p rfl ?_; intro K hK; gi_wp2; exact hK _ _ rfl (B7 _ _)
  · intro a' w' hA hC hD; have s3 := hA.to 3 (by kernel_rfl) rfl; clear hA hD; refine o7p rfl ?_; intro K hK; gi_wp2; exact hK _ _ rfl (B7 _ _)
  · intro a' w' hA hC hD; obtain ⟨u10, s10, rfl⟩ := hD ⟨4, .data⟩ (by simp) rfl _ rfl
    obtain ⟨-, -, -, -, -, -, -, -, -, q9, q10, q11, q12, -⟩ := opCells ((HS.out.below hC).blockAt 0 rfl)
    clear hA hD; refine o7p rfl ?_; intro K hK; gi_wp2; exact hK _ _ rfl (B7 _ _)
  · intro a' w' hA hC hD; have s3 := hA.to 3 (by kernel_rfl) rfl; clear hA hD; refine o7p rfl ?_; intro K hK
    refine opIn_load 31 _ rfl w.heap.size (by simp [Act.eval, s3]) 31 _ (0, 0) _ ((HS.out.below hC).blockAt 0 rfl) Tryz.underlying31 rfl (by kernel_rfl) (hK _ _ rfl (B7 _ _))
  · intro a' w' hA hC hD; obtain ⟨u12, s12, rfl⟩ := hD ⟨6, .data⟩ (by simp) rfl _ rfl; clear hA hD; refine o7p rfl ?_; intro K hK
    gi_wp2_with fail; refine (callsIn_wide.2 (op_from_any o _ _ _ _)).mono ?_; rintro e w2 ⟨rfl, hb⟩
    exact hK _ _ rfl hb
  · intro a' w' hA hC hD; have s3 := hA.to 3 (by kernel_rfl) rfl; clear hA hD; refine o7p rfl ?_; intro K hK
    refine opIn_load 31 _ rfl w.heap.size (by simp [Act.eval, s3]) 31 _ (0, 0) _ ((HS.out.below hC).blockAt 0 rfl) Tryz.underlying31 rfl (by kernel_rfl) (hK _ _ rfl (B7 _ _))
  · intro a' w' hA hC hD; obtain ⟨u14, s14, rfl⟩ := hD ⟨8, .data⟩ (by simp) rfl _ rfl; clear hA hD; refine o7p rfl ?_; intro K hK
    gi_wp2_with fail; refine (callsIn_wide.2 (op_to_any o _ _ _ _)).mono ?_; rintro e w2 ⟨rfl, hb⟩
    exact hK _ _ rfl hb
  · intro a' w' hA hC hD; obtain ⟨u9, s9, rfl⟩ := hD ⟨3, .data⟩ (by simp) rfl _ rfl; obtain ⟨u11, s11, rfl⟩ := hD ⟨5, .data⟩ (by simp) rfl _ rfl; obtain ⟨u13, s13, rfl⟩ := hD ⟨7, .data⟩ (by simp) rfl _ rfl; obtain ⟨u15, s15, rfl⟩ := hD ⟨9, .data⟩ (by simp) rfl _ rfl; clear hA hD; refine o7p rfl ?_; intro K hK
    gi_wp2_with fail; refine (callsIn_wide.2 (HD.out _ (HP.out.below hC).2)).mono ?_; intro e w5 h; obtain ⟨d2, rfl, D, h2, h3⟩ := h.2.1 rfl
    exact hK _ _ ⟨d2, D, rfl, h2, h3⟩ h.1
  · intro a' w' hA hC hD; obtain ⟨u16, s16, r16⟩ := hD ⟨10, .data⟩ (by simp) rfl _ rfl; replace r16 : (fun v_ w_ => ∃ d D, v_ = .tuple #[.pointer (some ⟨d, 0, none⟩), .int .i64 0] ∧ Q D ∧ CanAt w_ d D) u16 w' := r16
    obtain ⟨d2, D, rfl, h2, h3⟩ := r16
    clear hA hD; refine o7p rfl ?_; intro K hK; gi_wp2; exact hK _ _ ⟨d2, D, rfl, h2, h3⟩ (B7 _ _)
  · intro a' w' hA hC hD; obtain ⟨u16, s16, r16⟩ := hD ⟨10, .data⟩ (by simp) rfl _ rfl; replace r16 : (fun v_ w_ => ∃ d D, v_ = .tuple #[.pointer (some ⟨d, 0, none⟩), .int .i64 0] ∧ Q D ∧ CanAt w_ d D) u16 w' := r16
    obtain ⟨d2, D, rfl, -, -⟩ := r16
    clear hA hD; refine o7p rfl ?_; intro K hK; gi_wp2; exact hK _ _ rfl (B7 _ _)
 case hend =>
  intro w3 hC
  simp only [EndFrom, eqv, forall_eq, Act.put, List.length_cons, List.length_nil, List.drop_succ_cons, List.drop_zero, Nat.reduceAdd, List.setIfInBounds_toArray, List.set_cons_succ, List.set_cons_zero]
  have HS := H7 (HS.out.below hC)
  clear hC
  rintro v10 - v11 ⟨d2, D, rfl, h2, h3⟩
  have HR := H7 (And.intro h2 h3)
  clear h2 h3
  gi_wp2
  go_wp2_with fail
  refine bodyPost_ret (v := .tuple #[.pointer (some ⟨d2, 0, none⟩), .int .i64 0]) (by simp [results, Tryz.results98, go_sem]) rfl ⟨d2, D, rfl, HR.out.1, HR.out.2, HS.out.low⟩
set_option maxRecDepth 100000 in
set_option maxHeartbeats 4000000 in
theorem op_fill_off (o : OpT) (pv : Value) (P d : Nat) (C : CanT) (hon : onB (8 * (C.wide : Int)) (8 * (C.high : Int)) o.f = false) (w : World) (hP : PtrC P d C w) :
 Calls Tryz.prog 101 #[.pointer (some ⟨P, 0, none⟩), .agg (o.cells pv)] w (Gives (.tuple #[.pointer (some ⟨d, 0, none⟩), .int .i64 0]) w) := by
 have HS := H7 (St.start w)
 have HP := H7 hP
 have HAT := H7 (fun w' h => at_off C d o.x o.y hon w' h)
 clear hP hon
 go_enter Tryz.func101, Tryz.ntmps101
 repeat ((fail_if_success (with_reducible refine stop_at (id := 1) ?_)); (first | go_values | go_skip | go_guarded | go_step | go_upon | go_back | (simp only [Int.not_lt, Int.not_le] at *; go_simp) | (go_values <;> (try go_simp)) | (go_ite <;> go_prune <;> (try go_simp)) | (split <;> (first | (rename_i hx; exact (hx _ rfl).elim) | go_prune))))
 have hs_ := (HS.out.alloc (.cells (o.cells pv) 31))
 have hk_HP := HP.out.below ((B7 _ _).alloc (by exact Nat.le_refl _) (.cells (o.cells pv) 31))
 obtain ⟨w1, hw_⟩ : ∃ w1 : World, (w.alloc (.cells (o.cells pv) 31)) = w1 := ⟨_, rfl⟩
 rw [hw_] at hs_ hk_HP
 try simp only [World.size_alloc] at hs_
 have HS := H7 hs_
 have HP := H7 hk_HP
 rw [hw_]
 clear hw_ hs_ hk_HP
 refine (wpIn_wide (n := 0)).1 ?_
 apply wp_region_slots 14 [⟨12, 13, 6, .cells #[.int .u8 0, .int .u8 0, .int .u8 0, .int .u8 0] 26 (0, 0), .cells #[.int .u8 0, .int .u8 0, .int .u8 0, .int .u8 0] 26 (0, 0)⟩] _ (Rl := [(eqv _), (eqv _), (eqv _), (eqv _), (eqv _), (eqv _), (eqv _), (eqv _), (eqv _), (eqv _), (eqv _), (eqv _), (fun _ _ => True), (fun _ _ => True)])
 case hm => kernel_rfl
 case hk => rfl
 case hst => repeat (first | exact trivial | refine ⟨fun _ _ _ _ h => h, ?_⟩)
 case hfo => kernel_rfl
 case ht => kernel_rfl
 case hN => exact Nat.le_refl _
 case hok => kernel_rfl
 case hsk => intro s hs; simp only [List.mem_cons, List.not_mem_nil, or_false] at hs; rcases hs with rfl <;> exact ⟨Nat.le_of_ble_eq_true rfl, Nat.le_of_ble_eq_true rfl⟩
 case hsteps =>
  refine ⟨?_, ?_, ?_, ?_, ?_, ?_, ?_, ?_, ?_, ?_, ?_, ?_, ?_, ?_, trivial⟩
  · intro l_ a' w' hA hC hJ hN hB hD; have s0 := hA.to 0 (by kernel_rfl) rfl; clear hA hD; refine o7t rfl ?_; intro K hK; gi_wp2; exact hK _ _ rfl (B7 _ _) (SlT.plainB rfl (B7 _ _))
  · intro l_ a' w' hA hC hJ hN hB hD; obtain ⟨u9, s9, rfl⟩ := hD ⟨0, .data⟩ (by simp) rfl _ rfl; clear hA hD; refine o7t rfl ?_; intro K hK; gi_wp2; exact hK _ _ rfl (B7 _ _) (SlT.plainB rfl (B7 _ _))
  · intro l_ a' w' hA hC hJ hN hB hD; obtain ⟨u10, s10, rfl⟩ := hD ⟨1, .data⟩ (by simp) rfl _ rfl; clear hA hD; refine o7t rfl ?_; intro K hK; gi_wp2; exact hK _ _ rfl (B7 _ _) (SlT.plainB rfl (B7 _ _))
  · intro l_ a' w' hA hC hJ hN hB hD; obtain ⟨u11, s11, rfl⟩ := hD ⟨2, .data⟩ (by simp) rfl _ rfl
    have z0 := c7b (k := 0) (HP.out.below hC).1 rfl
    clear hA hD; refine o7t rfl ?_; intro K hK; gi_wp2; exact hK _ _ rfl (B7 _ _) (SlT.plainB rfl (B7 _ _))
  · intro l_ a' w' hA hC hJ hN hB hD; have s3 := hA.to 3 (by kernel_rfl) rfl; clear hA hD; refine o7t rfl ?_; intro K hK; gi_wp2; exact hK _ _ rfl (B7 _ _) (SlT.plainB rfl (B7 _ _))
  · intro l_ a' w' hA hC hJ hN hB hD; obtain ⟨u13, s13, rfl⟩ := hD ⟨4, .data⟩ (by simp) rfl _ rfl
    obtain ⟨-, -, -, -, q4, q5, -⟩ := opCells ((HS.out.below hC).blockAt 0 rfl)
    clear hA hD; refine o7t rfl ?_; intro K hK; gi_wp2; exact hK _ _ rfl (B7 _ _) (SlT.plainB rfl (B7 _ _))
  · intro l_ a' w' hA hC hJ hN hB hD; have s3 := hA.to 3 (by kernel_rfl) rfl; clear hA hD; refine o7t rfl ?_; intro K hK; gi_wp2; exact hK _ _ rfl (B7 _ _) (SlT.plainB rfl (B7 _ _))
  · intro l_ a' w' hA hC hJ hN hB hD; obtain ⟨u15, s15, rfl⟩ := hD ⟨6, .data⟩ (by simp) rfl _ rfl
    obtain ⟨-, -, -, -, q4, q5, -⟩ := opCells ((HS.out.below hC).blockAt 0 rfl)
    clear hA hD; refine o7t rfl ?_; intro K hK; gi_wp2; exact hK _ _ rfl (B7 _ _) (SlT.plainB rfl (B7 _ _))
  · intro l_ a' w' hA hC hJ hN hB hD; obtain ⟨u12, s12, rfl⟩ := hD ⟨3, .data⟩ (by simp) rfl _ rfl; obtain ⟨u14, s14, rfl⟩ := hD ⟨5, .data⟩ (by simp) rfl _ rfl; obtain ⟨u16, s16, rfl⟩ := hD ⟨7, .data⟩ (by simp) rfl _ rfl; clear hA hD; refine o7t rfl ?_; intro K hK
    gi_wp2_with fail; refine (callsIn_wide.2 (HAT.out _ (HP.out.below hC).2)).mono ?_; rintro e w2 ⟨rfl, hb⟩
    exact hK _ _ rfl (hb.mono hC.size) (SlT.plainB rfl hb)
  · intro l_ a' w' hA hC hJ hN hB hD; obtain ⟨u17, s17, rfl⟩ := hD ⟨8, .data⟩ (by simp) rfl _ rfl; clear hA hD; refine o7t rfl ?_; intro K hK; gi_wp2; exact hK _ _ rfl (B7 _ _) (SlT.plainB rfl (B7 _ _))
  · intro l_ a' w' hA hC hJ hN hB hD; obtain ⟨u8, s8, rfl⟩ := hD ⟨9, .data⟩ (by simp) rfl _ rfl; clear hA hD; refine o7t rfl ?_; intro K hK; gi_wp2; exact hK _ _ rfl (B7 _ _) (SlT.plainB rfl (B7 _ _))
  · intro l_ a' w' hA hC hJ hN hB hD; obtain ⟨u8, s8, rfl⟩ := hD ⟨9, .data⟩ (by simp) rfl _ rfl; clear hA hD; refine o7t rfl ?_; intro K hK; gi_wp2; exact hK _ _ rfl (B7 _ _) (SlT.plainB rfl (B7 _ _))
  · intro l_ a' w' hA hC hJ hN hB hD; clear hA hD; refine o7t rfl ?_; intro K hK; gi_wp2; exact hK _ _ trivial ((B7 _ _).alloc hC.size _) (SlT.alloc (by intro t ht e; simp only [List.mem_cons, List.not_mem_nil, or_false] at ht; rcases ht with rfl <;> first | rfl | (exact absurd e (Nat.ne_of_beq_eq_false rfl))) (by intro t ht; simp only [List.mem_cons, List.not_mem_nil, or_false] at ht; rcases ht with rfl <;> exact Nat.ne_of_beq_eq_false rfl))
  · intro l_ a' w' hA hC hJ hN hB hD; obtain ⟨u6, s6, r6⟩ := hD ⟨12, .data⟩ (by simp) rfl _ rfl; replace r6 : (fun _ _ => True) u6 w' := r6; obtain ⟨u18, s18, rfl⟩ := hD ⟨10, .data⟩ (by simp) rfl _ rfl
    obtain ⟨b6, n6, t6, o6⟩ := hJ.at_ _ (List.mem_of_getElem? (i := 0) rfl) (hB ⟨12, .data⟩ (by simp) rfl)
    rw [show l_.getD 13 false = false from hN] at o6
    replace o6 : w'.heap[b6]? = some (.cells #[.int .u8 0, .int .u8 0, .int .u8 0, .int .u8 0] 26 (0, 0)) := o6
    obtain rfl : u6 = ptrB b6 := Option.some.inj (s6.symm.trans t6)
    clear r6
    clear hA hD; refine o7t rfl ?_; intro K hK
    have f6 := f7b o6
    have c6_0 := c7b (k := 0) o6 rfl
    have c6_1 := c7b (k := 1) o6 rfl
    have c6_2 := c7b (k := 2) o6 rfl
    have c6_3 := c7b (k := 3) o6 rfl
    have f6_0 := f6 0
    have f6_1 := f6 1
    have f6_2 := f6 2
    have f6_3 := f6 3
    clear f6; unfold ptrB at s6 t6; gi_wp2; exact hK undef _ trivial (by repeat (first | exact B7 _ _ | refine Below.setCell ?_ (by omega) _)) (SlT.store _ (by intro t ht e; simp only [List.mem_cons, List.not_mem_nil, or_false] at ht; rcases ht with rfl <;> first | rfl | (exact absurd e (Nat.ne_of_beq_eq_false rfl))) (by intro t ht; simp only [List.mem_cons, List.not_mem_nil, or_false] at ht; rcases ht with rfl <;> exact Nat.ne_of_beq_eq_false rfl) (List.mem_of_getElem? (i := 0) rfl) rfl b6 (by unfold envOf; rw [t6]; rfl) (h7s (h7s (h7s (h7s o6 _) _) _) _) (by intro k hk; repeat (first | rfl | refine (Below.heap_setCell _ _ _ k (by simpa using hk)).trans ?_)))
 case hend =>
  intro w3 hC
  simp only [EndFrom, eqv, forall_eq, Act.put, List.length_cons, List.length_nil, List.drop_succ_cons, List.drop_zero, Nat.reduceAdd, List.setIfInBounds_toArray, List.set_cons_succ, List.set_cons_zero]
  have HS := H7 (HS.out.below hC)
  have HP := H7 (HP.out.below hC)
  clear hC
  intro p6 _ p7 _ hE
  clear hE
  gi_wp2
  have z0 := c7b (k := 0) HP.out.1 rfl
  go_wp2_with fail
  refine bodyPost_ret (v := .tuple #[.pointer (some ⟨d, 0, none⟩), .int .i64 0]) (by simp [results, Tryz.results101, go_sem]) rfl ⟨rfl, HS.out.low⟩
set_option maxRecDepth 100000 in
set_option maxHeartbeats 4000000 in
theorem op_framed_any (o : OpT) (a : Option Addr) (n cap : Nat) (hf : drawnB o.f = true) (ht : drawnB o.t = true) (w : World) :
 Calls Tryz.prog 99 #[.agg (o.cells (.slice a n cap))] w (Reached 0 (fun a n cap w' => n = (rectL o.f o.t).length ∧ n ≤ cap ∧ Elems w' (.slice a n cap) n 3 (rowC encS (rectL o.f o.t))) w) := by
 have HS := H7 (St.start w)
 have HR := H7 (fun w' => shRect_any o.f o.t w')
 rw [hf, ht] at HR
 obtain ⟨L, hL⟩ : ∃ L, rectL o.f o.t = L := ⟨_, rfl⟩
 rw [hL] at HR ⊢
 unfold OpT.f OpT.t PtT.val at HR
 clear hf ht hL
 go_enter Tryz.func99, Tryz.ntmps99
 repeat ((fail_if_success (with_reducible refine stop_at (id := 1) ?_)); (first | go_values | go_skip | go_guarded | go_step | go_upon | go_back | (simp only [Int.not_lt, Int.not_le] at *; go_simp) | (go_values <;> (try go_simp)) | (go_ite <;> go_prune <;> (try go_simp)) | (split <;> (first | (rename_i hx; exact (hx _ rfl).elim) | go_prune))))
 have hs_ := (HS.out.alloc (.cells (o.cells (.slice a n cap)) 31))
 obtain ⟨w1, hw_⟩ : ∃ w1 : World, (w.alloc (.cells (o.cells (.slice a n cap)) 31)) = w1 := ⟨_, rfl⟩
 rw [hw_] at hs_
 try simp only [World.size_alloc] at hs_
 have HS := H7 hs_
 rw [hw_]
 clear hw_ hs_
 refine (wpIn_wide (n := 0)).1 ?_
 apply w7v 7 (Rl := [(eqv _), (eqv _), (eqv _), (eqv _), (fun v_ w_ => ∃ a cap, v_ = .tuple #[.slice a L.length cap, .int .i64 0] ∧ L.length ≤ cap ∧ Elems w_ (.slice a L.length cap) L.length 3 (rowC encS L)), (fun v_ w_ => ∃ a cap, v_ = .slice a L.length cap ∧ L.length ≤ cap ∧ Elems w_ (.slice a L.length cap) L.length 3 (rowC encS L)), (eqv _)]) (C := (fun x y => Below x.heap.size x y))
 case hm => kernel_rfl
 case hk => rfl
 case hCr => exact (fun _ => B7 _ _)
 case hCt => intro _ _ _; exact (fun h k => g7t h k)
 case hst => exact ⟨fun _ _ _ _ h => h, fun _ _ _ _ h => h, fun _ _ _ _ h => h, fun _ _ _ _ h => h, fun _ _ _ hC ⟨a, cap, h1, h2, h3⟩ => ⟨a, cap, h1, h2, h3.below hC⟩, fun _ _ _ hC ⟨a, cap, h1, h2, h3⟩ => ⟨a, cap, h1, h2, h3.below hC⟩, fun _ _ _ _ h => h, trivial⟩
 case hfo => kernel_rfl
 case ht => kernel_rfl
 case hC0 => exact (g7d _)
 case hsteps =>
  refine ⟨?_, ?_, ?_, ?_, ?_, ?_, ?_, trivial⟩
  · intro a' w' hA hC hD; have s1 := hA.to 1 (by kernel_rfl) rfl; clear hA hD; refine o7p rfl ?_; intro K hK
    refine opIn_load 31 _ rfl w.heap.size (by simp [Act.eval, s1]) 31 _ (0, 0) _ ((HS.out.below hC).blockAt 0 rfl) Tryz.underlying31 rfl (by kernel_rfl) (hK _ _ rfl (B7 _ _))
  · intro a' w' hA hC hD; obtain ⟨u4, s4, rfl⟩ := hD ⟨0, .data⟩ (by simp) rfl _ rfl; clear hA hD; refine o7p rfl ?_; intro K hK
    gi_wp2_with fail; refine (callsIn_wide.2 (op_from_any o _ _ _ _)).mono ?_; rintro e w2 ⟨rfl, hb⟩
    exact hK _ _ rfl hb
  · intro a' w' hA hC hD; have s1 := hA.to 1 (by kernel_rfl) rfl; clear hA hD; refine o7p rfl ?_; intro K hK
    refine opIn_load 31 _ rfl w.heap.size (by simp [Act.eval, s1]) 31 _ (0, 0) _ ((HS.out.below hC).blockAt 0 rfl) Tryz.underlying31 rfl (by kernel_rfl) (hK _ _ rfl (B7 _ _))
  · intro a' w' hA hC hD; obtain ⟨u6, s6, rfl⟩ := hD ⟨2, .data⟩ (by simp) rfl _ rfl; clear hA hD; refine o7p rfl ?_; intro K hK
    gi_wp2_with fail; refine (callsIn_wide.2 (op_to_any o _ _ _ _)).mono ?_; rintro e w2 ⟨rfl, hb⟩
    exact hK _ _ rfl hb
  · intro a' w' hA hC hD; obtain ⟨u5, s5, rfl⟩ := hD ⟨1, .data⟩ (by simp) rfl _ rfl; obtain ⟨u7, s7, rfl⟩ := hD ⟨3, .data⟩ (by simp) rfl _ rfl; clear hA hD; refine o7p rfl ?_; intro K hK
    gi_wp2_with fail; refine (callsIn_wide.2 (HR.out _)).mono ?_; rintro e w5 ⟨v, rfl, hrow, hb⟩; have he := ownsRow_rows encS_len hrow; obtain ⟨a5, c5, rfl, hc5⟩ := ownsRow_shape hrow
    exact hK _ _ ⟨a5, c5, rfl, hc5, he⟩ hb
  · intro a' w' hA hC hD; obtain ⟨u8, s8, r8⟩ := hD ⟨4, .data⟩ (by simp) rfl _ rfl; replace r8 : (fun v_ w_ => ∃ a cap, v_ = .tuple #[.slice a L.length cap, .int .i64 0] ∧ L.length ≤ cap ∧ Elems w_ (.slice a L.length cap) L.length 3 (rowC encS L)) u8 w' := r8
    obtain ⟨a5, c5, rfl, h2, h3⟩ := r8
    clear hA hD; refine o7p rfl ?_; intro K hK; gi_wp2; exact hK _ _ ⟨a5, c5, rfl, h2, h3⟩ (B7 _ _)
  · intro a' w' hA hC hD; obtain ⟨u8, s8, r8⟩ := hD ⟨4, .data⟩ (by simp) rfl _ rfl; replace r8 : (fun v_ w_ => ∃ a cap, v_ = .tuple #[.slice a L.length cap, .int .i64 0] ∧ L.length ≤ cap ∧ Elems w_ (.slice a L.length cap) L.length 3 (rowC encS L)) u8 w' := r8
    obtain ⟨a5, c5, rfl, -, -⟩ := r8
    clear hA hD; refine o7p rfl ?_; intro K hK; gi_wp2; exact hK _ _ rfl (B7 _ _)
 case hend =>
  intro w3 hC
  simp only [EndFrom, eqv, forall_eq, Act.put, List.length_cons, List.length_nil, List.drop_succ_cons, List.drop_zero, Nat.reduceAdd, List.setIfInBounds_toArray, List.set_cons_succ, List.set_cons_zero]
  have HS := H7 (HS.out.below hC)
  clear hC
  rintro v4 - v5 ⟨a5, c5, rfl, h2, h3⟩
  have HZ := H7 (And.intro h2 h3)
  clear h2 h3
  gi_wp2
  go_wp2_with fail
  refine bodyPost_ret (v := .tuple #[.slice a5 L.length c5, .int .i64 0]) (by simp [results, Tryz.results99, go_sem]) rfl ⟨a5, L.length, c5, rfl, ⟨rfl, HZ.out.1, HZ.out.2⟩, HS.out.low⟩
/- strings.Join, off the shelf; Uses. -/
abbrev renJ : Ren := ⟨fun | 156 => 51 | 165 => 90 | 166 => 91 | 169 => 92 | 240 => 127 | 241 => 128 | 276 => 144 | 277 => 145 | n => n, fun | 0 => 0 | 3 => 3 | 4 => 4 | 5 => 5 | 9 => 9 | 20 => 20 | 31 => 88 | 37 => 144 | 70 => 143 | 72 => 146 | 75 => 149 | 76 => 150 | 80 => 152 | 127 => 178 | 164 => 196 | n => n, fun | n => n⟩
set_option maxRecDepth 100000 in
theorem lay_join : Lays.n156 Tryz.prog renJ := {
 mixed := by kernel_rfl
 f156 := Tryz.func51.trans (congrArg some (by kernel_rfl))
 f165 := Tryz.func90.trans (congrArg some (by kernel_rfl))
 f166 := Tryz.func91.trans (congrArg some (by kernel_rfl))
 f169 := Tryz.func92.trans (congrArg some (by kernel_rfl))
 f240 := Tryz.func127.trans (congrArg some (by kernel_rfl))
 f241 := Tryz.func128.trans (congrArg some (by kernel_rfl))
 f276 := Tryz.func144.trans (congrArg some (by kernel_rfl))
 f277 := Tryz.func145.trans (congrArg some (by kernel_rfl))
 t0 := Tryz.underlying0
 a0 := Tryz.isAgg0
 z0 := Tryz.sizeOf0
 v0 := Tryz.zeroValue0
 t3 := Tryz.underlying3
 a3 := Tryz.isAgg3
 z3 := Tryz.sizeOf3
 v3 := Tryz.zeroValue3
 t4 := Tryz.underlying4
 a4 := Tryz.isAgg4
 z4 := Tryz.sizeOf4
 v4 := Tryz.zeroValue4
 t9 := Tryz.underlying9
 a9 := Tryz.isAgg9
 z9 := Tryz.sizeOf9
 v9 := Tryz.zeroValue9
 t20 := Tryz.underlying20
 a20 := Tryz.isAgg20
 z20 := Tryz.sizeOf20
 v20 := Tryz.zeroValue20
 t31 := Tryz.underlying88
 a31 := Tryz.isAgg88
 z31 := Tryz.sizeOf88
 v31 := Tryz.zeroValue88
 t37 := Tryz.underlying144
 a37 := Tryz.isAgg144
 z37 := Tryz.sizeOf144
 v37 := Tryz.zeroValue144
 t70 := Tryz.underlying143
 a70 := Tryz.isAgg143
 z70 := Tryz.sizeOf143
 v70 := Tryz.zeroValue143
 t72 := Tryz.underlying146
 a72 := Tryz.isAgg146
 z72 := Tryz.sizeOf146
 v72 := Tryz.zeroValue146
 t75 := Tryz.underlying149
 a75 := Tryz.isAgg149
 z75 := Tryz.sizeOf149
 v75 := Tryz.zeroValue149
 t76 := Tryz.underlying150
 a76 := Tryz.isAgg150
 z76 := Tryz.sizeOf150
 v76 := Tryz.zeroValue150
 t127 := Tryz.underlying178
 a127 := Tryz.isAgg178
 z127 := Tryz.sizeOf178
 v127 := Tryz.zeroValue178
 t164 := Tryz.underlying196
 a164 := Tryz.isAgg196
 z164 := Tryz.sizeOf196
 v164 := Tryz.zeroValue196 }
theorem extra_join : Builder.Extra Tryz.prog renJ := {
 sizeBuilder := by kernel_rfl
 liesBuilder := by kernel_rfl
 t5 := Tryz.underlying5
 a5 := Tryz.isAgg5
 z5 := Tryz.sizeOf5
 v5 := Tryz.zeroValue5
 infoByte := by kernel_rfl
 cellsByte := by kernel_rfl
 sizeByte := by kernel_rfl
 neB5 := by decide }
def nameB : Nat → ByteArray
 | 0 => ⟨#[88]⟩ | 1 => ⟨#[89]⟩ | 2 => ⟨#[88, 50]⟩ | 3 => ⟨#[89, 50]⟩ | 4 => ⟨#[83, 105, 122, 101]⟩ | 5 => ⟨#[67, 111, 108, 111, 114]⟩ | 6 => ⟨#[83, 116, 97, 109, 112]⟩ | _ => ⟨#[84, 97, 114, 103, 101, 116]⟩
theorem nameV_eq (c : Nat) : nameV c = .string (nameB c) := by
 match c with
 | 0 => rfl | 1 => rfl | 2 => rfl | 3 => rfl | 4 => rfl | 5 => rfl | 6 => rfl | _ + 7 => rfl
/-- The names of what a kind uses, as a text. -/
def usesText (k : Int) : ByteArray := ⟨(Lib.join (((usesC k).map nameB).map (·.data.toList)) [44, 32]).toArray⟩
theorem usesText_len (k : Int) : (Lib.join (((usesC k).map nameB).map (·.data.toList)) [44, 32]).length ≤ 140737488355328 := by
 unfold usesC
 split; decide
 split; decide
 split; decide
 split; decide
 split <;> decide
set_option maxRecDepth 100000 in
set_option maxHeartbeats 2000000 in
theorem opUses_any (k : Int) (w : World) : Calls Tryz.prog 17 #[.int .i64 k] w (Gives (.string (usesText k)) w) := by
 have HU := H7 (uses_any k)
 obtain ⟨us, hus⟩ : ∃ us, usesC k = us := ⟨_, rfl⟩
 have hl := usesText_len k
 have hN : usesN k = us.map nameV := by rw [usesN_eq, hus]
 have hlen := usesC_len k
 unfold usesText
 rw [hus] at hl hlen ⊢
 rw [hN] at HU
 have HL := H7 hl
 have HLE := H7 hlen
 clear hl hN hus hlen
 rcases us with _ | ⟨c, _ | ⟨d, us⟩⟩
 · skip
   go_enter Tryz.func17, Tryz.ntmps17
   go_wp2_with fail
   refine (HU.out w).mono ?_
   rintro e w2 ⟨v, rfl, hv, hb⟩
   have HB := H7 hb
   have HV := H7 hv
   clear hb hv HU
   obtain ⟨a, c, rfl⟩ : ∃ a c, v = .slice a 0 c := by
    rcases HV.out with ⟨-, rfl⟩ | ⟨g, rfl, -⟩
    · exact ⟨none, 0, rfl⟩
    · exact ⟨_, _, rfl⟩
   go_wp2_with fail
   refine (Any.strings_Join_none lay_join extra_join a c _ w2).mono ?_
   rintro e w3 ⟨rfl, rfl⟩
   go_wp2_with fail
   refine bodyPost_ret (v := .string ⟨#[]⟩) (by simp [results, Tryz.results17, go_sem]) rfl ⟨rfl, HB.out⟩
 · skip
   go_enter Tryz.func17, Tryz.ntmps17
   go_wp2_with fail
   refine (HU.out w).mono ?_
   rintro e w2 ⟨v, rfl, hv, hb⟩
   have HB := H7 hb
   have HV := H7 hv
   clear hb hv HU
   rcases HV.out with ⟨h, -⟩ | ⟨g, rfl, hg⟩
   · cases h
   · have hc : w2.cell? ⟨g, 0, none⟩ = some (.string (nameB c)) := c7b hg (by rw [← nameV_eq]; rfl)
     have HC := H7 hc
     clear hg hc
     unfold sl
     simp only [List.map_cons, List.map_nil, List.length_cons, List.length_nil]
     go_wp2_with fail
     refine (Any.strings_Join_one lay_join extra_join g 0 _ (nameB c) _ w2 HC.out).mono ?_
     rintro e w3 ⟨rfl, rfl⟩
     go_wp2_with fail
     refine bodyPost_ret (v := .string (nameB c)) (by simp [results, Tryz.results17, go_sem]) rfl ⟨by simp [Lib.join], HB.out⟩
 · skip
   go_enter Tryz.func17, Tryz.ntmps17
   go_wp2_with fail
   refine (HU.out w).mono ?_
   rintro e w2 ⟨v, rfl, hv, hb⟩
   have HB := H7 hb
   have HV := H7 hv
   clear hb hv HU
   rcases HV.out with ⟨h, -⟩ | ⟨g, rfl, hg⟩
   · cases h
   · obtain ⟨xs, hxs⟩ : ∃ xs, (c :: d :: us).map nameB = xs := ⟨_, rfl⟩
     have hlx : xs.length = us.length + 2 := by rw [← hxs]; simp
     have hmv : (c :: d :: us).map nameV = xs.map Value.string := by rw [← hxs, List.map_map]; exact List.map_congr_left (fun x _ => nameV_eq x)
     rw [hmv] at hg
     have hcells : ∀ (j : Nat) x, xs[j]? = some x → w2.cell? ⟨g, 0 + j, none⟩ = some (.string x) := fun j x hj => by
      rw [Nat.zero_add]
      exact c7b hg (by rw [List.getElem?_toArray, List.getElem?_map, hj]; rfl)
     have HG := H7 (b7t hg)
     have HC := H7 hcells
     have hLx : (Lib.join (xs.map (·.data.toList)) (ByteArray.mk #[44, 32]).data.toList).length ≤ 140737488355328 := by rw [← hxs]; exact HL.out
     have HLX := H7 hLx
     have HLN := H7 hlx
     have HE := H7 HLE.out
     rw [hmv, List.length_map]
     have HXS := H7 hxs
     unfold sl
     have h6 := HLE.out
     simp only [List.length_cons] at h6
     clear hg hcells hLx hlx hmv hxs HL HLE HV
     go_wp2_with fail
     refine (Any.strings_Join_many lay_join extra_join g 0 xs.length xs _ w2 HC.out HG.out (by have := HLN.out; omega) (by have := HLN.out; omega) (Nat.le_refl _) HLX.out).mono ?_
     rintro e w3 ⟨rfl, hb3⟩
     have HB3 := H7 (HB.out.trans (hb3.mono HB.out.size))
     clear hb3
     go_wp2_with fail
     refine bodyPost_ret (v := .string ⟨(Lib.join (xs.map (·.data.toList)) (ByteArray.mk #[44, 32]).data.toList).toArray⟩) (by simp [results, Tryz.results17, go_sem]) rfl ⟨by rw [HXS.out], HB3.out⟩
/- Package draw: a frame's rows in a map. -/
/-- A row's two ends. -/
def endsL (s : SpT) : List SpT := if s.t ≤ s.f + 1 then [s] else [⟨s.y, s.f, s.f⟩, ⟨s.y, s.t, s.t⟩]
/-- A frame's row, of a rectangle's rows. -/
def frL (R : List SpT) (i : Nat) : List SpT := match R[i]? with
 | none => []
 | some s => if i = 0 ∨ i + 1 = R.length then [s] else endsL s
/-- The map holds the first k rows of a frame. -/
structure FrS (wb : World) (R : List SpT) (k : Nat) (W : World) : Prop where
 low : Below wb.heap.size wb W
 gr : ∃ D F G, GrD W (wb.heap.size + 1) wb.heap.size k D F G ∧ ∀ j : Nat, j < k → G (j : Int) = frL R j
theorem FrS.start (wb : World) (R : List SpT) : FrS wb R 0 (wb.alloc (.map #[] 0)) := ⟨(B7 _ _).alloc (Nat.le_refl _) _, _, _, _, GrD.start wb, fun j h => absurd h (Nat.not_lt_zero _)⟩
theorem FrS.size {wb W : World} {R : List SpT} {k : Nat} (h : FrS wb R k W) : wb.heap.size < W.heap.size := by
 obtain ⟨D, F, G, h1, -⟩ := h.gr
 rcases Nat.lt_or_ge wb.heap.size W.heap.size with h2 | h2
 · exact h2
 · obtain ⟨es, c, h3, -⟩ := h1.map
   have := b7t h3
   omega
theorem FrS.below {wb x y : World} {R : List SpT} {k : Nat} (h : FrS wb R k x) (hb : Below x.heap.size x y) : FrS wb R k y := by
 obtain ⟨D, F, G, h1, h2⟩ := h.gr
 exact ⟨h.low.trans (hb.mono h.low.size), D, F, G, h1.kept hb, h2⟩
theorem FrS.put {wb x y : World} {R : List SpT} {k : Nat} (h : FrS wb R k x) (hk : k < 1000) (hb : Below x.heap.size x y) {v : Value} {L : List SpT} (hrow : y.ownsRow x.heap.size 47 3 v L.length (L.flatMap encS)) (hL : L ≠ []) (hfr : frL R k = L) :
 ∃ w2, (Instr.mapUpdate 211 (.map (some wb.heap.size)) (.int .i64 (k : Int)) v).run Tryz.prog y = .ok () w2 ∧ FrS wb R (k + 1) w2 := by
 obtain ⟨D, F, G, h1, h2⟩ := h.gr
 have hs := h.size
 obtain ⟨w2, hr, hg, hgb⟩ := h1.put (y := (k : Int)) (by unfold inK; omega) (by unfold maxLen; omega) (w := y) ⟨hb.os, hb.tape, hb.output, hb.size, fun q hq _ => hb.block q hq⟩ (v' := v) (L := L) (ownsRow_mono hrow (by omega)) hL (by
  obtain ⟨h3, ⟨h4, h5⟩ | ⟨g, cap, cur, h4, h5, -⟩⟩ := hrow
  · exact absurd (List.length_eq_zero_iff.1 h5) hL
  · rw [h4]; exact .inr ⟨g, rfl, h5⟩)
 refine ⟨w2, hr, ⟨(h.low.trans (hb.mono h.low.size)).grown hgb (Nat.le_trans h.low.size hb.size) (fun j e => by cases e; exact Nat.le_refl _), _, _, _, hg, fun j hj => ?_⟩⟩
 by_cases e : j = k
 · subst e; simp [hfr]
 · have e2 : ¬ ((j : Int) = (k : Int)) := by omega
   simp only [if_neg e2]
   exact h2 j (by omega)
/-- Painted row for row. -/
def frameK (C : CanT) (R : List SpT) (c : ColT) (k : Nat) : CanT := (List.range k).foldl (fun D i => paintC D (frL R i) (fpaint c)) C
theorem frameK_succ (C : CanT) (R : List SpT) (c : ColT) (k : Nat) : frameK C R c (k + 1) = paintC (frameK C R c k) (frL R k) (fpaint c) := by unfold frameK; rw [List.range_succ, List.foldl_append]; rfl
/-- The frame is painted up to a row. -/
structure FrP (w : World) (b E qc : Nat) (c : ColT) (C : CanT) (R : List SpT) (n j : Nat) (W : World) : Prop where
 gr : ∃ D F G, GrD W (b + 1) b n D F G ∧ ∀ i : Nat, i < n → G (i : Int) = frL R i
 tu : Turned (fun k => k = E) w W
 ex : ∃ d, W.heap[E]? = some (.cells #[.pointer (some ⟨d, 0, none⟩)] 238 (0, 0)) ∧ CanAt W d (frameK C R c j)
 col : W.heap[qc]? = some (.cells #[.int .u8 c.r, .int .u8 c.g, .int .u8 c.b, .int .u8 c.a] 26 (0, 0))
theorem FrP.step {w W W' : World} {b E qc : Nat} {c : ColT} {C : CanT} {R : List SpT} {n j : Nat} {e : Ending} (h : FrP w b E qc c C R n j W) (hE : E < b) (h2 : Drew E 0 (paintC (frameK C R c j) (frL R j) (fpaint c)) W e W') : e = .returned (.tuple #[]) ∧ FrP w b E qc c C R n (j + 1) W' := by
 obtain ⟨D, F, G, h3, h4⟩ := h.gr
 obtain ⟨he, d', hd1, hd2⟩ := h2.2.1 rfl
 obtain ⟨d, hd3, -⟩ := h.ex
 have hne : qc ≠ E := by
  intro e
  have := h.col
  rw [e, hd3] at this
  simp at this
 have hg : W.grownBy W' (some E) := ⟨h2.1.os, h2.1.tape, h2.1.output, h2.1.size, fun k hk hn => h2.1.block k hk (fun e => hn (by rw [e]))⟩
 refine ⟨he, ⟨D, F, G, h3.other hg (fun e => by cases e; omega) (fun z hz => ?_), h4⟩, (h.tu.trans h2.1).mono (fun k _ hs => hs.elim id id), ⟨d', hd1, by rw [frameK_succ]; exact hd2⟩, (h2.1.block _ (b7t h.col) hne).trans h.col⟩
 cases hv : (F z).ownBlock with
 | none => exact .inl rfl
 | some q => exact .inr fun e => by have := ((h3.row z hz).lt q hv).1; cases e; omega
/- Package draw: Frame. -/
/- Package draw: Frame itself. -/
/- Layer 8: goes. -/
/- Layer 8: of, tolerant, begun. -/
/- Layer 8: gathered, for each closure. -/
/-- Place k of a canvas W wide, row by row. -/
def ptK (W k : Nat) : PtT := ⟨((k % W : Nat) : Int), ((k / W : Nat) : Int)⟩
def gathL (W : Nat) (is : Nat → Bool) (k : Nat) : List PtT := ((List.range k).filter is).map (ptK W)
theorem ptK_at {W x y : Nat} (hx : x < W) : ptK W (y * W + x) = ⟨(x : Int), (y : Int)⟩ := by
 unfold ptK
 rw [show (y * W + x) % W = x by rw [Nat.add_comm, Nat.add_mul_mod_self_right]; exact Nat.mod_eq_of_lt hx, show (y * W + x) / W = y by rw [Nat.add_comm, Nat.add_mul_div_right _ _ (by omega), Nat.div_eq_of_lt hx]; omega]
/-- What gathered keeps behind k places. -/
structure GatS (y0 : World) (S : Nat) (W : Nat) (is : Nat → Bool) (Inv : Nat → World → Prop) (k : Nat) (v : Value) (x : World) : Prop where
 o : StO (cutW y0 S) [] y0.heap.size 69 2 encP v (gathL W is k) x
 inv : Inv k x
 tu : Turned (fun j => j = S) y0 x
 sl : S < y0.heap.size
theorem GatS.start {y0 : World} {S W : Nat} {is : Nat → Bool} {Inv : Nat → World → Prop} (hS : S < y0.heap.size) (h0 : Inv 0 y0) : GatS y0 S W is Inv 0 (.slice none 0 0) y0 :=
 ⟨StO.start (its := []) ⟨by rw [cutW_size (Nat.le_of_lt hS)]; exact cutW_below (Nat.le_of_lt hS), by simp, trivial, by simp⟩ _ _ _, h0, Turned.refl _ _, hS⟩
theorem GatS.oturn {y0 : World} {S W : Nat} {is : Nat → Bool} {Inv : Nat → World → Prop} {k : Nat} {v : Value} {x y : World} (h : GatS y0 S W is Inv k v x) (ht : Turned (fun j => j = S) x y) : StO (cutW y0 S) [] y0.heap.size 69 2 encP v (gathL W is k) y := by
 have hcz := cutW_size (Nat.le_of_lt h.sl)
 refine ⟨⟨?_, by simp, trivial, by simp⟩, ?_, h.o.low, by simp, Nat.le_trans h.o.hi ht.size⟩
 · have h1 := h.o.st.low
   rw [hcz] at h1 ⊢
   exact h1.trans (ht.below (by have := h1.size; rw [hcz] at this; exact this) (fun j hj => by rw [hj]; exact Nat.le_refl _))
 · refine ⟨h.o.row.1, ?_⟩
   rcases h.o.row.2 with h1 | ⟨g, cap, cur, e1, hg, hgg, rest⟩
   · exact .inl h1
   · exact .inr ⟨g, cap, cur, e1, hg, (ht.block g (b7t hgg) (fun e => by have := h.sl; omega)).trans hgg, rest⟩
theorem GatS.turn {y0 : World} {S W : Nat} {is : Nat → Bool} {Inv : Nat → World → Prop} {k k' : Nat} {v : Value} {x y : World} (h : GatS y0 S W is Inv k v x) (ht : Turned (fun j => j = S) x y) (hi : Inv k' y) (hl : gathL W is k' = gathL W is k) : GatS y0 S W is Inv k' v y :=
 ⟨by rw [hl]; exact h.oturn ht, hi, (h.tu.trans ht).mono fun k _ hk => (by rcases hk with hk | hk <;> exact hk), h.sl⟩
theorem GatS.below {y0 : World} {S W : Nat} {is : Nat → Bool} {Inv : Nat → World → Prop} {k : Nat} {v : Value} {x y : World} (hloc : ∀ k wr wr', Inv k wr → (∀ j, j < y0.heap.size → wr'.heap[j]? = wr.heap[j]?) → Inv k wr') (h : GatS y0 S W is Inv k v x) (hb : Below x.heap.size x y) : GatS y0 S W is Inv k v y :=
 ⟨h.o.below hb, hloc k x y h.inv (fun j hj => hb.block j (Nat.lt_of_lt_of_le hj h.o.hi)), h.tu.belowT hb, h.sl⟩
/- Layer 5: the points of a canvas, told one by one. -/
set_option maxRecDepth 100000 in
set_option maxHeartbeats 2000000 in
theorem points1_any (n : Nat) (hn : 1 ≤ n) (own : World → Nat → Prop) (N0 : Nat) (ho : OwnSt own N0) (L Bs : Nat) (bs : List Nat) (wi hi Wd Hd : Nat) (hwi : 8 * wi = Wd) (hhi : 8 * hi = Hd) (hw : wi ≤ 4) (hh : hi ≤ 4)
 (J Jx : List (Fin (Hd * Wd)) → World → Prop) (hJd : ∀ pre x y, J pre x → Below x.heap.size x y → J pre y) (hb1 : Bs ∈ bs)
 (hY : ∀ pre x W, J pre W → pre.length < Hd * Wd → YieldAt Fence.wide (n - 1) Tryz.prog L #[(ptK Wd x.1).val] W fun e W' =>
  (e = .returned (.bool true) ∧ J (pre ++ [x]) W' ∧ KO own bs N0 W W') ∨ (e = .returned (.bool false) ∧ Jx (pre ++ [x]) W'))
 (W : World) (hN : N0 ≤ W.heap.size) (hBs : ∀ c ∈ bs, c < W.heap.size) (hwf : ∀ q, own W q → q < W.heap.size) (hc0 : W.cell? ⟨Bs, 0, none⟩ = some (.int .i64 wi)) (hc1 : W.cell? ⟨Bs, 1, none⟩ = some (.int .i64 hi)) (h0 : J [] W) :
 CallsIn Fence.wide n Tryz.prog 120 #[.func (.yield L) #[] #[], .pointer (some ⟨Bs, 0, none⟩)] W fun e W' => (∃ v, e = .returned v) ∧
  ((∃ ys, ys = List.finRange (Hd * Wd) ∧ J ys W') ∨ (∃ pre, pre <+: List.finRange (Hd * Wd) ∧ Jx pre W')) := by
 have HY := H7 hY
 have HD := H7 (fun (p : Nat) (x y : World) (h : AllAt own bs N0 (Hd * Wd) J W p x) (hb : Below x.heap.size x y) => h.below ho hJd hN hBs hb)
 have HC : Hid (∀ wr, KeepsAt bs W wr → wr.cell? ⟨Bs, 0, none⟩ = some (.int .i64 wi) ∧ wr.cell? ⟨Bs, 1, none⟩ = some (.int .i64 hi)) := H7 fun wr hk => ⟨cell_keepsAt hc0 hb1 hk, cell_keepsAt hc1 hb1 hk⟩
 have HA := H7 (show AllAt own bs N0 (Hd * Wd) J W 0 W from ⟨h0, KO.refl _ _ _ _, hwf⟩)
 have HB := H7 (show Wd ≤ 32 ∧ Hd ≤ 32 by omega)
 have HE := H7 (show wrap64 (8 * (wi : Int)) = (Wd : Int) ∧ wrap64 (8 * (hi : Int)) = (Hd : Int) by unfold wrap64; omega)
 have c1 := (HC.out W (KeepsAt.refl _ _)).2
 have e1 := HE.out.2
 clear hY ho hJd hb1 hBs hc0 hc1 h0 hwf hN hwi hhi hw hh
 refine callsIn_of_wp Tryz.func120 rfl trivial ?_ rfl
 simp only [Tryz.ntmps120, List.size_toArray, List.length_cons, List.length_nil, Nat.reduceAdd, Nat.reduceSub, Array.replicate_succ, Array.replicate_zero, List.push_toArray, List.append_toArray, List.nil_append, List.cons_append]
 apply wpIn_scope
 gi_wp2
 apply wpIn_label
 gi_wp2; rw [HE.out.2]
 clear c1 e1
 gi_loopw [8] (fun i wr => ∃ k : Nat, k ≤ Hd ∧ i = .int .i64 k ∧ AllAt own bs N0 (Hd * Wd) J W (k * Wd) wr) (fun i _ => Hd - (intOf i).toNat)
 case atStart => exact ⟨0, by omega, rfl, by rw [Nat.zero_mul]; exact HA.out⟩
 case round =>
  obtain ⟨k, hk, rfl, ha⟩ := hrel
  clear HA
  have HA := H7 ha
  clear ha
  by_cases hlt : k < Hd
  · have HLT := H7 hlt
    have wk : wrap64 ((k : Int) + 1) = ((k + 1 : Nat) : Int) := by have := HB.out; unfold wrap64; omega
    have HWK := H7 wk
    have c0 := (HC.out wr HA.out.ko.at_).1
    have e0 := HE.out.1
    clear wk
    gi_wp2; rw [HE.out.1]
    clear c0 e0 hlt hk
    gi_loopw [14] (fun x wi => ∃ i : Nat, i ≤ Wd ∧ x = .int .i64 (i : Int) ∧ AllAt own bs N0 (Hd * Wd) J W (k * Wd + i) wi) (fun x _ => Wd - (intOf x).toNat)
    case atStart => exact ⟨0, by omega, rfl, HA.out⟩
    case round =>
     obtain ⟨i, hi, rfl, ha⟩ := hrel
     clear HA
     have HA := H7 ha
     clear ha
     by_cases hlt2 : i < Wd
     · have HLT2 := H7 hlt2
       have wi1 : wrap64 ((i : Int) + 1) = ((i + 1 : Nat) : Int) := by have := HB.out; unfold wrap64; omega
       have HWI := H7 wi1
       have hpl : k * Wd + i < Hd * Wd := by
        have h1 : (k + 1) * Wd ≤ Hd * Wd := Nat.mul_le_mul_right _ HLT.out
        rw [Nat.succ_mul] at h1
        omega
       obtain ⟨fn, tmps, assign, body, hy, hR⟩ := HY.out _ (⟨k * Wd + i, hpl⟩ : Fin (Hd * Wd)) wr HA.out.j (by rw [firsts_length (Nat.le_of_lt hpl)]; exact hpl)
       have he : ptK Wd (k * Wd + i) = ⟨(i : Int), (k : Int)⟩ := ptK_at hlt2
       simp only [he, PtT.val] at hy
       have hs := firsts_succ (N := Hd * Wd) (k := k * Wd + i) hpl
       rw [hs] at hR
       clear hs he hpl wi1 hi
       gi_wp2
       refine hR.mono ?_
       rintro e w4 (⟨rfl, hJ4, hk4⟩ | ⟨rfl, hJx⟩)
       · have HA4 := H7 (show AllAt own bs N0 (Hd * Wd) J W (k * Wd + (i + 1)) w4 from ⟨hJ4, HA.out.ko.trans hk4, hk4.wf HA.out.wf⟩)
         clear hJ4 hk4
         gi_wp2
         go_roundw
         case rel => exact ⟨i + 1, HLT2.out, by first | exact congrArg (Value.int .i64) HWI.out | exact congrArg (Value.int .i64) (Int.natCast_succ i).symm, HA4.out⟩
         case measure => (try rw [HWI.out]); have := HLT2.out; simp only [intOf]; omega
       · have HJ3 := H7 hJx
         clear hJx
         gi_wp2; rw [Exit.noGoto_normal]
         go_end0
         exact ⟨⟨_, rfl⟩, .inr ⟨_, firsts_prefix _ _, HJ3.out⟩⟩
     · have HN2 := H7 (show k * Wd + i = (k + 1) * Wd by rw [Nat.succ_mul]; omega)
       clear hi
       gi_wp2
       go_roundw
       case rel => exact ⟨k + 1, HLT.out, by first | exact congrArg (Value.int .i64) HWK.out | exact congrArg (Value.int .i64) (Int.natCast_succ k).symm, by have := HA.out; rwa [HN2.out] at this⟩
       case measure => (try rw [HWK.out]); have := HLT.out; simp only [intOf]; omega
  · obtain rfl : k = Hd := by omega
    have HJ := H7 (show J (List.finRange (k * Wd)) wr by have := HA.out.j; rwa [firsts_all] at this)
    clear hk hlt
    gi_wp2; rw [Exit.noGoto_normal]
    go_end0
    exact ⟨⟨_, rfl⟩, .inl ⟨_, rfl, HJ.out⟩⟩
theorem points_iter (own : World → Nat → Prop) (w : World) (ho : OwnSt own w.heap.size) (hwf : ∀ q, own w q → q < w.heap.size) (Bs : Nat) (bs : List Nat) (wi hi Wd Hd : Nat) (hwi : 8 * wi = Wd) (hhi : 8 * hi = Hd) (hw : wi ≤ 4) (hh : hi ≤ 4)
 (hbs : ∀ c ∈ bs, c < w.heap.size) (hb1 : Bs ∈ bs) (hc0 : w.cell? ⟨Bs, 0, none⟩ = some (.int .i64 wi)) (hc1 : w.cell? ⟨Bs, 1, none⟩ = some (.int .i64 hi)) :
 IterO Tryz.prog 120 #[.pointer (some ⟨Bs, 0, none⟩)] (Hd * Wd) (fun i => #[(ptK Wd i.1).val]) own bs w := by
 intro n hn1 L J Jx W hW hJ _ hY h0
 have e := ho w W (fun k hk => hW.block k hk)
 exact points1_any n hn1 own w.heap.size ho L Bs bs wi hi Wd Hd hwi hhi hw hh J Jx (fun pre x y h hb => hJ pre x y none h (below_grown hb) (by simp)) hb1 hY W hW.size (fun c hc => Nat.lt_of_lt_of_le (hbs c hc) hW.size) (fun q hq => Nat.lt_of_lt_of_le (hwf q ((e q).1 hq)) hW.size)
  ((hW.cell (p := ⟨Bs, 0, none⟩) (hbs Bs hb1)).trans hc0) ((hW.cell (p := ⟨Bs, 1, none⟩) (hbs Bs hb1)).trans hc1) h0
theorem points_cl (wi hi : Int) (w : World) :
 Calls Tryz.prog 74 #[.agg #[.int .i64 wi, .int .i64 hi]] w fun e w' => e = .returned (.func (.func 120) #[] #[.pointer (some ⟨w.heap.size, 0, none⟩)]) ∧ w.alloc (.cells #[.int .i64 wi, .int .i64 hi] 106) = w' := by
 go_enter Tryz.func74, Tryz.ntmps74
 go_wp2
 go_ret
 exact ⟨rfl, rfl⟩
end Go.Proofs.YtgdcfkbimkclaaaGreatDoor
