/- Merged texts: OpG. -/
import Derived.Test.YteklfmacnnmomaaGreatM5
import Derived.Test.YteklfmacnnmomaaGreatM6
set_option linter.unusedSimpArgs false
set_option linter.unusedVariables false
/- Layer 12: op.Same; printed by gen_opsame.py. -/
namespace Go.Proofs.YteklfmacnnmomaaGreat
open Go.RowKit Go.Shelf
attribute [local go_sem] Oper.semAt_some
def sameO (o p : OpT) : Bool := (((((((idEqB o.id p.id && (o.kind == p.kind)) && ptEqB ⟨o.x, o.y⟩ ⟨p.x, p.y⟩) && ptEqB ⟨o.x2, o.y2⟩ ⟨p.x2, p.y2⟩) && (o.size == p.size)) && decide (o.c = p.c)) && idEqB o.tg p.tg) && stSame o.sw o.sh p.sw p.sh o.px p.px)
set_option maxRecDepth 100000 in
set_option maxHeartbeats 4000000 in
theorem opSame_any (o p : OpT) (pv pv2 : Value) (hl : o.px.length ≤ 1000000000) (w : World) (hp : PixV o.px pv w) (hq : PixV p.px pv2 w) : Calls Tryz.prog 94 #[.agg (o.cells pv), .agg (p.cells pv2)] w (Gives (.bool (sameO o p)) w) := by
 obtain ⟨a, cap, rfl, -, he⟩ := hp
 obtain ⟨a2, cap2, rfl, -, he2⟩ := hq
 have HS := H7 (St.start w)
 have HST := H7 (fun w' (hb : Below w.heap.size w w') => stSame_any o.sw o.sh a cap o.px p.sw p.sh a2 cap2 p.px hl w' (he.below hb) (he2.below hb))
 clear he he2 hl
 unfold sameO
 obtain ⟨b1, h1⟩ : ∃ b, idEqB o.id p.id = b := ⟨_, rfl⟩
 obtain ⟨b2, h2⟩ : ∃ b, (o.kind == p.kind) = b := ⟨_, rfl⟩
 obtain ⟨b3, h3⟩ : ∃ b, ptEqB ⟨o.x, o.y⟩ ⟨p.x, p.y⟩ = b := ⟨_, rfl⟩
 obtain ⟨b4, h4⟩ : ∃ b, ptEqB ⟨o.x2, o.y2⟩ ⟨p.x2, p.y2⟩ = b := ⟨_, rfl⟩
 obtain ⟨b5, h5⟩ : ∃ b, (o.size == p.size) = b := ⟨_, rfl⟩
 obtain ⟨b6, h6⟩ : ∃ b, decide (o.c = p.c) = b := ⟨_, rfl⟩
 obtain ⟨b7, h7⟩ : ∃ b, idEqB o.tg p.tg = b := ⟨_, rfl⟩
 rw [h1, h2, h3, h4, h5, h6, h7]
 have E1 := H7 (show ∀ w, (binOp .eql 44 (.agg #[.int .u64 o.id.time, .int .i64 o.id.site, .int .u64 o.id.seq]) (.agg #[.int .u64 p.id.time, .int .i64 p.id.site, .int .u64 p.id.seq])).run Tryz.prog w = .ok (.bool b1) w from fun w => (run_eql_id w _ _ _ _ _ _).trans (by rw [← h1]))
 have E2 := H7 h2
 have E3 := H7 (show ∀ w, (binOp .eql 139 (.agg #[.int .i64 o.x, .int .i64 o.y]) (.agg #[.int .i64 p.x, .int .i64 p.y])).run Tryz.prog w = .ok (.bool b3) w from fun w => (run_eql_point w _ _ _ _).trans (by rw [← h3]))
 have E4 := H7 (show ∀ w, (binOp .eql 139 (.agg #[.int .i64 o.x2, .int .i64 o.y2]) (.agg #[.int .i64 p.x2, .int .i64 p.y2])).run Tryz.prog w = .ok (.bool b4) w from fun w => (run_eql_point w _ _ _ _).trans (by rw [← h4]))
 have E5 := H7 h5
 have E6 := H7 (show ∀ w, (binOp .eql 46 (.agg #[.int .u8 o.c.r, .int .u8 o.c.g, .int .u8 o.c.b, .int .u8 o.c.a]) (.agg #[.int .u8 p.c.r, .int .u8 p.c.g, .int .u8 p.c.b, .int .u8 p.c.a])).run Tryz.prog w = .ok (.bool b6) w from fun w => by have h := colE_run o.c p.c w; unfold ColT.val at h; rw [h6] at h; simp [binOp, h])
 have E7 := H7 (show ∀ w, (binOp .eql 44 (.agg #[.int .u64 o.tg.time, .int .i64 o.tg.site, .int .u64 o.tg.seq]) (.agg #[.int .u64 p.tg.time, .int .i64 p.tg.site, .int .u64 p.tg.seq])).run Tryz.prog w = .ok (.bool b7) w from fun w => (run_eql_id w _ _ _ _ _ _).trans (by rw [← h7]))
 clear h1 h2 h3 h4 h5 h6 h7
 go_enter Tryz.func94, Tryz.ntmps94
 repeat ((fail_if_success (with_reducible refine stop_at (id := 1) ?_)); (first | go_values | go_skip | go_guarded | go_step | go_upon | go_back | (simp only [Int.not_lt, Int.not_le] at *; go_simp) | (go_values <;> (try go_simp)) | (go_ite <;> go_prune <;> (try go_simp)) | (split <;> (first | (rename_i hx; exact (hx _ rfl).elim) | go_prune))))
 have hs_ := ((HS.out.alloc (.cells (o.cells (.slice a o.px.length cap)) 51)).alloc (.cells (p.cells (.slice a2 p.px.length cap2)) 51))
 obtain ⟨w1, hw_⟩ : ∃ w1 : World, ((w.alloc (.cells (o.cells (.slice a o.px.length cap)) 51)).alloc (.cells (p.cells (.slice a2 p.px.length cap2)) 51)) = w1 := ⟨_, rfl⟩
 rw [hw_] at hs_
 try simp only [World.size_alloc] at hs_
 have HS := H7 hs_
 rw [hw_]
 clear hw_ hs_
 cases b1 with
 | false =>
  refine (wpIn_wide (n := 0)).1 ?_
  apply w7v 47 (Rl := [(eqv _), (eqv _), (eqv _), (eqv _), (eqv _), (eqv _), (fun v_ _ => v_ = (undef : Value)), (fun v_ _ => v_ = (undef : Value)), (fun v_ _ => v_ = (undef : Value)), (fun v_ _ => v_ = (undef : Value)), (fun v_ _ => v_ = (undef : Value)), (eqv _), (eqv _), (fun v_ _ => v_ = (undef : Value)), (fun v_ _ => v_ = (undef : Value)), (fun v_ _ => v_ = (undef : Value)), (fun v_ _ => v_ = (undef : Value)), (fun v_ _ => v_ = (undef : Value)), (eqv _), (eqv _), (fun v_ _ => v_ = (undef : Value)), (fun v_ _ => v_ = (undef : Value)), (fun v_ _ => v_ = (undef : Value)), (fun v_ _ => v_ = (undef : Value)), (fun v_ _ => v_ = (undef : Value)), (eqv _), (eqv _), (fun v_ _ => v_ = (undef : Value)), (fun v_ _ => v_ = (undef : Value)), (fun v_ _ => v_ = (undef : Value)), (fun v_ _ => v_ = (undef : Value)), (fun v_ _ => v_ = (undef : Value)), (eqv _), (eqv _), (fun v_ _ => v_ = (undef : Value)), (fun v_ _ => v_ = (undef : Value)), (fun v_ _ => v_ = (undef : Value)), (fun v_ _ => v_ = (undef : Value)), (fun v_ _ => v_ = (undef : Value)), (eqv _), (eqv _), (fun v_ _ => v_ = (undef : Value)), (fun v_ _ => v_ = (undef : Value)), (fun v_ _ => v_ = (undef : Value)), (fun v_ _ => v_ = (undef : Value)), (fun v_ _ => v_ = (undef : Value)), (eqv _)]) (C := (fun x y => Below x.heap.size x y))
  case hm => kernel_rfl
  case hk => rfl
  case hCr => exact (fun _ => B7 _ _)
  case hCt => intro _ _ _; exact (fun h k => g7t h k)
  case hst => repeat (first | exact trivial | refine ⟨fun _ _ _ _ h => h, ?_⟩)
  case hfo => kernel_rfl
  case ht => kernel_rfl
  case hC0 => exact (g7d _)
  case hsteps =>
   refine ⟨?_, ?_, ?_, ?_, ?_, ?_, ?_, ?_, ?_, ?_, ?_, ?_, ?_, ?_, ?_, ?_, ?_, ?_, ?_, ?_, ?_, ?_, ?_, ?_, ?_, ?_, ?_, ?_, ?_, ?_, ?_, ?_, ?_, ?_, ?_, ?_, ?_, ?_, ?_, ?_, ?_, ?_, ?_, ?_, ?_, ?_, ?_, trivial⟩
   · intro a' w' hA hC hD; have s2 := hA.to 2 (by kernel_rfl) rfl; clear hA hD; refine o7p rfl ?_; intro K hK; gi_wp2; exact hK _ _ rfl (B7 _ _)
   · intro a' w' hA hC hD; obtain ⟨u6, s6, rfl⟩ := hD ⟨0, .data⟩ (by simp) rfl _ rfl
     obtain ⟨q0, q1, q2, -⟩ := opCells ((HS.out.below hC).blockAt 1 rfl)
     clear hA hD; refine o7p rfl ?_; intro K hK; gi_wp2; exact hK _ _ rfl (B7 _ _)
   · intro a' w' hA hC hD; have s3 := hA.to 3 (by kernel_rfl) rfl; clear hA hD; refine o7p rfl ?_; intro K hK; gi_wp2; exact hK _ _ rfl (B7 _ _)
   · intro a' w' hA hC hD; obtain ⟨u8, s8, rfl⟩ := hD ⟨2, .data⟩ (by simp) rfl _ rfl
     obtain ⟨q0, q1, q2, -⟩ := opCells ((HS.out.below hC).blockAt 0 rfl)
     clear hA hD; refine o7p rfl ?_; intro K hK; gi_wp2; exact hK _ _ rfl (B7 _ _)
   · intro a' w' hA hC hD; obtain ⟨u7, s7, rfl⟩ := hD ⟨1, .data⟩ (by simp) rfl _ rfl; obtain ⟨u9, s9, rfl⟩ := hD ⟨3, .data⟩ (by simp) rfl _ rfl
     have hr := E1.out
     clear hA hD; refine o7p rfl ?_; intro K hK; gi_wp2; exact hK _ _ rfl (B7 _ _)
   · intro a' w' hA hC hD; obtain ⟨u10, s10, rfl⟩ := hD ⟨4, .data⟩ (by simp) rfl _ rfl; clear hA hD; refine o7p rfl ?_; intro K hK; gi_wp2; exact hK _ _ rfl (B7 _ _)
   · intro a' w' hA hC hD; have s2 := hA.to 2 (by kernel_rfl) rfl; obtain ⟨u11, s11, rfl⟩ := hD ⟨5, .guard⟩ (by simp) rfl _ rfl; clear hA hD
     exact o7s rfl rfl s11 rfl
   · intro a' w' hA hC hD; obtain ⟨u12, s12, r12⟩ := hD ⟨6, .data⟩ (by simp) rfl _ rfl; replace r12 : u12 = undef := r12; subst r12; obtain ⟨u11, s11, rfl⟩ := hD ⟨5, .guard⟩ (by simp) rfl _ rfl; clear hA hD
     exact o7s rfl rfl s11 rfl
   · intro a' w' hA hC hD; have s3 := hA.to 3 (by kernel_rfl) rfl; obtain ⟨u11, s11, rfl⟩ := hD ⟨5, .guard⟩ (by simp) rfl _ rfl; clear hA hD
     exact o7s rfl rfl s11 rfl
   · intro a' w' hA hC hD; obtain ⟨u14, s14, r14⟩ := hD ⟨8, .data⟩ (by simp) rfl _ rfl; replace r14 : u14 = undef := r14; subst r14; obtain ⟨u11, s11, rfl⟩ := hD ⟨5, .guard⟩ (by simp) rfl _ rfl; clear hA hD
     exact o7s rfl rfl s11 rfl
   · intro a' w' hA hC hD; obtain ⟨u13, s13, r13⟩ := hD ⟨7, .data⟩ (by simp) rfl _ rfl; replace r13 : u13 = undef := r13; subst r13; obtain ⟨u15, s15, r15⟩ := hD ⟨9, .data⟩ (by simp) rfl _ rfl; replace r15 : u15 = undef := r15; subst r15; obtain ⟨u11, s11, rfl⟩ := hD ⟨5, .guard⟩ (by simp) rfl _ rfl; clear hA hD
     exact o7s rfl rfl s11 rfl
   · intro a' w' hA hC hD; obtain ⟨u11, s11, rfl⟩ := hD ⟨5, .data⟩ (by simp) rfl _ rfl; obtain ⟨u16, s16, r16⟩ := hD ⟨10, .data⟩ (by simp) rfl _ rfl; replace r16 : u16 = undef := r16; subst r16; clear hA hD; refine o7p rfl ?_; intro K hK; gi_wp2; exact hK _ _ rfl (B7 _ _)
   · intro a' w' hA hC hD; obtain ⟨u17, s17, rfl⟩ := hD ⟨11, .data⟩ (by simp) rfl _ rfl; clear hA hD; refine o7p rfl ?_; intro K hK; gi_wp2; exact hK _ _ rfl (B7 _ _)
   · intro a' w' hA hC hD; have s2 := hA.to 2 (by kernel_rfl) rfl; obtain ⟨u18, s18, rfl⟩ := hD ⟨12, .guard⟩ (by simp) rfl _ rfl; clear hA hD
     exact o7s rfl rfl s18 rfl
   · intro a' w' hA hC hD; obtain ⟨u19, s19, r19⟩ := hD ⟨13, .data⟩ (by simp) rfl _ rfl; replace r19 : u19 = undef := r19; subst r19; obtain ⟨u18, s18, rfl⟩ := hD ⟨12, .chain⟩ (by simp) rfl _ rfl; clear hA hD
     exact o7s rfl rfl s18 rfl
   · intro a' w' hA hC hD; have s3 := hA.to 3 (by kernel_rfl) rfl; obtain ⟨u18, s18, rfl⟩ := hD ⟨12, .guard⟩ (by simp) rfl _ rfl; clear hA hD
     exact o7s rfl rfl s18 rfl
   · intro a' w' hA hC hD; obtain ⟨u21, s21, r21⟩ := hD ⟨15, .data⟩ (by simp) rfl _ rfl; replace r21 : u21 = undef := r21; subst r21; obtain ⟨u18, s18, rfl⟩ := hD ⟨12, .guard⟩ (by simp) rfl _ rfl; clear hA hD
     exact o7s rfl rfl s18 rfl
   · intro a' w' hA hC hD; obtain ⟨u20, s20, r20⟩ := hD ⟨14, .data⟩ (by simp) rfl _ rfl; replace r20 : u20 = undef := r20; subst r20; obtain ⟨u22, s22, r22⟩ := hD ⟨16, .data⟩ (by simp) rfl _ rfl; replace r22 : u22 = undef := r22; subst r22; obtain ⟨u18, s18, rfl⟩ := hD ⟨12, .guard⟩ (by simp) rfl _ rfl; clear hA hD
     exact o7s rfl rfl s18 rfl
   · intro a' w' hA hC hD; obtain ⟨u18, s18, rfl⟩ := hD ⟨12, .data⟩ (by simp) rfl _ rfl; obtain ⟨u23, s23, r23⟩ := hD ⟨17, .data⟩ (by simp) rfl _ rfl; replace r23 : u23 = undef := r23; subst r23; clear hA hD; refine o7p rfl ?_; intro K hK; gi_wp2; exact hK _ _ rfl (B7 _ _)
   · intro a' w' hA hC hD; obtain ⟨u24, s24, rfl⟩ := hD ⟨18, .data⟩ (by simp) rfl _ rfl; clear hA hD; refine o7p rfl ?_; intro K hK; gi_wp2; exact hK _ _ rfl (B7 _ _)
   · intro a' w' hA hC hD; have s2 := hA.to 2 (by kernel_rfl) rfl; obtain ⟨u25, s25, rfl⟩ := hD ⟨19, .guard⟩ (by simp) rfl _ rfl; clear hA hD
     exact o7s rfl rfl s25 rfl
   · intro a' w' hA hC hD; obtain ⟨u26, s26, r26⟩ := hD ⟨20, .data⟩ (by simp) rfl _ rfl; replace r26 : u26 = undef := r26; subst r26; obtain ⟨u25, s25, rfl⟩ := hD ⟨19, .chain⟩ (by simp) rfl _ rfl; clear hA hD
     exact o7s rfl rfl s25 rfl
   · intro a' w' hA hC hD; have s3 := hA.to 3 (by kernel_rfl) rfl; obtain ⟨u25, s25, rfl⟩ := hD ⟨19, .guard⟩ (by simp) rfl _ rfl; clear hA hD
     exact o7s rfl rfl s25 rfl
   · intro a' w' hA hC hD; obtain ⟨u28, s28, r28⟩ := hD ⟨22, .data⟩ (by simp) rfl _ rfl; replace r28 : u28 = undef := r28; subst r28; obtain ⟨u25, s25, rfl⟩ := hD ⟨19, .guard⟩ (by simp) rfl _ rfl; clear hA hD
     exact o7s rfl rfl s25 rfl
   · intro a' w' hA hC hD; obtain ⟨u27, s27, r27⟩ := hD ⟨21, .data⟩ (by simp) rfl _ rfl; replace r27 : u27 = undef := r27; subst r27; obtain ⟨u29, s29, r29⟩ := hD ⟨23, .data⟩ (by simp) rfl _ rfl; replace r29 : u29 = undef := r29; subst r29; obtain ⟨u25, s25, rfl⟩ := hD ⟨19, .guard⟩ (by simp) rfl _ rfl; clear hA hD
     exact o7s rfl rfl s25 rfl
   · intro a' w' hA hC hD; obtain ⟨u25, s25, rfl⟩ := hD ⟨19, .data⟩ (by simp) rfl _ rfl; obtain ⟨u30, s30, r30⟩ := hD ⟨24, .data⟩ (by simp) rfl _ rfl; replace r30 : u30 = undef := r30; subst r30; clear hA hD; refine o7p rfl ?_; intro K hK; gi_wp2; exact hK _ _ rfl (B7 _ _)
   · intro a' w' hA hC hD; obtain ⟨u31, s31, rfl⟩ := hD ⟨25, .data⟩ (by simp) rfl _ rfl; clear hA hD; refine o7p rfl ?_; intro K hK; gi_wp2; exact hK _ _ rfl (B7 _ _)
   · intro a' w' hA hC hD; have s2 := hA.to 2 (by kernel_rfl) rfl; obtain ⟨u32, s32, rfl⟩ := hD ⟨26, .guard⟩ (by simp) rfl _ rfl; clear hA hD
     exact o7s rfl rfl s32 rfl
   · intro a' w' hA hC hD; obtain ⟨u33, s33, r33⟩ := hD ⟨27, .data⟩ (by simp) rfl _ rfl; replace r33 : u33 = undef := r33; subst r33; obtain ⟨u32, s32, rfl⟩ := hD ⟨26, .guard⟩ (by simp) rfl _ rfl; clear hA hD
     exact o7s rfl rfl s32 rfl
   · intro a' w' hA hC hD; have s3 := hA.to 3 (by kernel_rfl) rfl; obtain ⟨u32, s32, rfl⟩ := hD ⟨26, .guard⟩ (by simp) rfl _ rfl; clear hA hD
     exact o7s rfl rfl s32 rfl
   · intro a' w' hA hC hD; obtain ⟨u35, s35, r35⟩ := hD ⟨29, .data⟩ (by simp) rfl _ rfl; replace r35 : u35 = undef := r35; subst r35; obtain ⟨u32, s32, rfl⟩ := hD ⟨26, .guard⟩ (by simp) rfl _ rfl; clear hA hD
     exact o7s rfl rfl s32 rfl
   · intro a' w' hA hC hD; obtain ⟨u34, s34, r34⟩ := hD ⟨28, .data⟩ (by simp) rfl _ rfl; replace r34 : u34 = undef := r34; subst r34; obtain ⟨u36, s36, r36⟩ := hD ⟨30, .data⟩ (by simp) rfl _ rfl; replace r36 : u36 = undef := r36; subst r36; obtain ⟨u32, s32, rfl⟩ := hD ⟨26, .guard⟩ (by simp) rfl _ rfl; clear hA hD
     exact o7s rfl rfl s32 rfl
   · intro a' w' hA hC hD; obtain ⟨u32, s32, rfl⟩ := hD ⟨26, .data⟩ (by simp) rfl _ rfl; obtain ⟨u37, s37, r37⟩ := hD ⟨31, .data⟩ (by simp) rfl _ rfl; replace r37 : u37 = undef := r37; subst r37; clear hA hD; refine o7p rfl ?_; intro K hK; gi_wp2; exact hK _ _ rfl (B7 _ _)
   · intro a' w' hA hC hD; obtain ⟨u38, s38, rfl⟩ := hD ⟨32, .data⟩ (by simp) rfl _ rfl; clear hA hD; refine o7p rfl ?_; intro K hK; gi_wp2; exact hK _ _ rfl (B7 _ _)
   · intro a' w' hA hC hD; have s2 := hA.to 2 (by kernel_rfl) rfl; obtain ⟨u39, s39, rfl⟩ := hD ⟨33, .guard⟩ (by simp) rfl _ rfl; clear hA hD
     exact o7s rfl rfl s39 rfl
   · intro a' w' hA hC hD; obtain ⟨u40, s40, r40⟩ := hD ⟨34, .data⟩ (by simp) rfl _ rfl; replace r40 : u40 = undef := r40; subst r40; obtain ⟨u39, s39, rfl⟩ := hD ⟨33, .guard⟩ (by simp) rfl _ rfl; clear hA hD
     exact o7s rfl rfl s39 rfl
   · intro a' w' hA hC hD; have s3 := hA.to 3 (by kernel_rfl) rfl; obtain ⟨u39, s39, rfl⟩ := hD ⟨33, .guard⟩ (by simp) rfl _ rfl; clear hA hD
     exact o7s rfl rfl s39 rfl
   · intro a' w' hA hC hD; obtain ⟨u42, s42, r42⟩ := hD ⟨36, .data⟩ (by simp) rfl _ rfl; replace r42 : u42 = undef := r42; subst r42; obtain ⟨u39, s39, rfl⟩ := hD ⟨33, .guard⟩ (by simp) rfl _ rfl; clear hA hD
     exact o7s rfl rfl s39 rfl
   · intro a' w' hA hC hD; obtain ⟨u41, s41, r41⟩ := hD ⟨35, .data⟩ (by simp) rfl _ rfl; replace r41 : u41 = undef := r41; subst r41; obtain ⟨u43, s43, r43⟩ := hD ⟨37, .data⟩ (by simp) rfl _ rfl; replace r43 : u43 = undef := r43; subst r43; obtain ⟨u39, s39, rfl⟩ := hD ⟨33, .guard⟩ (by simp) rfl _ rfl; clear hA hD
     exact o7s rfl rfl s39 rfl
   · intro a' w' hA hC hD; obtain ⟨u39, s39, rfl⟩ := hD ⟨33, .data⟩ (by simp) rfl _ rfl; obtain ⟨u44, s44, r44⟩ := hD ⟨38, .data⟩ (by simp) rfl _ rfl; replace r44 : u44 = undef := r44; subst r44; clear hA hD; refine o7p rfl ?_; intro K hK; gi_wp2; exact hK _ _ rfl (B7 _ _)
   · intro a' w' hA hC hD; obtain ⟨u45, s45, rfl⟩ := hD ⟨39, .data⟩ (by simp) rfl _ rfl; clear hA hD; refine o7p rfl ?_; intro K hK; gi_wp2; exact hK _ _ rfl (B7 _ _)
   · intro a' w' hA hC hD; have s2 := hA.to 2 (by kernel_rfl) rfl; obtain ⟨u46, s46, rfl⟩ := hD ⟨40, .guard⟩ (by simp) rfl _ rfl; clear hA hD
     exact o7s rfl rfl s46 rfl
   · intro a' w' hA hC hD; obtain ⟨u47, s47, r47⟩ := hD ⟨41, .data⟩ (by simp) rfl _ rfl; replace r47 : u47 = undef := r47; subst r47; obtain ⟨u46, s46, rfl⟩ := hD ⟨40, .guard⟩ (by simp) rfl _ rfl; clear hA hD
     exact o7s rfl rfl s46 rfl
   · intro a' w' hA hC hD; have s3 := hA.to 3 (by kernel_rfl) rfl; obtain ⟨u46, s46, rfl⟩ := hD ⟨40, .guard⟩ (by simp) rfl _ rfl; clear hA hD
     exact o7s rfl rfl s46 rfl
   · intro a' w' hA hC hD; obtain ⟨u49, s49, r49⟩ := hD ⟨43, .data⟩ (by simp) rfl _ rfl; replace r49 : u49 = undef := r49; subst r49; obtain ⟨u46, s46, rfl⟩ := hD ⟨40, .guard⟩ (by simp) rfl _ rfl; clear hA hD
     exact o7s rfl rfl s46 rfl
   · intro a' w' hA hC hD; obtain ⟨u48, s48, r48⟩ := hD ⟨42, .data⟩ (by simp) rfl _ rfl; replace r48 : u48 = undef := r48; subst r48; obtain ⟨u50, s50, r50⟩ := hD ⟨44, .data⟩ (by simp) rfl _ rfl; replace r50 : u50 = undef := r50; subst r50; obtain ⟨u46, s46, rfl⟩ := hD ⟨40, .guard⟩ (by simp) rfl _ rfl; clear hA hD
     exact o7s rfl rfl s46 rfl
   · intro a' w' hA hC hD; obtain ⟨u46, s46, rfl⟩ := hD ⟨40, .data⟩ (by simp) rfl _ rfl; obtain ⟨u51, s51, r51⟩ := hD ⟨45, .data⟩ (by simp) rfl _ rfl; replace r51 : u51 = undef := r51; subst r51; clear hA hD; refine o7p rfl ?_; intro K hK; gi_wp2; exact hK _ _ rfl (B7 _ _)
  case hend =>
   intro w3 hC
   simp only [EndFrom, eqv, forall_eq, Act.put, List.length_cons, List.length_nil, List.drop_succ_cons, List.drop_zero, Nat.reduceAdd, List.setIfInBounds_toArray, List.set_cons_succ, List.set_cons_zero]
   have HS := H7 (HS.out.below hC)
   clear hC
   gi_wp2
   go_wp2_with fail
   go_ret
   exact ⟨rfl, HS.out.low⟩
 | true =>
  cases b2 with
  | false =>
   refine (wpIn_wide (n := 0)).1 ?_
   apply w7v 47 (Rl := [(eqv _), (eqv _), (eqv _), (eqv _), (eqv _), (eqv _), (eqv _), (eqv _), (eqv _), (eqv _), (eqv _), (eqv _), (eqv _), (fun v_ _ => v_ = (undef : Value)), (fun v_ _ => v_ = (undef : Value)), (fun v_ _ => v_ = (undef : Value)), (fun v_ _ => v_ = (undef : Value)), (fun v_ _ => v_ = (undef : Value)), (eqv _), (eqv _), (fun v_ _ => v_ = (undef : Value)), (fun v_ _ => v_ = (undef : Value)), (fun v_ _ => v_ = (undef : Value)), (fun v_ _ => v_ = (undef : Value)), (fun v_ _ => v_ = (undef : Value)), (eqv _), (eqv _), (fun v_ _ => v_ = (undef : Value)), (fun v_ _ => v_ = (undef : Value)), (fun v_ _ => v_ = (undef : Value)), (fun v_ _ => v_ = (undef : Value)), (fun v_ _ => v_ = (undef : Value)), (eqv _), (eqv _), (fun v_ _ => v_ = (undef : Value)), (fun v_ _ => v_ = (undef : Value)), (fun v_ _ => v_ = (undef : Value)), (fun v_ _ => v_ = (undef : Value)), (fun v_ _ => v_ = (undef : Value)), (eqv _), (eqv _), (fun v_ _ => v_ = (undef : Value)), (fun v_ _ => v_ = (undef : Value)), (fun v_ _ => v_ = (undef : Value)), (fun v_ _ => v_ = (undef : Value)), (fun v_ _ => v_ = (undef : Value)), (eqv _)]) (C := (fun x y => Below x.heap.size x y))
   case hm => kernel_rfl
   case hk => rfl
   case hCr => exact (fun _ => B7 _ _)
   case hCt => intro _ _ _; exact (fun h k => g7t h k)
   case hst => repeat (first | exact trivial | refine ⟨fun _ _ _ _ h => h, ?_⟩)
   case hfo => kernel_rfl
   case ht => kernel_rfl
   case hC0 => exact (g7d _)
   case hsteps =>
    refine ⟨?_, ?_, ?_, ?_, ?_, ?_, ?_, ?_, ?_, ?_, ?_, ?_, ?_, ?_, ?_, ?_, ?_, ?_, ?_, ?_, ?_, ?_, ?_, ?_, ?_, ?_, ?_, ?_, ?_, ?_, ?_, ?_, ?_, ?_, ?_, ?_, ?_, ?_, ?_, ?_, ?_, ?_, ?_, ?_, ?_, ?_, ?_, trivial⟩
    · intro a' w' hA hC hD; have s2 := hA.to 2 (by kernel_rfl) rfl; clear hA hD; refine o7p rfl ?_; intro K hK; gi_wp2; exact hK _ _ rfl (B7 _ _)
    · intro a' w' hA hC hD; obtain ⟨u6, s6, rfl⟩ := hD ⟨0, .data⟩ (by simp) rfl _ rfl
      obtain ⟨q0, q1, q2, -⟩ := opCells ((HS.out.below hC).blockAt 1 rfl)
      clear hA hD; refine o7p rfl ?_; intro K hK; gi_wp2; exact hK _ _ rfl (B7 _ _)
    · intro a' w' hA hC hD; have s3 := hA.to 3 (by kernel_rfl) rfl; clear hA hD; refine o7p rfl ?_; intro K hK; gi_wp2; exact hK _ _ rfl (B7 _ _)
    · intro a' w' hA hC hD; obtain ⟨u8, s8, rfl⟩ := hD ⟨2, .data⟩ (by simp) rfl _ rfl
      obtain ⟨q0, q1, q2, -⟩ := opCells ((HS.out.below hC).blockAt 0 rfl)
      clear hA hD; refine o7p rfl ?_; intro K hK; gi_wp2; exact hK _ _ rfl (B7 _ _)
    · intro a' w' hA hC hD; obtain ⟨u7, s7, rfl⟩ := hD ⟨1, .data⟩ (by simp) rfl _ rfl; obtain ⟨u9, s9, rfl⟩ := hD ⟨3, .data⟩ (by simp) rfl _ rfl
      have hr := E1.out
      clear hA hD; refine o7p rfl ?_; intro K hK; gi_wp2; exact hK _ _ rfl (B7 _ _)
    · intro a' w' hA hC hD; obtain ⟨u10, s10, rfl⟩ := hD ⟨4, .data⟩ (by simp) rfl _ rfl; clear hA hD; refine o7p rfl ?_; intro K hK; gi_wp2; exact hK _ _ rfl (B7 _ _)
    · intro a' w' hA hC hD; have s2 := hA.to 2 (by kernel_rfl) rfl; obtain ⟨u11, s11, rfl⟩ := hD ⟨5, .guard⟩ (by simp) rfl _ rfl; clear hA hD; refine o7w rfl rfl s11 ?_; intro K hK; gi_wp2; exact hK _ _ rfl (B7 _ _)
    · intro a' w' hA hC hD; obtain ⟨u12, s12, rfl⟩ := hD ⟨6, .data⟩ (by simp) rfl _ rfl; obtain ⟨u11, s11, rfl⟩ := hD ⟨5, .guard⟩ (by simp) rfl _ rfl
      obtain ⟨-, -, -, q3, -⟩ := opCells ((HS.out.below hC).blockAt 1 rfl)
      clear hA hD; refine o7w rfl rfl s11 ?_; intro K hK; gi_wp2; exact hK _ _ rfl (B7 _ _)
    · intro a' w' hA hC hD; have s3 := hA.to 3 (by kernel_rfl) rfl; obtain ⟨u11, s11, rfl⟩ := hD ⟨5, .guard⟩ (by simp) rfl _ rfl; clear hA hD; refine o7w rfl rfl s11 ?_; intro K hK; gi_wp2; exact hK _ _ rfl (B7 _ _)
    · intro a' w' hA hC hD; obtain ⟨u14, s14, rfl⟩ := hD ⟨8, .data⟩ (by simp) rfl _ rfl; obtain ⟨u11, s11, rfl⟩ := hD ⟨5, .guard⟩ (by simp) rfl _ rfl
      obtain ⟨-, -, -, q3, -⟩ := opCells ((HS.out.below hC).blockAt 0 rfl)
      clear hA hD; refine o7w rfl rfl s11 ?_; intro K hK; gi_wp2; exact hK _ _ rfl (B7 _ _)
    · intro a' w' hA hC hD; obtain ⟨u13, s13, rfl⟩ := hD ⟨7, .data⟩ (by simp) rfl _ rfl; obtain ⟨u15, s15, rfl⟩ := hD ⟨9, .data⟩ (by simp) rfl _ rfl; obtain ⟨u11, s11, rfl⟩ := hD ⟨5, .guard⟩ (by simp) rfl _ rfl
      have hr := E2.out
      clear hA hD; refine o7w rfl rfl s11 ?_; intro K hK; gi_wp2; exact hK _ _ rfl (B7 _ _)
    · intro a' w' hA hC hD; obtain ⟨u11, s11, rfl⟩ := hD ⟨5, .data⟩ (by simp) rfl _ rfl; obtain ⟨u16, s16, rfl⟩ := hD ⟨10, .data⟩ (by simp) rfl _ rfl; clear hA hD; refine o7p rfl ?_; intro K hK; gi_wp2; exact hK _ _ rfl (B7 _ _)
    · intro a' w' hA hC hD; obtain ⟨u17, s17, rfl⟩ := hD ⟨11, .data⟩ (by simp) rfl _ rfl; clear hA hD; refine o7p rfl ?_; intro K hK; gi_wp2; exact hK _ _ rfl (B7 _ _)
    · intro a' w' hA hC hD; have s2 := hA.to 2 (by kernel_rfl) rfl; obtain ⟨u18, s18, rfl⟩ := hD ⟨12, .guard⟩ (by simp) rfl _ rfl; clear hA hD
      exact o7s rfl rfl s18 rfl
    · intro a' w' hA hC hD; obtain ⟨u19, s19, r19⟩ := hD ⟨13, .data⟩ (by simp) rfl _ rfl; replace r19 : u19 = undef := r19; subst r19; obtain ⟨u18, s18, rfl⟩ := hD ⟨12, .chain⟩ (by simp) rfl _ rfl; clear hA hD
      exact o7s rfl rfl s18 rfl
    · intro a' w' hA hC hD; have s3 := hA.to 3 (by kernel_rfl) rfl; obtain ⟨u18, s18, rfl⟩ := hD ⟨12, .guard⟩ (by simp) rfl _ rfl; clear hA hD
      exact o7s rfl rfl s18 rfl
    · intro a' w' hA hC hD; obtain ⟨u21, s21, r21⟩ := hD ⟨15, .data⟩ (by simp) rfl _ rfl; replace r21 : u21 = undef := r21; subst r21; obtain ⟨u18, s18, rfl⟩ := hD ⟨12, .guard⟩ (by simp) rfl _ rfl; clear hA hD
      exact o7s rfl rfl s18 rfl
    · intro a' w' hA hC hD; obtain ⟨u20, s20, r20⟩ := hD ⟨14, .data⟩ (by simp) rfl _ rfl; replace r20 : u20 = undef := r20; subst r20; obtain ⟨u22, s22, r22⟩ := hD ⟨16, .data⟩ (by simp) rfl _ rfl; replace r22 : u22 = undef := r22; subst r22; obtain ⟨u18, s18, rfl⟩ := hD ⟨12, .guard⟩ (by simp) rfl _ rfl; clear hA hD
      exact o7s rfl rfl s18 rfl
    · intro a' w' hA hC hD; obtain ⟨u18, s18, rfl⟩ := hD ⟨12, .data⟩ (by simp) rfl _ rfl; obtain ⟨u23, s23, r23⟩ := hD ⟨17, .data⟩ (by simp) rfl _ rfl; replace r23 : u23 = undef := r23; subst r23; clear hA hD; refine o7p rfl ?_; intro K hK; gi_wp2; exact hK _ _ rfl (B7 _ _)
    · intro a' w' hA hC hD; obtain ⟨u24, s24, rfl⟩ := hD ⟨18, .data⟩ (by simp) rfl _ rfl; clear hA hD; refine o7p rfl ?_; intro K hK; gi_wp2; exact hK _ _ rfl (B7 _ _)
    · intro a' w' hA hC hD; have s2 := hA.to 2 (by kernel_rfl) rfl; obtain ⟨u25, s25, rfl⟩ := hD ⟨19, .guard⟩ (by simp) rfl _ rfl; clear hA hD
      exact o7s rfl rfl s25 rfl
    · intro a' w' hA hC hD; obtain ⟨u26, s26, r26⟩ := hD ⟨20, .data⟩ (by simp) rfl _ rfl; replace r26 : u26 = undef := r26; subst r26; obtain ⟨u25, s25, rfl⟩ := hD ⟨19, .chain⟩ (by simp) rfl _ rfl; clear hA hD
      exact o7s rfl rfl s25 rfl
    · intro a' w' hA hC hD; have s3 := hA.to 3 (by kernel_rfl) rfl; obtain ⟨u25, s25, rfl⟩ := hD ⟨19, .guard⟩ (by simp) rfl _ rfl; clear hA hD
      exact o7s rfl rfl s25 rfl
    · intro a' w' hA hC hD; obtain ⟨u28, s28, r28⟩ := hD ⟨22, .data⟩ (by simp) rfl _ rfl; replace r28 : u28 = undef := r28; subst r28; obtain ⟨u25, s25, rfl⟩ := hD ⟨19, .guard⟩ (by simp) rfl _ rfl; clear hA hD
      exact o7s rfl rfl s25 rfl
    · intro a' w' hA hC hD; obtain ⟨u27, s27, r27⟩ := hD ⟨21, .data⟩ (by simp) rfl _ rfl; replace r27 : u27 = undef := r27; subst r27; obtain ⟨u29, s29, r29⟩ := hD ⟨23, .data⟩ (by simp) rfl _ rfl; replace r29 : u29 = undef := r29; subst r29; obtain ⟨u25, s25, rfl⟩ := hD ⟨19, .guard⟩ (by simp) rfl _ rfl; clear hA hD
      exact o7s rfl rfl s25 rfl
    · intro a' w' hA hC hD; obtain ⟨u25, s25, rfl⟩ := hD ⟨19, .data⟩ (by simp) rfl _ rfl; obtain ⟨u30, s30, r30⟩ := hD ⟨24, .data⟩ (by simp) rfl _ rfl; replace r30 : u30 = undef := r30; subst r30; clear hA hD; refine o7p rfl ?_; intro K hK; gi_wp2; exact hK _ _ rfl (B7 _ _)
    · intro a' w' hA hC hD; obtain ⟨u31, s31, rfl⟩ := hD ⟨25, .data⟩ (by simp) rfl _ rfl; clear hA hD; refine o7p rfl ?_; intro K hK; gi_wp2; exact hK _ _ rfl (B7 _ _)
    · intro a' w' hA hC hD; have s2 := hA.to 2 (by kernel_rfl) rfl; obtain ⟨u32, s32, rfl⟩ := hD ⟨26, .guard⟩ (by simp) rfl _ rfl; clear hA hD
      exact o7s rfl rfl s32 rfl
    · intro a' w' hA hC hD; obtain ⟨u33, s33, r33⟩ := hD ⟨27, .data⟩ (by simp) rfl _ rfl; replace r33 : u33 = undef := r33; subst r33; obtain ⟨u32, s32, rfl⟩ := hD ⟨26, .guard⟩ (by simp) rfl _ rfl; clear hA hD
      exact o7s rfl rfl s32 rfl
    · intro a' w' hA hC hD; have s3 := hA.to 3 (by kernel_rfl) rfl; obtain ⟨u32, s32, rfl⟩ := hD ⟨26, .guard⟩ (by simp) rfl _ rfl; clear hA hD
      exact o7s rfl rfl s32 rfl
    · intro a' w' hA hC hD; obtain ⟨u35, s35, r35⟩ := hD ⟨29, .data⟩ (by simp) rfl _ rfl; replace r35 : u35 = undef := r35; subst r35; obtain ⟨u32, s32, rfl⟩ := hD ⟨26, .guard⟩ (by simp) rfl _ rfl; clear hA hD
      exact o7s rfl rfl s32 rfl
    · intro a' w' hA hC hD; obtain ⟨u34, s34, r34⟩ := hD ⟨28, .data⟩ (by simp) rfl _ rfl; replace r34 : u34 = undef := r34; subst r34; obtain ⟨u36, s36, r36⟩ := hD ⟨30, .data⟩ (by simp) rfl _ rfl; replace r36 : u36 = undef := r36; subst r36; obtain ⟨u32, s32, rfl⟩ := hD ⟨26, .guard⟩ (by simp) rfl _ rfl; clear hA hD
      exact o7s rfl rfl s32 rfl
    · intro a' w' hA hC hD; obtain ⟨u32, s32, rfl⟩ := hD ⟨26, .data⟩ (by simp) rfl _ rfl; obtain ⟨u37, s37, r37⟩ := hD ⟨31, .data⟩ (by simp) rfl _ rfl; replace r37 : u37 = undef := r37; subst r37; clear hA hD; refine o7p rfl ?_; intro K hK; gi_wp2; exact hK _ _ rfl (B7 _ _)
    · intro a' w' hA hC hD; obtain ⟨u38, s38, rfl⟩ := hD ⟨32, .data⟩ (by simp) rfl _ rfl; clear hA hD; refine o7p rfl ?_; intro K hK; gi_wp2; exact hK _ _ rfl (B7 _ _)
    · intro a' w' hA hC hD; have s2 := hA.to 2 (by kernel_rfl) rfl; obtain ⟨u39, s39, rfl⟩ := hD ⟨33, .guard⟩ (by simp) rfl _ rfl; clear hA hD
      exact o7s rfl rfl s39 rfl
    · intro a' w' hA hC hD; obtain ⟨u40, s40, r40⟩ := hD ⟨34, .data⟩ (by simp) rfl _ rfl; replace r40 : u40 = undef := r40; subst r40; obtain ⟨u39, s39, rfl⟩ := hD ⟨33, .guard⟩ (by simp) rfl _ rfl; clear hA hD
      exact o7s rfl rfl s39 rfl
    · intro a' w' hA hC hD; have s3 := hA.to 3 (by kernel_rfl) rfl; obtain ⟨u39, s39, rfl⟩ := hD ⟨33, .guard⟩ (by simp) rfl _ rfl; clear hA hD
      exact o7s rfl rfl s39 rfl
    · intro a' w' hA hC hD; obtain ⟨u42, s42, r42⟩ := hD ⟨36, .data⟩ (by simp) rfl _ rfl; replace r42 : u42 = undef := r42; subst r42; obtain ⟨u39, s39, rfl⟩ := hD ⟨33, .guard⟩ (by simp) rfl _ rfl; clear hA hD
      exact o7s rfl rfl s39 rfl
    · intro a' w' hA hC hD; obtain ⟨u41, s41, r41⟩ := hD ⟨35, .data⟩ (by simp) rfl _ rfl; replace r41 : u41 = undef := r41; subst r41; obtain ⟨u43, s43, r43⟩ := hD ⟨37, .data⟩ (by simp) rfl _ rfl; replace r43 : u43 = undef := r43; subst r43; obtain ⟨u39, s39, rfl⟩ := hD ⟨33, .guard⟩ (by simp) rfl _ rfl; clear hA hD
      exact o7s rfl rfl s39 rfl
    · intro a' w' hA hC hD; obtain ⟨u39, s39, rfl⟩ := hD ⟨33, .data⟩ (by simp) rfl _ rfl; obtain ⟨u44, s44, r44⟩ := hD ⟨38, .data⟩ (by simp) rfl _ rfl; replace r44 : u44 = undef := r44; subst r44; clear hA hD; refine o7p rfl ?_; intro K hK; gi_wp2; exact hK _ _ rfl (B7 _ _)
    · intro a' w' hA hC hD; obtain ⟨u45, s45, rfl⟩ := hD ⟨39, .data⟩ (by simp) rfl _ rfl; clear hA hD; refine o7p rfl ?_; intro K hK; gi_wp2; exact hK _ _ rfl (B7 _ _)
    · intro a' w' hA hC hD; have s2 := hA.to 2 (by kernel_rfl) rfl; obtain ⟨u46, s46, rfl⟩ := hD ⟨40, .guard⟩ (by simp) rfl _ rfl; clear hA hD
      exact o7s rfl rfl s46 rfl
    · intro a' w' hA hC hD; obtain ⟨u47, s47, r47⟩ := hD ⟨41, .data⟩ (by simp) rfl _ rfl; replace r47 : u47 = undef := r47; subst r47; obtain ⟨u46, s46, rfl⟩ := hD ⟨40, .guard⟩ (by simp) rfl _ rfl; clear hA hD
      exact o7s rfl rfl s46 rfl
    · intro a' w' hA hC hD; have s3 := hA.to 3 (by kernel_rfl) rfl; obtain ⟨u46, s46, rfl⟩ := hD ⟨40, .guard⟩ (by simp) rfl _ rfl; clear hA hD
      exact o7s rfl rfl s46 rfl
    · intro a' w' hA hC hD; obtain ⟨u49, s49, r49⟩ := hD ⟨43, .data⟩ (by simp) rfl _ rfl; replace r49 : u49 = undef := r49; subst r49; obtain ⟨u46, s46, rfl⟩ := hD ⟨40, .guard⟩ (by simp) rfl _ rfl; clear hA hD
      exact o7s rfl rfl s46 rfl
    · intro a' w' hA hC hD; obtain ⟨u48, s48, r48⟩ := hD ⟨42, .data⟩ (by simp) rfl _ rfl; replace r48 : u48 = undef := r48; subst r48; obtain ⟨u50, s50, r50⟩ := hD ⟨44, .data⟩ (by simp) rfl _ rfl; replace r50 : u50 = undef := r50; subst r50; obtain ⟨u46, s46, rfl⟩ := hD ⟨40, .guard⟩ (by simp) rfl _ rfl; clear hA hD
      exact o7s rfl rfl s46 rfl
    · intro a' w' hA hC hD; obtain ⟨u46, s46, rfl⟩ := hD ⟨40, .data⟩ (by simp) rfl _ rfl; obtain ⟨u51, s51, r51⟩ := hD ⟨45, .data⟩ (by simp) rfl _ rfl; replace r51 : u51 = undef := r51; subst r51; clear hA hD; refine o7p rfl ?_; intro K hK; gi_wp2; exact hK _ _ rfl (B7 _ _)
   case hend =>
    intro w3 hC
    simp only [EndFrom, eqv, forall_eq, Act.put, List.length_cons, List.length_nil, List.drop_succ_cons, List.drop_zero, Nat.reduceAdd, List.setIfInBounds_toArray, List.set_cons_succ, List.set_cons_zero]
    have HS := H7 (HS.out.below hC)
    clear hC
    gi_wp2
    go_wp2_with fail
    go_ret
    exact ⟨rfl, HS.out.low⟩
  | true =>
   cases b3 with
   | false =>
    refine (wpIn_wide (n := 0)).1 ?_
    apply w7v 47 (Rl := [(eqv _), (eqv _), (eqv _), (eqv _), (eqv _), (eqv _), (eqv _), (eqv _), (eqv _), (eqv _), (eqv _), (eqv _), (eqv _), (eqv _), (eqv _), (eqv _), (eqv _), (eqv _), (eqv _), (eqv _), (fun v_ _ => v_ = (undef : Value)), (fun v_ _ => v_ = (undef : Value)), (fun v_ _ => v_ = (undef : Value)), (fun v_ _ => v_ = (undef : Value)), (fun v_ _ => v_ = (undef : Value)), (eqv _), (eqv _), (fun v_ _ => v_ = (undef : Value)), (fun v_ _ => v_ = (undef : Value)), (fun v_ _ => v_ = (undef : Value)), (fun v_ _ => v_ = (undef : Value)), (fun v_ _ => v_ = (undef : Value)), (eqv _), (eqv _), (fun v_ _ => v_ = (undef : Value)), (fun v_ _ => v_ = (undef : Value)), (fun v_ _ => v_ = (undef : Value)), (fun v_ _ => v_ = (undef : Value)), (fun v_ _ => v_ = (undef : Value)), (eqv _), (eqv _), (fun v_ _ => v_ = (undef : Value)), (fun v_ _ => v_ = (undef : Value)), (fun v_ _ => v_ = (undef : Value)), (fun v_ _ => v_ = (undef : Value)), (fun v_ _ => v_ = (undef : Value)), (eqv _)]) (C := (fun x y => Below x.heap.size x y))
    case hm => kernel_rfl
    case hk => rfl
    case hCr => exact (fun _ => B7 _ _)
    case hCt => intro _ _ _; exact (fun h k => g7t h k)
    case hst => repeat (first | exact trivial | refine ⟨fun _ _ _ _ h => h, ?_⟩)
    case hfo => kernel_rfl
    case ht => kernel_rfl
    case hC0 => exact (g7d _)
    case hsteps =>
     refine ⟨?_, ?_, ?_, ?_, ?_, ?_, ?_, ?_, ?_, ?_, ?_, ?_, ?_, ?_, ?_, ?_, ?_, ?_, ?_, ?_, ?_, ?_, ?_, ?_, ?_, ?_, ?_, ?_, ?_, ?_, ?_, ?_, ?_, ?_, ?_, ?_, ?_, ?_, ?_, ?_, ?_, ?_, ?_, ?_, ?_, ?_, ?_, trivial⟩
     · intro a' w' hA hC hD; have s2 := hA.to 2 (by kernel_rfl) rfl; clear hA hD; refine o7p rfl ?_; intro K hK; gi_wp2; exact hK _ _ rfl (B7 _ _)
     · intro a' w' hA hC hD; obtain ⟨u6, s6, rfl⟩ := hD ⟨0, .data⟩ (by simp) rfl _ rfl
       obtain ⟨q0, q1, q2, -⟩ := opCells ((HS.out.below hC).blockAt 1 rfl)
       clear hA hD; refine o7p rfl ?_; intro K hK; gi_wp2; exact hK _ _ rfl (B7 _ _)
     · intro a' w' hA hC hD; have s3 := hA.to 3 (by kernel_rfl) rfl; clear hA hD; refine o7p rfl ?_; intro K hK; gi_wp2; exact hK _ _ rfl (B7 _ _)
     · intro a' w' hA hC hD; obtain ⟨u8, s8, rfl⟩ := hD ⟨2, .data⟩ (by simp) rfl _ rfl
       obtain ⟨q0, q1, q2, -⟩ := opCells ((HS.out.below hC).blockAt 0 rfl)
       clear hA hD; refine o7p rfl ?_; intro K hK; gi_wp2; exact hK _ _ rfl (B7 _ _)
     · intro a' w' hA hC hD; obtain ⟨u7, s7, rfl⟩ := hD ⟨1, .data⟩ (by simp) rfl _ rfl; obtain ⟨u9, s9, rfl⟩ := hD ⟨3, .data⟩ (by simp) rfl _ rfl
       have hr := E1.out
       clear hA hD; refine o7p rfl ?_; intro K hK; gi_wp2; exact hK _ _ rfl (B7 _ _)
     · intro a' w' hA hC hD; obtain ⟨u10, s10, rfl⟩ := hD ⟨4, .data⟩ (by simp) rfl _ rfl; clear hA hD; refine o7p rfl ?_; intro K hK; gi_wp2; exact hK _ _ rfl (B7 _ _)
     · intro a' w' hA hC hD; have s2 := hA.to 2 (by kernel_rfl) rfl; obtain ⟨u11, s11, rfl⟩ := hD ⟨5, .guard⟩ (by simp) rfl _ rfl; clear hA hD; refine o7w rfl rfl s11 ?_; intro K hK; gi_wp2; exact hK _ _ rfl (B7 _ _)
     · intro a' w' hA hC hD; obtain ⟨u12, s12, rfl⟩ := hD ⟨6, .data⟩ (by simp) rfl _ rfl; obtain ⟨u11, s11, rfl⟩ := hD ⟨5, .guard⟩ (by simp) rfl _ rfl
       obtain ⟨-, -, -, q3, -⟩ := opCells ((HS.out.below hC).blockAt 1 rfl)
       clear hA hD; refine o7w rfl rfl s11 ?_; intro K hK; gi_wp2; exact hK _ _ rfl (B7 _ _)
     · intro a' w' hA hC hD; have s3 := hA.to 3 (by kernel_rfl) rfl; obtain ⟨u11, s11, rfl⟩ := hD ⟨5, .guard⟩ (by simp) rfl _ rfl; clear hA hD; refine o7w rfl rfl s11 ?_; intro K hK; gi_wp2; exact hK _ _ rfl (B7 _ _)
     · intro a' w' hA hC hD; obtain ⟨u14, s14, rfl⟩ := hD ⟨8, .data⟩ (by simp) rfl _ rfl; obtain ⟨u11, s11, rfl⟩ := hD ⟨5, .guard⟩ (by simp) rfl _ rfl
       obtain ⟨-, -, -, q3, -⟩ := opCells ((HS.out.below hC).blockAt 0 rfl)
       clear hA hD; refine o7w rfl rfl s11 ?_; intro K hK; gi_wp2; exact hK _ _ rfl (B7 _ _)
     · intro a' w' hA hC hD; obtain ⟨u13, s13, rfl⟩ := hD ⟨7, .data⟩ (by simp) rfl _ rfl; obtain ⟨u15, s15, rfl⟩ := hD ⟨9, .data⟩ (by simp) rfl _ rfl; obtain ⟨u11, s11, rfl⟩ := hD ⟨5, .guard⟩ (by simp) rfl _ rfl
       have hr := E2.out
       clear hA hD; refine o7w rfl rfl s11 ?_; intro K hK; gi_wp2; exact hK _ _ rfl (B7 _ _)
     · intro a' w' hA hC hD; obtain ⟨u11, s11, rfl⟩ := hD ⟨5, .data⟩ (by simp) rfl _ rfl; obtain ⟨u16, s16, rfl⟩ := hD ⟨10, .data⟩ (by simp) rfl _ rfl; clear hA hD; refine o7p rfl ?_; intro K hK; gi_wp2; exact hK _ _ rfl (B7 _ _)
     · intro a' w' hA hC hD; obtain ⟨u17, s17, rfl⟩ := hD ⟨11, .data⟩ (by simp) rfl _ rfl; clear hA hD; refine o7p rfl ?_; intro K hK; gi_wp2; exact hK _ _ rfl (B7 _ _)
     · intro a' w' hA hC hD; have s2 := hA.to 2 (by kernel_rfl) rfl; obtain ⟨u18, s18, rfl⟩ := hD ⟨12, .guard⟩ (by simp) rfl _ rfl; clear hA hD; refine o7w rfl rfl s18 ?_; intro K hK
       refine opIn_load 51 _ rfl w.heap.size (by simp [Act.eval, s2]) 51 _ (0, 0) _ ((HS.out.below hC).blockAt 1 rfl) Tryz.underlying51 rfl (by kernel_rfl) (hK _ _ rfl (B7 _ _))
     · intro a' w' hA hC hD; obtain ⟨u19, s19, rfl⟩ := hD ⟨13, .data⟩ (by simp) rfl _ rfl; obtain ⟨u18, s18, rfl⟩ := hD ⟨12, .chain⟩ (by simp) rfl _ rfl; clear hA hD; refine o7w rfl rfl s18 ?_; intro K hK
       gi_wp2_with fail; refine (callsIn_wide.2 (op_from_any o _ _ _ _)).mono ?_; rintro e w2 ⟨rfl, hb⟩
       exact hK _ _ rfl hb
     · intro a' w' hA hC hD; have s3 := hA.to 3 (by kernel_rfl) rfl; obtain ⟨u18, s18, rfl⟩ := hD ⟨12, .guard⟩ (by simp) rfl _ rfl; clear hA hD; refine o7w rfl rfl s18 ?_; intro K hK
       refine opIn_load 51 _ rfl (w.heap.size + 1) (by simp [Act.eval, s3]) 51 _ (0, 0) _ ((HS.out.below hC).blockAt 0 rfl) Tryz.underlying51 rfl (by kernel_rfl) (hK _ _ rfl (B7 _ _))
     · intro a' w' hA hC hD; obtain ⟨u21, s21, rfl⟩ := hD ⟨15, .data⟩ (by simp) rfl _ rfl; obtain ⟨u18, s18, rfl⟩ := hD ⟨12, .guard⟩ (by simp) rfl _ rfl; clear hA hD; refine o7w rfl rfl s18 ?_; intro K hK
       gi_wp2_with fail; refine (callsIn_wide.2 (op_from_any p _ _ _ _)).mono ?_; rintro e w2 ⟨rfl, hb⟩
       exact hK _ _ rfl hb
     · intro a' w' hA hC hD; obtain ⟨u20, s20, rfl⟩ := hD ⟨14, .data⟩ (by simp) rfl _ rfl; obtain ⟨u22, s22, rfl⟩ := hD ⟨16, .data⟩ (by simp) rfl _ rfl; obtain ⟨u18, s18, rfl⟩ := hD ⟨12, .guard⟩ (by simp) rfl _ rfl
       have hr := E3.out
       clear hA hD; refine o7w rfl rfl s18 ?_; intro K hK; gi_wp2; exact hK _ _ rfl (B7 _ _)
     · intro a' w' hA hC hD; obtain ⟨u18, s18, rfl⟩ := hD ⟨12, .data⟩ (by simp) rfl _ rfl; obtain ⟨u23, s23, rfl⟩ := hD ⟨17, .data⟩ (by simp) rfl _ rfl; clear hA hD; refine o7p rfl ?_; intro K hK; gi_wp2; exact hK _ _ rfl (B7 _ _)
     · intro a' w' hA hC hD; obtain ⟨u24, s24, rfl⟩ := hD ⟨18, .data⟩ (by simp) rfl _ rfl; clear hA hD; refine o7p rfl ?_; intro K hK; gi_wp2; exact hK _ _ rfl (B7 _ _)
     · intro a' w' hA hC hD; have s2 := hA.to 2 (by kernel_rfl) rfl; obtain ⟨u25, s25, rfl⟩ := hD ⟨19, .guard⟩ (by simp) rfl _ rfl; clear hA hD
       exact o7s rfl rfl s25 rfl
     · intro a' w' hA hC hD; obtain ⟨u26, s26, r26⟩ := hD ⟨20, .data⟩ (by simp) rfl _ rfl; replace r26 : u26 = undef := r26; subst r26; obtain ⟨u25, s25, rfl⟩ := hD ⟨19, .chain⟩ (by simp) rfl _ rfl; clear hA hD
       exact o7s rfl rfl s25 rfl
     · intro a' w' hA hC hD; have s3 := hA.to 3 (by kernel_rfl) rfl; obtain ⟨u25, s25, rfl⟩ := hD ⟨19, .guard⟩ (by simp) rfl _ rfl; clear hA hD
       exact o7s rfl rfl s25 rfl
     · intro a' w' hA hC hD; obtain ⟨u28, s28, r28⟩ := hD ⟨22, .data⟩ (by simp) rfl _ rfl; replace r28 : u28 = undef := r28; subst r28; obtain ⟨u25, s25, rfl⟩ := hD ⟨19, .guard⟩ (by simp) rfl _ rfl; clear hA hD
       exact o7s rfl rfl s25 rfl
     · intro a' w' hA hC hD; obtain ⟨u27, s27, r27⟩ := hD ⟨21, .data⟩ (by simp) rfl _ rfl; replace r27 : u27 = undef := r27; subst r27; obtain ⟨u29, s29, r29⟩ := hD ⟨23, .data⟩ (by simp) rfl _ rfl; replace r29 : u29 = undef := r29; subst r29; obtain ⟨u25, s25, rfl⟩ := hD ⟨19, .guard⟩ (by simp) rfl _ rfl; clear hA hD
       exact o7s rfl rfl s25 rfl
     · intro a' w' hA hC hD; obtain ⟨u25, s25, rfl⟩ := hD ⟨19, .data⟩ (by simp) rfl _ rfl; obtain ⟨u30, s30, r30⟩ := hD ⟨24, .data⟩ (by simp) rfl _ rfl; replace r30 : u30 = undef := r30; subst r30; clear hA hD; refine o7p rfl ?_; intro K hK; gi_wp2; exact hK _ _ rfl (B7 _ _)
     · intro a' w' hA hC hD; obtain ⟨u31, s31, rfl⟩ := hD ⟨25, .data⟩ (by simp) rfl _ rfl; clear hA hD; refine o7p rfl ?_; intro K hK; gi_wp2; exact hK _ _ rfl (B7 _ _)
     · intro a' w' hA hC hD; have s2 := hA.to 2 (by kernel_rfl) rfl; obtain ⟨u32, s32, rfl⟩ := hD ⟨26, .guard⟩ (by simp) rfl _ rfl; clear hA hD
       exact o7s rfl rfl s32 rfl
     · intro a' w' hA hC hD; obtain ⟨u33, s33, r33⟩ := hD ⟨27, .data⟩ (by simp) rfl _ rfl; replace r33 : u33 = undef := r33; subst r33; obtain ⟨u32, s32, rfl⟩ := hD ⟨26, .guard⟩ (by simp) rfl _ rfl; clear hA hD
       exact o7s rfl rfl s32 rfl
     · intro a' w' hA hC hD; have s3 := hA.to 3 (by kernel_rfl) rfl; obtain ⟨u32, s32, rfl⟩ := hD ⟨26, .guard⟩ (by simp) rfl _ rfl; clear hA hD
       exact o7s rfl rfl s32 rfl
     · intro a' w' hA hC hD; obtain ⟨u35, s35, r35⟩ := hD ⟨29, .data⟩ (by simp) rfl _ rfl; replace r35 : u35 = undef := r35; subst r35; obtain ⟨u32, s32, rfl⟩ := hD ⟨26, .guard⟩ (by simp) rfl _ rfl; clear hA hD
       exact o7s rfl rfl s32 rfl
     · intro a' w' hA hC hD; obtain ⟨u34, s34, r34⟩ := hD ⟨28, .data⟩ (by simp) rfl _ rfl; replace r34 : u34 = undef := r34; subst r34; obtain ⟨u36, s36, r36⟩ := hD ⟨30, .data⟩ (by simp) rfl _ rfl; replace r36 : u36 = undef := r36; subst r36; obtain ⟨u32, s32, rfl⟩ := hD ⟨26, .guard⟩ (by simp) rfl _ rfl; clear hA hD
       exact o7s rfl rfl s32 rfl
     · intro a' w' hA hC hD; obtain ⟨u32, s32, rfl⟩ := hD ⟨26, .data⟩ (by simp) rfl _ rfl; obtain ⟨u37, s37, r37⟩ := hD ⟨31, .data⟩ (by simp) rfl _ rfl; replace r37 : u37 = undef := r37; subst r37; clear hA hD; refine o7p rfl ?_; intro K hK; gi_wp2; exact hK _ _ rfl (B7 _ _)
     · intro a' w' hA hC hD; obtain ⟨u38, s38, rfl⟩ := hD ⟨32, .data⟩ (by simp) rfl _ rfl; clear hA hD; refine o7p rfl ?_; intro K hK; gi_wp2; exact hK _ _ rfl (B7 _ _)
     · intro a' w' hA hC hD; have s2 := hA.to 2 (by kernel_rfl) rfl; obtain ⟨u39, s39, rfl⟩ := hD ⟨33, .guard⟩ (by simp) rfl _ rfl; clear hA hD
       exact o7s rfl rfl s39 rfl
     · intro a' w' hA hC hD; obtain ⟨u40, s40, r40⟩ := hD ⟨34, .data⟩ (by simp) rfl _ rfl; replace r40 : u40 = undef := r40; subst r40; obtain ⟨u39, s39, rfl⟩ := hD ⟨33, .guard⟩ (by simp) rfl _ rfl; clear hA hD
       exact o7s rfl rfl s39 rfl
     · intro a' w' hA hC hD; have s3 := hA.to 3 (by kernel_rfl) rfl; obtain ⟨u39, s39, rfl⟩ := hD ⟨33, .guard⟩ (by simp) rfl _ rfl; clear hA hD
       exact o7s rfl rfl s39 rfl
     · intro a' w' hA hC hD; obtain ⟨u42, s42, r42⟩ := hD ⟨36, .data⟩ (by simp) rfl _ rfl; replace r42 : u42 = undef := r42; subst r42; obtain ⟨u39, s39, rfl⟩ := hD ⟨33, .guard⟩ (by simp) rfl _ rfl; clear hA hD
       exact o7s rfl rfl s39 rfl
     · intro a' w' hA hC hD; obtain ⟨u41, s41, r41⟩ := hD ⟨35, .data⟩ (by simp) rfl _ rfl; replace r41 : u41 = undef := r41; subst r41; obtain ⟨u43, s43, r43⟩ := hD ⟨37, .data⟩ (by simp) rfl _ rfl; replace r43 : u43 = undef := r43; subst r43; obtain ⟨u39, s39, rfl⟩ := hD ⟨33, .guard⟩ (by simp) rfl _ rfl; clear hA hD
       exact o7s rfl rfl s39 rfl
     · intro a' w' hA hC hD; obtain ⟨u39, s39, rfl⟩ := hD ⟨33, .data⟩ (by simp) rfl _ rfl; obtain ⟨u44, s44, r44⟩ := hD ⟨38, .data⟩ (by simp) rfl _ rfl; replace r44 : u44 = undef := r44; subst r44; clear hA hD; refine o7p rfl ?_; intro K hK; gi_wp2; exact hK _ _ rfl (B7 _ _)
     · intro a' w' hA hC hD; obtain ⟨u45, s45, rfl⟩ := hD ⟨39, .data⟩ (by simp) rfl _ rfl; clear hA hD; refine o7p rfl ?_; intro K hK; gi_wp2; exact hK _ _ rfl (B7 _ _)
     · intro a' w' hA hC hD; have s2 := hA.to 2 (by kernel_rfl) rfl; obtain ⟨u46, s46, rfl⟩ := hD ⟨40, .guard⟩ (by simp) rfl _ rfl; clear hA hD
       exact o7s rfl rfl s46 rfl
     · intro a' w' hA hC hD; obtain ⟨u47, s47, r47⟩ := hD ⟨41, .data⟩ (by simp) rfl _ rfl; replace r47 : u47 = undef := r47; subst r47; obtain ⟨u46, s46, rfl⟩ := hD ⟨40, .guard⟩ (by simp) rfl _ rfl; clear hA hD
       exact o7s rfl rfl s46 rfl
     · intro a' w' hA hC hD; have s3 := hA.to 3 (by kernel_rfl) rfl; obtain ⟨u46, s46, rfl⟩ := hD ⟨40, .guard⟩ (by simp) rfl _ rfl; clear hA hD
       exact o7s rfl rfl s46 rfl
     · intro a' w' hA hC hD; obtain ⟨u49, s49, r49⟩ := hD ⟨43, .data⟩ (by simp) rfl _ rfl; replace r49 : u49 = undef := r49; subst r49; obtain ⟨u46, s46, rfl⟩ := hD ⟨40, .guard⟩ (by simp) rfl _ rfl; clear hA hD
       exact o7s rfl rfl s46 rfl
     · intro a' w' hA hC hD; obtain ⟨u48, s48, r48⟩ := hD ⟨42, .data⟩ (by simp) rfl _ rfl; replace r48 : u48 = undef := r48; subst r48; obtain ⟨u50, s50, r50⟩ := hD ⟨44, .data⟩ (by simp) rfl _ rfl; replace r50 : u50 = undef := r50; subst r50; obtain ⟨u46, s46, rfl⟩ := hD ⟨40, .guard⟩ (by simp) rfl _ rfl; clear hA hD
       exact o7s rfl rfl s46 rfl
     · intro a' w' hA hC hD; obtain ⟨u46, s46, rfl⟩ := hD ⟨40, .data⟩ (by simp) rfl _ rfl; obtain ⟨u51, s51, r51⟩ := hD ⟨45, .data⟩ (by simp) rfl _ rfl; replace r51 : u51 = undef := r51; subst r51; clear hA hD; refine o7p rfl ?_; intro K hK; gi_wp2; exact hK _ _ rfl (B7 _ _)
    case hend =>
     intro w3 hC
     simp only [EndFrom, eqv, forall_eq, Act.put, List.length_cons, List.length_nil, List.drop_succ_cons, List.drop_zero, Nat.reduceAdd, List.setIfInBounds_toArray, List.set_cons_succ, List.set_cons_zero]
     have HS := H7 (HS.out.below hC)
     clear hC
     gi_wp2
     go_wp2_with fail
     go_ret
     exact ⟨rfl, HS.out.low⟩
   | true =>
    cases b4 with
    | false =>
     refine (wpIn_wide (n := 0)).1 ?_
     apply w7v 47 (Rl := [(eqv _), (eqv _), (eqv _), (eqv _), (eqv _), (eqv _), (eqv _), (eqv _), (eqv _), (eqv _), (eqv _), (eqv _), (eqv _), (eqv _), (eqv _), (eqv _), (eqv _), (eqv _), (eqv _), (eqv _), (eqv _), (eqv _), (eqv _), (eqv _), (eqv _), (eqv _), (eqv _), (fun v_ _ => v_ = (undef : Value)), (fun v_ _ => v_ = (undef : Value)), (fun v_ _ => v_ = (undef : Value)), (fun v_ _ => v_ = (undef : Value)), (fun v_ _ => v_ = (undef : Value)), (eqv _), (eqv _), (fun v_ _ => v_ = (undef : Value)), (fun v_ _ => v_ = (undef : Value)), (fun v_ _ => v_ = (undef : Value)), (fun v_ _ => v_ = (undef : Value)), (fun v_ _ => v_ = (undef : Value)), (eqv _), (eqv _), (fun v_ _ => v_ = (undef : Value)), (fun v_ _ => v_ = (undef : Value)), (fun v_ _ => v_ = (undef : Value)), (fun v_ _ => v_ = (undef : Value)), (fun v_ _ => v_ = (undef : Value)), (eqv _)]) (C := (fun x y => Below x.heap.size x y))
     case hm => kernel_rfl
     case hk => rfl
     case hCr => exact (fun _ => B7 _ _)
     case hCt => intro _ _ _; exact (fun h k => g7t h k)
     case hst => repeat (first | exact trivial | refine ⟨fun _ _ _ _ h => h, ?_⟩)
     case hfo => kernel_rfl
     case ht => kernel_rfl
     case hC0 => exact (g7d _)
     case hsteps =>
      refine ⟨?_, ?_, ?_, ?_, ?_, ?_, ?_, ?_, ?_, ?_, ?_, ?_, ?_, ?_, ?_, ?_, ?_, ?_, ?_, ?_, ?_, ?_, ?_, ?_, ?_, ?_, ?_, ?_, ?_, ?_, ?_, ?_, ?_, ?_, ?_, ?_, ?_, ?_, ?_, ?_, ?_, ?_, ?_, ?_, ?_, ?_, ?_, trivial⟩
      · intro a' w' hA hC hD; have s2 := hA.to 2 (by kernel_rfl) rfl; clear hA hD; refine o7p rfl ?_; intro K hK; gi_wp2; exact hK _ _ rfl (B7 _ _)
      · intro a' w' hA hC hD; obtain ⟨u6, s6, rfl⟩ := hD ⟨0, .data⟩ (by simp) rfl _ rfl
        obtain ⟨q0, q1, q2, -⟩ := opCells ((HS.out.below hC).blockAt 1 rfl)
        clear hA hD; refine o7p rfl ?_; intro K hK; gi_wp2; exact hK _ _ rfl (B7 _ _)
      · intro a' w' hA hC hD; have s3 := hA.to 3 (by kernel_rfl) rfl; clear hA hD; refine o7p rfl ?_; intro K hK; gi_wp2; exact hK _ _ rfl (B7 _ _)
      · intro a' w' hA hC hD; obtain ⟨u8, s8, rfl⟩ := hD ⟨2, .data⟩ (by simp) rfl _ rfl
        obtain ⟨q0, q1, q2, -⟩ := opCells ((HS.out.below hC).blockAt 0 rfl)
        clear hA hD; refine o7p rfl ?_; intro K hK; gi_wp2; exact hK _ _ rfl (B7 _ _)
      · intro a' w' hA hC hD; obtain ⟨u7, s7, rfl⟩ := hD ⟨1, .data⟩ (by simp) rfl _ rfl; obtain ⟨u9, s9, rfl⟩ := hD ⟨3, .data⟩ (by simp) rfl _ rfl
        have hr := E1.out
        clear hA hD; refine o7p rfl ?_; intro K hK; gi_wp2; exact hK _ _ rfl (B7 _ _)
      · intro a' w' hA hC hD; obtain ⟨u10, s10, rfl⟩ := hD ⟨4, .data⟩ (by simp) rfl _ rfl; clear hA hD; refine o7p rfl ?_; intro K hK; gi_wp2; exact hK _ _ rfl (B7 _ _)
      · intro a' w' hA hC hD; have s2 := hA.to 2 (by kernel_rfl) rfl; obtain ⟨u11, s11, rfl⟩ := hD ⟨5, .guard⟩ (by simp) rfl _ rfl; clear hA hD; refine o7w rfl rfl s11 ?_; intro K hK; gi_wp2; exact hK _ _ rfl (B7 _ _)
      · intro a' w' hA hC hD; obtain ⟨u12, s12, rfl⟩ := hD ⟨6, .data⟩ (by simp) rfl _ rfl; obtain ⟨u11, s11, rfl⟩ := hD ⟨5, .guard⟩ (by simp) rfl _ rfl
        obtain ⟨-, -, -, q3, -⟩ := opCells ((HS.out.below hC).blockAt 1 rfl)
        clear hA hD; refine o7w rfl rfl s11 ?_; intro K hK; gi_wp2; exact hK _ _ rfl (B7 _ _)
      · intro a' w' hA hC hD; have s3 := hA.to 3 (by kernel_rfl) rfl; obtain ⟨u11, s11, rfl⟩ := hD ⟨5, .guard⟩ (by simp) rfl _ rfl; clear hA hD; refine o7w rfl rfl s11 ?_; intro K hK; gi_wp2; exact hK _ _ rfl (B7 _ _)
      · intro a' w' hA hC hD; obtain ⟨u14, s14, rfl⟩ := hD ⟨8, .data⟩ (by simp) rfl _ rfl; obtain ⟨u11, s11, rfl⟩ := hD ⟨5, .guard⟩ (by simp) rfl _ rfl
        obtain ⟨-, -, -, q3, -⟩ := opCells ((HS.out.below hC).blockAt 0 rfl)
        clear hA hD; refine o7w rfl rfl s11 ?_; intro K hK; gi_wp2; exact hK _ _ rfl (B7 _ _)
      · intro a' w' hA hC hD; obtain ⟨u13, s13, rfl⟩ := hD ⟨7, .data⟩ (by simp) rfl _ rfl; obtain ⟨u15, s15, rfl⟩ := hD ⟨9, .data⟩ (by simp) rfl _ rfl; obtain ⟨u11, s11, rfl⟩ := hD ⟨5, .guard⟩ (by simp) rfl _ rfl
        have hr := E2.out
        clear hA hD; refine o7w rfl rfl s11 ?_; intro K hK; gi_wp2; exact hK _ _ rfl (B7 _ _)
      · intro a' w' hA hC hD; obtain ⟨u11, s11, rfl⟩ := hD ⟨5, .data⟩ (by simp) rfl _ rfl; obtain ⟨u16, s16, rfl⟩ := hD ⟨10, .data⟩ (by simp) rfl _ rfl; clear hA hD; refine o7p rfl ?_; intro K hK; gi_wp2; exact hK _ _ rfl (B7 _ _)
      · intro a' w' hA hC hD; obtain ⟨u17, s17, rfl⟩ := hD ⟨11, .data⟩ (by simp) rfl _ rfl; clear hA hD; refine o7p rfl ?_; intro K hK; gi_wp2; exact hK _ _ rfl (B7 _ _)
      · intro a' w' hA hC hD; have s2 := hA.to 2 (by kernel_rfl) rfl; obtain ⟨u18, s18, rfl⟩ := hD ⟨12, .guard⟩ (by simp) rfl _ rfl; clear hA hD; refine o7w rfl rfl s18 ?_; intro K hK
        refine opIn_load 51 _ rfl w.heap.size (by simp [Act.eval, s2]) 51 _ (0, 0) _ ((HS.out.below hC).blockAt 1 rfl) Tryz.underlying51 rfl (by kernel_rfl) (hK _ _ rfl (B7 _ _))
      · intro a' w' hA hC hD; obtain ⟨u19, s19, rfl⟩ := hD ⟨13, .data⟩ (by simp) rfl _ rfl; obtain ⟨u18, s18, rfl⟩ := hD ⟨12, .chain⟩ (by simp) rfl _ rfl; clear hA hD; refine o7w rfl rfl s18 ?_; intro K hK
        gi_wp2_with fail; refine (callsIn_wide.2 (op_from_any o _ _ _ _)).mono ?_; rintro e w2 ⟨rfl, hb⟩
        exact hK _ _ rfl hb
      · intro a' w' hA hC hD; have s3 := hA.to 3 (by kernel_rfl) rfl; obtain ⟨u18, s18, rfl⟩ := hD ⟨12, .guard⟩ (by simp) rfl _ rfl; clear hA hD; refine o7w rfl rfl s18 ?_; intro K hK
        refine opIn_load 51 _ rfl (w.heap.size + 1) (by simp [Act.eval, s3]) 51 _ (0, 0) _ ((HS.out.below hC).blockAt 0 rfl) Tryz.underlying51 rfl (by kernel_rfl) (hK _ _ rfl (B7 _ _))
      · intro a' w' hA hC hD; obtain ⟨u21, s21, rfl⟩ := hD ⟨15, .data⟩ (by simp) rfl _ rfl; obtain ⟨u18, s18, rfl⟩ := hD ⟨12, .guard⟩ (by simp) rfl _ rfl; clear hA hD; refine o7w rfl rfl s18 ?_; intro K hK
        gi_wp2_with fail; refine (callsIn_wide.2 (op_from_any p _ _ _ _)).mono ?_; rintro e w2 ⟨rfl, hb⟩
        exact hK _ _ rfl hb
      · intro a' w' hA hC hD; obtain ⟨u20, s20, rfl⟩ := hD ⟨14, .data⟩ (by simp) rfl _ rfl; obtain ⟨u22, s22, rfl⟩ := hD ⟨16, .data⟩ (by simp) rfl _ rfl; obtain ⟨u18, s18, rfl⟩ := hD ⟨12, .guard⟩ (by simp) rfl _ rfl
        have hr := E3.out
        clear hA hD; refine o7w rfl rfl s18 ?_; intro K hK; gi_wp2; exact hK _ _ rfl (B7 _ _)
      · intro a' w' hA hC hD; obtain ⟨u18, s18, rfl⟩ := hD ⟨12, .data⟩ (by simp) rfl _ rfl; obtain ⟨u23, s23, rfl⟩ := hD ⟨17, .data⟩ (by simp) rfl _ rfl; clear hA hD; refine o7p rfl ?_; intro K hK; gi_wp2; exact hK _ _ rfl (B7 _ _)
      · intro a' w' hA hC hD; obtain ⟨u24, s24, rfl⟩ := hD ⟨18, .data⟩ (by simp) rfl _ rfl; clear hA hD; refine o7p rfl ?_; intro K hK; gi_wp2; exact hK _ _ rfl (B7 _ _)
      · intro a' w' hA hC hD; have s2 := hA.to 2 (by kernel_rfl) rfl; obtain ⟨u25, s25, rfl⟩ := hD ⟨19, .guard⟩ (by simp) rfl _ rfl; clear hA hD; refine o7w rfl rfl s25 ?_; intro K hK
        refine opIn_load 51 _ rfl w.heap.size (by simp [Act.eval, s2]) 51 _ (0, 0) _ ((HS.out.below hC).blockAt 1 rfl) Tryz.underlying51 rfl (by kernel_rfl) (hK _ _ rfl (B7 _ _))
      · intro a' w' hA hC hD; obtain ⟨u26, s26, rfl⟩ := hD ⟨20, .data⟩ (by simp) rfl _ rfl; obtain ⟨u25, s25, rfl⟩ := hD ⟨19, .chain⟩ (by simp) rfl _ rfl; clear hA hD; refine o7w rfl rfl s25 ?_; intro K hK
        gi_wp2_with fail; refine (callsIn_wide.2 (op_to_any o _ _ _ _)).mono ?_; rintro e w2 ⟨rfl, hb⟩
        exact hK _ _ rfl hb
      · intro a' w' hA hC hD; have s3 := hA.to 3 (by kernel_rfl) rfl; obtain ⟨u25, s25, rfl⟩ := hD ⟨19, .guard⟩ (by simp) rfl _ rfl; clear hA hD; refine o7w rfl rfl s25 ?_; intro K hK
        refine opIn_load 51 _ rfl (w.heap.size + 1) (by simp [Act.eval, s3]) 51 _ (0, 0) _ ((HS.out.below hC).blockAt 0 rfl) Tryz.underlying51 rfl (by kernel_rfl) (hK _ _ rfl (B7 _ _))
      · intro a' w' hA hC hD; obtain ⟨u28, s28, rfl⟩ := hD ⟨22, .data⟩ (by simp) rfl _ rfl; obtain ⟨u25, s25, rfl⟩ := hD ⟨19, .guard⟩ (by simp) rfl _ rfl; clear hA hD; refine o7w rfl rfl s25 ?_; intro K hK
        gi_wp2_with fail; refine (callsIn_wide.2 (op_to_any p _ _ _ _)).mono ?_; rintro e w2 ⟨rfl, hb⟩
        exact hK _ _ rfl hb
      · intro a' w' hA hC hD; obtain ⟨u27, s27, rfl⟩ := hD ⟨21, .data⟩ (by simp) rfl _ rfl; obtain ⟨u29, s29, rfl⟩ := hD ⟨23, .data⟩ (by simp) rfl _ rfl; obtain ⟨u25, s25, rfl⟩ := hD ⟨19, .guard⟩ (by simp) rfl _ rfl
        have hr := E4.out
        clear hA hD; refine o7w rfl rfl s25 ?_; intro K hK; gi_wp2; exact hK _ _ rfl (B7 _ _)
      · intro a' w' hA hC hD; obtain ⟨u25, s25, rfl⟩ := hD ⟨19, .data⟩ (by simp) rfl _ rfl; obtain ⟨u30, s30, rfl⟩ := hD ⟨24, .data⟩ (by simp) rfl _ rfl; clear hA hD; refine o7p rfl ?_; intro K hK; gi_wp2; exact hK _ _ rfl (B7 _ _)
      · intro a' w' hA hC hD; obtain ⟨u31, s31, rfl⟩ := hD ⟨25, .data⟩ (by simp) rfl _ rfl; clear hA hD; refine o7p rfl ?_; intro K hK; gi_wp2; exact hK _ _ rfl (B7 _ _)
      · intro a' w' hA hC hD; have s2 := hA.to 2 (by kernel_rfl) rfl; obtain ⟨u32, s32, rfl⟩ := hD ⟨26, .guard⟩ (by simp) rfl _ rfl; clear hA hD
        exact o7s rfl rfl s32 rfl
      · intro a' w' hA hC hD; obtain ⟨u33, s33, r33⟩ := hD ⟨27, .data⟩ (by simp) rfl _ rfl; replace r33 : u33 = undef := r33; subst r33; obtain ⟨u32, s32, rfl⟩ := hD ⟨26, .guard⟩ (by simp) rfl _ rfl; clear hA hD
        exact o7s rfl rfl s32 rfl
      · intro a' w' hA hC hD; have s3 := hA.to 3 (by kernel_rfl) rfl; obtain ⟨u32, s32, rfl⟩ := hD ⟨26, .guard⟩ (by simp) rfl _ rfl; clear hA hD
        exact o7s rfl rfl s32 rfl
      · intro a' w' hA hC hD; obtain ⟨u35, s35, r35⟩ := hD ⟨29, .data⟩ (by simp) rfl _ rfl; replace r35 : u35 = undef := r35; subst r35; obtain ⟨u32, s32, rfl⟩ := hD ⟨26, .guard⟩ (by simp) rfl _ rfl; clear hA hD
        exact o7s rfl rfl s32 rfl
      · intro a' w' hA hC hD; obtain ⟨u34, s34, r34⟩ := hD ⟨28, .data⟩ (by simp) rfl _ rfl; replace r34 : u34 = undef := r34; subst r34; obtain ⟨u36, s36, r36⟩ := hD ⟨30, .data⟩ (by simp) rfl _ rfl; replace r36 : u36 = undef := r36; subst r36; obtain ⟨u32, s32, rfl⟩ := hD ⟨26, .guard⟩ (by simp) rfl _ rfl; clear hA hD
        exact o7s rfl rfl s32 rfl
      · intro a' w' hA hC hD; obtain ⟨u32, s32, rfl⟩ := hD ⟨26, .data⟩ (by simp) rfl _ rfl; obtain ⟨u37, s37, r37⟩ := hD ⟨31, .data⟩ (by simp) rfl _ rfl; replace r37 : u37 = undef := r37; subst r37; clear hA hD; refine o7p rfl ?_; intro K hK; gi_wp2; exact hK _ _ rfl (B7 _ _)
      · intro a' w' hA hC hD; obtain ⟨u38, s38, rfl⟩ := hD ⟨32, .data⟩ (by simp) rfl _ rfl; clear hA hD; refine o7p rfl ?_; intro K hK; gi_wp2; exact hK _ _ rfl (B7 _ _)
      · intro a' w' hA hC hD; have s2 := hA.to 2 (by kernel_rfl) rfl; obtain ⟨u39, s39, rfl⟩ := hD ⟨33, .guard⟩ (by simp) rfl _ rfl; clear hA hD
        exact o7s rfl rfl s39 rfl
      · intro a' w' hA hC hD; obtain ⟨u40, s40, r40⟩ := hD ⟨34, .data⟩ (by simp) rfl _ rfl; replace r40 : u40 = undef := r40; subst r40; obtain ⟨u39, s39, rfl⟩ := hD ⟨33, .guard⟩ (by simp) rfl _ rfl; clear hA hD
        exact o7s rfl rfl s39 rfl
      · intro a' w' hA hC hD; have s3 := hA.to 3 (by kernel_rfl) rfl; obtain ⟨u39, s39, rfl⟩ := hD ⟨33, .guard⟩ (by simp) rfl _ rfl; clear hA hD
        exact o7s rfl rfl s39 rfl
      · intro a' w' hA hC hD; obtain ⟨u42, s42, r42⟩ := hD ⟨36, .data⟩ (by simp) rfl _ rfl; replace r42 : u42 = undef := r42; subst r42; obtain ⟨u39, s39, rfl⟩ := hD ⟨33, .guard⟩ (by simp) rfl _ rfl; clear hA hD
        exact o7s rfl rfl s39 rfl
      · intro a' w' hA hC hD; obtain ⟨u41, s41, r41⟩ := hD ⟨35, .data⟩ (by simp) rfl _ rfl; replace r41 : u41 = undef := r41; subst r41; obtain ⟨u43, s43, r43⟩ := hD ⟨37, .data⟩ (by simp) rfl _ rfl; replace r43 : u43 = undef := r43; subst r43; obtain ⟨u39, s39, rfl⟩ := hD ⟨33, .guard⟩ (by simp) rfl _ rfl; clear hA hD
        exact o7s rfl rfl s39 rfl
      · intro a' w' hA hC hD; obtain ⟨u39, s39, rfl⟩ := hD ⟨33, .data⟩ (by simp) rfl _ rfl; obtain ⟨u44, s44, r44⟩ := hD ⟨38, .data⟩ (by simp) rfl _ rfl; replace r44 : u44 = undef := r44; subst r44; clear hA hD; refine o7p rfl ?_; intro K hK; gi_wp2; exact hK _ _ rfl (B7 _ _)
      · intro a' w' hA hC hD; obtain ⟨u45, s45, rfl⟩ := hD ⟨39, .data⟩ (by simp) rfl _ rfl; clear hA hD; refine o7p rfl ?_; intro K hK; gi_wp2; exact hK _ _ rfl (B7 _ _)
      · intro a' w' hA hC hD; have s2 := hA.to 2 (by kernel_rfl) rfl; obtain ⟨u46, s46, rfl⟩ := hD ⟨40, .guard⟩ (by simp) rfl _ rfl; clear hA hD
        exact o7s rfl rfl s46 rfl
      · intro a' w' hA hC hD; obtain ⟨u47, s47, r47⟩ := hD ⟨41, .data⟩ (by simp) rfl _ rfl; replace r47 : u47 = undef := r47; subst r47; obtain ⟨u46, s46, rfl⟩ := hD ⟨40, .guard⟩ (by simp) rfl _ rfl; clear hA hD
        exact o7s rfl rfl s46 rfl
      · intro a' w' hA hC hD; have s3 := hA.to 3 (by kernel_rfl) rfl; obtain ⟨u46, s46, rfl⟩ := hD ⟨40, .guard⟩ (by simp) rfl _ rfl; clear hA hD
        exact o7s rfl rfl s46 rfl
      · intro a' w' hA hC hD; obtain ⟨u49, s49, r49⟩ := hD ⟨43, .data⟩ (by simp) rfl _ rfl; replace r49 : u49 = undef := r49; subst r49; obtain ⟨u46, s46, rfl⟩ := hD ⟨40, .guard⟩ (by simp) rfl _ rfl; clear hA hD
        exact o7s rfl rfl s46 rfl
      · intro a' w' hA hC hD; obtain ⟨u48, s48, r48⟩ := hD ⟨42, .data⟩ (by simp) rfl _ rfl; replace r48 : u48 = undef := r48; subst r48; obtain ⟨u50, s50, r50⟩ := hD ⟨44, .data⟩ (by simp) rfl _ rfl; replace r50 : u50 = undef := r50; subst r50; obtain ⟨u46, s46, rfl⟩ := hD ⟨40, .guard⟩ (by simp) rfl _ rfl; clear hA hD
        exact o7s rfl rfl s46 rfl
      · intro a' w' hA hC hD; obtain ⟨u46, s46, rfl⟩ := hD ⟨40, .data⟩ (by simp) rfl _ rfl; obtain ⟨u51, s51, r51⟩ := hD ⟨45, .data⟩ (by simp) rfl _ rfl; replace r51 : u51 = undef := r51; subst r51; clear hA hD; refine o7p rfl ?_; intro K hK; gi_wp2; exact hK _ _ rfl (B7 _ _)
     case hend =>
      intro w3 hC
      simp only [EndFrom, eqv, forall_eq, Act.put, List.length_cons, List.length_nil, List.drop_succ_cons, List.drop_zero, Nat.reduceAdd, List.setIfInBounds_toArray, List.set_cons_succ, List.set_cons_zero]
      have HS := H7 (HS.out.below hC)
      clear hC
      gi_wp2
      go_wp2_with fail
      go_ret
      exact ⟨rfl, HS.out.low⟩
    | true =>
     cases b5 with
     | false =>
      refine (wpIn_wide (n := 0)).1 ?_
      apply w7v 47 (Rl := [(eqv _), (eqv _), (eqv _), (eqv _), (eqv _), (eqv _), (eqv _), (eqv _), (eqv _), (eqv _), (eqv _), (eqv _), (eqv _), (eqv _), (eqv _), (eqv _), (eqv _), (eqv _), (eqv _), (eqv _), (eqv _), (eqv _), (eqv _), (eqv _), (eqv _), (eqv _), (eqv _), (eqv _), (eqv _), (eqv _), (eqv _), (eqv _), (eqv _), (eqv _), (fun v_ _ => v_ = (undef : Value)), (fun v_ _ => v_ = (undef : Value)), (fun v_ _ => v_ = (undef : Value)), (fun v_ _ => v_ = (undef : Value)), (fun v_ _ => v_ = (undef : Value)), (eqv _), (eqv _), (fun v_ _ => v_ = (undef : Value)), (fun v_ _ => v_ = (undef : Value)), (fun v_ _ => v_ = (undef : Value)), (fun v_ _ => v_ = (undef : Value)), (fun v_ _ => v_ = (undef : Value)), (eqv _)]) (C := (fun x y => Below x.heap.size x y))
      case hm => kernel_rfl
      case hk => rfl
      case hCr => exact (fun _ => B7 _ _)
      case hCt => intro _ _ _; exact (fun h k => g7t h k)
      case hst => repeat (first | exact trivial | refine ⟨fun _ _ _ _ h => h, ?_⟩)
      case hfo => kernel_rfl
      case ht => kernel_rfl
      case hC0 => exact (g7d _)
      case hsteps =>
       refine ⟨?_, ?_, ?_, ?_, ?_, ?_, ?_, ?_, ?_, ?_, ?_, ?_, ?_, ?_, ?_, ?_, ?_, ?_, ?_, ?_, ?_, ?_, ?_, ?_, ?_, ?_, ?_, ?_, ?_, ?_, ?_, ?_, ?_, ?_, ?_, ?_, ?_, ?_, ?_, ?_, ?_, ?_, ?_, ?_, ?_, ?_, ?_, trivial⟩
       · intro a' w' hA hC hD; have s2 := hA.to 2 (by kernel_rfl) rfl; clear hA hD; refine o7p rfl ?_; intro K hK; gi_wp2; exact hK _ _ rfl (B7 _ _)
       · intro a' w' hA hC hD; obtain ⟨u6, s6, rfl⟩ := hD ⟨0, .data⟩ (by simp) rfl _ rfl
         obtain ⟨q0, q1, q2, -⟩ := opCells ((HS.out.below hC).blockAt 1 rfl)
         clear hA hD; refine o7p rfl ?_; intro K hK; gi_wp2; exact hK _ _ rfl (B7 _ _)
       · intro a' w' hA hC hD; have s3 := hA.to 3 (by kernel_rfl) rfl; clear hA hD; refine o7p rfl ?_; intro K hK; gi_wp2; exact hK _ _ rfl (B7 _ _)
       · intro a' w' hA hC hD; obtain ⟨u8, s8, rfl⟩ := hD ⟨2, .data⟩ (by simp) rfl _ rfl
         obtain ⟨q0, q1, q2, -⟩ := opCells ((HS.out.below hC).blockAt 0 rfl)
         clear hA hD; refine o7p rfl ?_; intro K hK; gi_wp2; exact hK _ _ rfl (B7 _ _)
       · intro a' w' hA hC hD; obtain ⟨u7, s7, rfl⟩ := hD ⟨1, .data⟩ (by simp) rfl _ rfl; obtain ⟨u9, s9, rfl⟩ := hD ⟨3, .data⟩ (by simp) rfl _ rfl
         have hr := E1.out
         clear hA hD; refine o7p rfl ?_; intro K hK; gi_wp2; exact hK _ _ rfl (B7 _ _)
       · intro a' w' hA hC hD; obtain ⟨u10, s10, rfl⟩ := hD ⟨4, .data⟩ (by simp) rfl _ rfl; clear hA hD; refine o7p rfl ?_; intro K hK; gi_wp2; exact hK _ _ rfl (B7 _ _)
       · intro a' w' hA hC hD; have s2 := hA.to 2 (by kernel_rfl) rfl; obtain ⟨u11, s11, rfl⟩ := hD ⟨5, .guard⟩ (by simp) rfl _ rfl; clear hA hD; refine o7w rfl rfl s11 ?_; intro K hK; gi_wp2; exact hK _ _ rfl (B7 _ _)
       · intro a' w' hA hC hD; obtain ⟨u12, s12, rfl⟩ := hD ⟨6, .data⟩ (by simp) rfl _ rfl; obtain ⟨u11, s11, rfl⟩ := hD ⟨5, .guard⟩ (by simp) rfl _ rfl
         obtain ⟨-, -, -, q3, -⟩ := opCells ((HS.out.below hC).blockAt 1 rfl)
         clear hA hD; refine o7w rfl rfl s11 ?_; intro K hK; gi_wp2; exact hK _ _ rfl (B7 _ _)
       · intro a' w' hA hC hD; have s3 := hA.to 3 (by kernel_rfl) rfl; obtain ⟨u11, s11, rfl⟩ := hD ⟨5, .guard⟩ (by simp) rfl _ rfl; clear hA hD; refine o7w rfl rfl s11 ?_; intro K hK; gi_wp2; exact hK _ _ rfl (B7 _ _)
       · intro a' w' hA hC hD; obtain ⟨u14, s14, rfl⟩ := hD ⟨8, .data⟩ (by simp) rfl _ rfl; obtain ⟨u11, s11, rfl⟩ := hD ⟨5, .guard⟩ (by simp) rfl _ rfl
         obtain ⟨-, -, -, q3, -⟩ := opCells ((HS.out.below hC).blockAt 0 rfl)
         clear hA hD; refine o7w rfl rfl s11 ?_; intro K hK; gi_wp2; exact hK _ _ rfl (B7 _ _)
       · intro a' w' hA hC hD; obtain ⟨u13, s13, rfl⟩ := hD ⟨7, .data⟩ (by simp) rfl _ rfl; obtain ⟨u15, s15, rfl⟩ := hD ⟨9, .data⟩ (by simp) rfl _ rfl; obtain ⟨u11, s11, rfl⟩ := hD ⟨5, .guard⟩ (by simp) rfl _ rfl
         have hr := E2.out
         clear hA hD; refine o7w rfl rfl s11 ?_; intro K hK; gi_wp2; exact hK _ _ rfl (B7 _ _)
       · intro a' w' hA hC hD; obtain ⟨u11, s11, rfl⟩ := hD ⟨5, .data⟩ (by simp) rfl _ rfl; obtain ⟨u16, s16, rfl⟩ := hD ⟨10, .data⟩ (by simp) rfl _ rfl; clear hA hD; refine o7p rfl ?_; intro K hK; gi_wp2; exact hK _ _ rfl (B7 _ _)
       · intro a' w' hA hC hD; obtain ⟨u17, s17, rfl⟩ := hD ⟨11, .data⟩ (by simp) rfl _ rfl; clear hA hD; refine o7p rfl ?_; intro K hK; gi_wp2; exact hK _ _ rfl (B7 _ _)
       · intro a' w' hA hC hD; have s2 := hA.to 2 (by kernel_rfl) rfl; obtain ⟨u18, s18, rfl⟩ := hD ⟨12, .guard⟩ (by simp) rfl _ rfl; clear hA hD; refine o7w rfl rfl s18 ?_; intro K hK
         refine opIn_load 51 _ rfl w.heap.size (by simp [Act.eval, s2]) 51 _ (0, 0) _ ((HS.out.below hC).blockAt 1 rfl) Tryz.underlying51 rfl (by kernel_rfl) (hK _ _ rfl (B7 _ _))
       · intro a' w' hA hC hD; obtain ⟨u19, s19, rfl⟩ := hD ⟨13, .data⟩ (by simp) rfl _ rfl; obtain ⟨u18, s18, rfl⟩ := hD ⟨12, .chain⟩ (by simp) rfl _ rfl; clear hA hD; refine o7w rfl rfl s18 ?_; intro K hK
         gi_wp2_with fail; refine (callsIn_wide.2 (op_from_any o _ _ _ _)).mono ?_; rintro e w2 ⟨rfl, hb⟩
         exact hK _ _ rfl hb
       · intro a' w' hA hC hD; have s3 := hA.to 3 (by kernel_rfl) rfl; obtain ⟨u18, s18, rfl⟩ := hD ⟨12, .guard⟩ (by simp) rfl _ rfl; clear hA hD; refine o7w rfl rfl s18 ?_; intro K hK
         refine opIn_load 51 _ rfl (w.heap.size + 1) (by simp [Act.eval, s3]) 51 _ (0, 0) _ ((HS.out.below hC).blockAt 0 rfl) Tryz.underlying51 rfl (by kernel_rfl) (hK _ _ rfl (B7 _ _))
       · intro a' w' hA hC hD; obtain ⟨u21, s21, rfl⟩ := hD ⟨15, .data⟩ (by simp) rfl _ rfl; obtain ⟨u18, s18, rfl⟩ := hD ⟨12, .guard⟩ (by simp) rfl _ rfl; clear hA hD; refine o7w rfl rfl s18 ?_; intro K hK
         gi_wp2_with fail; refine (callsIn_wide.2 (op_from_any p _ _ _ _)).mono ?_; rintro e w2 ⟨rfl, hb⟩
         exact hK _ _ rfl hb
       · intro a' w' hA hC hD; obtain ⟨u20, s20, rfl⟩ := hD ⟨14, .data⟩ (by simp) rfl _ rfl; obtain ⟨u22, s22, rfl⟩ := hD ⟨16, .data⟩ (by simp) rfl _ rfl; obtain ⟨u18, s18, rfl⟩ := hD ⟨12, .guard⟩ (by simp) rfl _ rfl
         have hr := E3.out
         clear hA hD; refine o7w rfl rfl s18 ?_; intro K hK; gi_wp2; exact hK _ _ rfl (B7 _ _)
       · intro a' w' hA hC hD; obtain ⟨u18, s18, rfl⟩ := hD ⟨12, .data⟩ (by simp) rfl _ rfl; obtain ⟨u23, s23, rfl⟩ := hD ⟨17, .data⟩ (by simp) rfl _ rfl; clear hA hD; refine o7p rfl ?_; intro K hK; gi_wp2; exact hK _ _ rfl (B7 _ _)
       · intro a' w' hA hC hD; obtain ⟨u24, s24, rfl⟩ := hD ⟨18, .data⟩ (by simp) rfl _ rfl; clear hA hD; refine o7p rfl ?_; intro K hK; gi_wp2; exact hK _ _ rfl (B7 _ _)
       · intro a' w' hA hC hD; have s2 := hA.to 2 (by kernel_rfl) rfl; obtain ⟨u25, s25, rfl⟩ := hD ⟨19, .guard⟩ (by simp) rfl _ rfl; clear hA hD; refine o7w rfl rfl s25 ?_; intro K hK
         refine opIn_load 51 _ rfl w.heap.size (by simp [Act.eval, s2]) 51 _ (0, 0) _ ((HS.out.below hC).blockAt 1 rfl) Tryz.underlying51 rfl (by kernel_rfl) (hK _ _ rfl (B7 _ _))
       · intro a' w' hA hC hD; obtain ⟨u26, s26, rfl⟩ := hD ⟨20, .data⟩ (by simp) rfl _ rfl; obtain ⟨u25, s25, rfl⟩ := hD ⟨19, .chain⟩ (by simp) rfl _ rfl; clear hA hD; refine o7w rfl rfl s25 ?_; intro K hK
         gi_wp2_with fail; refine (callsIn_wide.2 (op_to_any o _ _ _ _)).mono ?_; rintro e w2 ⟨rfl, hb⟩
         exact hK _ _ rfl hb
       · intro a' w' hA hC hD; have s3 := hA.to 3 (by kernel_rfl) rfl; obtain ⟨u25, s25, rfl⟩ := hD ⟨19, .guard⟩ (by simp) rfl _ rfl; clear hA hD; refine o7w rfl rfl s25 ?_; intro K hK
         refine opIn_load 51 _ rfl (w.heap.size + 1) (by simp [Act.eval, s3]) 51 _ (0, 0) _ ((HS.out.below hC).blockAt 0 rfl) Tryz.underlying51 rfl (by kernel_rfl) (hK _ _ rfl (B7 _ _))
       · intro a' w' hA hC hD; obtain ⟨u28, s28, rfl⟩ := hD ⟨22, .data⟩ (by simp) rfl _ rfl; obtain ⟨u25, s25, rfl⟩ := hD ⟨19, .guard⟩ (by simp) rfl _ rfl; clear hA hD; refine o7w rfl rfl s25 ?_; intro K hK
         gi_wp2_with fail; refine (callsIn_wide.2 (op_to_any p _ _ _ _)).mono ?_; rintro e w2 ⟨rfl, hb⟩
         exact hK _ _ rfl hb
       · intro a' w' hA hC hD; obtain ⟨u27, s27, rfl⟩ := hD ⟨21, .data⟩ (by simp) rfl _ rfl; obtain ⟨u29, s29, rfl⟩ := hD ⟨23, .data⟩ (by simp) rfl _ rfl; obtain ⟨u25, s25, rfl⟩ := hD ⟨19, .guard⟩ (by simp) rfl _ rfl
         have hr := E4.out
         clear hA hD; refine o7w rfl rfl s25 ?_; intro K hK; gi_wp2; exact hK _ _ rfl (B7 _ _)
       · intro a' w' hA hC hD; obtain ⟨u25, s25, rfl⟩ := hD ⟨19, .data⟩ (by simp) rfl _ rfl; obtain ⟨u30, s30, rfl⟩ := hD ⟨24, .data⟩ (by simp) rfl _ rfl; clear hA hD; refine o7p rfl ?_; intro K hK; gi_wp2; exact hK _ _ rfl (B7 _ _)
       · intro a' w' hA hC hD; obtain ⟨u31, s31, rfl⟩ := hD ⟨25, .data⟩ (by simp) rfl _ rfl; clear hA hD; refine o7p rfl ?_; intro K hK; gi_wp2; exact hK _ _ rfl (B7 _ _)
       · intro a' w' hA hC hD; have s2 := hA.to 2 (by kernel_rfl) rfl; obtain ⟨u32, s32, rfl⟩ := hD ⟨26, .guard⟩ (by simp) rfl _ rfl; clear hA hD; refine o7w rfl rfl s32 ?_; intro K hK; gi_wp2; exact hK _ _ rfl (B7 _ _)
       · intro a' w' hA hC hD; obtain ⟨u33, s33, rfl⟩ := hD ⟨27, .data⟩ (by simp) rfl _ rfl; obtain ⟨u32, s32, rfl⟩ := hD ⟨26, .guard⟩ (by simp) rfl _ rfl
         obtain ⟨-, -, -, -, -, -, -, -, q8, -⟩ := opCells ((HS.out.below hC).blockAt 1 rfl)
         clear hA hD; refine o7w rfl rfl s32 ?_; intro K hK; gi_wp2; exact hK _ _ rfl (B7 _ _)
       · intro a' w' hA hC hD; have s3 := hA.to 3 (by kernel_rfl) rfl; obtain ⟨u32, s32, rfl⟩ := hD ⟨26, .guard⟩ (by simp) rfl _ rfl; clear hA hD; refine o7w rfl rfl s32 ?_; intro K hK; gi_wp2; exact hK _ _ rfl (B7 _ _)
       · intro a' w' hA hC hD; obtain ⟨u35, s35, rfl⟩ := hD ⟨29, .data⟩ (by simp) rfl _ rfl; obtain ⟨u32, s32, rfl⟩ := hD ⟨26, .guard⟩ (by simp) rfl _ rfl
         obtain ⟨-, -, -, -, -, -, -, -, q8, -⟩ := opCells ((HS.out.below hC).blockAt 0 rfl)
         clear hA hD; refine o7w rfl rfl s32 ?_; intro K hK; gi_wp2; exact hK _ _ rfl (B7 _ _)
       · intro a' w' hA hC hD; obtain ⟨u34, s34, rfl⟩ := hD ⟨28, .data⟩ (by simp) rfl _ rfl; obtain ⟨u36, s36, rfl⟩ := hD ⟨30, .data⟩ (by simp) rfl _ rfl; obtain ⟨u32, s32, rfl⟩ := hD ⟨26, .guard⟩ (by simp) rfl _ rfl
         have hr := E5.out
         clear hA hD; refine o7w rfl rfl s32 ?_; intro K hK; gi_wp2; exact hK _ _ rfl (B7 _ _)
       · intro a' w' hA hC hD; obtain ⟨u32, s32, rfl⟩ := hD ⟨26, .data⟩ (by simp) rfl _ rfl; obtain ⟨u37, s37, rfl⟩ := hD ⟨31, .data⟩ (by simp) rfl _ rfl; clear hA hD; refine o7p rfl ?_; intro K hK; gi_wp2; exact hK _ _ rfl (B7 _ _)
       · intro a' w' hA hC hD; obtain ⟨u38, s38, rfl⟩ := hD ⟨32, .data⟩ (by simp) rfl _ rfl; clear hA hD; refine o7p rfl ?_; intro K hK; gi_wp2; exact hK _ _ rfl (B7 _ _)
       · intro a' w' hA hC hD; have s2 := hA.to 2 (by kernel_rfl) rfl; obtain ⟨u39, s39, rfl⟩ := hD ⟨33, .guard⟩ (by simp) rfl _ rfl; clear hA hD
         exact o7s rfl rfl s39 rfl
       · intro a' w' hA hC hD; obtain ⟨u40, s40, r40⟩ := hD ⟨34, .data⟩ (by simp) rfl _ rfl; replace r40 : u40 = undef := r40; subst r40; obtain ⟨u39, s39, rfl⟩ := hD ⟨33, .guard⟩ (by simp) rfl _ rfl; clear hA hD
         exact o7s rfl rfl s39 rfl
       · intro a' w' hA hC hD; have s3 := hA.to 3 (by kernel_rfl) rfl; obtain ⟨u39, s39, rfl⟩ := hD ⟨33, .guard⟩ (by simp) rfl _ rfl; clear hA hD
         exact o7s rfl rfl s39 rfl
       · intro a' w' hA hC hD; obtain ⟨u42, s42, r42⟩ := hD ⟨36, .data⟩ (by simp) rfl _ rfl; replace r42 : u42 = undef := r42; subst r42; obtain ⟨u39, s39, rfl⟩ := hD ⟨33, .guard⟩ (by simp) rfl _ rfl; clear hA hD
         exact o7s rfl rfl s39 rfl
       · intro a' w' hA hC hD; obtain ⟨u41, s41, r41⟩ := hD ⟨35, .data⟩ (by simp) rfl _ rfl; replace r41 : u41 = undef := r41; subst r41; obtain ⟨u43, s43, r43⟩ := hD ⟨37, .data⟩ (by simp) rfl _ rfl; replace r43 : u43 = undef := r43; subst r43; obtain ⟨u39, s39, rfl⟩ := hD ⟨33, .guard⟩ (by simp) rfl _ rfl; clear hA hD
         exact o7s rfl rfl s39 rfl
       · intro a' w' hA hC hD; obtain ⟨u39, s39, rfl⟩ := hD ⟨33, .data⟩ (by simp) rfl _ rfl; obtain ⟨u44, s44, r44⟩ := hD ⟨38, .data⟩ (by simp) rfl _ rfl; replace r44 : u44 = undef := r44; subst r44; clear hA hD; refine o7p rfl ?_; intro K hK; gi_wp2; exact hK _ _ rfl (B7 _ _)
       · intro a' w' hA hC hD; obtain ⟨u45, s45, rfl⟩ := hD ⟨39, .data⟩ (by simp) rfl _ rfl; clear hA hD; refine o7p rfl ?_; intro K hK; gi_wp2; exact hK _ _ rfl (B7 _ _)
       · intro a' w' hA hC hD; have s2 := hA.to 2 (by kernel_rfl) rfl; obtain ⟨u46, s46, rfl⟩ := hD ⟨40, .guard⟩ (by simp) rfl _ rfl; clear hA hD
         exact o7s rfl rfl s46 rfl
       · intro a' w' hA hC hD; obtain ⟨u47, s47, r47⟩ := hD ⟨41, .data⟩ (by simp) rfl _ rfl; replace r47 : u47 = undef := r47; subst r47; obtain ⟨u46, s46, rfl⟩ := hD ⟨40, .guard⟩ (by simp) rfl _ rfl; clear hA hD
         exact o7s rfl rfl s46 rfl
       · intro a' w' hA hC hD; have s3 := hA.to 3 (by kernel_rfl) rfl; obtain ⟨u46, s46, rfl⟩ := hD ⟨40, .guard⟩ (by simp) rfl _ rfl; clear hA hD
         exact o7s rfl rfl s46 rfl
       · intro a' w' hA hC hD; obtain ⟨u49, s49, r49⟩ := hD ⟨43, .data⟩ (by simp) rfl _ rfl; replace r49 : u49 = undef := r49; subst r49; obtain ⟨u46, s46, rfl⟩ := hD ⟨40, .guard⟩ (by simp) rfl _ rfl; clear hA hD
         exact o7s rfl rfl s46 rfl
       · intro a' w' hA hC hD; obtain ⟨u48, s48, r48⟩ := hD ⟨42, .data⟩ (by simp) rfl _ rfl; replace r48 : u48 = undef := r48; subst r48; obtain ⟨u50, s50, r50⟩ := hD ⟨44, .data⟩ (by simp) rfl _ rfl; replace r50 : u50 = undef := r50; subst r50; obtain ⟨u46, s46, rfl⟩ := hD ⟨40, .guard⟩ (by simp) rfl _ rfl; clear hA hD
         exact o7s rfl rfl s46 rfl
       · intro a' w' hA hC hD; obtain ⟨u46, s46, rfl⟩ := hD ⟨40, .data⟩ (by simp) rfl _ rfl; obtain ⟨u51, s51, r51⟩ := hD ⟨45, .data⟩ (by simp) rfl _ rfl; replace r51 : u51 = undef := r51; subst r51; clear hA hD; refine o7p rfl ?_; intro K hK; gi_wp2; exact hK _ _ rfl (B7 _ _)
      case hend =>
       intro w3 hC
       simp only [EndFrom, eqv, forall_eq, Act.put, List.length_cons, List.length_nil, List.drop_succ_cons, List.drop_zero, Nat.reduceAdd, List.setIfInBounds_toArray, List.set_cons_succ, List.set_cons_zero]
       have HS := H7 (HS.out.below hC)
       clear hC
       gi_wp2
       go_wp2_with fail
       go_ret
       exact ⟨rfl, HS.out.low⟩
     | true =>
      cases b6 with
      | false =>
       refine (wpIn_wide (n := 0)).1 ?_
       apply w7v 47 (Rl := [(eqv _), (eqv _), (eqv _), (eqv _), (eqv _), (eqv _), (eqv _), (eqv _), (eqv _), (eqv _), (eqv _), (eqv _), (eqv _), (eqv _), (eqv _), (eqv _), (eqv _), (eqv _), (eqv _), (eqv _), (eqv _), (eqv _), (eqv _), (eqv _), (eqv _), (eqv _), (eqv _), (eqv _), (eqv _), (eqv _), (eqv _), (eqv _), (eqv _), (eqv _), (eqv _), (eqv _), (eqv _), (eqv _), (eqv _), (eqv _), (eqv _), (fun v_ _ => v_ = (undef : Value)), (fun v_ _ => v_ = (undef : Value)), (fun v_ _ => v_ = (undef : Value)), (fun v_ _ => v_ = (undef : Value)), (fun v_ _ => v_ = (undef : Value)), (eqv _)]) (C := (fun x y => Below x.heap.size x y))
       case hm => kernel_rfl
       case hk => rfl
       case hCr => exact (fun _ => B7 _ _)
       case hCt => intro _ _ _; exact (fun h k => g7t h k)
       case hst => repeat (first | exact trivial | refine ⟨fun _ _ _ _ h => h, ?_⟩)
       case hfo => kernel_rfl
       case ht => kernel_rfl
       case hC0 => exact (g7d _)
       case hsteps =>
        refine ⟨?_, ?_, ?_, ?_, ?_, ?_, ?_, ?_, ?_, ?_, ?_, ?_, ?_, ?_, ?_, ?_, ?_, ?_, ?_, ?_, ?_, ?_, ?_, ?_, ?_, ?_, ?_, ?_, ?_, ?_, ?_, ?_, ?_, ?_, ?_, ?_, ?_, ?_, ?_, ?_, ?_, ?_, ?_, ?_, ?_, ?_, ?_, trivial⟩
        · intro a' w' hA hC hD; have s2 := hA.to 2 (by kernel_rfl) rfl; clear hA hD; refine o7p rfl ?_; intro K hK; gi_wp2; exact hK _ _ rfl (B7 _ _)
        · intro a' w' hA hC hD; obtain ⟨u6, s6, rfl⟩ := hD ⟨0, .data⟩ (by simp) rfl _ rfl
          obtain ⟨q0, q1, q2, -⟩ := opCells ((HS.out.below hC).blockAt 1 rfl)
          clear hA hD; refine o7p rfl ?_; intro K hK; gi_wp2; exact hK _ _ rfl (B7 _ _)
        · intro a' w' hA hC hD; have s3 := hA.to 3 (by kernel_rfl) rfl; clear hA hD; refine o7p rfl ?_; intro K hK; gi_wp2; exact hK _ _ rfl (B7 _ _)
        · intro a' w' hA hC hD; obtain ⟨u8, s8, rfl⟩ := hD ⟨2, .data⟩ (by simp) rfl _ rfl
          obtain ⟨q0, q1, q2, -⟩ := opCells ((HS.out.below hC).blockAt 0 rfl)
          clear hA hD; refine o7p rfl ?_; intro K hK; gi_wp2; exact hK _ _ rfl (B7 _ _)
        · intro a' w' hA hC hD; obtain ⟨u7, s7, rfl⟩ := hD ⟨1, .data⟩ (by simp) rfl _ rfl; obtain ⟨u9, s9, rfl⟩ := hD ⟨3, .data⟩ (by simp) rfl _ rfl
          have hr := E1.out
          clear hA hD; refine o7p rfl ?_; intro K hK; gi_wp2; exact hK _ _ rfl (B7 _ _)
        · intro a' w' hA hC hD; obtain ⟨u10, s10, rfl⟩ := hD ⟨4, .data⟩ (by simp) rfl _ rfl; clear hA hD; refine o7p rfl ?_; intro K hK; gi_wp2; exact hK _ _ rfl (B7 _ _)
        · intro a' w' hA hC hD; have s2 := hA.to 2 (by kernel_rfl) rfl; obtain ⟨u11, s11, rfl⟩ := hD ⟨5, .guard⟩ (by simp) rfl _ rfl; clear hA hD; refine o7w rfl rfl s11 ?_; intro K hK; gi_wp2; exact hK _ _ rfl (B7 _ _)
        · intro a' w' hA hC hD; obtain ⟨u12, s12, rfl⟩ := hD ⟨6, .data⟩ (by simp) rfl _ rfl; obtain ⟨u11, s11, rfl⟩ := hD ⟨5, .guard⟩ (by simp) rfl _ rfl
          obtain ⟨-, -, -, q3, -⟩ := opCells ((HS.out.below hC).blockAt 1 rfl)
          clear hA hD; refine o7w rfl rfl s11 ?_; intro K hK; gi_wp2; exact hK _ _ rfl (B7 _ _)
        · intro a' w' hA hC hD; have s3 := hA.to 3 (by kernel_rfl) rfl; obtain ⟨u11, s11, rfl⟩ := hD ⟨5, .guard⟩ (by simp) rfl _ rfl; clear hA hD; refine o7w rfl rfl s11 ?_; intro K hK; gi_wp2; exact hK _ _ rfl (B7 _ _)
        · intro a' w' hA hC hD; obtain ⟨u14, s14, rfl⟩ := hD ⟨8, .data⟩ (by simp) rfl _ rfl; obtain ⟨u11, s11, rfl⟩ := hD ⟨5, .guard⟩ (by simp) rfl _ rfl
          obtain ⟨-, -, -, q3, -⟩ := opCells ((HS.out.below hC).blockAt 0 rfl)
          clear hA hD; refine o7w rfl rfl s11 ?_; intro K hK; gi_wp2; exact hK _ _ rfl (B7 _ _)
        · intro a' w' hA hC hD; obtain ⟨u13, s13, rfl⟩ := hD ⟨7, .data⟩ (by simp) rfl _ rfl; obtain ⟨u15, s15, rfl⟩ := hD ⟨9, .data⟩ (by simp) rfl _ rfl; obtain ⟨u11, s11, rfl⟩ := hD ⟨5, .guard⟩ (by simp) rfl _ rfl
          have hr := E2.out
          clear hA hD; refine o7w rfl rfl s11 ?_; intro K hK; gi_wp2; exact hK _ _ rfl (B7 _ _)
        · intro a' w' hA hC hD; obtain ⟨u11, s11, rfl⟩ := hD ⟨5, .data⟩ (by simp) rfl _ rfl; obtain ⟨u16, s16, rfl⟩ := hD ⟨10, .data⟩ (by simp) rfl _ rfl; clear hA hD; refine o7p rfl ?_; intro K hK; gi_wp2; exact hK _ _ rfl (B7 _ _)
        · intro a' w' hA hC hD; obtain ⟨u17, s17, rfl⟩ := hD ⟨11, .data⟩ (by simp) rfl _ rfl; clear hA hD; refine o7p rfl ?_; intro K hK; gi_wp2; exact hK _ _ rfl (B7 _ _)
        · intro a' w' hA hC hD; have s2 := hA.to 2 (by kernel_rfl) rfl; obtain ⟨u18, s18, rfl⟩ := hD ⟨12, .guard⟩ (by simp) rfl _ rfl; clear hA hD; refine o7w rfl rfl s18 ?_; intro K hK
          refine opIn_load 51 _ rfl w.heap.size (by simp [Act.eval, s2]) 51 _ (0, 0) _ ((HS.out.below hC).blockAt 1 rfl) Tryz.underlying51 rfl (by kernel_rfl) (hK _ _ rfl (B7 _ _))
        · intro a' w' hA hC hD; obtain ⟨u19, s19, rfl⟩ := hD ⟨13, .data⟩ (by simp) rfl _ rfl; obtain ⟨u18, s18, rfl⟩ := hD ⟨12, .chain⟩ (by simp) rfl _ rfl; clear hA hD; refine o7w rfl rfl s18 ?_; intro K hK
          gi_wp2_with fail; refine (callsIn_wide.2 (op_from_any o _ _ _ _)).mono ?_; rintro e w2 ⟨rfl, hb⟩
          exact hK _ _ rfl hb
        · intro a' w' hA hC hD; have s3 := hA.to 3 (by kernel_rfl) rfl; obtain ⟨u18, s18, rfl⟩ := hD ⟨12, .guard⟩ (by simp) rfl _ rfl; clear hA hD; refine o7w rfl rfl s18 ?_; intro K hK
          refine opIn_load 51 _ rfl (w.heap.size + 1) (by simp [Act.eval, s3]) 51 _ (0, 0) _ ((HS.out.below hC).blockAt 0 rfl) Tryz.underlying51 rfl (by kernel_rfl) (hK _ _ rfl (B7 _ _))
        · intro a' w' hA hC hD; obtain ⟨u21, s21, rfl⟩ := hD ⟨15, .data⟩ (by simp) rfl _ rfl; obtain ⟨u18, s18, rfl⟩ := hD ⟨12, .guard⟩ (by simp) rfl _ rfl; clear hA hD; refine o7w rfl rfl s18 ?_; intro K hK
          gi_wp2_with fail; refine (callsIn_wide.2 (op_from_any p _ _ _ _)).mono ?_; rintro e w2 ⟨rfl, hb⟩
          exact hK _ _ rfl hb
        · intro a' w' hA hC hD; obtain ⟨u20, s20, rfl⟩ := hD ⟨14, .data⟩ (by simp) rfl _ rfl; obtain ⟨u22, s22, rfl⟩ := hD ⟨16, .data⟩ (by simp) rfl _ rfl; obtain ⟨u18, s18, rfl⟩ := hD ⟨12, .guard⟩ (by simp) rfl _ rfl
          have hr := E3.out
          clear hA hD; refine o7w rfl rfl s18 ?_; intro K hK; gi_wp2; exact hK _ _ rfl (B7 _ _)
        · intro a' w' hA hC hD; obtain ⟨u18, s18, rfl⟩ := hD ⟨12, .data⟩ (by simp) rfl _ rfl; obtain ⟨u23, s23, rfl⟩ := hD ⟨17, .data⟩ (by simp) rfl _ rfl; clear hA hD; refine o7p rfl ?_; intro K hK; gi_wp2; exact hK _ _ rfl (B7 _ _)
        · intro a' w' hA hC hD; obtain ⟨u24, s24, rfl⟩ := hD ⟨18, .data⟩ (by simp) rfl _ rfl; clear hA hD; refine o7p rfl ?_; intro K hK; gi_wp2; exact hK _ _ rfl (B7 _ _)
        · intro a' w' hA hC hD; have s2 := hA.to 2 (by kernel_rfl) rfl; obtain ⟨u25, s25, rfl⟩ := hD ⟨19, .guard⟩ (by simp) rfl _ rfl; clear hA hD; refine o7w rfl rfl s25 ?_; intro K hK
          refine opIn_load 51 _ rfl w.heap.size (by simp [Act.eval, s2]) 51 _ (0, 0) _ ((HS.out.below hC).blockAt 1 rfl) Tryz.underlying51 rfl (by kernel_rfl) (hK _ _ rfl (B7 _ _))
        · intro a' w' hA hC hD; obtain ⟨u26, s26, rfl⟩ := hD ⟨20, .data⟩ (by simp) rfl _ rfl; obtain ⟨u25, s25, rfl⟩ := hD ⟨19, .chain⟩ (by simp) rfl _ rfl; clear hA hD; refine o7w rfl rfl s25 ?_; intro K hK
          gi_wp2_with fail; refine (callsIn_wide.2 (op_to_any o _ _ _ _)).mono ?_; rintro e w2 ⟨rfl, hb⟩
          exact hK _ _ rfl hb
        · intro a' w' hA hC hD; have s3 := hA.to 3 (by kernel_rfl) rfl; obtain ⟨u25, s25, rfl⟩ := hD ⟨19, .guard⟩ (by simp) rfl _ rfl; clear hA hD; refine o7w rfl rfl s25 ?_; intro K hK
          refine opIn_load 51 _ rfl (w.heap.size + 1) (by simp [Act.eval, s3]) 51 _ (0, 0) _ ((HS.out.below hC).blockAt 0 rfl) Tryz.underlying51 rfl (by kernel_rfl) (hK _ _ rfl (B7 _ _))
        · intro a' w' hA hC hD; obtain ⟨u28, s28, rfl⟩ := hD ⟨22, .data⟩ (by simp) rfl _ rfl; obtain ⟨u25, s25, rfl⟩ := hD ⟨19, .guard⟩ (by simp) rfl _ rfl; clear hA hD; refine o7w rfl rfl s25 ?_; intro K hK
          gi_wp2_with fail; refine (callsIn_wide.2 (op_to_any p _ _ _ _)).mono ?_; rintro e w2 ⟨rfl, hb⟩
          exact hK _ _ rfl hb
        · intro a' w' hA hC hD; obtain ⟨u27, s27, rfl⟩ := hD ⟨21, .data⟩ (by simp) rfl _ rfl; obtain ⟨u29, s29, rfl⟩ := hD ⟨23, .data⟩ (by simp) rfl _ rfl; obtain ⟨u25, s25, rfl⟩ := hD ⟨19, .guard⟩ (by simp) rfl _ rfl
          have hr := E4.out
          clear hA hD; refine o7w rfl rfl s25 ?_; intro K hK; gi_wp2; exact hK _ _ rfl (B7 _ _)
        · intro a' w' hA hC hD; obtain ⟨u25, s25, rfl⟩ := hD ⟨19, .data⟩ (by simp) rfl _ rfl; obtain ⟨u30, s30, rfl⟩ := hD ⟨24, .data⟩ (by simp) rfl _ rfl; clear hA hD; refine o7p rfl ?_; intro K hK; gi_wp2; exact hK _ _ rfl (B7 _ _)
        · intro a' w' hA hC hD; obtain ⟨u31, s31, rfl⟩ := hD ⟨25, .data⟩ (by simp) rfl _ rfl; clear hA hD; refine o7p rfl ?_; intro K hK; gi_wp2; exact hK _ _ rfl (B7 _ _)
        · intro a' w' hA hC hD; have s2 := hA.to 2 (by kernel_rfl) rfl; obtain ⟨u32, s32, rfl⟩ := hD ⟨26, .guard⟩ (by simp) rfl _ rfl; clear hA hD; refine o7w rfl rfl s32 ?_; intro K hK; gi_wp2; exact hK _ _ rfl (B7 _ _)
        · intro a' w' hA hC hD; obtain ⟨u33, s33, rfl⟩ := hD ⟨27, .data⟩ (by simp) rfl _ rfl; obtain ⟨u32, s32, rfl⟩ := hD ⟨26, .guard⟩ (by simp) rfl _ rfl
          obtain ⟨-, -, -, -, -, -, -, -, q8, -⟩ := opCells ((HS.out.below hC).blockAt 1 rfl)
          clear hA hD; refine o7w rfl rfl s32 ?_; intro K hK; gi_wp2; exact hK _ _ rfl (B7 _ _)
        · intro a' w' hA hC hD; have s3 := hA.to 3 (by kernel_rfl) rfl; obtain ⟨u32, s32, rfl⟩ := hD ⟨26, .guard⟩ (by simp) rfl _ rfl; clear hA hD; refine o7w rfl rfl s32 ?_; intro K hK; gi_wp2; exact hK _ _ rfl (B7 _ _)
        · intro a' w' hA hC hD; obtain ⟨u35, s35, rfl⟩ := hD ⟨29, .data⟩ (by simp) rfl _ rfl; obtain ⟨u32, s32, rfl⟩ := hD ⟨26, .guard⟩ (by simp) rfl _ rfl
          obtain ⟨-, -, -, -, -, -, -, -, q8, -⟩ := opCells ((HS.out.below hC).blockAt 0 rfl)
          clear hA hD; refine o7w rfl rfl s32 ?_; intro K hK; gi_wp2; exact hK _ _ rfl (B7 _ _)
        · intro a' w' hA hC hD; obtain ⟨u34, s34, rfl⟩ := hD ⟨28, .data⟩ (by simp) rfl _ rfl; obtain ⟨u36, s36, rfl⟩ := hD ⟨30, .data⟩ (by simp) rfl _ rfl; obtain ⟨u32, s32, rfl⟩ := hD ⟨26, .guard⟩ (by simp) rfl _ rfl
          have hr := E5.out
          clear hA hD; refine o7w rfl rfl s32 ?_; intro K hK; gi_wp2; exact hK _ _ rfl (B7 _ _)
        · intro a' w' hA hC hD; obtain ⟨u32, s32, rfl⟩ := hD ⟨26, .data⟩ (by simp) rfl _ rfl; obtain ⟨u37, s37, rfl⟩ := hD ⟨31, .data⟩ (by simp) rfl _ rfl; clear hA hD; refine o7p rfl ?_; intro K hK; gi_wp2; exact hK _ _ rfl (B7 _ _)
        · intro a' w' hA hC hD; obtain ⟨u38, s38, rfl⟩ := hD ⟨32, .data⟩ (by simp) rfl _ rfl; clear hA hD; refine o7p rfl ?_; intro K hK; gi_wp2; exact hK _ _ rfl (B7 _ _)
        · intro a' w' hA hC hD; have s2 := hA.to 2 (by kernel_rfl) rfl; obtain ⟨u39, s39, rfl⟩ := hD ⟨33, .guard⟩ (by simp) rfl _ rfl; clear hA hD; refine o7w rfl rfl s39 ?_; intro K hK; gi_wp2; exact hK _ _ rfl (B7 _ _)
        · intro a' w' hA hC hD; obtain ⟨u40, s40, rfl⟩ := hD ⟨34, .data⟩ (by simp) rfl _ rfl; obtain ⟨u39, s39, rfl⟩ := hD ⟨33, .guard⟩ (by simp) rfl _ rfl
          obtain ⟨-, -, -, -, -, -, -, -, -, q9, q10, q11, q12, -⟩ := opCells ((HS.out.below hC).blockAt 1 rfl)
          clear hA hD; refine o7w rfl rfl s39 ?_; intro K hK; gi_wp2; exact hK _ _ rfl (B7 _ _)
        · intro a' w' hA hC hD; have s3 := hA.to 3 (by kernel_rfl) rfl; obtain ⟨u39, s39, rfl⟩ := hD ⟨33, .guard⟩ (by simp) rfl _ rfl; clear hA hD; refine o7w rfl rfl s39 ?_; intro K hK; gi_wp2; exact hK _ _ rfl (B7 _ _)
        · intro a' w' hA hC hD; obtain ⟨u42, s42, rfl⟩ := hD ⟨36, .data⟩ (by simp) rfl _ rfl; obtain ⟨u39, s39, rfl⟩ := hD ⟨33, .guard⟩ (by simp) rfl _ rfl
          obtain ⟨-, -, -, -, -, -, -, -, -, q9, q10, q11, q12, -⟩ := opCells ((HS.out.below hC).blockAt 0 rfl)
          clear hA hD; refine o7w rfl rfl s39 ?_; intro K hK; gi_wp2; exact hK _ _ rfl (B7 _ _)
        · intro a' w' hA hC hD; obtain ⟨u41, s41, rfl⟩ := hD ⟨35, .data⟩ (by simp) rfl _ rfl; obtain ⟨u43, s43, rfl⟩ := hD ⟨37, .data⟩ (by simp) rfl _ rfl; obtain ⟨u39, s39, rfl⟩ := hD ⟨33, .guard⟩ (by simp) rfl _ rfl
          have hr := E6.out
          clear hA hD; refine o7w rfl rfl s39 ?_; intro K hK; gi_wp2; exact hK _ _ rfl (B7 _ _)
        · intro a' w' hA hC hD; obtain ⟨u39, s39, rfl⟩ := hD ⟨33, .data⟩ (by simp) rfl _ rfl; obtain ⟨u44, s44, rfl⟩ := hD ⟨38, .data⟩ (by simp) rfl _ rfl; clear hA hD; refine o7p rfl ?_; intro K hK; gi_wp2; exact hK _ _ rfl (B7 _ _)
        · intro a' w' hA hC hD; obtain ⟨u45, s45, rfl⟩ := hD ⟨39, .data⟩ (by simp) rfl _ rfl; clear hA hD; refine o7p rfl ?_; intro K hK; gi_wp2; exact hK _ _ rfl (B7 _ _)
        · intro a' w' hA hC hD; have s2 := hA.to 2 (by kernel_rfl) rfl; obtain ⟨u46, s46, rfl⟩ := hD ⟨40, .guard⟩ (by simp) rfl _ rfl; clear hA hD
          exact o7s rfl rfl s46 rfl
        · intro a' w' hA hC hD; obtain ⟨u47, s47, r47⟩ := hD ⟨41, .data⟩ (by simp) rfl _ rfl; replace r47 : u47 = undef := r47; subst r47; obtain ⟨u46, s46, rfl⟩ := hD ⟨40, .guard⟩ (by simp) rfl _ rfl; clear hA hD
          exact o7s rfl rfl s46 rfl
        · intro a' w' hA hC hD; have s3 := hA.to 3 (by kernel_rfl) rfl; obtain ⟨u46, s46, rfl⟩ := hD ⟨40, .guard⟩ (by simp) rfl _ rfl; clear hA hD
          exact o7s rfl rfl s46 rfl
        · intro a' w' hA hC hD; obtain ⟨u49, s49, r49⟩ := hD ⟨43, .data⟩ (by simp) rfl _ rfl; replace r49 : u49 = undef := r49; subst r49; obtain ⟨u46, s46, rfl⟩ := hD ⟨40, .guard⟩ (by simp) rfl _ rfl; clear hA hD
          exact o7s rfl rfl s46 rfl
        · intro a' w' hA hC hD; obtain ⟨u48, s48, r48⟩ := hD ⟨42, .data⟩ (by simp) rfl _ rfl; replace r48 : u48 = undef := r48; subst r48; obtain ⟨u50, s50, r50⟩ := hD ⟨44, .data⟩ (by simp) rfl _ rfl; replace r50 : u50 = undef := r50; subst r50; obtain ⟨u46, s46, rfl⟩ := hD ⟨40, .guard⟩ (by simp) rfl _ rfl; clear hA hD
          exact o7s rfl rfl s46 rfl
        · intro a' w' hA hC hD; obtain ⟨u46, s46, rfl⟩ := hD ⟨40, .data⟩ (by simp) rfl _ rfl; obtain ⟨u51, s51, r51⟩ := hD ⟨45, .data⟩ (by simp) rfl _ rfl; replace r51 : u51 = undef := r51; subst r51; clear hA hD; refine o7p rfl ?_; intro K hK; gi_wp2; exact hK _ _ rfl (B7 _ _)
       case hend =>
        intro w3 hC
        simp only [EndFrom, eqv, forall_eq, Act.put, List.length_cons, List.length_nil, List.drop_succ_cons, List.drop_zero, Nat.reduceAdd, List.setIfInBounds_toArray, List.set_cons_succ, List.set_cons_zero]
        have HS := H7 (HS.out.below hC)
        clear hC
        gi_wp2
        go_wp2_with fail
        go_ret
        exact ⟨rfl, HS.out.low⟩
      | true =>
       cases b7 with
       | false =>
        refine (wpIn_wide (n := 0)).1 ?_
        apply w7v 47 (Rl := [(eqv _), (eqv _), (eqv _), (eqv _), (eqv _), (eqv _), (eqv _), (eqv _), (eqv _), (eqv _), (eqv _), (eqv _), (eqv _), (eqv _), (eqv _), (eqv _), (eqv _), (eqv _), (eqv _), (eqv _), (eqv _), (eqv _), (eqv _), (eqv _), (eqv _), (eqv _), (eqv _), (eqv _), (eqv _), (eqv _), (eqv _), (eqv _), (eqv _), (eqv _), (eqv _), (eqv _), (eqv _), (eqv _), (eqv _), (eqv _), (eqv _), (eqv _), (eqv _), (eqv _), (eqv _), (eqv _), (eqv _)]) (C := (fun x y => Below x.heap.size x y))
        case hm => kernel_rfl
        case hk => rfl
        case hCr => exact (fun _ => B7 _ _)
        case hCt => intro _ _ _; exact (fun h k => g7t h k)
        case hst => repeat (first | exact trivial | refine ⟨fun _ _ _ _ h => h, ?_⟩)
        case hfo => kernel_rfl
        case ht => kernel_rfl
        case hC0 => exact (g7d _)
        case hsteps =>
         refine ⟨?_, ?_, ?_, ?_, ?_, ?_, ?_, ?_, ?_, ?_, ?_, ?_, ?_, ?_, ?_, ?_, ?_, ?_, ?_, ?_, ?_, ?_, ?_, ?_, ?_, ?_, ?_, ?_, ?_, ?_, ?_, ?_, ?_, ?_, ?_, ?_, ?_, ?_, ?_, ?_, ?_, ?_, ?_, ?_, ?_, ?_, ?_, trivial⟩
         · intro a' w' hA hC hD; have s2 := hA.to 2 (by kernel_rfl) rfl; clear hA hD; refine o7p rfl ?_; intro K hK; gi_wp2; exact hK _ _ rfl (B7 _ _)
         · intro a' w' hA hC hD; obtain ⟨u6, s6, rfl⟩ := hD ⟨0, .data⟩ (by simp) rfl _ rfl
           obtain ⟨q0, q1, q2, -⟩ := opCells ((HS.out.below hC).blockAt 1 rfl)
           clear hA hD; refine o7p rfl ?_; intro K hK; gi_wp2; exact hK _ _ rfl (B7 _ _)
         · intro a' w' hA hC hD; have s3 := hA.to 3 (by kernel_rfl) rfl; clear hA hD; refine o7p rfl ?_; intro K hK; gi_wp2; exact hK _ _ rfl (B7 _ _)
         · intro a' w' hA hC hD; obtain ⟨u8, s8, rfl⟩ := hD ⟨2, .data⟩ (by simp) rfl _ rfl
           obtain ⟨q0, q1, q2, -⟩ := opCells ((HS.out.below hC).blockAt 0 rfl)
           clear hA hD; refine o7p rfl ?_; intro K hK; gi_wp2; exact hK _ _ rfl (B7 _ _)
         · intro a' w' hA hC hD; obtain ⟨u7, s7, rfl⟩ := hD ⟨1, .data⟩ (by simp) rfl _ rfl; obtain ⟨u9, s9, rfl⟩ := hD ⟨3, .data⟩ (by simp) rfl _ rfl
           have hr := E1.out
           clear hA hD; refine o7p rfl ?_; intro K hK; gi_wp2; exact hK _ _ rfl (B7 _ _)
         · intro a' w' hA hC hD; obtain ⟨u10, s10, rfl⟩ := hD ⟨4, .data⟩ (by simp) rfl _ rfl; clear hA hD; refine o7p rfl ?_; intro K hK; gi_wp2; exact hK _ _ rfl (B7 _ _)
         · intro a' w' hA hC hD; have s2 := hA.to 2 (by kernel_rfl) rfl; obtain ⟨u11, s11, rfl⟩ := hD ⟨5, .guard⟩ (by simp) rfl _ rfl; clear hA hD; refine o7w rfl rfl s11 ?_; intro K hK; gi_wp2; exact hK _ _ rfl (B7 _ _)
         · intro a' w' hA hC hD; obtain ⟨u12, s12, rfl⟩ := hD ⟨6, .data⟩ (by simp) rfl _ rfl; obtain ⟨u11, s11, rfl⟩ := hD ⟨5, .guard⟩ (by simp) rfl _ rfl
           obtain ⟨-, -, -, q3, -⟩ := opCells ((HS.out.below hC).blockAt 1 rfl)
           clear hA hD; refine o7w rfl rfl s11 ?_; intro K hK; gi_wp2; exact hK _ _ rfl (B7 _ _)
         · intro a' w' hA hC hD; have s3 := hA.to 3 (by kernel_rfl) rfl; obtain ⟨u11, s11, rfl⟩ := hD ⟨5, .guard⟩ (by simp) rfl _ rfl; clear hA hD; refine o7w rfl rfl s11 ?_; intro K hK; gi_wp2; exact hK _ _ rfl (B7 _ _)
         · intro a' w' hA hC hD; obtain ⟨u14, s14, rfl⟩ := hD ⟨8, .data⟩ (by simp) rfl _ rfl; obtain ⟨u11, s11, rfl⟩ := hD ⟨5, .guard⟩ (by simp) rfl _ rfl
           obtain ⟨-, -, -, q3, -⟩ := opCells ((HS.out.below hC).blockAt 0 rfl)
           clear hA hD; refine o7w rfl rfl s11 ?_; intro K hK; gi_wp2; exact hK _ _ rfl (B7 _ _)
         · intro a' w' hA hC hD; obtain ⟨u13, s13, rfl⟩ := hD ⟨7, .data⟩ (by simp) rfl _ rfl; obtain ⟨u15, s15, rfl⟩ := hD ⟨9, .data⟩ (by simp) rfl _ rfl; obtain ⟨u11, s11, rfl⟩ := hD ⟨5, .guard⟩ (by simp) rfl _ rfl
           have hr := E2.out
           clear hA hD; refine o7w rfl rfl s11 ?_; intro K hK; gi_wp2; exact hK _ _ rfl (B7 _ _)
         · intro a' w' hA hC hD; obtain ⟨u11, s11, rfl⟩ := hD ⟨5, .data⟩ (by simp) rfl _ rfl; obtain ⟨u16, s16, rfl⟩ := hD ⟨10, .data⟩ (by simp) rfl _ rfl; clear hA hD; refine o7p rfl ?_; intro K hK; gi_wp2; exact hK _ _ rfl (B7 _ _)
         · intro a' w' hA hC hD; obtain ⟨u17, s17, rfl⟩ := hD ⟨11, .data⟩ (by simp) rfl _ rfl; clear hA hD; refine o7p rfl ?_; intro K hK; gi_wp2; exact hK _ _ rfl (B7 _ _)
         · intro a' w' hA hC hD; have s2 := hA.to 2 (by kernel_rfl) rfl; obtain ⟨u18, s18, rfl⟩ := hD ⟨12, .guard⟩ (by simp) rfl _ rfl; clear hA hD; refine o7w rfl rfl s18 ?_; intro K hK
           refine opIn_load 51 _ rfl w.heap.size (by simp [Act.eval, s2]) 51 _ (0, 0) _ ((HS.out.below hC).blockAt 1 rfl) Tryz.underlying51 rfl (by kernel_rfl) (hK _ _ rfl (B7 _ _))
         · intro a' w' hA hC hD; obtain ⟨u19, s19, rfl⟩ := hD ⟨13, .data⟩ (by simp) rfl _ rfl; obtain ⟨u18, s18, rfl⟩ := hD ⟨12, .chain⟩ (by simp) rfl _ rfl; clear hA hD; refine o7w rfl rfl s18 ?_; intro K hK
           gi_wp2_with fail; refine (callsIn_wide.2 (op_from_any o _ _ _ _)).mono ?_; rintro e w2 ⟨rfl, hb⟩
           exact hK _ _ rfl hb
         · intro a' w' hA hC hD; have s3 := hA.to 3 (by kernel_rfl) rfl; obtain ⟨u18, s18, rfl⟩ := hD ⟨12, .guard⟩ (by simp) rfl _ rfl; clear hA hD; refine o7w rfl rfl s18 ?_; intro K hK
           refine opIn_load 51 _ rfl (w.heap.size + 1) (by simp [Act.eval, s3]) 51 _ (0, 0) _ ((HS.out.below hC).blockAt 0 rfl) Tryz.underlying51 rfl (by kernel_rfl) (hK _ _ rfl (B7 _ _))
         · intro a' w' hA hC hD; obtain ⟨u21, s21, rfl⟩ := hD ⟨15, .data⟩ (by simp) rfl _ rfl; obtain ⟨u18, s18, rfl⟩ := hD ⟨12, .guard⟩ (by simp) rfl _ rfl; clear hA hD; refine o7w rfl rfl s18 ?_; intro K hK
           gi_wp2_with fail; refine (callsIn_wide.2 (op_from_any p _ _ _ _)).mono ?_; rintro e w2 ⟨rfl, hb⟩
           exact hK _ _ rfl hb
         · intro a' w' hA hC hD; obtain ⟨u20, s20, rfl⟩ := hD ⟨14, .data⟩ (by simp) rfl _ rfl; obtain ⟨u22, s22, rfl⟩ := hD ⟨16, .data⟩ (by simp) rfl _ rfl; obtain ⟨u18, s18, rfl⟩ := hD ⟨12, .guard⟩ (by simp) rfl _ rfl
           have hr := E3.out
           clear hA hD; refine o7w rfl rfl s18 ?_; intro K hK; gi_wp2; exact hK _ _ rfl (B7 _ _)
         · intro a' w' hA hC hD; obtain ⟨u18, s18, rfl⟩ := hD ⟨12, .data⟩ (by simp) rfl _ rfl; obtain ⟨u23, s23, rfl⟩ := hD ⟨17, .data⟩ (by simp) rfl _ rfl; clear hA hD; refine o7p rfl ?_; intro K hK; gi_wp2; exact hK _ _ rfl (B7 _ _)
         · intro a' w' hA hC hD; obtain ⟨u24, s24, rfl⟩ := hD ⟨18, .data⟩ (by simp) rfl _ rfl; clear hA hD; refine o7p rfl ?_; intro K hK; gi_wp2; exact hK _ _ rfl (B7 _ _)
         · intro a' w' hA hC hD; have s2 := hA.to 2 (by kernel_rfl) rfl; obtain ⟨u25, s25, rfl⟩ := hD ⟨19, .guard⟩ (by simp) rfl _ rfl; clear hA hD; refine o7w rfl rfl s25 ?_; intro K hK
           refine opIn_load 51 _ rfl w.heap.size (by simp [Act.eval, s2]) 51 _ (0, 0) _ ((HS.out.below hC).blockAt 1 rfl) Tryz.underlying51 rfl (by kernel_rfl) (hK _ _ rfl (B7 _ _))
         · intro a' w' hA hC hD; obtain ⟨u26, s26, rfl⟩ := hD ⟨20, .data⟩ (by simp) rfl _ rfl; obtain ⟨u25, s25, rfl⟩ := hD ⟨19, .chain⟩ (by simp) rfl _ rfl; clear hA hD; refine o7w rfl rfl s25 ?_; intro K hK
           gi_wp2_with fail; refine (callsIn_wide.2 (op_to_any o _ _ _ _)).mono ?_; rintro e w2 ⟨rfl, hb⟩
           exact hK _ _ rfl hb
         · intro a' w' hA hC hD; have s3 := hA.to 3 (by kernel_rfl) rfl; obtain ⟨u25, s25, rfl⟩ := hD ⟨19, .guard⟩ (by simp) rfl _ rfl; clear hA hD; refine o7w rfl rfl s25 ?_; intro K hK
           refine opIn_load 51 _ rfl (w.heap.size + 1) (by simp [Act.eval, s3]) 51 _ (0, 0) _ ((HS.out.below hC).blockAt 0 rfl) Tryz.underlying51 rfl (by kernel_rfl) (hK _ _ rfl (B7 _ _))
         · intro a' w' hA hC hD; obtain ⟨u28, s28, rfl⟩ := hD ⟨22, .data⟩ (by simp) rfl _ rfl; obtain ⟨u25, s25, rfl⟩ := hD ⟨19, .guard⟩ (by simp) rfl _ rfl; clear hA hD; refine o7w rfl rfl s25 ?_; intro K hK
           gi_wp2_with fail; refine (callsIn_wide.2 (op_to_any p _ _ _ _)).mono ?_; rintro e w2 ⟨rfl, hb⟩
           exact hK _ _ rfl hb
         · intro a' w' hA hC hD; obtain ⟨u27, s27, rfl⟩ := hD ⟨21, .data⟩ (by simp) rfl _ rfl; obtain ⟨u29, s29, rfl⟩ := hD ⟨23, .data⟩ (by simp) rfl _ rfl; obtain ⟨u25, s25, rfl⟩ := hD ⟨19, .guard⟩ (by simp) rfl _ rfl
           have hr := E4.out
           clear hA hD; refine o7w rfl rfl s25 ?_; intro K hK; gi_wp2; exact hK _ _ rfl (B7 _ _)
         · intro a' w' hA hC hD; obtain ⟨u25, s25, rfl⟩ := hD ⟨19, .data⟩ (by simp) rfl _ rfl; obtain ⟨u30, s30, rfl⟩ := hD ⟨24, .data⟩ (by simp) rfl _ rfl; clear hA hD; refine o7p rfl ?_; intro K hK; gi_wp2; exact hK _ _ rfl (B7 _ _)
         · intro a' w' hA hC hD; obtain ⟨u31, s31, rfl⟩ := hD ⟨25, .data⟩ (by simp) rfl _ rfl; clear hA hD; refine o7p rfl ?_; intro K hK; gi_wp2; exact hK _ _ rfl (B7 _ _)
         · intro a' w' hA hC hD; have s2 := hA.to 2 (by kernel_rfl) rfl; obtain ⟨u32, s32, rfl⟩ := hD ⟨26, .guard⟩ (by simp) rfl _ rfl; clear hA hD; refine o7w rfl rfl s32 ?_; intro K hK; gi_wp2; exact hK _ _ rfl (B7 _ _)
         · intro a' w' hA hC hD; obtain ⟨u33, s33, rfl⟩ := hD ⟨27, .data⟩ (by simp) rfl _ rfl; obtain ⟨u32, s32, rfl⟩ := hD ⟨26, .guard⟩ (by simp) rfl _ rfl
           obtain ⟨-, -, -, -, -, -, -, -, q8, -⟩ := opCells ((HS.out.below hC).blockAt 1 rfl)
           clear hA hD; refine o7w rfl rfl s32 ?_; intro K hK; gi_wp2; exact hK _ _ rfl (B7 _ _)
         · intro a' w' hA hC hD; have s3 := hA.to 3 (by kernel_rfl) rfl; obtain ⟨u32, s32, rfl⟩ := hD ⟨26, .guard⟩ (by simp) rfl _ rfl; clear hA hD; refine o7w rfl rfl s32 ?_; intro K hK; gi_wp2; exact hK _ _ rfl (B7 _ _)
         · intro a' w' hA hC hD; obtain ⟨u35, s35, rfl⟩ := hD ⟨29, .data⟩ (by simp) rfl _ rfl; obtain ⟨u32, s32, rfl⟩ := hD ⟨26, .guard⟩ (by simp) rfl _ rfl
           obtain ⟨-, -, -, -, -, -, -, -, q8, -⟩ := opCells ((HS.out.below hC).blockAt 0 rfl)
           clear hA hD; refine o7w rfl rfl s32 ?_; intro K hK; gi_wp2; exact hK _ _ rfl (B7 _ _)
         · intro a' w' hA hC hD; obtain ⟨u34, s34, rfl⟩ := hD ⟨28, .data⟩ (by simp) rfl _ rfl; obtain ⟨u36, s36, rfl⟩ := hD ⟨30, .data⟩ (by simp) rfl _ rfl; obtain ⟨u32, s32, rfl⟩ := hD ⟨26, .guard⟩ (by simp) rfl _ rfl
           have hr := E5.out
           clear hA hD; refine o7w rfl rfl s32 ?_; intro K hK; gi_wp2; exact hK _ _ rfl (B7 _ _)
         · intro a' w' hA hC hD; obtain ⟨u32, s32, rfl⟩ := hD ⟨26, .data⟩ (by simp) rfl _ rfl; obtain ⟨u37, s37, rfl⟩ := hD ⟨31, .data⟩ (by simp) rfl _ rfl; clear hA hD; refine o7p rfl ?_; intro K hK; gi_wp2; exact hK _ _ rfl (B7 _ _)
         · intro a' w' hA hC hD; obtain ⟨u38, s38, rfl⟩ := hD ⟨32, .data⟩ (by simp) rfl _ rfl; clear hA hD; refine o7p rfl ?_; intro K hK; gi_wp2; exact hK _ _ rfl (B7 _ _)
         · intro a' w' hA hC hD; have s2 := hA.to 2 (by kernel_rfl) rfl; obtain ⟨u39, s39, rfl⟩ := hD ⟨33, .guard⟩ (by simp) rfl _ rfl; clear hA hD; refine o7w rfl rfl s39 ?_; intro K hK; gi_wp2; exact hK _ _ rfl (B7 _ _)
         · intro a' w' hA hC hD; obtain ⟨u40, s40, rfl⟩ := hD ⟨34, .data⟩ (by simp) rfl _ rfl; obtain ⟨u39, s39, rfl⟩ := hD ⟨33, .guard⟩ (by simp) rfl _ rfl
           obtain ⟨-, -, -, -, -, -, -, -, -, q9, q10, q11, q12, -⟩ := opCells ((HS.out.below hC).blockAt 1 rfl)
           clear hA hD; refine o7w rfl rfl s39 ?_; intro K hK; gi_wp2; exact hK _ _ rfl (B7 _ _)
         · intro a' w' hA hC hD; have s3 := hA.to 3 (by kernel_rfl) rfl; obtain ⟨u39, s39, rfl⟩ := hD ⟨33, .guard⟩ (by simp) rfl _ rfl; clear hA hD; refine o7w rfl rfl s39 ?_; intro K hK; gi_wp2; exact hK _ _ rfl (B7 _ _)
         · intro a' w' hA hC hD; obtain ⟨u42, s42, rfl⟩ := hD ⟨36, .data⟩ (by simp) rfl _ rfl; obtain ⟨u39, s39, rfl⟩ := hD ⟨33, .guard⟩ (by simp) rfl _ rfl
           obtain ⟨-, -, -, -, -, -, -, -, -, q9, q10, q11, q12, -⟩ := opCells ((HS.out.below hC).blockAt 0 rfl)
           clear hA hD; refine o7w rfl rfl s39 ?_; intro K hK; gi_wp2; exact hK _ _ rfl (B7 _ _)
         · intro a' w' hA hC hD; obtain ⟨u41, s41, rfl⟩ := hD ⟨35, .data⟩ (by simp) rfl _ rfl; obtain ⟨u43, s43, rfl⟩ := hD ⟨37, .data⟩ (by simp) rfl _ rfl; obtain ⟨u39, s39, rfl⟩ := hD ⟨33, .guard⟩ (by simp) rfl _ rfl
           have hr := E6.out
           clear hA hD; refine o7w rfl rfl s39 ?_; intro K hK; gi_wp2; exact hK _ _ rfl (B7 _ _)
         · intro a' w' hA hC hD; obtain ⟨u39, s39, rfl⟩ := hD ⟨33, .data⟩ (by simp) rfl _ rfl; obtain ⟨u44, s44, rfl⟩ := hD ⟨38, .data⟩ (by simp) rfl _ rfl; clear hA hD; refine o7p rfl ?_; intro K hK; gi_wp2; exact hK _ _ rfl (B7 _ _)
         · intro a' w' hA hC hD; obtain ⟨u45, s45, rfl⟩ := hD ⟨39, .data⟩ (by simp) rfl _ rfl; clear hA hD; refine o7p rfl ?_; intro K hK; gi_wp2; exact hK _ _ rfl (B7 _ _)
         · intro a' w' hA hC hD; have s2 := hA.to 2 (by kernel_rfl) rfl; obtain ⟨u46, s46, rfl⟩ := hD ⟨40, .guard⟩ (by simp) rfl _ rfl; clear hA hD; refine o7w rfl rfl s46 ?_; intro K hK; gi_wp2; exact hK _ _ rfl (B7 _ _)
         · intro a' w' hA hC hD; obtain ⟨u47, s47, rfl⟩ := hD ⟨41, .data⟩ (by simp) rfl _ rfl; obtain ⟨u46, s46, rfl⟩ := hD ⟨40, .guard⟩ (by simp) rfl _ rfl
           obtain ⟨-, -, -, -, -, -, -, -, -, -, -, -, -, -, -, -, q16, q17, q18⟩ := opCells ((HS.out.below hC).blockAt 1 rfl)
           clear hA hD; refine o7w rfl rfl s46 ?_; intro K hK; gi_wp2; exact hK _ _ rfl (B7 _ _)
         · intro a' w' hA hC hD; have s3 := hA.to 3 (by kernel_rfl) rfl; obtain ⟨u46, s46, rfl⟩ := hD ⟨40, .guard⟩ (by simp) rfl _ rfl; clear hA hD; refine o7w rfl rfl s46 ?_; intro K hK; gi_wp2; exact hK _ _ rfl (B7 _ _)
         · intro a' w' hA hC hD; obtain ⟨u49, s49, rfl⟩ := hD ⟨43, .data⟩ (by simp) rfl _ rfl; obtain ⟨u46, s46, rfl⟩ := hD ⟨40, .guard⟩ (by simp) rfl _ rfl
           obtain ⟨-, -, -, -, -, -, -, -, -, -, -, -, -, -, -, -, q16, q17, q18⟩ := opCells ((HS.out.below hC).blockAt 0 rfl)
           clear hA hD; refine o7w rfl rfl s46 ?_; intro K hK; gi_wp2; exact hK _ _ rfl (B7 _ _)
         · intro a' w' hA hC hD; obtain ⟨u48, s48, rfl⟩ := hD ⟨42, .data⟩ (by simp) rfl _ rfl; obtain ⟨u50, s50, rfl⟩ := hD ⟨44, .data⟩ (by simp) rfl _ rfl; obtain ⟨u46, s46, rfl⟩ := hD ⟨40, .guard⟩ (by simp) rfl _ rfl
           have hr := E7.out
           clear hA hD; refine o7w rfl rfl s46 ?_; intro K hK; gi_wp2; exact hK _ _ rfl (B7 _ _)
         · intro a' w' hA hC hD; obtain ⟨u46, s46, rfl⟩ := hD ⟨40, .data⟩ (by simp) rfl _ rfl; obtain ⟨u51, s51, rfl⟩ := hD ⟨45, .data⟩ (by simp) rfl _ rfl; clear hA hD; refine o7p rfl ?_; intro K hK; gi_wp2; exact hK _ _ rfl (B7 _ _)
        case hend =>
         intro w3 hC
         simp only [EndFrom, eqv, forall_eq, Act.put, List.length_cons, List.length_nil, List.drop_succ_cons, List.drop_zero, Nat.reduceAdd, List.setIfInBounds_toArray, List.set_cons_succ, List.set_cons_zero]
         have HS := H7 (HS.out.below hC)
         clear hC
         gi_wp2
         go_wp2_with fail
         go_ret
         exact ⟨rfl, HS.out.low⟩
       | true =>
        refine (wpIn_wide (n := 0)).1 ?_
        apply w7v 47 (Rl := [(eqv _), (eqv _), (eqv _), (eqv _), (eqv _), (eqv _), (eqv _), (eqv _), (eqv _), (eqv _), (eqv _), (eqv _), (eqv _), (eqv _), (eqv _), (eqv _), (eqv _), (eqv _), (eqv _), (eqv _), (eqv _), (eqv _), (eqv _), (eqv _), (eqv _), (eqv _), (eqv _), (eqv _), (eqv _), (eqv _), (eqv _), (eqv _), (eqv _), (eqv _), (eqv _), (eqv _), (eqv _), (eqv _), (eqv _), (eqv _), (eqv _), (eqv _), (eqv _), (eqv _), (eqv _), (eqv _), (eqv _)]) (C := (fun x y => Below x.heap.size x y))
        case hm => kernel_rfl
        case hk => rfl
        case hCr => exact (fun _ => B7 _ _)
        case hCt => intro _ _ _; exact (fun h k => g7t h k)
        case hst => repeat (first | exact trivial | refine ⟨fun _ _ _ _ h => h, ?_⟩)
        case hfo => kernel_rfl
        case ht => kernel_rfl
        case hC0 => exact (g7d _)
        case hsteps =>
         refine ⟨?_, ?_, ?_, ?_, ?_, ?_, ?_, ?_, ?_, ?_, ?_, ?_, ?_, ?_, ?_, ?_, ?_, ?_, ?_, ?_, ?_, ?_, ?_, ?_, ?_, ?_, ?_, ?_, ?_, ?_, ?_, ?_, ?_, ?_, ?_, ?_, ?_, ?_, ?_, ?_, ?_, ?_, ?_, ?_, ?_, ?_, ?_, trivial⟩
         · intro a' w' hA hC hD; have s2 := hA.to 2 (by kernel_rfl) rfl; clear hA hD; refine o7p rfl ?_; intro K hK; gi_wp2; exact hK _ _ rfl (B7 _ _)
         · intro a' w' hA hC hD; obtain ⟨u6, s6, rfl⟩ := hD ⟨0, .data⟩ (by simp) rfl _ rfl
           obtain ⟨q0, q1, q2, -⟩ := opCells ((HS.out.below hC).blockAt 1 rfl)
           clear hA hD; refine o7p rfl ?_; intro K hK; gi_wp2; exact hK _ _ rfl (B7 _ _)
         · intro a' w' hA hC hD; have s3 := hA.to 3 (by kernel_rfl) rfl; clear hA hD; refine o7p rfl ?_; intro K hK; gi_wp2; exact hK _ _ rfl (B7 _ _)
         · intro a' w' hA hC hD; obtain ⟨u8, s8, rfl⟩ := hD ⟨2, .data⟩ (by simp) rfl _ rfl
           obtain ⟨q0, q1, q2, -⟩ := opCells ((HS.out.below hC).blockAt 0 rfl)
           clear hA hD; refine o7p rfl ?_; intro K hK; gi_wp2; exact hK _ _ rfl (B7 _ _)
         · intro a' w' hA hC hD; obtain ⟨u7, s7, rfl⟩ := hD ⟨1, .data⟩ (by simp) rfl _ rfl; obtain ⟨u9, s9, rfl⟩ := hD ⟨3, .data⟩ (by simp) rfl _ rfl
           have hr := E1.out
           clear hA hD; refine o7p rfl ?_; intro K hK; gi_wp2; exact hK _ _ rfl (B7 _ _)
         · intro a' w' hA hC hD; obtain ⟨u10, s10, rfl⟩ := hD ⟨4, .data⟩ (by simp) rfl _ rfl; clear hA hD; refine o7p rfl ?_; intro K hK; gi_wp2; exact hK _ _ rfl (B7 _ _)
         · intro a' w' hA hC hD; have s2 := hA.to 2 (by kernel_rfl) rfl; obtain ⟨u11, s11, rfl⟩ := hD ⟨5, .guard⟩ (by simp) rfl _ rfl; clear hA hD; refine o7w rfl rfl s11 ?_; intro K hK; gi_wp2; exact hK _ _ rfl (B7 _ _)
         · intro a' w' hA hC hD; obtain ⟨u12, s12, rfl⟩ := hD ⟨6, .data⟩ (by simp) rfl _ rfl; obtain ⟨u11, s11, rfl⟩ := hD ⟨5, .guard⟩ (by simp) rfl _ rfl
           obtain ⟨-, -, -, q3, -⟩ := opCells ((HS.out.below hC).blockAt 1 rfl)
           clear hA hD; refine o7w rfl rfl s11 ?_; intro K hK; gi_wp2; exact hK _ _ rfl (B7 _ _)
         · intro a' w' hA hC hD; have s3 := hA.to 3 (by kernel_rfl) rfl; obtain ⟨u11, s11, rfl⟩ := hD ⟨5, .guard⟩ (by simp) rfl _ rfl; clear hA hD; refine o7w rfl rfl s11 ?_; intro K hK; gi_wp2; exact hK _ _ rfl (B7 _ _)
         · intro a' w' hA hC hD; obtain ⟨u14, s14, rfl⟩ := hD ⟨8, .data⟩ (by simp) rfl _ rfl; obtain ⟨u11, s11, rfl⟩ := hD ⟨5, .guard⟩ (by simp) rfl _ rfl
           obtain ⟨-, -, -, q3, -⟩ := opCells ((HS.out.below hC).blockAt 0 rfl)
           clear hA hD; refine o7w rfl rfl s11 ?_; intro K hK; gi_wp2; exact hK _ _ rfl (B7 _ _)
         · intro a' w' hA hC hD; obtain ⟨u13, s13, rfl⟩ := hD ⟨7, .data⟩ (by simp) rfl _ rfl; obtain ⟨u15, s15, rfl⟩ := hD ⟨9, .data⟩ (by simp) rfl _ rfl; obtain ⟨u11, s11, rfl⟩ := hD ⟨5, .guard⟩ (by simp) rfl _ rfl
           have hr := E2.out
           clear hA hD; refine o7w rfl rfl s11 ?_; intro K hK; gi_wp2; exact hK _ _ rfl (B7 _ _)
         · intro a' w' hA hC hD; obtain ⟨u11, s11, rfl⟩ := hD ⟨5, .data⟩ (by simp) rfl _ rfl; obtain ⟨u16, s16, rfl⟩ := hD ⟨10, .data⟩ (by simp) rfl _ rfl; clear hA hD; refine o7p rfl ?_; intro K hK; gi_wp2; exact hK _ _ rfl (B7 _ _)
         · intro a' w' hA hC hD; obtain ⟨u17, s17, rfl⟩ := hD ⟨11, .data⟩ (by simp) rfl _ rfl; clear hA hD; refine o7p rfl ?_; intro K hK; gi_wp2; exact hK _ _ rfl (B7 _ _)
         · intro a' w' hA hC hD; have s2 := hA.to 2 (by kernel_rfl) rfl; obtain ⟨u18, s18, rfl⟩ := hD ⟨12, .guard⟩ (by simp) rfl _ rfl; clear hA hD; refine o7w rfl rfl s18 ?_; intro K hK
           refine opIn_load 51 _ rfl w.heap.size (by simp [Act.eval, s2]) 51 _ (0, 0) _ ((HS.out.below hC).blockAt 1 rfl) Tryz.underlying51 rfl (by kernel_rfl) (hK _ _ rfl (B7 _ _))
         · intro a' w' hA hC hD; obtain ⟨u19, s19, rfl⟩ := hD ⟨13, .data⟩ (by simp) rfl _ rfl; obtain ⟨u18, s18, rfl⟩ := hD ⟨12, .chain⟩ (by simp) rfl _ rfl; clear hA hD; refine o7w rfl rfl s18 ?_; intro K hK
           gi_wp2_with fail; refine (callsIn_wide.2 (op_from_any o _ _ _ _)).mono ?_; rintro e w2 ⟨rfl, hb⟩
           exact hK _ _ rfl hb
         · intro a' w' hA hC hD; have s3 := hA.to 3 (by kernel_rfl) rfl; obtain ⟨u18, s18, rfl⟩ := hD ⟨12, .guard⟩ (by simp) rfl _ rfl; clear hA hD; refine o7w rfl rfl s18 ?_; intro K hK
           refine opIn_load 51 _ rfl (w.heap.size + 1) (by simp [Act.eval, s3]) 51 _ (0, 0) _ ((HS.out.below hC).blockAt 0 rfl) Tryz.underlying51 rfl (by kernel_rfl) (hK _ _ rfl (B7 _ _))
         · intro a' w' hA hC hD; obtain ⟨u21, s21, rfl⟩ := hD ⟨15, .data⟩ (by simp) rfl _ rfl; obtain ⟨u18, s18, rfl⟩ := hD ⟨12, .guard⟩ (by simp) rfl _ rfl; clear hA hD; refine o7w rfl rfl s18 ?_; intro K hK
           gi_wp2_with fail; refine (callsIn_wide.2 (op_from_any p _ _ _ _)).mono ?_; rintro e w2 ⟨rfl, hb⟩
           exact hK _ _ rfl hb
         · intro a' w' hA hC hD; obtain ⟨u20, s20, rfl⟩ := hD ⟨14, .data⟩ (by simp) rfl _ rfl; obtain ⟨u22, s22, rfl⟩ := hD ⟨16, .data⟩ (by simp) rfl _ rfl; obtain ⟨u18, s18, rfl⟩ := hD ⟨12, .guard⟩ (by simp) rfl _ rfl
           have hr := E3.out
           clear hA hD; refine o7w rfl rfl s18 ?_; intro K hK; gi_wp2; exact hK _ _ rfl (B7 _ _)
         · intro a' w' hA hC hD; obtain ⟨u18, s18, rfl⟩ := hD ⟨12, .data⟩ (by simp) rfl _ rfl; obtain ⟨u23, s23, rfl⟩ := hD ⟨17, .data⟩ (by simp) rfl _ rfl; clear hA hD; refine o7p rfl ?_; intro K hK; gi_wp2; exact hK _ _ rfl (B7 _ _)
         · intro a' w' hA hC hD; obtain ⟨u24, s24, rfl⟩ := hD ⟨18, .data⟩ (by simp) rfl _ rfl; clear hA hD; refine o7p rfl ?_; intro K hK; gi_wp2; exact hK _ _ rfl (B7 _ _)
         · intro a' w' hA hC hD; have s2 := hA.to 2 (by kernel_rfl) rfl; obtain ⟨u25, s25, rfl⟩ := hD ⟨19, .guard⟩ (by simp) rfl _ rfl; clear hA hD; refine o7w rfl rfl s25 ?_; intro K hK
           refine opIn_load 51 _ rfl w.heap.size (by simp [Act.eval, s2]) 51 _ (0, 0) _ ((HS.out.below hC).blockAt 1 rfl) Tryz.underlying51 rfl (by kernel_rfl) (hK _ _ rfl (B7 _ _))
         · intro a' w' hA hC hD; obtain ⟨u26, s26, rfl⟩ := hD ⟨20, .data⟩ (by simp) rfl _ rfl; obtain ⟨u25, s25, rfl⟩ := hD ⟨19, .chain⟩ (by simp) rfl _ rfl; clear hA hD; refine o7w rfl rfl s25 ?_; intro K hK
           gi_wp2_with fail; refine (callsIn_wide.2 (op_to_any o _ _ _ _)).mono ?_; rintro e w2 ⟨rfl, hb⟩
           exact hK _ _ rfl hb
         · intro a' w' hA hC hD; have s3 := hA.to 3 (by kernel_rfl) rfl; obtain ⟨u25, s25, rfl⟩ := hD ⟨19, .guard⟩ (by simp) rfl _ rfl; clear hA hD; refine o7w rfl rfl s25 ?_; intro K hK
           refine opIn_load 51 _ rfl (w.heap.size + 1) (by simp [Act.eval, s3]) 51 _ (0, 0) _ ((HS.out.below hC).blockAt 0 rfl) Tryz.underlying51 rfl (by kernel_rfl) (hK _ _ rfl (B7 _ _))
         · intro a' w' hA hC hD; obtain ⟨u28, s28, rfl⟩ := hD ⟨22, .data⟩ (by simp) rfl _ rfl; obtain ⟨u25, s25, rfl⟩ := hD ⟨19, .guard⟩ (by simp) rfl _ rfl; clear hA hD; refine o7w rfl rfl s25 ?_; intro K hK
           gi_wp2_with fail; refine (callsIn_wide.2 (op_to_any p _ _ _ _)).mono ?_; rintro e w2 ⟨rfl, hb⟩
           exact hK _ _ rfl hb
         · intro a' w' hA hC hD; obtain ⟨u27, s27, rfl⟩ := hD ⟨21, .data⟩ (by simp) rfl _ rfl; obtain ⟨u29, s29, rfl⟩ := hD ⟨23, .data⟩ (by simp) rfl _ rfl; obtain ⟨u25, s25, rfl⟩ := hD ⟨19, .guard⟩ (by simp) rfl _ rfl
           have hr := E4.out
           clear hA hD; refine o7w rfl rfl s25 ?_; intro K hK; gi_wp2; exact hK _ _ rfl (B7 _ _)
         · intro a' w' hA hC hD; obtain ⟨u25, s25, rfl⟩ := hD ⟨19, .data⟩ (by simp) rfl _ rfl; obtain ⟨u30, s30, rfl⟩ := hD ⟨24, .data⟩ (by simp) rfl _ rfl; clear hA hD; refine o7p rfl ?_; intro K hK; gi_wp2; exact hK _ _ rfl (B7 _ _)
         · intro a' w' hA hC hD; obtain ⟨u31, s31, rfl⟩ := hD ⟨25, .data⟩ (by simp) rfl _ rfl; clear hA hD; refine o7p rfl ?_; intro K hK; gi_wp2; exact hK _ _ rfl (B7 _ _)
         · intro a' w' hA hC hD; have s2 := hA.to 2 (by kernel_rfl) rfl; obtain ⟨u32, s32, rfl⟩ := hD ⟨26, .guard⟩ (by simp) rfl _ rfl; clear hA hD; refine o7w rfl rfl s32 ?_; intro K hK; gi_wp2; exact hK _ _ rfl (B7 _ _)
         · intro a' w' hA hC hD; obtain ⟨u33, s33, rfl⟩ := hD ⟨27, .data⟩ (by simp) rfl _ rfl; obtain ⟨u32, s32, rfl⟩ := hD ⟨26, .guard⟩ (by simp) rfl _ rfl
           obtain ⟨-, -, -, -, -, -, -, -, q8, -⟩ := opCells ((HS.out.below hC).blockAt 1 rfl)
           clear hA hD; refine o7w rfl rfl s32 ?_; intro K hK; gi_wp2; exact hK _ _ rfl (B7 _ _)
         · intro a' w' hA hC hD; have s3 := hA.to 3 (by kernel_rfl) rfl; obtain ⟨u32, s32, rfl⟩ := hD ⟨26, .guard⟩ (by simp) rfl _ rfl; clear hA hD; refine o7w rfl rfl s32 ?_; intro K hK; gi_wp2; exact hK _ _ rfl (B7 _ _)
         · intro a' w' hA hC hD; obtain ⟨u35, s35, rfl⟩ := hD ⟨29, .data⟩ (by simp) rfl _ rfl; obtain ⟨u32, s32, rfl⟩ := hD ⟨26, .guard⟩ (by simp) rfl _ rfl
           obtain ⟨-, -, -, -, -, -, -, -, q8, -⟩ := opCells ((HS.out.below hC).blockAt 0 rfl)
           clear hA hD; refine o7w rfl rfl s32 ?_; intro K hK; gi_wp2; exact hK _ _ rfl (B7 _ _)
         · intro a' w' hA hC hD; obtain ⟨u34, s34, rfl⟩ := hD ⟨28, .data⟩ (by simp) rfl _ rfl; obtain ⟨u36, s36, rfl⟩ := hD ⟨30, .data⟩ (by simp) rfl _ rfl; obtain ⟨u32, s32, rfl⟩ := hD ⟨26, .guard⟩ (by simp) rfl _ rfl
           have hr := E5.out
           clear hA hD; refine o7w rfl rfl s32 ?_; intro K hK; gi_wp2; exact hK _ _ rfl (B7 _ _)
         · intro a' w' hA hC hD; obtain ⟨u32, s32, rfl⟩ := hD ⟨26, .data⟩ (by simp) rfl _ rfl; obtain ⟨u37, s37, rfl⟩ := hD ⟨31, .data⟩ (by simp) rfl _ rfl; clear hA hD; refine o7p rfl ?_; intro K hK; gi_wp2; exact hK _ _ rfl (B7 _ _)
         · intro a' w' hA hC hD; obtain ⟨u38, s38, rfl⟩ := hD ⟨32, .data⟩ (by simp) rfl _ rfl; clear hA hD; refine o7p rfl ?_; intro K hK; gi_wp2; exact hK _ _ rfl (B7 _ _)
         · intro a' w' hA hC hD; have s2 := hA.to 2 (by kernel_rfl) rfl; obtain ⟨u39, s39, rfl⟩ := hD ⟨33, .guard⟩ (by simp) rfl _ rfl; clear hA hD; refine o7w rfl rfl s39 ?_; intro K hK; gi_wp2; exact hK _ _ rfl (B7 _ _)
         · intro a' w' hA hC hD; obtain ⟨u40, s40, rfl⟩ := hD ⟨34, .data⟩ (by simp) rfl _ rfl; obtain ⟨u39, s39, rfl⟩ := hD ⟨33, .guard⟩ (by simp) rfl _ rfl
           obtain ⟨-, -, -, -, -, -, -, -, -, q9, q10, q11, q12, -⟩ := opCells ((HS.out.below hC).blockAt 1 rfl)
           clear hA hD; refine o7w rfl rfl s39 ?_; intro K hK; gi_wp2; exact hK _ _ rfl (B7 _ _)
         · intro a' w' hA hC hD; have s3 := hA.to 3 (by kernel_rfl) rfl; obtain ⟨u39, s39, rfl⟩ := hD ⟨33, .guard⟩ (by simp) rfl _ rfl; clear hA hD; refine o7w rfl rfl s39 ?_; intro K hK; gi_wp2; exact hK _ _ rfl (B7 _ _)
         · intro a' w' hA hC hD; obtain ⟨u42, s42, rfl⟩ := hD ⟨36, .data⟩ (by simp) rfl _ rfl; obtain ⟨u39, s39, rfl⟩ := hD ⟨33, .guard⟩ (by simp) rfl _ rfl
           obtain ⟨-, -, -, -, -, -, -, -, -, q9, q10, q11, q12, -⟩ := opCells ((HS.out.below hC).blockAt 0 rfl)
           clear hA hD; refine o7w rfl rfl s39 ?_; intro K hK; gi_wp2; exact hK _ _ rfl (B7 _ _)
         · intro a' w' hA hC hD; obtain ⟨u41, s41, rfl⟩ := hD ⟨35, .data⟩ (by simp) rfl _ rfl; obtain ⟨u43, s43, rfl⟩ := hD ⟨37, .data⟩ (by simp) rfl _ rfl; obtain ⟨u39, s39, rfl⟩ := hD ⟨33, .guard⟩ (by simp) rfl _ rfl
           have hr := E6.out
           clear hA hD; refine o7w rfl rfl s39 ?_; intro K hK; gi_wp2; exact hK _ _ rfl (B7 _ _)
         · intro a' w' hA hC hD; obtain ⟨u39, s39, rfl⟩ := hD ⟨33, .data⟩ (by simp) rfl _ rfl; obtain ⟨u44, s44, rfl⟩ := hD ⟨38, .data⟩ (by simp) rfl _ rfl; clear hA hD; refine o7p rfl ?_; intro K hK; gi_wp2; exact hK _ _ rfl (B7 _ _)
         · intro a' w' hA hC hD; obtain ⟨u45, s45, rfl⟩ := hD ⟨39, .data⟩ (by simp) rfl _ rfl; clear hA hD; refine o7p rfl ?_; intro K hK; gi_wp2; exact hK _ _ rfl (B7 _ _)
         · intro a' w' hA hC hD; have s2 := hA.to 2 (by kernel_rfl) rfl; obtain ⟨u46, s46, rfl⟩ := hD ⟨40, .guard⟩ (by simp) rfl _ rfl; clear hA hD; refine o7w rfl rfl s46 ?_; intro K hK; gi_wp2; exact hK _ _ rfl (B7 _ _)
         · intro a' w' hA hC hD; obtain ⟨u47, s47, rfl⟩ := hD ⟨41, .data⟩ (by simp) rfl _ rfl; obtain ⟨u46, s46, rfl⟩ := hD ⟨40, .guard⟩ (by simp) rfl _ rfl
           obtain ⟨-, -, -, -, -, -, -, -, -, -, -, -, -, -, -, -, q16, q17, q18⟩ := opCells ((HS.out.below hC).blockAt 1 rfl)
           clear hA hD; refine o7w rfl rfl s46 ?_; intro K hK; gi_wp2; exact hK _ _ rfl (B7 _ _)
         · intro a' w' hA hC hD; have s3 := hA.to 3 (by kernel_rfl) rfl; obtain ⟨u46, s46, rfl⟩ := hD ⟨40, .guard⟩ (by simp) rfl _ rfl; clear hA hD; refine o7w rfl rfl s46 ?_; intro K hK; gi_wp2; exact hK _ _ rfl (B7 _ _)
         · intro a' w' hA hC hD; obtain ⟨u49, s49, rfl⟩ := hD ⟨43, .data⟩ (by simp) rfl _ rfl; obtain ⟨u46, s46, rfl⟩ := hD ⟨40, .guard⟩ (by simp) rfl _ rfl
           obtain ⟨-, -, -, -, -, -, -, -, -, -, -, -, -, -, -, -, q16, q17, q18⟩ := opCells ((HS.out.below hC).blockAt 0 rfl)
           clear hA hD; refine o7w rfl rfl s46 ?_; intro K hK; gi_wp2; exact hK _ _ rfl (B7 _ _)
         · intro a' w' hA hC hD; obtain ⟨u48, s48, rfl⟩ := hD ⟨42, .data⟩ (by simp) rfl _ rfl; obtain ⟨u50, s50, rfl⟩ := hD ⟨44, .data⟩ (by simp) rfl _ rfl; obtain ⟨u46, s46, rfl⟩ := hD ⟨40, .guard⟩ (by simp) rfl _ rfl
           have hr := E7.out
           clear hA hD; refine o7w rfl rfl s46 ?_; intro K hK; gi_wp2; exact hK _ _ rfl (B7 _ _)
         · intro a' w' hA hC hD; obtain ⟨u46, s46, rfl⟩ := hD ⟨40, .data⟩ (by simp) rfl _ rfl; obtain ⟨u51, s51, rfl⟩ := hD ⟨45, .data⟩ (by simp) rfl _ rfl; clear hA hD; refine o7p rfl ?_; intro K hK; gi_wp2; exact hK _ _ rfl (B7 _ _)
        case hend =>
         intro w3 hC
         simp only [EndFrom, eqv, forall_eq, Act.put, List.length_cons, List.length_nil, List.drop_succ_cons, List.drop_zero, Nat.reduceAdd, List.setIfInBounds_toArray, List.set_cons_succ, List.set_cons_zero]
         have HS := H7 (HS.out.below hC)
         clear hC
         obtain ⟨-, -, -, -, -, -, -, -, -, -, -, -, -, y13, y14, y15, -⟩ := opCells (HS.out.blockAt 1 rfl)
         obtain ⟨-, -, -, -, -, -, -, -, -, -, -, -, -, z13, z14, z15, -⟩ := opCells (HS.out.blockAt 0 rfl)
         gi_wp2
         go_wp2_with fail
         refine (HST.out _ HS.out.low).mono ?_
         rintro e w4 ⟨rfl, hb⟩
         have hlow := HS.out.low.trans (hb.mono HS.out.low.size)
         go_wp2_with fail
         go_ret
         exact ⟨rfl, hlow⟩
end Go.Proofs.YteklfmacnnmomaaGreat
