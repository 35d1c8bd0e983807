/- Merged texts: FrN. -/
import Derived.Test.YteklfmacnnmomaaGreatM13
set_option linter.unusedSimpArgs false
set_option linter.unusedVariables false
/- Layer 18: Waits. -/
namespace Go.Proofs.YteklfmacnnmomaaGreat
open Go.RowKit Go.Shelf
attribute [local go_sem] Oper.semAt_some
def waitB (f : Frt) (A S : Nat → Int) (k : Nat) : Bool := (decide ((f.site k).floor < f.prop) || decide (A k > S k)) || !covers (f.site k).has A
set_option maxRecDepth 100000 in
set_option maxHeartbeats 2000000 in
theorem waits1_any (f : Frt) (A S : Nat → Int) (k : Nat) (h9 : k < 9) (bf ba bs : Nat) (w : World) (hf : w.heap[bf]? = some (.cells f.cells 29 (0, 0))) (ha : w.heap[ba]? = some (.cells (lit9 A) 24 (0, 0))) (hs : w.heap[bs]? = some (.cells (lit9 S) 24 (0, 0))) :
 Calls Tryz.prog 59 #[.int .i64 (k : Int), .pointer (some ⟨bf, 0, none⟩), .pointer (some ⟨ba, 0, none⟩), .pointer (some ⟨bs, 0, none⟩)] w (Gives (.bool (waitB f A S k)) w) := by
 have HS := H7 (St.start w)
 have HF := H7 (BlkA.mk hf)
 have HA := H7 (BlkA.mk ha)
 have HSS := H7 (BlkA.mk hs)
 have HK := H7 h9
 obtain ⟨R, hR⟩ : ∃ R, waitB f A S k = R := ⟨_, rfl⟩
 obtain ⟨x1, h1⟩ : ∃ x, decide ((f.site k).floor < f.prop) = x := ⟨_, rfl⟩
 obtain ⟨x2, h2⟩ : ∃ x, decide (A k > S k) = x := ⟨_, rfl⟩
 obtain ⟨x3, h3⟩ : ∃ x, covers (f.site k).has A = x := ⟨_, rfl⟩
 rw [hR]
 unfold waitB at hR
 rw [h1, h2, h3] at hR
 have H1 := H7 h1
 have H2 := H7 h2
 have H3 := H7 h3
 have HR := H7 hR
 have hk9 := h9
 clear hf ha hs h9 h1 h2 h3 hR
 go_enter Tryz.func59, Tryz.ntmps59
 repeat ((fail_if_success (with_reducible refine stop_at (id := 1) ?_)); (first | go_values | go_skip | go_guarded | go_step | go_upon | go_back | (simp only [Int.not_lt, Int.not_le] at *; go_simp) | (go_values <;> (try go_simp)) | (go_ite <;> go_prune <;> (try go_simp)) | (split <;> (first | (rename_i hx; exact (hx _ rfl).elim) | go_prune))))
 refine (wpIn_wide (n := 0)).1 ?_
 repeat (first | (refine ldSite _ rfl rfl HF.out.at_ HK.out ?_; simp only [Act.put, List.setIfInBounds_toArray, List.set_cons_succ, List.set_cons_zero]) | (refine nwP rfl ?_; simp only [Act.put, List.setIfInBounds_toArray, List.set_cons_succ, List.set_cons_zero]) | (refine stNewP _ _ rfl rfl rfl rfl rfl ?_; simp only [Act.put, List.setIfInBounds_toArray, List.set_cons_succ, List.set_cons_zero]) | gi_step)
 gi_wp2_with fail
 clear hk9
 have hs_ := (HS.out.alloc (.cells (f.site k).cells 26))
 have hk_HF := HF.out.below ((B7 _ _).alloc (by exact Nat.le_refl _) (.cells (f.site k).cells 26))
 have hk_HA := HA.out.below ((B7 _ _).alloc (by exact Nat.le_refl _) (.cells (f.site k).cells 26))
 have hk_HSS := HSS.out.below ((B7 _ _).alloc (by exact Nat.le_refl _) (.cells (f.site k).cells 26))
 obtain ⟨w1, hw_⟩ : ∃ w1 : World, (w.alloc (.cells (f.site k).cells 26)) = w1 := ⟨_, rfl⟩
 rw [hw_] at hs_ hk_HF hk_HA hk_HSS
 try simp only [World.size_alloc] at hs_
 have HS := H7 hs_
 have HF := H7 hk_HF
 have HA := H7 hk_HA
 have HSS := H7 hk_HSS
 rw [hw_]
 clear hw_ hs_ hk_HF hk_HA hk_HSS
 repeat ((fail_if_success (with_reducible refine stop_at (id := 2) ?_)); (first | go_values | go_skip | go_guarded | go_step | go_upon | go_back | (simp only [Int.not_lt, Int.not_le] at *; go_simp) | (go_values <;> (try go_simp)) | (go_ite <;> go_prune <;> (try go_simp)) | (split <;> (first | (rename_i hx; exact (hx _ rfl).elim) | go_prune))))
 refine (wpIn_wide (n := 0)).1 ?_
 cases x1 with
 | true =>
  apply w7v 22 (Rl := [(eqv _), (eqv _), (eqv _), (eqv _), (eqv _), (eqv _), (fun v_ _ => v_ = (undef : Value)), (fun v_ _ => v_ = (undef : Value)), (fun v_ _ => v_ = (undef : Value)), (fun v_ _ => v_ = (undef : Value)), (fun v_ _ => v_ = (undef : Value)), (fun v_ _ => v_ = (undef : Value)), (fun v_ _ => v_ = (undef : Value)), (eqv _), (eqv _), (fun v_ _ => v_ = (undef : Value)), (fun v_ _ => v_ = (undef : Value)), (fun v_ _ => v_ = (undef : Value)), (fun v_ _ => v_ = (undef : Value)), (fun v_ _ => v_ = (undef : Value)), (eqv _), (eqv _)]) (C := (fun x y => Below x.heap.size x y))
  case hm => kernel_rfl
  case hk => rfl
  case hCr => exact (fun _ => B7 _ _)
  case hCt => intro _ _ _; exact (fun h k => g7t h k)
  case hst => repeat (first | exact trivial | refine ⟨fun _ _ _ _ h => h, ?_⟩)
  case hfo => kernel_rfl
  case ht => kernel_rfl
  case hC0 => exact (g7d _)
  case hsteps =>
   refine ⟨?_, ?_, ?_, ?_, ?_, ?_, ?_, ?_, ?_, ?_, ?_, ?_, ?_, ?_, ?_, ?_, ?_, ?_, ?_, ?_, ?_, ?_, trivial⟩
   · intro a' w' hA hC hD; have s6 := hA.to 6 (by kernel_rfl) rfl; clear hA hD; refine o7p rfl ?_; intro K hK; gi_wp2; exact hK _ _ rfl (B7 _ _)
   · intro a' w' hA hC hD; obtain ⟨u11, s11, rfl⟩ := hD ⟨0, .data⟩ (by simp) rfl _ rfl
     have c1 := (plgCells ((HS.out.below hC).blockAt 0 rfl)).2.1
     clear hA hD; refine o7p rfl ?_; intro K hK; gi_wp2; exact hK _ _ rfl (B7 _ _)
   · intro a' w' hA hC hD; have s1 := hA.to 1 (by kernel_rfl) rfl; clear hA hD; refine o7p rfl ?_; intro K hK; gi_wp2; exact hK _ _ rfl (B7 _ _)
   · intro a' w' hA hC hD; obtain ⟨u13, s13, rfl⟩ := hD ⟨2, .data⟩ (by simp) rfl _ rfl
     have c3 := Frt.propC (HF.out.below hC).at_
     clear hA hD; refine o7p rfl ?_; intro K hK; gi_wp2; exact hK _ _ rfl (B7 _ _)
   · intro a' w' hA hC hD; obtain ⟨u12, s12, rfl⟩ := hD ⟨1, .data⟩ (by simp) rfl _ rfl; obtain ⟨u14, s14, rfl⟩ := hD ⟨3, .data⟩ (by simp) rfl _ rfl; clear hA hD; refine o7p rfl ?_; intro K hK; gi_wp2; rw [H1.out]; exact hK _ _ rfl (B7 _ _)
   · intro a' w' hA hC hD; obtain ⟨u15, s15, rfl⟩ := hD ⟨4, .data⟩ (by simp) rfl _ rfl; clear hA hD; refine o7p rfl ?_; intro K hK; gi_wp2; exact hK _ _ rfl (B7 _ _)
   · intro a' w' hA hC hD; have s0 := hA.to 0 (by kernel_rfl) rfl; obtain ⟨u16, s16, rfl⟩ := hD ⟨5, .guard⟩ (by simp) rfl _ rfl; clear hA hD
     exact o7s rfl rfl s16 rfl
   · intro a' w' hA hC hD; have s2 := hA.to 2 (by kernel_rfl) rfl; obtain ⟨u17, s17, r17⟩ := hD ⟨6, .data⟩ (by simp) rfl _ rfl; replace r17 : u17 = undef := r17; subst r17; obtain ⟨u16, s16, rfl⟩ := hD ⟨5, .guard⟩ (by simp) rfl _ rfl; clear hA hD
     exact o7s rfl rfl s16 rfl
   · intro a' w' hA hC hD; obtain ⟨u18, s18, r18⟩ := hD ⟨7, .data⟩ (by simp) rfl _ rfl; replace r18 : u18 = undef := r18; subst r18; obtain ⟨u16, s16, rfl⟩ := hD ⟨5, .guard⟩ (by simp) rfl _ rfl; clear hA hD
     exact o7s rfl rfl s16 rfl
   · intro a' w' hA hC hD; have s0 := hA.to 0 (by kernel_rfl) rfl; obtain ⟨u16, s16, rfl⟩ := hD ⟨5, .guard⟩ (by simp) rfl _ rfl; clear hA hD
     exact o7s rfl rfl s16 rfl
   · intro a' w' hA hC hD; have s3 := hA.to 3 (by kernel_rfl) rfl; obtain ⟨u20, s20, r20⟩ := hD ⟨9, .data⟩ (by simp) rfl _ rfl; replace r20 : u20 = undef := r20; subst r20; obtain ⟨u16, s16, rfl⟩ := hD ⟨5, .guard⟩ (by simp) rfl _ rfl; clear hA hD
     exact o7s rfl rfl s16 rfl
   · intro a' w' hA hC hD; obtain ⟨u21, s21, r21⟩ := hD ⟨10, .data⟩ (by simp) rfl _ rfl; replace r21 : u21 = undef := r21; subst r21; obtain ⟨u16, s16, rfl⟩ := hD ⟨5, .guard⟩ (by simp) rfl _ rfl; clear hA hD
     exact o7s rfl rfl s16 rfl
   · intro a' w' hA hC hD; obtain ⟨u19, s19, r19⟩ := hD ⟨8, .data⟩ (by simp) rfl _ rfl; replace r19 : u19 = undef := r19; subst r19; obtain ⟨u22, s22, r22⟩ := hD ⟨11, .data⟩ (by simp) rfl _ rfl; replace r22 : u22 = undef := r22; subst r22; obtain ⟨u16, s16, rfl⟩ := hD ⟨5, .guard⟩ (by simp) rfl _ rfl; clear hA hD
     exact o7s rfl rfl s16 rfl
   · intro a' w' hA hC hD; obtain ⟨u16, s16, rfl⟩ := hD ⟨5, .data⟩ (by simp) rfl _ rfl; obtain ⟨u23, s23, r23⟩ := hD ⟨12, .data⟩ (by simp) rfl _ rfl; replace r23 : u23 = undef := r23; subst r23; clear hA hD; refine o7p rfl ?_; intro K hK; gi_wp2; exact hK _ _ rfl (B7 _ _)
   · intro a' w' hA hC hD; obtain ⟨u24, s24, rfl⟩ := hD ⟨13, .data⟩ (by simp) rfl _ rfl; clear hA hD; refine o7p rfl ?_; intro K hK; gi_wp2; exact hK _ _ rfl (B7 _ _)
   · intro a' w' hA hC hD; have s6 := hA.to 6 (by kernel_rfl) rfl; obtain ⟨u25, s25, rfl⟩ := hD ⟨14, .guard⟩ (by simp) rfl _ rfl; clear hA hD
     exact o7s rfl rfl s25 rfl
   · intro a' w' hA hC hD; obtain ⟨u26, s26, r26⟩ := hD ⟨15, .data⟩ (by simp) rfl _ rfl; replace r26 : u26 = undef := r26; subst r26; obtain ⟨u25, s25, rfl⟩ := hD ⟨14, .guard⟩ (by simp) rfl _ rfl; clear hA hD
     exact o7s rfl rfl s25 rfl
   · intro a' w' hA hC hD; have s2 := hA.to 2 (by kernel_rfl) rfl; obtain ⟨u25, s25, rfl⟩ := hD ⟨14, .guard⟩ (by simp) rfl _ rfl; clear hA hD
     exact o7s rfl rfl s25 rfl
   · intro a' w' hA hC hD; obtain ⟨u27, s27, r27⟩ := hD ⟨16, .data⟩ (by simp) rfl _ rfl; replace r27 : u27 = undef := r27; subst r27; obtain ⟨u28, s28, r28⟩ := hD ⟨17, .data⟩ (by simp) rfl _ rfl; replace r28 : u28 = undef := r28; subst r28; obtain ⟨u25, s25, rfl⟩ := hD ⟨14, .chain⟩ (by simp) rfl _ rfl; clear hA hD
     exact o7s rfl rfl s25 rfl
   · intro a' w' hA hC hD; obtain ⟨u29, s29, r29⟩ := hD ⟨18, .data⟩ (by simp) rfl _ rfl; replace r29 : u29 = undef := r29; subst r29; obtain ⟨u25, s25, rfl⟩ := hD ⟨14, .guard⟩ (by simp) rfl _ rfl; clear hA hD
     exact o7s rfl rfl s25 rfl
   · intro a' w' hA hC hD; obtain ⟨u25, s25, rfl⟩ := hD ⟨14, .data⟩ (by simp) rfl _ rfl; obtain ⟨u30, s30, r30⟩ := hD ⟨19, .data⟩ (by simp) rfl _ rfl; replace r30 : u30 = undef := r30; subst r30; clear hA hD; refine o7p rfl ?_; intro K hK; gi_wp2; exact hK _ _ rfl (B7 _ _)
   · intro a' w' hA hC hD; obtain ⟨u31, s31, rfl⟩ := hD ⟨20, .data⟩ (by simp) rfl _ rfl; clear hA hD; refine o7p rfl ?_; intro K hK; gi_wp2; exact hK _ _ rfl (B7 _ _)
  case hend =>
   intro w3 hC
   simp only [EndFrom, eqv, forall_eq, Act.put, List.length_cons, List.length_nil, List.drop_succ_cons, List.drop_zero, Nat.reduceAdd, List.setIfInBounds_toArray, List.set_cons_succ, List.set_cons_zero]
   have HS := H7 (HS.out.below hC)
   clear hC
   gi_wp2
   go_wp2_with fail
   rw [← HR.out]
   go_ret
   exact ⟨rfl, HS.out.low⟩
 | false =>
  cases x2 with
  | true =>
   apply w7v 22 (Rl := [(eqv _), (eqv _), (eqv _), (eqv _), (eqv _), (eqv _), (eqv _), (eqv _), (eqv _), (eqv _), (eqv _), (eqv _), (eqv _), (eqv _), (eqv _), (fun v_ _ => v_ = (undef : Value)), (fun v_ _ => v_ = (undef : Value)), (fun v_ _ => v_ = (undef : Value)), (fun v_ _ => v_ = (undef : Value)), (fun v_ _ => v_ = (undef : Value)), (eqv _), (eqv _)]) (C := (fun x y => Below x.heap.size x y))
   case hm => kernel_rfl
   case hk => rfl
   case hCr => exact (fun _ => B7 _ _)
   case hCt => intro _ _ _; exact (fun h k => g7t h k)
   case hst => repeat (first | exact trivial | refine ⟨fun _ _ _ _ h => h, ?_⟩)
   case hfo => kernel_rfl
   case ht => kernel_rfl
   case hC0 => exact (g7d _)
   case hsteps =>
    refine ⟨?_, ?_, ?_, ?_, ?_, ?_, ?_, ?_, ?_, ?_, ?_, ?_, ?_, ?_, ?_, ?_, ?_, ?_, ?_, ?_, ?_, ?_, trivial⟩
    · intro a' w' hA hC hD; have s6 := hA.to 6 (by kernel_rfl) rfl; clear hA hD; refine o7p rfl ?_; intro K hK; gi_wp2; exact hK _ _ rfl (B7 _ _)
    · intro a' w' hA hC hD; obtain ⟨u11, s11, rfl⟩ := hD ⟨0, .data⟩ (by simp) rfl _ rfl
      have c1 := (plgCells ((HS.out.below hC).blockAt 0 rfl)).2.1
      clear hA hD; refine o7p rfl ?_; intro K hK; gi_wp2; exact hK _ _ rfl (B7 _ _)
    · intro a' w' hA hC hD; have s1 := hA.to 1 (by kernel_rfl) rfl; clear hA hD; refine o7p rfl ?_; intro K hK; gi_wp2; exact hK _ _ rfl (B7 _ _)
    · intro a' w' hA hC hD; obtain ⟨u13, s13, rfl⟩ := hD ⟨2, .data⟩ (by simp) rfl _ rfl
      have c3 := Frt.propC (HF.out.below hC).at_
      clear hA hD; refine o7p rfl ?_; intro K hK; gi_wp2; exact hK _ _ rfl (B7 _ _)
    · intro a' w' hA hC hD; obtain ⟨u12, s12, rfl⟩ := hD ⟨1, .data⟩ (by simp) rfl _ rfl; obtain ⟨u14, s14, rfl⟩ := hD ⟨3, .data⟩ (by simp) rfl _ rfl; clear hA hD; refine o7p rfl ?_; intro K hK; gi_wp2; rw [H1.out]; exact hK _ _ rfl (B7 _ _)
    · intro a' w' hA hC hD; obtain ⟨u15, s15, rfl⟩ := hD ⟨4, .data⟩ (by simp) rfl _ rfl; clear hA hD; refine o7p rfl ?_; intro K hK; gi_wp2; exact hK _ _ rfl (B7 _ _)
    · intro a' w' hA hC hD; have s0 := hA.to 0 (by kernel_rfl) rfl; obtain ⟨u16, s16, rfl⟩ := hD ⟨5, .guard⟩ (by simp) rfl _ rfl; clear hA hD; refine o7w rfl rfl s16 ?_; intro K hK; gi_wp2; exact hK _ _ rfl (B7 _ _)
    · intro a' w' hA hC hD; have s2 := hA.to 2 (by kernel_rfl) rfl; obtain ⟨u17, s17, rfl⟩ := hD ⟨6, .data⟩ (by simp) rfl _ rfl; obtain ⟨u16, s16, rfl⟩ := hD ⟨5, .guard⟩ (by simp) rfl _ rfl
      have hk9 := HK.out
      clear hA hD; refine o7w rfl rfl s16 ?_; intro K hK; gi_wp2; exact hK _ _ rfl (B7 _ _)
    · intro a' w' hA hC hD; obtain ⟨u18, s18, rfl⟩ := hD ⟨7, .data⟩ (by simp) rfl _ rfl; obtain ⟨u16, s16, rfl⟩ := hD ⟨5, .guard⟩ (by simp) rfl _ rfl
      have c8 := c7b (HA.out.below hC).at_ (lit9_get _ _ HK.out)
      clear hA hD; refine o7w rfl rfl s16 ?_; intro K hK; gi_wp2; exact hK _ _ rfl (B7 _ _)
    · intro a' w' hA hC hD; have s0 := hA.to 0 (by kernel_rfl) rfl; obtain ⟨u16, s16, rfl⟩ := hD ⟨5, .guard⟩ (by simp) rfl _ rfl; clear hA hD; refine o7w rfl rfl s16 ?_; intro K hK; gi_wp2; exact hK _ _ rfl (B7 _ _)
    · intro a' w' hA hC hD; have s3 := hA.to 3 (by kernel_rfl) rfl; obtain ⟨u20, s20, rfl⟩ := hD ⟨9, .data⟩ (by simp) rfl _ rfl; obtain ⟨u16, s16, rfl⟩ := hD ⟨5, .guard⟩ (by simp) rfl _ rfl
      have hk9 := HK.out
      clear hA hD; refine o7w rfl rfl s16 ?_; intro K hK; gi_wp2; exact hK _ _ rfl (B7 _ _)
    · intro a' w' hA hC hD; obtain ⟨u21, s21, rfl⟩ := hD ⟨10, .data⟩ (by simp) rfl _ rfl; obtain ⟨u16, s16, rfl⟩ := hD ⟨5, .guard⟩ (by simp) rfl _ rfl
      have c8 := c7b (HSS.out.below hC).at_ (lit9_get _ _ HK.out)
      clear hA hD; refine o7w rfl rfl s16 ?_; intro K hK; gi_wp2; exact hK _ _ rfl (B7 _ _)
    · intro a' w' hA hC hD; obtain ⟨u19, s19, rfl⟩ := hD ⟨8, .data⟩ (by simp) rfl _ rfl; obtain ⟨u22, s22, rfl⟩ := hD ⟨11, .data⟩ (by simp) rfl _ rfl; obtain ⟨u16, s16, rfl⟩ := hD ⟨5, .guard⟩ (by simp) rfl _ rfl; clear hA hD; refine o7w rfl rfl s16 ?_; intro K hK; gi_wp2; rw [H2.out]; exact hK _ _ rfl (B7 _ _)
    · intro a' w' hA hC hD; obtain ⟨u16, s16, rfl⟩ := hD ⟨5, .data⟩ (by simp) rfl _ rfl; obtain ⟨u23, s23, rfl⟩ := hD ⟨12, .data⟩ (by simp) rfl _ rfl; clear hA hD; refine o7p rfl ?_; intro K hK; gi_wp2; exact hK _ _ rfl (B7 _ _)
    · intro a' w' hA hC hD; obtain ⟨u24, s24, rfl⟩ := hD ⟨13, .data⟩ (by simp) rfl _ rfl; clear hA hD; refine o7p rfl ?_; intro K hK; gi_wp2; exact hK _ _ rfl (B7 _ _)
    · intro a' w' hA hC hD; have s6 := hA.to 6 (by kernel_rfl) rfl; obtain ⟨u25, s25, rfl⟩ := hD ⟨14, .guard⟩ (by simp) rfl _ rfl; clear hA hD
      exact o7s rfl rfl s25 rfl
    · intro a' w' hA hC hD; obtain ⟨u26, s26, r26⟩ := hD ⟨15, .data⟩ (by simp) rfl _ rfl; replace r26 : u26 = undef := r26; subst r26; obtain ⟨u25, s25, rfl⟩ := hD ⟨14, .guard⟩ (by simp) rfl _ rfl; clear hA hD
      exact o7s rfl rfl s25 rfl
    · intro a' w' hA hC hD; have s2 := hA.to 2 (by kernel_rfl) rfl; obtain ⟨u25, s25, rfl⟩ := hD ⟨14, .guard⟩ (by simp) rfl _ rfl; clear hA hD
      exact o7s rfl rfl s25 rfl
    · intro a' w' hA hC hD; obtain ⟨u27, s27, r27⟩ := hD ⟨16, .data⟩ (by simp) rfl _ rfl; replace r27 : u27 = undef := r27; subst r27; obtain ⟨u28, s28, r28⟩ := hD ⟨17, .data⟩ (by simp) rfl _ rfl; replace r28 : u28 = undef := r28; subst r28; obtain ⟨u25, s25, rfl⟩ := hD ⟨14, .chain⟩ (by simp) rfl _ rfl; clear hA hD
      exact o7s rfl rfl s25 rfl
    · intro a' w' hA hC hD; obtain ⟨u29, s29, r29⟩ := hD ⟨18, .data⟩ (by simp) rfl _ rfl; replace r29 : u29 = undef := r29; subst r29; obtain ⟨u25, s25, rfl⟩ := hD ⟨14, .guard⟩ (by simp) rfl _ rfl; clear hA hD
      exact o7s rfl rfl s25 rfl
    · intro a' w' hA hC hD; obtain ⟨u25, s25, rfl⟩ := hD ⟨14, .data⟩ (by simp) rfl _ rfl; obtain ⟨u30, s30, r30⟩ := hD ⟨19, .data⟩ (by simp) rfl _ rfl; replace r30 : u30 = undef := r30; subst r30; clear hA hD; refine o7p rfl ?_; intro K hK; gi_wp2; exact hK _ _ rfl (B7 _ _)
    · intro a' w' hA hC hD; obtain ⟨u31, s31, rfl⟩ := hD ⟨20, .data⟩ (by simp) rfl _ rfl; clear hA hD; refine o7p rfl ?_; intro K hK; gi_wp2; exact hK _ _ rfl (B7 _ _)
   case hend =>
    intro w3 hC
    simp only [EndFrom, eqv, forall_eq, Act.put, List.length_cons, List.length_nil, List.drop_succ_cons, List.drop_zero, Nat.reduceAdd, List.setIfInBounds_toArray, List.set_cons_succ, List.set_cons_zero]
    have HS := H7 (HS.out.below hC)
    clear hC
    gi_wp2
    go_wp2_with fail
    rw [← HR.out]
    go_ret
    exact ⟨rfl, HS.out.low⟩
  | false =>
   apply w7v 22 (Rl := [(eqv _), (eqv _), (eqv _), (eqv _), (eqv _), (eqv _), (eqv _), (eqv _), (eqv _), (eqv _), (eqv _), (eqv _), (eqv _), (eqv _), (eqv _), (eqv _), (eqv _), (eqv _), (eqv _), (eqv _), (eqv _), (eqv _)]) (C := (fun x y => Below x.heap.size x y))
   case hm => kernel_rfl
   case hk => rfl
   case hCr => exact (fun _ => B7 _ _)
   case hCt => intro _ _ _; exact (fun h k => g7t h k)
   case hst => repeat (first | exact trivial | refine ⟨fun _ _ _ _ h => h, ?_⟩)
   case hfo => kernel_rfl
   case ht => kernel_rfl
   case hC0 => exact (g7d _)
   case hsteps =>
    refine ⟨?_, ?_, ?_, ?_, ?_, ?_, ?_, ?_, ?_, ?_, ?_, ?_, ?_, ?_, ?_, ?_, ?_, ?_, ?_, ?_, ?_, ?_, trivial⟩
    · intro a' w' hA hC hD; have s6 := hA.to 6 (by kernel_rfl) rfl; clear hA hD; refine o7p rfl ?_; intro K hK; gi_wp2; exact hK _ _ rfl (B7 _ _)
    · intro a' w' hA hC hD; obtain ⟨u11, s11, rfl⟩ := hD ⟨0, .data⟩ (by simp) rfl _ rfl
      have c1 := (plgCells ((HS.out.below hC).blockAt 0 rfl)).2.1
      clear hA hD; refine o7p rfl ?_; intro K hK; gi_wp2; exact hK _ _ rfl (B7 _ _)
    · intro a' w' hA hC hD; have s1 := hA.to 1 (by kernel_rfl) rfl; clear hA hD; refine o7p rfl ?_; intro K hK; gi_wp2; exact hK _ _ rfl (B7 _ _)
    · intro a' w' hA hC hD; obtain ⟨u13, s13, rfl⟩ := hD ⟨2, .data⟩ (by simp) rfl _ rfl
      have c3 := Frt.propC (HF.out.below hC).at_
      clear hA hD; refine o7p rfl ?_; intro K hK; gi_wp2; exact hK _ _ rfl (B7 _ _)
    · intro a' w' hA hC hD; obtain ⟨u12, s12, rfl⟩ := hD ⟨1, .data⟩ (by simp) rfl _ rfl; obtain ⟨u14, s14, rfl⟩ := hD ⟨3, .data⟩ (by simp) rfl _ rfl; clear hA hD; refine o7p rfl ?_; intro K hK; gi_wp2; rw [H1.out]; exact hK _ _ rfl (B7 _ _)
    · intro a' w' hA hC hD; obtain ⟨u15, s15, rfl⟩ := hD ⟨4, .data⟩ (by simp) rfl _ rfl; clear hA hD; refine o7p rfl ?_; intro K hK; gi_wp2; exact hK _ _ rfl (B7 _ _)
    · intro a' w' hA hC hD; have s0 := hA.to 0 (by kernel_rfl) rfl; obtain ⟨u16, s16, rfl⟩ := hD ⟨5, .guard⟩ (by simp) rfl _ rfl; clear hA hD; refine o7w rfl rfl s16 ?_; intro K hK; gi_wp2; exact hK _ _ rfl (B7 _ _)
    · intro a' w' hA hC hD; have s2 := hA.to 2 (by kernel_rfl) rfl; obtain ⟨u17, s17, rfl⟩ := hD ⟨6, .data⟩ (by simp) rfl _ rfl; obtain ⟨u16, s16, rfl⟩ := hD ⟨5, .guard⟩ (by simp) rfl _ rfl
      have hk9 := HK.out
      clear hA hD; refine o7w rfl rfl s16 ?_; intro K hK; gi_wp2; exact hK _ _ rfl (B7 _ _)
    · intro a' w' hA hC hD; obtain ⟨u18, s18, rfl⟩ := hD ⟨7, .data⟩ (by simp) rfl _ rfl; obtain ⟨u16, s16, rfl⟩ := hD ⟨5, .guard⟩ (by simp) rfl _ rfl
      have c8 := c7b (HA.out.below hC).at_ (lit9_get _ _ HK.out)
      clear hA hD; refine o7w rfl rfl s16 ?_; intro K hK; gi_wp2; exact hK _ _ rfl (B7 _ _)
    · intro a' w' hA hC hD; have s0 := hA.to 0 (by kernel_rfl) rfl; obtain ⟨u16, s16, rfl⟩ := hD ⟨5, .guard⟩ (by simp) rfl _ rfl; clear hA hD; refine o7w rfl rfl s16 ?_; intro K hK; gi_wp2; exact hK _ _ rfl (B7 _ _)
    · intro a' w' hA hC hD; have s3 := hA.to 3 (by kernel_rfl) rfl; obtain ⟨u20, s20, rfl⟩ := hD ⟨9, .data⟩ (by simp) rfl _ rfl; obtain ⟨u16, s16, rfl⟩ := hD ⟨5, .guard⟩ (by simp) rfl _ rfl
      have hk9 := HK.out
      clear hA hD; refine o7w rfl rfl s16 ?_; intro K hK; gi_wp2; exact hK _ _ rfl (B7 _ _)
    · intro a' w' hA hC hD; obtain ⟨u21, s21, rfl⟩ := hD ⟨10, .data⟩ (by simp) rfl _ rfl; obtain ⟨u16, s16, rfl⟩ := hD ⟨5, .guard⟩ (by simp) rfl _ rfl
      have c8 := c7b (HSS.out.below hC).at_ (lit9_get _ _ HK.out)
      clear hA hD; refine o7w rfl rfl s16 ?_; intro K hK; gi_wp2; exact hK _ _ rfl (B7 _ _)
    · intro a' w' hA hC hD; obtain ⟨u19, s19, rfl⟩ := hD ⟨8, .data⟩ (by simp) rfl _ rfl; obtain ⟨u22, s22, rfl⟩ := hD ⟨11, .data⟩ (by simp) rfl _ rfl; obtain ⟨u16, s16, rfl⟩ := hD ⟨5, .guard⟩ (by simp) rfl _ rfl; clear hA hD; refine o7w rfl rfl s16 ?_; intro K hK; gi_wp2; rw [H2.out]; exact hK _ _ rfl (B7 _ _)
    · intro a' w' hA hC hD; obtain ⟨u16, s16, rfl⟩ := hD ⟨5, .data⟩ (by simp) rfl _ rfl; obtain ⟨u23, s23, rfl⟩ := hD ⟨12, .data⟩ (by simp) rfl _ rfl; clear hA hD; refine o7p rfl ?_; intro K hK; gi_wp2; exact hK _ _ rfl (B7 _ _)
    · intro a' w' hA hC hD; obtain ⟨u24, s24, rfl⟩ := hD ⟨13, .data⟩ (by simp) rfl _ rfl; clear hA hD; refine o7p rfl ?_; intro K hK; gi_wp2; exact hK _ _ rfl (B7 _ _)
    · intro a' w' hA hC hD; have s6 := hA.to 6 (by kernel_rfl) rfl; obtain ⟨u25, s25, rfl⟩ := hD ⟨14, .guard⟩ (by simp) rfl _ rfl; clear hA hD; refine o7w rfl rfl s25 ?_; intro K hK; gi_wp2; exact hK _ _ rfl (B7 _ _)
    · intro a' w' hA hC hD; obtain ⟨u26, s26, rfl⟩ := hD ⟨15, .data⟩ (by simp) rfl _ rfl; obtain ⟨u25, s25, rfl⟩ := hD ⟨14, .guard⟩ (by simp) rfl _ rfl; clear hA hD; refine o7w rfl rfl s25 ?_; intro K hK
      refine ldHas _ rfl (by simp [Act.eval, s26]) ((HS.out.below hC).blockAt 0 rfl) ?_; exact hK _ _ rfl (B7 _ _)
    · intro a' w' hA hC hD; have s2 := hA.to 2 (by kernel_rfl) rfl; obtain ⟨u25, s25, rfl⟩ := hD ⟨14, .guard⟩ (by simp) rfl _ rfl; clear hA hD; refine o7w rfl rfl s25 ?_; intro K hK
      refine ldV _ rfl (by simp [Act.eval, s2]) (HA.out.below hC).at_ ?_; exact hK _ _ rfl (B7 _ _)
    · intro a' w' hA hC hD; obtain ⟨u27, s27, rfl⟩ := hD ⟨16, .data⟩ (by simp) rfl _ rfl; obtain ⟨u28, s28, rfl⟩ := hD ⟨17, .data⟩ (by simp) rfl _ rfl; obtain ⟨u25, s25, rfl⟩ := hD ⟨14, .chain⟩ (by simp) rfl _ rfl; clear hA hD; refine o7w rfl rfl s25 ?_; intro K hK
      gi_wp2_with fail; refine (callsIn_wide.2 (covers_any (f.site k).has A _)).mono ?_; rintro e w2 ⟨rfl, hb⟩; rw [H3.out]; exact hK _ _ rfl hb
    · intro a' w' hA hC hD; obtain ⟨u29, s29, rfl⟩ := hD ⟨18, .data⟩ (by simp) rfl _ rfl; obtain ⟨u25, s25, rfl⟩ := hD ⟨14, .guard⟩ (by simp) rfl _ rfl; clear hA hD; refine o7w rfl rfl s25 ?_; intro K hK; gi_wp2; exact hK _ _ rfl (B7 _ _)
    · intro a' w' hA hC hD; obtain ⟨u25, s25, rfl⟩ := hD ⟨14, .data⟩ (by simp) rfl _ rfl; obtain ⟨u30, s30, rfl⟩ := hD ⟨19, .data⟩ (by simp) rfl _ rfl; clear hA hD; refine o7p rfl ?_; intro K hK; gi_wp2; exact hK _ _ rfl (B7 _ _)
    · intro a' w' hA hC hD; obtain ⟨u31, s31, rfl⟩ := hD ⟨20, .data⟩ (by simp) rfl _ rfl; clear hA hD; refine o7p rfl ?_; intro K hK; gi_wp2; exact hK _ _ rfl (B7 _ _)
   case hend =>
    intro w3 hC
    simp only [EndFrom, eqv, forall_eq, Act.put, List.length_cons, List.length_nil, List.drop_succ_cons, List.drop_zero, Nat.reduceAdd, List.setIfInBounds_toArray, List.set_cons_succ, List.set_cons_zero]
    have HS := H7 (HS.out.below hC)
    clear hC
    gi_wp2
    go_wp2_with fail
    rw [← HR.out]
    go_ret
    exact ⟨rfl, HS.out.low⟩
/-- The sites that are waited for. -/
def waitL (f : Frt) (S : Nat → Int) : List Int := (natI (regL f)).filter fun x => waitB f (askF f) S x.toNat
def mayB (f : Frt) (S : Nat → Int) : Bool := (f.okB && vecOk S) && !(f.prop == 0)
def waitsL (f : Frt) (S : Nat → Int) : List Int := if mayB f S = true then waitL f S else []
set_option maxRecDepth 100000 in
set_option maxHeartbeats 2000000 in
theorem waits_any (f : Frt) (S : Nat → Int) (w : World) : Calls Tryz.prog 31 #[.agg f.cells, vecV S] w (GivesRow 3 1 (waitsL f S).length ((waitsL f S).flatMap encZ) w) := by
 have hmf : ∀ (fn : Fn) (first cap : Array Value) (w : World), (Instr.makeFunc fn first cap).run Tryz.prog w = .ok (.func fn first cap) w := fun _ _ _ _ => rfl
 have HS := H7 (St.start w)
 have HC := H7 (fun w' => frCheck_any f w')
 have HV := H7 (fun w' => vecCheck_any S w')
 obtain ⟨L, hL⟩ : ∃ L, waitsL f S = L := ⟨_, rfl⟩
 obtain ⟨x1, h1⟩ : ∃ x, f.okB = x := ⟨_, rfl⟩
 obtain ⟨x2, h2⟩ : ∃ x, vecOk S = x := ⟨_, rfl⟩
 obtain ⟨x3, h3⟩ : ∃ x, (f.prop == 0) = x := ⟨_, rfl⟩
 rw [h1] at HC
 rw [h2] at HV
 unfold waitsL mayB at hL
 rw [h1, h2, h3] at hL
 have HL := H7 hL
 rw [show waitsL f S = L from by unfold waitsL mayB; rw [h1, h2, h3]; exact hL]
 clear hL h1 h2
 unfold vecV
 go_enter Tryz.func31, Tryz.ntmps31
 repeat ((fail_if_success (with_reducible refine stop_at (id := 1) ?_)); (first | go_values | go_skip | go_guarded | go_step | go_upon | go_back | (simp only [Int.not_lt, Int.not_le] at *; go_simp) | (go_values <;> (try go_simp)) | (go_ite <;> go_prune <;> (try go_simp)) | (split <;> (first | (rename_i hx; exact (hx _ rfl).elim) | go_prune))))
 have hs_ := ((HS.out.alloc (.cells f.cells 29)).alloc (.cells (lit9 S) 24))
 obtain ⟨w1, hw_⟩ : ∃ w1 : World, ((w.alloc (.cells f.cells 29)).alloc (.cells (lit9 S) 24)) = w1 := ⟨_, rfl⟩
 rw [hw_] at hs_
 try simp only [World.size_alloc] at hs_
 have HS := H7 hs_
 rw [hw_]
 clear hw_ hs_
 refine (wpIn_wide (n := 0)).1 ?_
 repeat (first | (refine ldF _ rfl rfl (HS.out.blockAt 1 rfl) ?_; simp only [Act.put, List.setIfInBounds_toArray, List.set_cons_succ, List.set_cons_zero]) | (refine ldV _ rfl rfl (HS.out.blockAt 0 rfl) ?_; simp only [Act.put, List.setIfInBounds_toArray, List.set_cons_succ, List.set_cons_zero]) | gi_step)
 refine (callsIn_wide.2 (HC.out _)).mono ?_
 rintro e w2 ⟨rfl, hb_⟩
 have HS := H7 (HS.out.below hb_)
 clear hb_
 cases x1 with
 | false =>
  rw [show errOf false 280 = 280 from rfl]
  gi_wp2_with (exfalso; exact undefB (by assumption))
  go_wp2_with fail
  rw [← HL.out]
  go_ret
  exact ⟨_, rfl, World.ownsRow_nil _ _ _ _, HS.out.low⟩
 | true =>
  rw [show errOf true 280 = 0 from rfl]
  simp only []; go_at_K
  repeat (first | (refine ldF _ rfl rfl (HS.out.blockAt 1 rfl) ?_; simp only [Act.put, List.setIfInBounds_toArray, List.set_cons_succ, List.set_cons_zero]) | (refine ldV _ rfl rfl (HS.out.blockAt 0 rfl) ?_; simp only [Act.put, List.setIfInBounds_toArray, List.set_cons_succ, List.set_cons_zero]) | gi_step)
  refine (callsIn_wide.2 (HV.out _)).mono ?_
  rintro e w3 ⟨rfl, hb_⟩
  have HS := H7 (HS.out.below hb_)
  clear hb_
  cases x2 with
  | false =>
   rw [show errOf false 230 = 230 from rfl]
   gi_wp2_with (exfalso; exact undefB (by assumption))
   go_wp2_with fail
   rw [← HL.out]
   go_ret
   exact ⟨_, rfl, World.ownsRow_nil _ _ _ _, HS.out.low⟩
  | true =>
   rw [show errOf true 230 = 0 from rfl]
   have q := Frt.propC (HS.out.blockAt 1 rfl)
   cases x3 with
   | true =>
    gi_wp2_with (exfalso; exact undefB (by assumption))
    clear q
    go_wp2_with fail
    rw [← HL.out]
    go_ret
    exact ⟨_, rfl, World.ownsRow_nil _ _ _ _, HS.out.low⟩
   | false =>
    have HL := H7 (show L = waitL f S from HL.out.symm)
    gi_wp2_with (exfalso; exact undefB (by assumption))
    clear q h3 HC HV
    repeat ((fail_if_success (with_reducible refine stop_at (id := 3) ?_)); (first | go_values | go_skip | go_guarded | go_step | go_upon | go_back | (simp only [Int.not_lt, Int.not_le] at *; go_simp) | (go_values <;> (try go_simp)) | (go_ite <;> go_prune <;> (try go_simp)) | (split <;> (first | (rename_i hx; exact (hx _ rfl).elim) | go_prune))))
    refine (wpIn_wide (n := 0)).1 ?_
    repeat (first | (refine ldF _ rfl rfl (HS.out.blockAt 1 rfl) ?_; simp only [Act.put, List.setIfInBounds_toArray, List.set_cons_succ, List.set_cons_zero]) | gi_step)
    refine (callsIn_wide.2 (asked_any f _)).mono ?_
    rintro e w4 ⟨rfl, hb_⟩
    have HS := H7 (HS.out.below hb_)
    clear hb_
    unfold vecV
    simp only []; go_at_K
    repeat (first | (refine nwV rfl ?_; simp only [Act.put, List.setIfInBounds_toArray, List.set_cons_succ, List.set_cons_zero]) | (refine stNewV _ _ rfl rfl rfl rfl rfl ?_; simp only [Act.put, List.setIfInBounds_toArray, List.set_cons_succ, List.set_cons_zero]) | gi_step)
    gi_wp2_with fail
    have hs_ := (HS.out.alloc (.cells (lit9 (askF f)) 24))
    obtain ⟨w5, hw_⟩ : ∃ w5 : World, (w4.alloc (.cells (lit9 (askF f)) 24)) = w5 := ⟨_, rfl⟩
    rw [hw_] at hs_
    try simp only [World.size_alloc] at hs_
    have HS := H7 hs_
    rw [hw_]
    clear hw_ hs_
    repeat ((fail_if_success (with_reducible refine stop_at (id := 4) ?_)); (first | go_values | go_skip | go_guarded | go_step | go_upon | go_back | (simp only [Int.not_lt, Int.not_le] at *; go_simp) | (go_values <;> (try go_simp)) | (go_ite <;> go_prune <;> (try go_simp)) | (split <;> (first | (rename_i hx; exact (hx _ rfl).elim) | go_prune))))
    refine (wpIn_wide (n := 0)).1 ?_
    repeat (first | (refine ldF _ rfl rfl (HS.out.blockAt 2 rfl) ?_; simp only [Act.put, List.setIfInBounds_toArray, List.set_cons_succ, List.set_cons_zero]) | gi_step)
    refine (callsIn_wide.2 (frAll_any f _)).mono ?_
    rintro e w6 ⟨sv, rfl, hrow, hb_⟩
    have hlow := hb_
    have HS := H7 (HS.out.below hb_)
    clear hb_
    rw [← natI_len] at hrow
    have hel := ownsRow_rows encZ_len hrow
    obtain ⟨a, c, rfl⟩ : ∃ a c, sv = .slice a (regL f).length c := by
     rcases hel with ⟨e, h0⟩ | ⟨b0, off, cap, e, _⟩
     · exact ⟨none, 0, by rw [e]; rw [natI_len] at h0; rw [h0]⟩
     · exact ⟨_, cap, by rw [e, natI_len]⟩
    rw [natI_len] at hel
    have hcl : ∀ x w', x ∈ natI (regL f) → Below w6.heap.size w6 w' → Calls Tryz.prog 59 (#[.int .i64 x] ++ #[.pointer (some ⟨w.heap.size, 0, none⟩), .pointer (some ⟨w4.heap.size, 0, none⟩), .pointer (some ⟨w.heap.size + 1, 0, none⟩)]) w' (Gives (.bool (waitB f (askF f) S x.toNat)) w') := by
     intro x w' hx hb'
     obtain ⟨k, hk, rfl⟩ := List.mem_map.1 hx
     have HS' := HS.out.below hb'
     exact waits1_any f (askF f) S k (regL_mem.1 hk).1 _ _ _ w' (HS'.blockAt 2 rfl) (HS'.blockAt 0 rfl) (HS'.blockAt 1 rfl)
    have HSI := H7 (sifted_any 59 _ (fun x => waitB f (askF f) S x.toNat) (enters_of Tryz.func59 (by kernel_rfl) rfl) a _ c (natI (regL f)) (natI_len _) (by have := regL_len f; omega) w6 hel hcl)
    clear hrow hel hcl hlow
    gi_wp2_with fail
    refine (callsIn_wide.2 HSI.out).mono ?_
    rintro e w7 ⟨sv, rfl, hrow, hb_⟩
    have hz := HS.out.low.size
    have HS := H7 (HS.out.below hb_)
    clear hb_
    obtain ⟨a2, n2, c2, rfl⟩ : ∃ a n c, sv = .slice a n c := by
     rcases ownsRow_rows encZ_len hrow with ⟨e, h0⟩ | ⟨b0, off, cap, e, _⟩
     · exact ⟨_, _, _, e⟩
     · exact ⟨_, _, _, e⟩
    have HROW := H7 (ownsRow_mono hrow hz)
    clear hrow hz HSI
    gi_wp2_with fail
    go_wp2_with fail
    rw [HL.out]
    go_ret
    exact ⟨_, rfl, HROW.out, HS.out.low⟩
end Go.Proofs.YteklfmacnnmomaaGreat
