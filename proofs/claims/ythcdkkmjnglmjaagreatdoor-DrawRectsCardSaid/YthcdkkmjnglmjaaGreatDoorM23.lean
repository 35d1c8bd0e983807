/- Merged texts: DgR. -/
import Derived.Test.YthcdkkmjnglmjaaGreatDoorM22
set_option linter.unusedSimpArgs false
set_option linter.unusedVariables false
/- The document's layer 7: Rect. -/
namespace Go.Proofs.YthcdkkmjnglmjaaGreatDoor
open Go.RowKit Go.Shelf
attribute [local go_sem] Oper.semAt_some
def betwB (n a b : Int) : Bool := decide ((a ≤ n ∧ n ≤ b) ∨ (b ≤ n ∧ n ≤ a))
def edgeB (a b : PtT) (x y : Int) : Bool := (((x == a.x) || (x == b.x)) || (y == a.y)) || (y == b.y)
def rectB (one : Bool) (a b : PtT) (x y : Nat) : Bool := (betwB (x : Int) a.x b.x && betwB (y : Int) a.y b.y) && (!one || edgeB a b (x : Int) (y : Int))
set_option maxRecDepth 100000 in
theorem betw_any (n a b : Int) (w : World) : Calls Tryz.prog 70 #[.int .i64 n, .int .i64 a, .int .i64 b] w (Gives (.bool (betwB n a b)) w) := by
 by_cases h1 : a ≤ n <;> by_cases h2 : n ≤ b <;> by_cases h3 : b ≤ n <;> by_cases h4 : n ≤ a <;> (
  go_enter Tryz.func70, Tryz.ntmps70
  go_wp2_with fail
  go_ret
  exact ⟨ret_bool (by unfold betwB; symm; simp [h1, h2, h3, h4]), B7 _ _⟩)
set_option maxRecDepth 100000 in
set_option maxHeartbeats 4000000 in
theorem r7Rect_paint (C : CanT) (hC : okCan C) (v : Value) (pa pb : PtT) (c : ColT) (hc : okC c) (w : World) (hv : CanV w C v) :
 Calls Tryz.prog 30 #[v, c.val, pa.val, pb.val, .int .i64 0] w (GivesV (pixTo C (rectB false pa pb) (fpaint c) (8 * C.high * (8 * C.wide))) w) := by
 have HV := H7 hv
 have HOC := H7 hC
 have HAT := H7 (fun (x y : Nat) hx hy w' (hb : Below w.heap.size w w') => r5At_any C hC v x y hx hy w' (hv.below hb))
 have HOV := H7 (fun u hu w' => r3Over_any u c hu hc w')
 have HPT := H7 (fun D hD v d w' h => r5Put_any D hD v d w' h)
 have HOK := H7 (fun q k hk => pixTo_ok hC q (fpaint_ok hc) k hk)
 have HWD := H7 (fun q k => pixTo_wide C q (fpaint c) k)
 obtain ⟨q, hq⟩ : ∃ q : Nat → Nat → Bool, q = rectB false pa pb := ⟨_, rfl⟩
 have HQ := H7 (fun x y : Nat => show q x y = rectB false pa pb x y by rw [hq])
 rw [← hq]
 obtain ⟨ca, ccap, rfl, -, -⟩ := id hv
 obtain ⟨W, hW⟩ : ∃ W, 8 * C.wide = W := ⟨_, rfl⟩
 obtain ⟨H, hH⟩ : ∃ H, 8 * C.high = H := ⟨_, rfl⟩
 have HST := H7 (fun j k (hk : k < W) => pixTo_step q (fpaint c) (x := k) (y := j) hW hk)
 rw [hW, hH] at HOK
 rw [hW] at HAT
 rw [hH] at HAT
 rw [hW, hH]
 have HB := H7 (And.intro hC.wide (And.intro hC.high (And.intro hW hH)))
 obtain ⟨wi, hwi⟩ : ∃ wi, C.wide = wi := ⟨_, rfl⟩
 obtain ⟨hi, hhi⟩ : ∃ hi, C.high = hi := ⟨_, rfl⟩
 obtain ⟨n, hn⟩ : ∃ n, C.tiles.length = n := ⟨_, rfl⟩
 have HN := H7 (And.intro hwi (And.intro hhi hn))
 have e1 : wrap64 (8 * (wi : Int)) = (W : Int) := by have := HB.out; unfold wrap64; omega
 have e2 : wrap64 (8 * (hi : Int)) = (H : Int) := by have := HB.out; unfold wrap64; omega
 have HWH := H7 (show W ≤ 32 ∧ H ≤ 32 by have := HB.out; omega)
 rw [hwi, hhi, hn] at HAT ⊢
 have HS := H7 (St.start w)
 obtain ⟨f, hf⟩ : ∃ f, fpaint c = f := ⟨_, rfl⟩
 have HF := H7 hf
 rw [hf] at HOK HWD HST ⊢
 obtain ⟨cc, hcc⟩ : ∃ cc, cc = c := ⟨_, rfl⟩
 have HCC := H7 hcc
 obtain ⟨r, g, b, al⟩ := c
 obtain ⟨ax, ay⟩ := pa
 obtain ⟨zx, zy⟩ := pb
 unfold ColT.val at HAT HOV ⊢
 unfold PtT.val
 simp only at HAT HOV ⊢
 clear hv hC hc hq hW hH hwi hhi hn hf hcc
 go_enter Tryz.func30, Tryz.ntmps30
 repeat ((fail_if_success (with_reducible refine stop_at (id := 1) ?_)); (first | go_values | go_skip | go_guarded | go_step | go_upon | go_back | (simp only [Int.not_lt, Int.not_le] at *; go_simp) | (go_values <;> (try go_simp)) | (go_ite <;> go_prune <;> (try go_simp)) | (split <;> (first | (rename_i hx; exact (hx _ rfl).elim) | go_prune))))
 have hs_ := (((((HS.out.alloc (.cells #[.int .i64 wi, .int .i64 hi, .slice ca n ccap] 24)).alloc (.cells #[.int .u8 r, .int .u8 g, .int .u8 b, .int .u8 al] 34)).alloc (.cells #[.int .i64 ax, .int .i64 ay] 26)).alloc (.cells #[.int .i64 zx, .int .i64 zy] 26)).alloc (.cells #[.int .i64 0, .int .i64 0, .slice none 0 0] 24))
 obtain ⟨w1, hw_⟩ : ∃ w1 : World, (((((w.alloc (.cells #[.int .i64 wi, .int .i64 hi, .slice ca n ccap] 24)).alloc (.cells #[.int .u8 r, .int .u8 g, .int .u8 b, .int .u8 al] 34)).alloc (.cells #[.int .i64 ax, .int .i64 ay] 26)).alloc (.cells #[.int .i64 zx, .int .i64 zy] 26)).alloc (.cells #[.int .i64 0, .int .i64 0, .slice none 0 0] 24)) = w1 := ⟨_, rfl⟩
 rw [hw_] at hs_
 try simp only [World.size_alloc] at hs_
 have HS := H7 hs_
 rw [hw_]
 clear hw_ hs_
 have q0 := h7c HS 4 0 rfl rfl
 have q1 := h7c HS 4 1 rfl rfl
 have q2 := h7c HS 4 2 rfl rfl
 repeat ((fail_if_success (with_reducible refine stop_at (id := 2) ?_)); (first | go_values | go_skip | go_guarded | go_step | go_upon | go_back | (simp only [Int.not_lt, Int.not_le] at *; go_simp) | (go_values <;> (try go_simp)) | (go_ite <;> go_prune <;> (try go_simp)) | (split <;> (first | (rename_i hx; exact (hx _ rfl).elim) | go_prune))))
 clear q0 q1 q2
 have HLW := H7 HS.out.size
 have HTOP := H7 HS.out.top
 obtain ⟨B, hB⟩ : ∃ B, w1.heap.size = B := ⟨_, rfl⟩
 have hs_ := (HS.out.alloc (.cells #[.int .i64 wi, .int .i64 hi, .slice ca n ccap] 24))
 obtain ⟨w2, hw_⟩ : ∃ w2 : World, (w1.alloc (.cells #[.int .i64 wi, .int .i64 hi, .slice ca n ccap] 24)) = w2 := ⟨_, rfl⟩
 rw [hw_] at hs_
 try simp only [World.size_alloc] at hs_
 have HS := H7 hs_
 rw [hw_]
 clear hw_ hs_
 obtain ⟨its, hits⟩ : ∃ its : List It, its = [.blk (w.heap.size + 1 + 1 + 1 + 1) (.cells #[.int .i64 0, .int .i64 0, .slice none 0 0] 24 (0, 0)), .blk (w.heap.size + 1 + 1 + 1) (.cells #[.int .i64 zx, .int .i64 zy] 26 (0, 0)), .blk (w.heap.size + 1 + 1) (.cells #[.int .i64 ax, .int .i64 ay] 26 (0, 0)), .blk (w.heap.size + 1) (.cells #[.int .u8 r, .int .u8 g, .int .u8 b, .int .u8 al] 34 (0, 0)), .blk (w.heap.size) (.cells #[.int .i64 wi, .int .i64 hi, .slice ca n ccap] 24 (0, 0))] := ⟨_, rfl⟩
 have HBK := H7 (show ∀ (x : World) (D : CanT), PutS w its B D x → x.heap[w.heap.size + 1 + 1 + 1 + 1]? = some (.cells #[.int .i64 0, .int .i64 0, .slice none 0 0] 24 (0, 0)) ∧ x.heap[w.heap.size + 1 + 1 + 1]? = some (.cells #[.int .i64 zx, .int .i64 zy] 26 (0, 0)) ∧ x.heap[w.heap.size + 1 + 1]? = some (.cells #[.int .i64 ax, .int .i64 ay] 26 (0, 0)) ∧ x.heap[w.heap.size + 1]? = some (.cells #[.int .u8 r, .int .u8 g, .int .u8 b, .int .u8 al] 34 (0, 0)) ∧ x.heap[w.heap.size]? = some (.cells #[.int .i64 wi, .int .i64 hi, .slice ca n ccap] 24 (0, 0)) from
  fun x D h => by subst hits; exact ⟨h.st.blockAt 0 rfl, h.st.blockAt 1 rfl, h.st.blockAt 2 rfl, h.st.blockAt 3 rfl, h.st.blockAt 4 rfl⟩)
 have HP := H7 (show PutS w its B C w2 by
  have hs := HS.out
  rw [hB, ← hits] at hs
  refine PutS.start (a := ca) (cap := ccap) ?_ HOC.out ?_ ?_ ?_
  · rw [HN.out.1, HN.out.2.1, HN.out.2.2]; exact hs
  · exact HV.out.below hs.low
  · have h1 := HS.out.drop1.low.size
    rw [← hB]
    exact HLW.out
  · intro i hi
    rw [← hB]
    exact HTOP.out i (by rw [← hits]; exact hi))
 rw [hB]
 clear HS HLW HTOP hits hB HV
 have q1 := c7b (k := 1) (HBK.out _ _ HP.out).2.2.2.2 rfl
 go_wp2_with fail
 clear q1
 try rw [e2]
 clear e2
 go_loopw [20] (fun i wr => ∃ j : Nat, j ≤ H ∧ i = .int .i64 (j : Int) ∧ PutS w its B (pixTo C q f (j * W)) wr) (fun i _ => H - (intOf i).toNat)
 case atStart => exact ⟨0, Nat.zero_le _, rfl, by rw [Nat.zero_mul]; exact HP.out⟩
 case round =>
  obtain ⟨j, hj, rfl, hp⟩ := hrel
  clear HP
  have HP := H7 hp
  clear hp
  by_cases hlt : j < H
  · have HJ := H7 hlt
    have HE1 := H7 (wrapS (n := j) (by have := HWH.out; omega))
    have q0 := c7b (k := 0) (HBK.out _ _ HP.out).2.2.2.2 rfl
    clear hj
    go_wp2_with fail
    clear q0 hlt
    try rw [e1]
    clear e1
    go_loopw [26] (fun i wx => ∃ k : Nat, k ≤ W ∧ i = .int .i64 (k : Int) ∧ PutS w its B (pixTo C q f (j * W + k)) wx) (fun i _ => W - (intOf i).toNat)
    case atStart => exact ⟨0, Nat.zero_le _, rfl, HP.out⟩
    case round =>
     obtain ⟨k, hk, rfl, hp⟩ := hrel
     clear HP
     have HP := H7 hp
     clear hp
     by_cases hkt : k < W
     · have HK := H7 hkt
       have HE2 := H7 (wrapS (n := k) (by have := HWH.out; omega))
       clear hk
       obtain ⟨E1, hE1⟩ : ∃ E1, ((k : Int) == ax) = E1 := ⟨_, rfl⟩
       obtain ⟨E2, hE2⟩ : ∃ E2, ((k : Int) == zx) = E2 := ⟨_, rfl⟩
       obtain ⟨E3, hE3⟩ : ∃ E3, ((j : Int) == ay) = E3 := ⟨_, rfl⟩
       obtain ⟨E4, hE4⟩ : ∃ E4, ((j : Int) == zy) = E4 := ⟨_, rfl⟩
       have HED := H7 (show edgeB ⟨ax, ay⟩ ⟨zx, zy⟩ (k : Int) (j : Int) = (((E1 || E2) || E3) || E4) by unfold edgeB; simp only; rw [hE1, hE2, hE3, hE4])
       have HEE := H7 (And.intro hE1 (And.intro hE2 (And.intro hE3 hE4)))
       clear hE1 hE2 hE3 hE4
       repeat ((fail_if_success (with_reducible refine stop_at (id := 8) ?_)); (first | go_values | go_skip | go_guarded | go_step | go_upon | go_back | (simp only [Int.not_lt, Int.not_le] at *; go_simp) | (go_values <;> (try go_simp)) | (go_ite <;> go_prune <;> (try go_simp)) | (split <;> (first | (rename_i hx; exact (hx _ rfl).elim) | go_prune))))
       clear hkt
       refine (wpIn_wide (n := 0)).1 ?_
       apply wp_region_textv 23 (Rl := [(eqv _), (eqv _), (eqv _), (fun v_ _ => v_ = (.bool E1 : Value)), (fun v_ _ => v_ = (.bool E1 : Value)), (fun v_ _ => v_ = (bif E1 then undef else .int .i64 (k : Int) : Value)), (fun v_ _ => v_ = (bif E1 then undef else .pointer (some ⟨w.heap.size + 1 + 1 + 1, 0, none⟩) : Value)), (fun v_ _ => v_ = (bif E1 then undef else .int .i64 zx : Value)), (fun v_ _ => v_ = (bif E1 then undef else .bool E2 : Value)), (fun v_ _ => v_ = (.bool (E1 || E2) : Value)), (fun v_ _ => v_ = (.bool (E1 || E2) : Value)), (fun v_ _ => v_ = (bif E1 || E2 then undef else .int .i64 (j : Int) : Value)), (fun v_ _ => v_ = (bif E1 || E2 then undef else .pointer (some ⟨w.heap.size + 1 + 1, 1, none⟩) : Value)), (fun v_ _ => v_ = (bif E1 || E2 then undef else .int .i64 ay : Value)), (fun v_ _ => v_ = (bif E1 || E2 then undef else .bool E3 : Value)), (fun v_ _ => v_ = (.bool ((E1 || E2) || E3) : Value)), (fun v_ _ => v_ = (.bool ((E1 || E2) || E3) : Value)), (fun v_ _ => v_ = (bif (E1 || E2) || E3 then undef else .int .i64 (j : Int) : Value)), (fun v_ _ => v_ = (bif (E1 || E2) || E3 then undef else .pointer (some ⟨w.heap.size + 1 + 1 + 1, 1, none⟩) : Value)), (fun v_ _ => v_ = (bif (E1 || E2) || E3 then undef else .int .i64 zy : Value)), (fun v_ _ => v_ = (bif (E1 || E2) || E3 then undef else .bool E4 : Value)), (fun v_ _ => v_ = (.bool (((E1 || E2) || E3) || E4) : Value)), (eqv _)]) (C := (fun x y => Below x.heap.size x y))
       case hk => rfl
       case hCr => exact (fun _ => B7 _ _)
       case hCt => intro _ _ _; exact (fun h k => g7t h k)
       case hst => repeat (first | exact trivial | refine ⟨fun _ _ _ _ h => h, ?_⟩)
       case hfo => kernel_rfl
       case hsteps =>
        refine ⟨?_, ?_, ?_, ?_, ?_, ?_, ?_, ?_, ?_, ?_, ?_, ?_, ?_, ?_, ?_, ?_, ?_, ?_, ?_, ?_, ?_, ?_, ?_, trivial⟩
        · intro a' w' hA hC hD; have s13 := hA.to 13 (by kernel_rfl) rfl; clear hA hD; refine o7p rfl ?_; intro K hK; gi_wp2; exact hK _ _ rfl (B7 _ _)
        · intro a' w' hA hC hD; have s7 := hA.to 7 (by kernel_rfl) rfl; clear hA hD; refine o7p rfl ?_; intro K hK; gi_wp2; exact hK _ _ rfl (B7 _ _)
        · intro a' w' hA hC hD; obtain ⟨u30, s30, rfl⟩ := hD ⟨1, .data⟩ (by simp) rfl _ rfl
          have pQ := (HBK.out _ _ (HP.out.below hC)).2.2.1; have aQ := c7b (k := 0) pQ rfl; clear pQ
          clear hA hD; refine o7p rfl ?_; intro K hK; gi_wp2; exact hK _ _ rfl (B7 _ _)
        · intro a' w' hA hC hD; obtain ⟨u29, s29, rfl⟩ := hD ⟨0, .data⟩ (by simp) rfl _ rfl; obtain ⟨u31, s31, rfl⟩ := hD ⟨2, .data⟩ (by simp) rfl _ rfl; clear hA hD; refine o7p rfl ?_; intro K hK; gi_wp2; exact hK _ _ (show _ = (.bool E1 : Value) from by first | (simp only [HEE.out.1, cond_true, cond_false, Bool.true_and, Bool.false_and, Bool.not_true, Bool.not_false, beq_self_eq_true]; try rfl) | rfl) (B7 _ _)
        · intro a' w' hA hC hD; obtain ⟨u32, s32, r32⟩ := hD ⟨3, .data⟩ (by simp) rfl _ rfl; replace r32 : u32 = .bool E1 := r32; subst r32; clear hA hD; refine o7p rfl ?_; intro K hK; gi_wp2; exact hK (.bool E1) _ rfl (B7 _ _)
        · intro a' w' hA hC hD; have s13 := hA.to 13 (by kernel_rfl) rfl; obtain ⟨u33, s33, r33⟩ := hD ⟨4, .guard⟩ (by simp) rfl _ rfl; replace r33 : u33 = .bool E1 := r33; subst r33; clear hA hD
          rcases (Bool.eq_false_or_eq_true (E1)).symm with hg | hg <;> (try simp only [hg, cond_true, cond_false] at s13 s33)
          · refine o7w rfl rfl s33 ?_
            intro K hK; gi_wp2; exact hK _ _ (show _ = (bif E1 then undef else .int .i64 (k : Int) : Value) from by first | (simp only [hg, cond_true, cond_false, Bool.true_and, Bool.false_and, Bool.not_true, Bool.not_false, beq_self_eq_true]; try rfl) | rfl) (B7 _ _)
          · exact o7s rfl rfl s33 (show (undef : Value) = (bif E1 then undef else .int .i64 (k : Int) : Value) from by simp only [hg, cond_true, cond_false])
        · intro a' w' hA hC hD; have s8 := hA.to 8 (by kernel_rfl) rfl; obtain ⟨u33, s33, r33⟩ := hD ⟨4, .guard⟩ (by simp) rfl _ rfl; replace r33 : u33 = .bool E1 := r33; subst r33; clear hA hD
          rcases (Bool.eq_false_or_eq_true (E1)).symm with hg | hg <;> (try simp only [hg, cond_true, cond_false] at s8 s33)
          · refine o7w rfl rfl s33 ?_
            intro K hK; gi_wp2; exact hK _ _ (show _ = (bif E1 then undef else .pointer (some ⟨w.heap.size + 1 + 1 + 1, 0, none⟩) : Value) from by first | (simp only [hg, cond_true, cond_false, Bool.true_and, Bool.false_and, Bool.not_true, Bool.not_false, beq_self_eq_true]; try rfl) | rfl) (B7 _ _)
          · exact o7s rfl rfl s33 (show (undef : Value) = (bif E1 then undef else .pointer (some ⟨w.heap.size + 1 + 1 + 1, 0, none⟩) : Value) from by simp only [hg, cond_true, cond_false])
        · intro a' w' hA hC hD; obtain ⟨u35, s35, r35⟩ := hD ⟨6, .data⟩ (by simp) rfl _ rfl; replace r35 : u35 = bif E1 then undef else .pointer (some ⟨w.heap.size + 1 + 1 + 1, 0, none⟩) := r35; subst r35; obtain ⟨u33, s33, r33⟩ := hD ⟨4, .guard⟩ (by simp) rfl _ rfl; replace r33 : u33 = .bool E1 := r33; subst r33
          have pQ := (HBK.out _ _ (HP.out.below hC)).2.1; have aQ := c7b (k := 0) pQ rfl; clear pQ
          clear hA hD
          rcases (Bool.eq_false_or_eq_true (E1)).symm with hg | hg <;> (try simp only [hg, cond_true, cond_false] at s35 s33)
          · refine o7w rfl rfl s33 ?_
            intro K hK; gi_wp2; exact hK _ _ (show _ = (bif E1 then undef else .int .i64 zx : Value) from by first | (simp only [hg, cond_true, cond_false, Bool.true_and, Bool.false_and, Bool.not_true, Bool.not_false, beq_self_eq_true]; try rfl) | rfl) (B7 _ _)
          · exact o7s rfl rfl s33 (show (undef : Value) = (bif E1 then undef else .int .i64 zx : Value) from by simp only [hg, cond_true, cond_false])
        · intro a' w' hA hC hD; obtain ⟨u34, s34, r34⟩ := hD ⟨5, .data⟩ (by simp) rfl _ rfl; replace r34 : u34 = bif E1 then undef else .int .i64 (k : Int) := r34; subst r34; obtain ⟨u36, s36, r36⟩ := hD ⟨7, .data⟩ (by simp) rfl _ rfl; replace r36 : u36 = bif E1 then undef else .int .i64 zx := r36; subst r36; obtain ⟨u33, s33, r33⟩ := hD ⟨4, .guard⟩ (by simp) rfl _ rfl; replace r33 : u33 = .bool E1 := r33; subst r33; clear hA hD
          rcases (Bool.eq_false_or_eq_true (E1)).symm with hg | hg <;> (try simp only [hg, cond_true, cond_false] at s34 s36 s33)
          · refine o7w rfl rfl s33 ?_
            intro K hK; gi_wp2; exact hK _ _ (show _ = (bif E1 then undef else .bool E2 : Value) from by first | (simp only [hg, HEE.out.2.1, cond_true, cond_false, Bool.true_and, Bool.false_and, Bool.not_true, Bool.not_false, beq_self_eq_true]; try rfl) | rfl) (B7 _ _)
          · exact o7s rfl rfl s33 (show (undef : Value) = (bif E1 then undef else .bool E2 : Value) from by simp only [hg, cond_true, cond_false])
        · intro a' w' hA hC hD; obtain ⟨u33, s33, r33⟩ := hD ⟨4, .data⟩ (by simp) rfl _ rfl; replace r33 : u33 = .bool E1 := r33; subst r33; obtain ⟨u37, s37, r37⟩ := hD ⟨8, .data⟩ (by simp) rfl _ rfl; replace r37 : u37 = bif E1 then undef else .bool E2 := r37; subst r37; clear hA hD
          rcases (Bool.eq_false_or_eq_true (E1)).symm with hg | hg <;> (try simp only [hg, cond_true, cond_false] at s33 s37)
          · refine o7p rfl ?_
            intro K hK; gi_wp2; exact hK _ _ (show _ = (.bool (E1 || E2) : Value) from by first | (simp only [hg, Bool.true_or, Bool.false_or, Bool.or_true, Bool.or_false, cond_true, cond_false, Bool.true_and, Bool.false_and, Bool.not_true, Bool.not_false, beq_self_eq_true]; try rfl) | rfl) (B7 _ _)
          · refine o7p rfl ?_
            intro K hK; gi_wp2; exact hK _ _ (show _ = (.bool (E1 || E2) : Value) from by first | (simp only [hg, Bool.true_or, Bool.false_or, Bool.or_true, Bool.or_false, cond_true, cond_false, Bool.true_and, Bool.false_and, Bool.not_true, Bool.not_false, beq_self_eq_true]; try rfl) | rfl) (B7 _ _)
        · intro a' w' hA hC hD; obtain ⟨u38, s38, r38⟩ := hD ⟨9, .data⟩ (by simp) rfl _ rfl; replace r38 : u38 = .bool (E1 || E2) := r38; subst r38; clear hA hD; refine o7p rfl ?_; intro K hK; gi_wp2; exact hK (.bool (E1 || E2)) _ rfl (B7 _ _)
        · intro a' w' hA hC hD; have s12 := hA.to 12 (by kernel_rfl) rfl; obtain ⟨u39, s39, r39⟩ := hD ⟨10, .guard⟩ (by simp) rfl _ rfl; replace r39 : u39 = .bool (E1 || E2) := r39; subst r39; clear hA hD
          rcases (Bool.eq_false_or_eq_true (E1 || E2)).symm with hg | hg <;> (try simp only [hg, cond_true, cond_false] at s12 s39)
          · refine o7w rfl rfl s39 ?_
            intro K hK; gi_wp2; exact hK _ _ (show _ = (bif E1 || E2 then undef else .int .i64 (j : Int) : Value) from by first | (simp only [hg, cond_true, cond_false, Bool.true_and, Bool.false_and, Bool.not_true, Bool.not_false, beq_self_eq_true]; try rfl) | rfl) (B7 _ _)
          · exact o7s rfl rfl s39 (show (undef : Value) = (bif E1 || E2 then undef else .int .i64 (j : Int) : Value) from by simp only [hg, cond_true, cond_false])
        · intro a' w' hA hC hD; have s7 := hA.to 7 (by kernel_rfl) rfl; obtain ⟨u39, s39, r39⟩ := hD ⟨10, .guard⟩ (by simp) rfl _ rfl; replace r39 : u39 = .bool (E1 || E2) := r39; subst r39; clear hA hD
          rcases (Bool.eq_false_or_eq_true (E1 || E2)).symm with hg | hg <;> (try simp only [hg, cond_true, cond_false] at s7 s39)
          · refine o7w rfl rfl s39 ?_
            intro K hK; gi_wp2; exact hK _ _ (show _ = (bif E1 || E2 then undef else .pointer (some ⟨w.heap.size + 1 + 1, 1, none⟩) : Value) from by first | (simp only [hg, cond_true, cond_false, Bool.true_and, Bool.false_and, Bool.not_true, Bool.not_false, beq_self_eq_true]; try rfl) | rfl) (B7 _ _)
          · exact o7s rfl rfl s39 (show (undef : Value) = (bif E1 || E2 then undef else .pointer (some ⟨w.heap.size + 1 + 1, 1, none⟩) : Value) from by simp only [hg, cond_true, cond_false])
        · intro a' w' hA hC hD; obtain ⟨u41, s41, r41⟩ := hD ⟨12, .data⟩ (by simp) rfl _ rfl
          replace r41 : u41 = bif E1 || E2 then undef else .pointer (some ⟨w.heap.size + 1 + 1, 1, none⟩) := r41
          subst r41; obtain ⟨u39, s39, r39⟩ := hD ⟨10, .guard⟩ (by simp) rfl _ rfl; replace r39 : u39 = .bool (E1 || E2) := r39; subst r39
          have pQ := (HBK.out _ _ (HP.out.below hC)).2.2.1; have aQ := c7b (k := 1) pQ rfl; clear pQ
          clear hA hD
          rcases (Bool.eq_false_or_eq_true (E1 || E2)).symm with hg | hg <;> (try simp only [hg, cond_true, cond_false] at s41 s39)
          · refine o7w rfl rfl s39 ?_
            intro K hK; gi_wp2; exact hK _ _ (show _ = (bif E1 || E2 then undef else .int .i64 ay : Value) from by first | (simp only [hg, cond_true, cond_false, Bool.true_and, Bool.false_and, Bool.not_true, Bool.not_false, beq_self_eq_true]; try rfl) | rfl) (B7 _ _)
          · exact o7s rfl rfl s39 (show (undef : Value) = (bif E1 || E2 then undef else .int .i64 ay : Value) from by simp only [hg, cond_true, cond_false])
        · intro a' w' hA hC hD; obtain ⟨u40, s40, r40⟩ := hD ⟨11, .data⟩ (by simp) rfl _ rfl
          replace r40 : u40 = bif E1 || E2 then undef else .int .i64 (j : Int) := r40
          subst r40; obtain ⟨u42, s42, r42⟩ := hD ⟨13, .data⟩ (by simp) rfl _ rfl
          replace r42 : u42 = bif E1 || E2 then undef else .int .i64 ay := r42
          subst r42; obtain ⟨u39, s39, r39⟩ := hD ⟨10, .guard⟩ (by simp) rfl _ rfl; replace r39 : u39 = .bool (E1 || E2) := r39; subst r39; clear hA hD
          rcases (Bool.eq_false_or_eq_true (E1 || E2)).symm with hg | hg <;> (try simp only [hg, cond_true, cond_false] at s40 s42 s39)
          · refine o7w rfl rfl s39 ?_
            intro K hK; gi_wp2; exact hK _ _ (show _ = (bif E1 || E2 then undef else .bool E3 : Value) from by first | (simp only [hg, HEE.out.2.2.1, cond_true, cond_false, Bool.true_and, Bool.false_and, Bool.not_true, Bool.not_false, beq_self_eq_true]; try rfl) | rfl) (B7 _ _)
          · exact o7s rfl rfl s39 (show (undef : Value) = (bif E1 || E2 then undef else .bool E3 : Value) from by simp only [hg, cond_true, cond_false])
        · intro a' w' hA hC hD; obtain ⟨u39, s39, r39⟩ := hD ⟨10, .data⟩ (by simp) rfl _ rfl; replace r39 : u39 = .bool (E1 || E2) := r39; subst r39; obtain ⟨u43, s43, r43⟩ := hD ⟨14, .data⟩ (by simp) rfl _ rfl
          replace r43 : u43 = bif E1 || E2 then undef else .bool E3 := r43
          subst r43; clear hA hD
          rcases (Bool.eq_false_or_eq_true (E1 || E2)).symm with hg | hg <;> (try simp only [hg, cond_true, cond_false] at s39 s43)
          · refine o7p rfl ?_
            intro K hK; gi_wp2; exact hK _ _ (show _ = (.bool ((E1 || E2) || E3) : Value) from by first | (simp only [hg, Bool.true_or, Bool.false_or, Bool.or_true, Bool.or_false, cond_true, cond_false, Bool.true_and, Bool.false_and, Bool.not_true, Bool.not_false, beq_self_eq_true]; try rfl) | rfl) (B7 _ _)
          · refine o7p rfl ?_
            intro K hK; gi_wp2; exact hK _ _ (show _ = (.bool ((E1 || E2) || E3) : Value) from by first | (simp only [hg, Bool.true_or, Bool.false_or, Bool.or_true, Bool.or_false, cond_true, cond_false, Bool.true_and, Bool.false_and, Bool.not_true, Bool.not_false, beq_self_eq_true]; try rfl) | rfl) (B7 _ _)
        · intro a' w' hA hC hD; obtain ⟨u44, s44, r44⟩ := hD ⟨15, .data⟩ (by simp) rfl _ rfl; replace r44 : u44 = .bool ((E1 || E2) || E3) := r44; subst r44; clear hA hD; refine o7p rfl ?_; intro K hK; gi_wp2; exact hK (.bool ((E1 || E2) || E3)) _ rfl (B7 _ _)
        · intro a' w' hA hC hD; have s12 := hA.to 12 (by kernel_rfl) rfl; obtain ⟨u45, s45, r45⟩ := hD ⟨16, .guard⟩ (by simp) rfl _ rfl; replace r45 : u45 = .bool ((E1 || E2) || E3) := r45; subst r45; clear hA hD
          rcases (Bool.eq_false_or_eq_true ((E1 || E2) || E3)).symm with hg | hg <;> (try simp only [hg, cond_true, cond_false] at s12 s45)
          · refine o7w rfl rfl s45 ?_
            intro K hK; gi_wp2; exact hK _ _ (show _ = (bif (E1 || E2) || E3 then undef else .int .i64 (j : Int) : Value) from by first | (simp only [hg, cond_true, cond_false, Bool.true_and, Bool.false_and, Bool.not_true, Bool.not_false, beq_self_eq_true]; try rfl) | rfl) (B7 _ _)
          · exact o7s rfl rfl s45 (show (undef : Value) = (bif (E1 || E2) || E3 then undef else .int .i64 (j : Int) : Value) from by simp only [hg, cond_true, cond_false])
        · intro a' w' hA hC hD; have s8 := hA.to 8 (by kernel_rfl) rfl; obtain ⟨u45, s45, r45⟩ := hD ⟨16, .guard⟩ (by simp) rfl _ rfl; replace r45 : u45 = .bool ((E1 || E2) || E3) := r45; subst r45; clear hA hD
          rcases (Bool.eq_false_or_eq_true ((E1 || E2) || E3)).symm with hg | hg <;> (try simp only [hg, cond_true, cond_false] at s8 s45)
          · refine o7w rfl rfl s45 ?_
            intro K hK; gi_wp2; exact hK _ _ (show _ = (bif (E1 || E2) || E3 then undef else .pointer (some ⟨w.heap.size + 1 + 1 + 1, 1, none⟩) : Value) from by first | (simp only [hg, cond_true, cond_false, Bool.true_and, Bool.false_and, Bool.not_true, Bool.not_false, beq_self_eq_true]; try rfl) | rfl) (B7 _ _)
          · exact o7s rfl rfl s45 (show (undef : Value) = (bif (E1 || E2) || E3 then undef else .pointer (some ⟨w.heap.size + 1 + 1 + 1, 1, none⟩) : Value) from by simp only [hg, cond_true, cond_false])
        · intro a' w' hA hC hD; obtain ⟨u47, s47, r47⟩ := hD ⟨18, .data⟩ (by simp) rfl _ rfl
          replace r47 : u47 = bif (E1 || E2) || E3 then undef else .pointer (some ⟨w.heap.size + 1 + 1 + 1, 1, none⟩) := r47
          subst r47; obtain ⟨u45, s45, r45⟩ := hD ⟨16, .guard⟩ (by simp) rfl _ rfl; replace r45 : u45 = .bool ((E1 || E2) || E3) := r45; subst r45
          have pQ := (HBK.out _ _ (HP.out.below hC)).2.1; have aQ := c7b (k := 1) pQ rfl; clear pQ
          clear hA hD
          rcases (Bool.eq_false_or_eq_true ((E1 || E2) || E3)).symm with hg | hg <;> (try simp only [hg, cond_true, cond_false] at s47 s45)
          · refine o7w rfl rfl s45 ?_
            intro K hK; gi_wp2; exact hK _ _ (show _ = (bif (E1 || E2) || E3 then undef else .int .i64 zy : Value) from by first | (simp only [hg, cond_true, cond_false, Bool.true_and, Bool.false_and, Bool.not_true, Bool.not_false, beq_self_eq_true]; try rfl) | rfl) (B7 _ _)
          · exact o7s rfl rfl s45 (show (undef : Value) = (bif (E1 || E2) || E3 then undef else .int .i64 zy : Value) from by simp only [hg, cond_true, cond_false])
        · intro a' w' hA hC hD; obtain ⟨u46, s46, r46⟩ := hD ⟨17, .data⟩ (by simp) rfl _ rfl
          replace r46 : u46 = bif (E1 || E2) || E3 then undef else .int .i64 (j : Int) := r46
          subst r46; obtain ⟨u48, s48, r48⟩ := hD ⟨19, .data⟩ (by simp) rfl _ rfl
          replace r48 : u48 = bif (E1 || E2) || E3 then undef else .int .i64 zy := r48
          subst r48; obtain ⟨u45, s45, r45⟩ := hD ⟨16, .guard⟩ (by simp) rfl _ rfl; replace r45 : u45 = .bool ((E1 || E2) || E3) := r45; subst r45; clear hA hD
          rcases (Bool.eq_false_or_eq_true ((E1 || E2) || E3)).symm with hg | hg <;> (try simp only [hg, cond_true, cond_false] at s46 s48 s45)
          · refine o7w rfl rfl s45 ?_
            intro K hK; gi_wp2; exact hK _ _ (show _ = (bif (E1 || E2) || E3 then undef else .bool E4 : Value) from by first | (simp only [hg, HEE.out.2.2.2, cond_true, cond_false, Bool.true_and, Bool.false_and, Bool.not_true, Bool.not_false, beq_self_eq_true]; try rfl) | rfl) (B7 _ _)
          · exact o7s rfl rfl s45 (show (undef : Value) = (bif (E1 || E2) || E3 then undef else .bool E4 : Value) from by simp only [hg, cond_true, cond_false])
        · intro a' w' hA hC hD; obtain ⟨u45, s45, r45⟩ := hD ⟨16, .data⟩ (by simp) rfl _ rfl; replace r45 : u45 = .bool ((E1 || E2) || E3) := r45; subst r45; obtain ⟨u49, s49, r49⟩ := hD ⟨20, .data⟩ (by simp) rfl _ rfl
          replace r49 : u49 = bif (E1 || E2) || E3 then undef else .bool E4 := r49
          subst r49; clear hA hD
          rcases (Bool.eq_false_or_eq_true ((E1 || E2) || E3)).symm with hg | hg <;> (try simp only [hg, cond_true, cond_false] at s45 s49)
          · refine o7p rfl ?_
            intro K hK; gi_wp2; exact hK _ _ (show _ = (.bool (((E1 || E2) || E3) || E4) : Value) from by first | (simp only [hg, Bool.true_or, Bool.false_or, Bool.or_true, Bool.or_false, cond_true, cond_false, Bool.true_and, Bool.false_and, Bool.not_true, Bool.not_false, beq_self_eq_true]; try rfl) | rfl) (B7 _ _)
          · refine o7p rfl ?_
            intro K hK; gi_wp2; exact hK _ _ (show _ = (.bool (((E1 || E2) || E3) || E4) : Value) from by first | (simp only [hg, Bool.true_or, Bool.false_or, Bool.or_true, Bool.or_false, cond_true, cond_false, Bool.true_and, Bool.false_and, Bool.not_true, Bool.not_false, beq_self_eq_true]; try rfl) | rfl) (B7 _ _)
        · intro a' w' hA hC hD; obtain ⟨u50, s50, r50⟩ := hD ⟨21, .data⟩ (by simp) rfl _ rfl; replace r50 : u50 = .bool (((E1 || E2) || E3) || E4) := r50; subst r50; clear hA hD; refine o7p rfl ?_; intro K hK; gi_wp2; exact hK _ _ rfl (B7 _ _)
       case hend =>
        intro w4 hC
        simp only [EndFrom, eqv, forall_eq, Act.put, List.length_cons, List.length_nil, List.drop_succ_cons, List.drop_zero, Nat.reduceAdd, List.setIfInBounds_toArray, List.set_cons_succ, List.set_cons_zero]
        have HP := H7 (HP.out.below hC)
        clear hC HEE
        obtain ⟨E, hE⟩ : ∃ E, (((E1 || E2) || E3) || E4) = E := ⟨_, rfl⟩
        rw [hE] at HED
        simp only [hE]
        clear hE
        gi_wp2
        have pA := (HBK.out _ _ HP.out).2.2.1
        have pB := (HBK.out _ _ HP.out).2.1
        have a0 := c7b (k := 0) pA rfl
        have a1 := c7b (k := 1) pA rfl
        have z0 := c7b (k := 0) pB rfl
        have z1 := c7b (k := 1) pB rfl
        clear pA pB
        go_wp2_with fail
        clear a0 a1 z0 z1
        refine (betw_any (k : Int) ax zx _).mono ?_
        rintro e w45 ⟨rfl, hb⟩
        have HP := H7 (HP.out.below hb)
        clear hb
        cases hX : betwB (k : Int) ax zx with
        | false =>
         have HX := H7 hX
         clear hX
         go_wp2_with fail
         go_roundw
         case rel => exact ⟨k + 1, HK.out, by first | exact congrArg (Value.int .i64) HE2.out | exact congrArg (Value.int .i64) (Int.natCast_succ k).symm | (congr 1; omega), by rw [HST.out j k HK.out, if_neg (by rw [HQ.out]; unfold rectB; simp only; rw [HX.out]; simp)]; exact HP.out⟩
         case measure => (try rw [HE2.out]); have := HK.out; simp only [intOf]; omega
        | true =>
         have HX := H7 hX
         clear hX
         have pA := (HBK.out _ _ HP.out).2.2.1
         have pB := (HBK.out _ _ HP.out).2.1
         have a0 := c7b (k := 0) pA rfl
         have a1 := c7b (k := 1) pA rfl
         have z0 := c7b (k := 0) pB rfl
         have z1 := c7b (k := 1) pB rfl
         clear pA pB
         go_wp2_with fail
         clear a0 a1 z0 z1
         refine (betw_any (j : Int) ay zy _).mono ?_
         rintro e w5 ⟨rfl, hb⟩
         have HP := H7 (HP.out.below hb)
         clear hb
         cases hY : betwB (j : Int) ay zy with
         | false =>
          have HY := H7 hY
          clear hY
          go_wp2_with fail
          go_roundw
          case rel => exact ⟨k + 1, HK.out, by first | exact congrArg (Value.int .i64) HE2.out | exact congrArg (Value.int .i64) (Int.natCast_succ k).symm | (congr 1; omega), by rw [HST.out j k HK.out, if_neg (by rw [HQ.out]; unfold rectB; simp only; rw [HX.out, HY.out]; simp)]; exact HP.out⟩
          case measure => (try rw [HE2.out]); have := HK.out; simp only [intOf]; omega
         | true =>
          have HY := H7 hY
          clear hY
          have HH := H7 (show rectB false ⟨ax, ay⟩ ⟨zx, zy⟩ k j = true by unfold rectB; simp only; rw [HX.out, HY.out]; rfl)
          have b1 := (HBK.out _ _ HP.out).2.2.2.1
          have y0 := c7b (k := 0) b1 rfl
          have y1 := c7b (k := 1) b1 rfl
          have y2 := c7b (k := 2) b1 rfl
          have y3 := c7b (k := 3) b1 rfl
          clear b1
          repeat ((fail_if_success (with_reducible refine stop_at (id := 10) ?_)); (first | go_values | go_skip | go_guarded | go_step | go_upon | go_back | (simp only [Int.not_lt, Int.not_le] at *; go_simp) | (go_values <;> (try go_simp)) | (go_ite <;> go_prune <;> (try go_simp)) | (split <;> (first | (rename_i hx; exact (hx _ rfl).elim) | go_prune))))
          repeat ((fail_if_success (with_reducible refine stop_at (id := 11) ?_)); (first | go_values | go_skip | go_guarded | go_step | go_upon | go_back | (simp only [Int.not_lt, Int.not_le] at *; go_simp) | (go_values <;> (try go_simp)) | (go_ite <;> go_prune <;> (try go_simp)) | (split <;> (first | (rename_i hx; exact (hx _ rfl).elim) | go_prune))))
          clear y0 y1 y2 y3
          have hbt : Below w5.heap.size w5 (w5.alloc (.cells #[.int .u8 r, .int .u8 g, .int .u8 b, .int .u8 al] 34 (0, 0))) := (B7 _ _).alloc (Nat.le_refl _) _
          have hTb := newBlock w5 (.cells #[.int .u8 r, .int .u8 g, .int .u8 b, .int .u8 al] 34 (0, 0)) w5.heap.size rfl
          have hBT : B < w5.heap.size := by obtain ⟨_, _, h1, -⟩ := HP.out.ex; exact b7t h1
          have hp6 := HP.out.below hbt
          obtain ⟨w6, hw6⟩ : ∃ w6, w5.alloc (.cells #[.int .u8 r, .int .u8 g, .int .u8 b, .int .u8 al] 34 (0, 0)) = w6 := ⟨_, rfl⟩
          rw [hw6] at hTb hp6
          rw [hw6]
          obtain ⟨T, hT⟩ : ∃ T, w5.heap.size = T := ⟨_, rfl⟩
          rw [hT] at hTb hBT
          simp only [hT]
          clear HP
          have HP := H7 hp6
          have HT := H7 (BlkA.mk hTb)
          have HBT := H7 hBT
          clear hbt hTb hBT hp6 hw6 hT
          obtain ⟨D, hD⟩ : ∃ D, pixTo C q f (j * W + k) = D := ⟨_, rfl⟩
          have HST2 := H7 (show pixTo C q f (j * W + (k + 1)) = dotC D ⟨(k : Int), (j : Int), ⟨r, g, b, al⟩⟩ by rw [HST.out j k HK.out, if_pos (by rw [HQ.out, HH.out]), ← hD, ← HF.out]; rfl)
          rw [hD] at HP
          clear hD
          obtain ⟨a6, c6, hB6, hv6⟩ := HP.out.ex
          have z0 := c7b (k := 0) hB6 rfl
          have z1 := c7b (k := 1) hB6 rfl
          have z2 := c7b (k := 2) hB6 rfl
          have t0 := c7b (k := 0) HT.out.at_ rfl
          have t1 := c7b (k := 1) HT.out.at_ rfl
          have t2 := c7b (k := 2) HT.out.at_ rfl
          have t3 := c7b (k := 3) HT.out.at_ rfl
          have HV6 := H7 hv6
          clear hB6 hv6
          go_wp2_with fail
          clear z0 z1 z2 t0 t1 t2 t3
          refine (HPT.out D HP.out.ok _ ⟨(k : Int), (j : Int), ⟨r, g, b, al⟩⟩ _ HV6.out).mono ?_
          rintro e w7 ⟨v7, rfl, hv7, hb⟩
          obtain ⟨a7, c7, rfl, -, -⟩ := id hv7
          have HP := H7 (HP.out.below hb)
          have HV7 := H7 hv7
          clear hb hv7
          obtain ⟨a8, c8, hB8, -⟩ := HP.out.ex
          have z0 := c7b (k := 0) hB8 rfl
          have z1 := c7b (k := 1) hB8 rfl
          have z2 := c7b (k := 2) hB8 rfl
          have f0 := f7b hB8
          clear hB8
          have HOK3 := H7 (show okCan (dotC D ⟨(k : Int), (j : Int), ⟨r, g, b, al⟩⟩) from HST2.out ▸ HOK.out q (j * W + (k + 1)) (pix_le HJ.out HK.out))
          go_wp2_with fail
          go_roundw
          case rel => exact ⟨k + 1, HK.out, by first | exact congrArg (Value.int .i64) HE2.out | exact congrArg (Value.int .i64) (Int.natCast_succ k).symm | (congr 1; omega), by rw [HST2.out]; exact HP.out.put HOK3.out HV7.out⟩
          case measure => (try rw [HE2.out]); have := HK.out; simp only [intOf]; omega
     · have hkW : k = W := by omega
       subst hkW
       go_wp2_with fail
       go_roundw
       case rel => exact ⟨j + 1, HJ.out, by first | exact congrArg (Value.int .i64) HE1.out | exact congrArg (Value.int .i64) (Int.natCast_succ j).symm | (congr 1; omega), by rw [← row_next]; exact HP.out⟩
       case measure => (try rw [HE1.out]); have := HJ.out; simp only [intOf]; omega
  · have hjH : j = H := by omega
    subst hjH
    obtain ⟨a6, c6, hB6, hv6⟩ := HP.out.ex
    obtain ⟨D, hD⟩ : ∃ D, pixTo C q f (j * W) = D := ⟨_, rfl⟩
    rw [hD] at hB6 hv6 HP
    have HDD := H7 hD
    have b0 := (HBK.out _ _ HP.out).1
    have z0 := c7b (k := 0) hB6 rfl
    have z1 := c7b (k := 1) hB6 rfl
    have z2 := c7b (k := 2) hB6 rfl
    have j0 := c7b (k := 0) b0 rfl
    have j1 := c7b (k := 1) b0 rfl
    have j2 := c7b (k := 2) b0 rfl
    have f0 := f7b b0
    have s1 := h7s (k := 0) b0 (.int .i64 D.wide)
    have s2 := h7s (k := 1) s1 (.int .i64 D.high)
    have HV9 := H7 (((hv6.other3 HP.out.ok b0 (by simp) 0 (.int .i64 D.wide)).other3 HP.out.ok s1 (by simp) 1 (.int .i64 D.high)).other3 HP.out.ok s2 (by simp) 2 (.slice a6 D.tiles.length c6))
    clear s1 s2 b0 hB6 hv6 hD hlt hj
    go_wp2_with fail
    have h0 := HP.out.st.low
    rw [HDD.out]
    refine bodyPost_ret (v := .agg #[.int .i64 D.wide, .int .i64 D.high, .slice a6 D.tiles.length c6]) (by simp [results, Tryz.results30, go_sem, j0, j1, j2]) rfl ⟨_, rfl, HV9.out, ?_⟩
    (repeat (first | exact B7 _ _ | assumption | refine Below.alloc ?_ (by first | omega | (simp; done) | (simp; omega)) _ | refine Below.setCell ?_ (by first | omega | (simp; done) | (simp; omega)) _ | refine Below.drew ?_))
set_option maxRecDepth 100000 in
set_option maxHeartbeats 4000000 in
theorem r7Rect_frame (C : CanT) (hC : okCan C) (v : Value) (pa pb : PtT) (c : ColT) (hc : okC c) (w : World) (hv : CanV w C v) :
 Calls Tryz.prog 30 #[v, c.val, pa.val, pb.val, .int .i64 1] w (GivesV (pixTo C (rectB true pa pb) (fpaint c) (8 * C.high * (8 * C.wide))) w) := by
 have HV := H7 hv
 have HOC := H7 hC
 have HAT := H7 (fun (x y : Nat) hx hy w' (hb : Below w.heap.size w w') => r5At_any C hC v x y hx hy w' (hv.below hb))
 have HOV := H7 (fun u hu w' => r3Over_any u c hu hc w')
 have HPT := H7 (fun D hD v d w' h => r5Put_any D hD v d w' h)
 have HOK := H7 (fun q k hk => pixTo_ok hC q (fpaint_ok hc) k hk)
 have HWD := H7 (fun q k => pixTo_wide C q (fpaint c) k)
 obtain ⟨q, hq⟩ : ∃ q : Nat → Nat → Bool, q = rectB true pa pb := ⟨_, rfl⟩
 have HQ := H7 (fun x y : Nat => show q x y = rectB true pa pb x y by rw [hq])
 rw [← hq]
 obtain ⟨ca, ccap, rfl, -, -⟩ := id hv
 obtain ⟨W, hW⟩ : ∃ W, 8 * C.wide = W := ⟨_, rfl⟩
 obtain ⟨H, hH⟩ : ∃ H, 8 * C.high = H := ⟨_, rfl⟩
 have HST := H7 (fun j k (hk : k < W) => pixTo_step q (fpaint c) (x := k) (y := j) hW hk)
 rw [hW, hH] at HOK
 rw [hW] at HAT
 rw [hH] at HAT
 rw [hW, hH]
 have HB := H7 (And.intro hC.wide (And.intro hC.high (And.intro hW hH)))
 obtain ⟨wi, hwi⟩ : ∃ wi, C.wide = wi := ⟨_, rfl⟩
 obtain ⟨hi, hhi⟩ : ∃ hi, C.high = hi := ⟨_, rfl⟩
 obtain ⟨n, hn⟩ : ∃ n, C.tiles.length = n := ⟨_, rfl⟩
 have HN := H7 (And.intro hwi (And.intro hhi hn))
 have e1 : wrap64 (8 * (wi : Int)) = (W : Int) := by have := HB.out; unfold wrap64; omega
 have e2 : wrap64 (8 * (hi : Int)) = (H : Int) := by have := HB.out; unfold wrap64; omega
 have HWH := H7 (show W ≤ 32 ∧ H ≤ 32 by have := HB.out; omega)
 rw [hwi, hhi, hn] at HAT ⊢
 have HS := H7 (St.start w)
 obtain ⟨f, hf⟩ : ∃ f, fpaint c = f := ⟨_, rfl⟩
 have HF := H7 hf
 rw [hf] at HOK HWD HST ⊢
 obtain ⟨cc, hcc⟩ : ∃ cc, cc = c := ⟨_, rfl⟩
 have HCC := H7 hcc
 obtain ⟨r, g, b, al⟩ := c
 obtain ⟨ax, ay⟩ := pa
 obtain ⟨zx, zy⟩ := pb
 unfold ColT.val at HAT HOV ⊢
 unfold PtT.val
 simp only at HAT HOV ⊢
 clear hv hC hc hq hW hH hwi hhi hn hf hcc
 go_enter Tryz.func30, Tryz.ntmps30
 repeat ((fail_if_success (with_reducible refine stop_at (id := 1) ?_)); (first | go_values | go_skip | go_guarded | go_step | go_upon | go_back | (simp only [Int.not_lt, Int.not_le] at *; go_simp) | (go_values <;> (try go_simp)) | (go_ite <;> go_prune <;> (try go_simp)) | (split <;> (first | (rename_i hx; exact (hx _ rfl).elim) | go_prune))))
 have hs_ := (((((HS.out.alloc (.cells #[.int .i64 wi, .int .i64 hi, .slice ca n ccap] 24)).alloc (.cells #[.int .u8 r, .int .u8 g, .int .u8 b, .int .u8 al] 34)).alloc (.cells #[.int .i64 ax, .int .i64 ay] 26)).alloc (.cells #[.int .i64 zx, .int .i64 zy] 26)).alloc (.cells #[.int .i64 0, .int .i64 0, .slice none 0 0] 24))
 obtain ⟨w1, hw_⟩ : ∃ w1 : World, (((((w.alloc (.cells #[.int .i64 wi, .int .i64 hi, .slice ca n ccap] 24)).alloc (.cells #[.int .u8 r, .int .u8 g, .int .u8 b, .int .u8 al] 34)).alloc (.cells #[.int .i64 ax, .int .i64 ay] 26)).alloc (.cells #[.int .i64 zx, .int .i64 zy] 26)).alloc (.cells #[.int .i64 0, .int .i64 0, .slice none 0 0] 24)) = w1 := ⟨_, rfl⟩
 rw [hw_] at hs_
 try simp only [World.size_alloc] at hs_
 have HS := H7 hs_
 rw [hw_]
 clear hw_ hs_
 have q0 := h7c HS 4 0 rfl rfl
 have q1 := h7c HS 4 1 rfl rfl
 have q2 := h7c HS 4 2 rfl rfl
 repeat ((fail_if_success (with_reducible refine stop_at (id := 2) ?_)); (first | go_values | go_skip | go_guarded | go_step | go_upon | go_back | (simp only [Int.not_lt, Int.not_le] at *; go_simp) | (go_values <;> (try go_simp)) | (go_ite <;> go_prune <;> (try go_simp)) | (split <;> (first | (rename_i hx; exact (hx _ rfl).elim) | go_prune))))
 clear q0 q1 q2
 have HLW := H7 HS.out.size
 have HTOP := H7 HS.out.top
 obtain ⟨B, hB⟩ : ∃ B, w1.heap.size = B := ⟨_, rfl⟩
 have hs_ := (HS.out.alloc (.cells #[.int .i64 wi, .int .i64 hi, .slice ca n ccap] 24))
 obtain ⟨w2, hw_⟩ : ∃ w2 : World, (w1.alloc (.cells #[.int .i64 wi, .int .i64 hi, .slice ca n ccap] 24)) = w2 := ⟨_, rfl⟩
 rw [hw_] at hs_
 try simp only [World.size_alloc] at hs_
 have HS := H7 hs_
 rw [hw_]
 clear hw_ hs_
 obtain ⟨its, hits⟩ : ∃ its : List It, its = [.blk (w.heap.size + 1 + 1 + 1 + 1) (.cells #[.int .i64 0, .int .i64 0, .slice none 0 0] 24 (0, 0)), .blk (w.heap.size + 1 + 1 + 1) (.cells #[.int .i64 zx, .int .i64 zy] 26 (0, 0)), .blk (w.heap.size + 1 + 1) (.cells #[.int .i64 ax, .int .i64 ay] 26 (0, 0)), .blk (w.heap.size + 1) (.cells #[.int .u8 r, .int .u8 g, .int .u8 b, .int .u8 al] 34 (0, 0)), .blk (w.heap.size) (.cells #[.int .i64 wi, .int .i64 hi, .slice ca n ccap] 24 (0, 0))] := ⟨_, rfl⟩
 have HBK := H7 (show ∀ (x : World) (D : CanT), PutS w its B D x → x.heap[w.heap.size + 1 + 1 + 1 + 1]? = some (.cells #[.int .i64 0, .int .i64 0, .slice none 0 0] 24 (0, 0)) ∧ x.heap[w.heap.size + 1 + 1 + 1]? = some (.cells #[.int .i64 zx, .int .i64 zy] 26 (0, 0)) ∧ x.heap[w.heap.size + 1 + 1]? = some (.cells #[.int .i64 ax, .int .i64 ay] 26 (0, 0)) ∧ x.heap[w.heap.size + 1]? = some (.cells #[.int .u8 r, .int .u8 g, .int .u8 b, .int .u8 al] 34 (0, 0)) ∧ x.heap[w.heap.size]? = some (.cells #[.int .i64 wi, .int .i64 hi, .slice ca n ccap] 24 (0, 0)) from
  fun x D h => by subst hits; exact ⟨h.st.blockAt 0 rfl, h.st.blockAt 1 rfl, h.st.blockAt 2 rfl, h.st.blockAt 3 rfl, h.st.blockAt 4 rfl⟩)
 have HP := H7 (show PutS w its B C w2 by
  have hs := HS.out
  rw [hB, ← hits] at hs
  refine PutS.start (a := ca) (cap := ccap) ?_ HOC.out ?_ ?_ ?_
  · rw [HN.out.1, HN.out.2.1, HN.out.2.2]; exact hs
  · exact HV.out.below hs.low
  · have h1 := HS.out.drop1.low.size
    rw [← hB]
    exact HLW.out
  · intro i hi
    rw [← hB]
    exact HTOP.out i (by rw [← hits]; exact hi))
 rw [hB]
 clear HS HLW HTOP hits hB HV
 have q1 := c7b (k := 1) (HBK.out _ _ HP.out).2.2.2.2 rfl
 go_wp2_with fail
 clear q1
 try rw [e2]
 clear e2
 go_loopw [20] (fun i wr => ∃ j : Nat, j ≤ H ∧ i = .int .i64 (j : Int) ∧ PutS w its B (pixTo C q f (j * W)) wr) (fun i _ => H - (intOf i).toNat)
 case atStart => exact ⟨0, Nat.zero_le _, rfl, by rw [Nat.zero_mul]; exact HP.out⟩
 case round =>
  obtain ⟨j, hj, rfl, hp⟩ := hrel
  clear HP
  have HP := H7 hp
  clear hp
  by_cases hlt : j < H
  · have HJ := H7 hlt
    have HE1 := H7 (wrapS (n := j) (by have := HWH.out; omega))
    have q0 := c7b (k := 0) (HBK.out _ _ HP.out).2.2.2.2 rfl
    clear hj
    go_wp2_with fail
    clear q0 hlt
    try rw [e1]
    clear e1
    go_loopw [26] (fun i wx => ∃ k : Nat, k ≤ W ∧ i = .int .i64 (k : Int) ∧ PutS w its B (pixTo C q f (j * W + k)) wx) (fun i _ => W - (intOf i).toNat)
    case atStart => exact ⟨0, Nat.zero_le _, rfl, HP.out⟩
    case round =>
     obtain ⟨k, hk, rfl, hp⟩ := hrel
     clear HP
     have HP := H7 hp
     clear hp
     by_cases hkt : k < W
     · have HK := H7 hkt
       have HE2 := H7 (wrapS (n := k) (by have := HWH.out; omega))
       clear hk
       obtain ⟨E1, hE1⟩ : ∃ E1, ((k : Int) == ax) = E1 := ⟨_, rfl⟩
       obtain ⟨E2, hE2⟩ : ∃ E2, ((k : Int) == zx) = E2 := ⟨_, rfl⟩
       obtain ⟨E3, hE3⟩ : ∃ E3, ((j : Int) == ay) = E3 := ⟨_, rfl⟩
       obtain ⟨E4, hE4⟩ : ∃ E4, ((j : Int) == zy) = E4 := ⟨_, rfl⟩
       have HED := H7 (show edgeB ⟨ax, ay⟩ ⟨zx, zy⟩ (k : Int) (j : Int) = (((E1 || E2) || E3) || E4) by unfold edgeB; simp only; rw [hE1, hE2, hE3, hE4])
       have HEE := H7 (And.intro hE1 (And.intro hE2 (And.intro hE3 hE4)))
       clear hE1 hE2 hE3 hE4
       repeat ((fail_if_success (with_reducible refine stop_at (id := 8) ?_)); (first | go_values | go_skip | go_guarded | go_step | go_upon | go_back | (simp only [Int.not_lt, Int.not_le] at *; go_simp) | (go_values <;> (try go_simp)) | (go_ite <;> go_prune <;> (try go_simp)) | (split <;> (first | (rename_i hx; exact (hx _ rfl).elim) | go_prune))))
       clear hkt
       refine (wpIn_wide (n := 0)).1 ?_
       apply wp_region_textv 23 (Rl := [(eqv _), (eqv _), (eqv _), (fun v_ _ => v_ = (.bool E1 : Value)), (fun v_ _ => v_ = (.bool E1 : Value)), (fun v_ _ => v_ = (bif E1 then undef else .int .i64 (k : Int) : Value)), (fun v_ _ => v_ = (bif E1 then undef else .pointer (some ⟨w.heap.size + 1 + 1 + 1, 0, none⟩) : Value)), (fun v_ _ => v_ = (bif E1 then undef else .int .i64 zx : Value)), (fun v_ _ => v_ = (bif E1 then undef else .bool E2 : Value)), (fun v_ _ => v_ = (.bool (E1 || E2) : Value)), (fun v_ _ => v_ = (.bool (E1 || E2) : Value)), (fun v_ _ => v_ = (bif E1 || E2 then undef else .int .i64 (j : Int) : Value)), (fun v_ _ => v_ = (bif E1 || E2 then undef else .pointer (some ⟨w.heap.size + 1 + 1, 1, none⟩) : Value)), (fun v_ _ => v_ = (bif E1 || E2 then undef else .int .i64 ay : Value)), (fun v_ _ => v_ = (bif E1 || E2 then undef else .bool E3 : Value)), (fun v_ _ => v_ = (.bool ((E1 || E2) || E3) : Value)), (fun v_ _ => v_ = (.bool ((E1 || E2) || E3) : Value)), (fun v_ _ => v_ = (bif (E1 || E2) || E3 then undef else .int .i64 (j : Int) : Value)), (fun v_ _ => v_ = (bif (E1 || E2) || E3 then undef else .pointer (some ⟨w.heap.size + 1 + 1 + 1, 1, none⟩) : Value)), (fun v_ _ => v_ = (bif (E1 || E2) || E3 then undef else .int .i64 zy : Value)), (fun v_ _ => v_ = (bif (E1 || E2) || E3 then undef else .bool E4 : Value)), (fun v_ _ => v_ = (.bool (((E1 || E2) || E3) || E4) : Value)), (eqv _)]) (C := (fun x y => Below x.heap.size x y))
       case hk => rfl
       case hCr => exact (fun _ => B7 _ _)
       case hCt => intro _ _ _; exact (fun h k => g7t h k)
       case hst => repeat (first | exact trivial | refine ⟨fun _ _ _ _ h => h, ?_⟩)
       case hfo => kernel_rfl
       case hsteps =>
        refine ⟨?_, ?_, ?_, ?_, ?_, ?_, ?_, ?_, ?_, ?_, ?_, ?_, ?_, ?_, ?_, ?_, ?_, ?_, ?_, ?_, ?_, ?_, ?_, trivial⟩
        · intro a' w' hA hC hD; have s13 := hA.to 13 (by kernel_rfl) rfl; clear hA hD; refine o7p rfl ?_; intro K hK; gi_wp2; exact hK _ _ rfl (B7 _ _)
        · intro a' w' hA hC hD; have s7 := hA.to 7 (by kernel_rfl) rfl; clear hA hD; refine o7p rfl ?_; intro K hK; gi_wp2; exact hK _ _ rfl (B7 _ _)
        · intro a' w' hA hC hD; obtain ⟨u30, s30, rfl⟩ := hD ⟨1, .data⟩ (by simp) rfl _ rfl
          have pQ := (HBK.out _ _ (HP.out.below hC)).2.2.1; have aQ := c7b (k := 0) pQ rfl; clear pQ
          clear hA hD; refine o7p rfl ?_; intro K hK; gi_wp2; exact hK _ _ rfl (B7 _ _)
        · intro a' w' hA hC hD; obtain ⟨u29, s29, rfl⟩ := hD ⟨0, .data⟩ (by simp) rfl _ rfl; obtain ⟨u31, s31, rfl⟩ := hD ⟨2, .data⟩ (by simp) rfl _ rfl; clear hA hD; refine o7p rfl ?_; intro K hK; gi_wp2; exact hK _ _ (show _ = (.bool E1 : Value) from by first | (simp only [HEE.out.1, cond_true, cond_false, Bool.true_and, Bool.false_and, Bool.not_true, Bool.not_false, beq_self_eq_true]; try rfl) | rfl) (B7 _ _)
        · intro a' w' hA hC hD; obtain ⟨u32, s32, r32⟩ := hD ⟨3, .data⟩ (by simp) rfl _ rfl; replace r32 : u32 = .bool E1 := r32; subst r32; clear hA hD; refine o7p rfl ?_; intro K hK; gi_wp2; exact hK (.bool E1) _ rfl (B7 _ _)
        · intro a' w' hA hC hD; have s13 := hA.to 13 (by kernel_rfl) rfl; obtain ⟨u33, s33, r33⟩ := hD ⟨4, .guard⟩ (by simp) rfl _ rfl; replace r33 : u33 = .bool E1 := r33; subst r33; clear hA hD
          rcases (Bool.eq_false_or_eq_true (E1)).symm with hg | hg <;> (try simp only [hg, cond_true, cond_false] at s13 s33)
          · refine o7w rfl rfl s33 ?_
            intro K hK; gi_wp2; exact hK _ _ (show _ = (bif E1 then undef else .int .i64 (k : Int) : Value) from by first | (simp only [hg, cond_true, cond_false, Bool.true_and, Bool.false_and, Bool.not_true, Bool.not_false, beq_self_eq_true]; try rfl) | rfl) (B7 _ _)
          · exact o7s rfl rfl s33 (show (undef : Value) = (bif E1 then undef else .int .i64 (k : Int) : Value) from by simp only [hg, cond_true, cond_false])
        · intro a' w' hA hC hD; have s8 := hA.to 8 (by kernel_rfl) rfl; obtain ⟨u33, s33, r33⟩ := hD ⟨4, .guard⟩ (by simp) rfl _ rfl; replace r33 : u33 = .bool E1 := r33; subst r33; clear hA hD
          rcases (Bool.eq_false_or_eq_true (E1)).symm with hg | hg <;> (try simp only [hg, cond_true, cond_false] at s8 s33)
          · refine o7w rfl rfl s33 ?_
            intro K hK; gi_wp2; exact hK _ _ (show _ = (bif E1 then undef else .pointer (some ⟨w.heap.size + 1 + 1 + 1, 0, none⟩) : Value) from by first | (simp only [hg, cond_true, cond_false, Bool.true_and, Bool.false_and, Bool.not_true, Bool.not_false, beq_self_eq_true]; try rfl) | rfl) (B7 _ _)
          · exact o7s rfl rfl s33 (show (undef : Value) = (bif E1 then undef else .pointer (some ⟨w.heap.size + 1 + 1 + 1, 0, none⟩) : Value) from by simp only [hg, cond_true, cond_false])
        · intro a' w' hA hC hD; obtain ⟨u35, s35, r35⟩ := hD ⟨6, .data⟩ (by simp) rfl _ rfl; replace r35 : u35 = bif E1 then undef else .pointer (some ⟨w.heap.size + 1 + 1 + 1, 0, none⟩) := r35; subst r35; obtain ⟨u33, s33, r33⟩ := hD ⟨4, .guard⟩ (by simp) rfl _ rfl; replace r33 : u33 = .bool E1 := r33; subst r33
          have pQ := (HBK.out _ _ (HP.out.below hC)).2.1; have aQ := c7b (k := 0) pQ rfl; clear pQ
          clear hA hD
          rcases (Bool.eq_false_or_eq_true (E1)).symm with hg | hg <;> (try simp only [hg, cond_true, cond_false] at s35 s33)
          · refine o7w rfl rfl s33 ?_
            intro K hK; gi_wp2; exact hK _ _ (show _ = (bif E1 then undef else .int .i64 zx : Value) from by first | (simp only [hg, cond_true, cond_false, Bool.true_and, Bool.false_and, Bool.not_true, Bool.not_false, beq_self_eq_true]; try rfl) | rfl) (B7 _ _)
          · exact o7s rfl rfl s33 (show (undef : Value) = (bif E1 then undef else .int .i64 zx : Value) from by simp only [hg, cond_true, cond_false])
        · intro a' w' hA hC hD; obtain ⟨u34, s34, r34⟩ := hD ⟨5, .data⟩ (by simp) rfl _ rfl; replace r34 : u34 = bif E1 then undef else .int .i64 (k : Int) := r34; subst r34; obtain ⟨u36, s36, r36⟩ := hD ⟨7, .data⟩ (by simp) rfl _ rfl; replace r36 : u36 = bif E1 then undef else .int .i64 zx := r36; subst r36; obtain ⟨u33, s33, r33⟩ := hD ⟨4, .guard⟩ (by simp) rfl _ rfl; replace r33 : u33 = .bool E1 := r33; subst r33; clear hA hD
          rcases (Bool.eq_false_or_eq_true (E1)).symm with hg | hg <;> (try simp only [hg, cond_true, cond_false] at s34 s36 s33)
          · refine o7w rfl rfl s33 ?_
            intro K hK; gi_wp2; exact hK _ _ (show _ = (bif E1 then undef else .bool E2 : Value) from by first | (simp only [hg, HEE.out.2.1, cond_true, cond_false, Bool.true_and, Bool.false_and, Bool.not_true, Bool.not_false, beq_self_eq_true]; try rfl) | rfl) (B7 _ _)
          · exact o7s rfl rfl s33 (show (undef : Value) = (bif E1 then undef else .bool E2 : Value) from by simp only [hg, cond_true, cond_false])
        · intro a' w' hA hC hD; obtain ⟨u33, s33, r33⟩ := hD ⟨4, .data⟩ (by simp) rfl _ rfl; replace r33 : u33 = .bool E1 := r33; subst r33; obtain ⟨u37, s37, r37⟩ := hD ⟨8, .data⟩ (by simp) rfl _ rfl; replace r37 : u37 = bif E1 then undef else .bool E2 := r37; subst r37; clear hA hD
          rcases (Bool.eq_false_or_eq_true (E1)).symm with hg | hg <;> (try simp only [hg, cond_true, cond_false] at s33 s37)
          · refine o7p rfl ?_
            intro K hK; gi_wp2; exact hK _ _ (show _ = (.bool (E1 || E2) : Value) from by first | (simp only [hg, Bool.true_or, Bool.false_or, Bool.or_true, Bool.or_false, cond_true, cond_false, Bool.true_and, Bool.false_and, Bool.not_true, Bool.not_false, beq_self_eq_true]; try rfl) | rfl) (B7 _ _)
          · refine o7p rfl ?_
            intro K hK; gi_wp2; exact hK _ _ (show _ = (.bool (E1 || E2) : Value) from by first | (simp only [hg, Bool.true_or, Bool.false_or, Bool.or_true, Bool.or_false, cond_true, cond_false, Bool.true_and, Bool.false_and, Bool.not_true, Bool.not_false, beq_self_eq_true]; try rfl) | rfl) (B7 _ _)
        · intro a' w' hA hC hD; obtain ⟨u38, s38, r38⟩ := hD ⟨9, .data⟩ (by simp) rfl _ rfl; replace r38 : u38 = .bool (E1 || E2) := r38; subst r38; clear hA hD; refine o7p rfl ?_; intro K hK; gi_wp2; exact hK (.bool (E1 || E2)) _ rfl (B7 _ _)
        · intro a' w' hA hC hD; have s12 := hA.to 12 (by kernel_rfl) rfl; obtain ⟨u39, s39, r39⟩ := hD ⟨10, .guard⟩ (by simp) rfl _ rfl; replace r39 : u39 = .bool (E1 || E2) := r39; subst r39; clear hA hD
          rcases (Bool.eq_false_or_eq_true (E1 || E2)).symm with hg | hg <;> (try simp only [hg, cond_true, cond_false] at s12 s39)
          · refine o7w rfl rfl s39 ?_
            intro K hK; gi_wp2; exact hK _ _ (show _ = (bif E1 || E2 then undef else .int .i64 (j : Int) : Value) from by first | (simp only [hg, cond_true, cond_false, Bool.true_and, Bool.false_and, Bool.not_true, Bool.not_false, beq_self_eq_true]; try rfl) | rfl) (B7 _ _)
          · exact o7s rfl rfl s39 (show (undef : Value) = (bif E1 || E2 then undef else .int .i64 (j : Int) : Value) from by simp only [hg, cond_true, cond_false])
        · intro a' w' hA hC hD; have s7 := hA.to 7 (by kernel_rfl) rfl; obtain ⟨u39, s39, r39⟩ := hD ⟨10, .guard⟩ (by simp) rfl _ rfl; replace r39 : u39 = .bool (E1 || E2) := r39; subst r39; clear hA hD
          rcases (Bool.eq_false_or_eq_true (E1 || E2)).symm with hg | hg <;> (try simp only [hg, cond_true, cond_false] at s7 s39)
          · refine o7w rfl rfl s39 ?_
            intro K hK; gi_wp2; exact hK _ _ (show _ = (bif E1 || E2 then undef else .pointer (some ⟨w.heap.size + 1 + 1, 1, none⟩) : Value) from by first | (simp only [hg, cond_true, cond_false, Bool.true_and, Bool.false_and, Bool.not_true, Bool.not_false, beq_self_eq_true]; try rfl) | rfl) (B7 _ _)
          · exact o7s rfl rfl s39 (show (undef : Value) = (bif E1 || E2 then undef else .pointer (some ⟨w.heap.size + 1 + 1, 1, none⟩) : Value) from by simp only [hg, cond_true, cond_false])
        · intro a' w' hA hC hD; obtain ⟨u41, s41, r41⟩ := hD ⟨12, .data⟩ (by simp) rfl _ rfl
          replace r41 : u41 = bif E1 || E2 then undef else .pointer (some ⟨w.heap.size + 1 + 1, 1, none⟩) := r41
          subst r41; obtain ⟨u39, s39, r39⟩ := hD ⟨10, .guard⟩ (by simp) rfl _ rfl; replace r39 : u39 = .bool (E1 || E2) := r39; subst r39
          have pQ := (HBK.out _ _ (HP.out.below hC)).2.2.1; have aQ := c7b (k := 1) pQ rfl; clear pQ
          clear hA hD
          rcases (Bool.eq_false_or_eq_true (E1 || E2)).symm with hg | hg <;> (try simp only [hg, cond_true, cond_false] at s41 s39)
          · refine o7w rfl rfl s39 ?_
            intro K hK; gi_wp2; exact hK _ _ (show _ = (bif E1 || E2 then undef else .int .i64 ay : Value) from by first | (simp only [hg, cond_true, cond_false, Bool.true_and, Bool.false_and, Bool.not_true, Bool.not_false, beq_self_eq_true]; try rfl) | rfl) (B7 _ _)
          · exact o7s rfl rfl s39 (show (undef : Value) = (bif E1 || E2 then undef else .int .i64 ay : Value) from by simp only [hg, cond_true, cond_false])
        · intro a' w' hA hC hD; obtain ⟨u40, s40, r40⟩ := hD ⟨11, .data⟩ (by simp) rfl _ rfl
          replace r40 : u40 = bif E1 || E2 then undef else .int .i64 (j : Int) := r40
          subst r40; obtain ⟨u42, s42, r42⟩ := hD ⟨13, .data⟩ (by simp) rfl _ rfl
          replace r42 : u42 = bif E1 || E2 then undef else .int .i64 ay := r42
          subst r42; obtain ⟨u39, s39, r39⟩ := hD ⟨10, .guard⟩ (by simp) rfl _ rfl; replace r39 : u39 = .bool (E1 || E2) := r39; subst r39; clear hA hD
          rcases (Bool.eq_false_or_eq_true (E1 || E2)).symm with hg | hg <;> (try simp only [hg, cond_true, cond_false] at s40 s42 s39)
          · refine o7w rfl rfl s39 ?_
            intro K hK; gi_wp2; exact hK _ _ (show _ = (bif E1 || E2 then undef else .bool E3 : Value) from by first | (simp only [hg, HEE.out.2.2.1, cond_true, cond_false, Bool.true_and, Bool.false_and, Bool.not_true, Bool.not_false, beq_self_eq_true]; try rfl) | rfl) (B7 _ _)
          · exact o7s rfl rfl s39 (show (undef : Value) = (bif E1 || E2 then undef else .bool E3 : Value) from by simp only [hg, cond_true, cond_false])
        · intro a' w' hA hC hD; obtain ⟨u39, s39, r39⟩ := hD ⟨10, .data⟩ (by simp) rfl _ rfl; replace r39 : u39 = .bool (E1 || E2) := r39; subst r39; obtain ⟨u43, s43, r43⟩ := hD ⟨14, .data⟩ (by simp) rfl _ rfl
          replace r43 : u43 = bif E1 || E2 then undef else .bool E3 := r43
          subst r43; clear hA hD
          rcases (Bool.eq_false_or_eq_true (E1 || E2)).symm with hg | hg <;> (try simp only [hg, cond_true, cond_false] at s39 s43)
          · refine o7p rfl ?_
            intro K hK; gi_wp2; exact hK _ _ (show _ = (.bool ((E1 || E2) || E3) : Value) from by first | (simp only [hg, Bool.true_or, Bool.false_or, Bool.or_true, Bool.or_false, cond_true, cond_false, Bool.true_and, Bool.false_and, Bool.not_true, Bool.not_false, beq_self_eq_true]; try rfl) | rfl) (B7 _ _)
          · refine o7p rfl ?_
            intro K hK; gi_wp2; exact hK _ _ (show _ = (.bool ((E1 || E2) || E3) : Value) from by first | (simp only [hg, Bool.true_or, Bool.false_or, Bool.or_true, Bool.or_false, cond_true, cond_false, Bool.true_and, Bool.false_and, Bool.not_true, Bool.not_false, beq_self_eq_true]; try rfl) | rfl) (B7 _ _)
        · intro a' w' hA hC hD; obtain ⟨u44, s44, r44⟩ := hD ⟨15, .data⟩ (by simp) rfl _ rfl; replace r44 : u44 = .bool ((E1 || E2) || E3) := r44; subst r44; clear hA hD; refine o7p rfl ?_; intro K hK; gi_wp2; exact hK (.bool ((E1 || E2) || E3)) _ rfl (B7 _ _)
        · intro a' w' hA hC hD; have s12 := hA.to 12 (by kernel_rfl) rfl; obtain ⟨u45, s45, r45⟩ := hD ⟨16, .guard⟩ (by simp) rfl _ rfl; replace r45 : u45 = .bool ((E1 || E2) || E3) := r45; subst r45; clear hA hD
          rcases (Bool.eq_false_or_eq_true ((E1 || E2) || E3)).symm with hg | hg <;> (try simp only [hg, cond_true, cond_false] at s12 s45)
          · refine o7w rfl rfl s45 ?_
            intro K hK; gi_wp2; exact hK _ _ (show _ = (bif (E1 || E2) || E3 then undef else .int .i64 (j : Int) : Value) from by first | (simp only [hg, cond_true, cond_false, Bool.true_and, Bool.false_and, Bool.not_true, Bool.not_false, beq_self_eq_true]; try rfl) | rfl) (B7 _ _)
          · exact o7s rfl rfl s45 (show (undef : Value) = (bif (E1 || E2) || E3 then undef else .int .i64 (j : Int) : Value) from by simp only [hg, cond_true, cond_false])
        · intro a' w' hA hC hD; have s8 := hA.to 8 (by kernel_rfl) rfl; obtain ⟨u45, s45, r45⟩ := hD ⟨16, .guard⟩ (by simp) rfl _ rfl; replace r45 : u45 = .bool ((E1 || E2) || E3) := r45; subst r45; clear hA hD
          rcases (Bool.eq_false_or_eq_true ((E1 || E2) || E3)).symm with hg | hg <;> (try simp only [hg, cond_true, cond_false] at s8 s45)
          · refine o7w rfl rfl s45 ?_
            intro K hK; gi_wp2; exact hK _ _ (show _ = (bif (E1 || E2) || E3 then undef else .pointer (some ⟨w.heap.size + 1 + 1 + 1, 1, none⟩) : Value) from by first | (simp only [hg, cond_true, cond_false, Bool.true_and, Bool.false_and, Bool.not_true, Bool.not_false, beq_self_eq_true]; try rfl) | rfl) (B7 _ _)
          · exact o7s rfl rfl s45 (show (undef : Value) = (bif (E1 || E2) || E3 then undef else .pointer (some ⟨w.heap.size + 1 + 1 + 1, 1, none⟩) : Value) from by simp only [hg, cond_true, cond_false])
        · intro a' w' hA hC hD; obtain ⟨u47, s47, r47⟩ := hD ⟨18, .data⟩ (by simp) rfl _ rfl
          replace r47 : u47 = bif (E1 || E2) || E3 then undef else .pointer (some ⟨w.heap.size + 1 + 1 + 1, 1, none⟩) := r47
          subst r47; obtain ⟨u45, s45, r45⟩ := hD ⟨16, .guard⟩ (by simp) rfl _ rfl; replace r45 : u45 = .bool ((E1 || E2) || E3) := r45; subst r45
          have pQ := (HBK.out _ _ (HP.out.below hC)).2.1; have aQ := c7b (k := 1) pQ rfl; clear pQ
          clear hA hD
          rcases (Bool.eq_false_or_eq_true ((E1 || E2) || E3)).symm with hg | hg <;> (try simp only [hg, cond_true, cond_false] at s47 s45)
          · refine o7w rfl rfl s45 ?_
            intro K hK; gi_wp2; exact hK _ _ (show _ = (bif (E1 || E2) || E3 then undef else .int .i64 zy : Value) from by first | (simp only [hg, cond_true, cond_false, Bool.true_and, Bool.false_and, Bool.not_true, Bool.not_false, beq_self_eq_true]; try rfl) | rfl) (B7 _ _)
          · exact o7s rfl rfl s45 (show (undef : Value) = (bif (E1 || E2) || E3 then undef else .int .i64 zy : Value) from by simp only [hg, cond_true, cond_false])
        · intro a' w' hA hC hD; obtain ⟨u46, s46, r46⟩ := hD ⟨17, .data⟩ (by simp) rfl _ rfl
          replace r46 : u46 = bif (E1 || E2) || E3 then undef else .int .i64 (j : Int) := r46
          subst r46; obtain ⟨u48, s48, r48⟩ := hD ⟨19, .data⟩ (by simp) rfl _ rfl
          replace r48 : u48 = bif (E1 || E2) || E3 then undef else .int .i64 zy := r48
          subst r48; obtain ⟨u45, s45, r45⟩ := hD ⟨16, .guard⟩ (by simp) rfl _ rfl; replace r45 : u45 = .bool ((E1 || E2) || E3) := r45; subst r45; clear hA hD
          rcases (Bool.eq_false_or_eq_true ((E1 || E2) || E3)).symm with hg | hg <;> (try simp only [hg, cond_true, cond_false] at s46 s48 s45)
          · refine o7w rfl rfl s45 ?_
            intro K hK; gi_wp2; exact hK _ _ (show _ = (bif (E1 || E2) || E3 then undef else .bool E4 : Value) from by first | (simp only [hg, HEE.out.2.2.2, cond_true, cond_false, Bool.true_and, Bool.false_and, Bool.not_true, Bool.not_false, beq_self_eq_true]; try rfl) | rfl) (B7 _ _)
          · exact o7s rfl rfl s45 (show (undef : Value) = (bif (E1 || E2) || E3 then undef else .bool E4 : Value) from by simp only [hg, cond_true, cond_false])
        · intro a' w' hA hC hD; obtain ⟨u45, s45, r45⟩ := hD ⟨16, .data⟩ (by simp) rfl _ rfl; replace r45 : u45 = .bool ((E1 || E2) || E3) := r45; subst r45; obtain ⟨u49, s49, r49⟩ := hD ⟨20, .data⟩ (by simp) rfl _ rfl
          replace r49 : u49 = bif (E1 || E2) || E3 then undef else .bool E4 := r49
          subst r49; clear hA hD
          rcases (Bool.eq_false_or_eq_true ((E1 || E2) || E3)).symm with hg | hg <;> (try simp only [hg, cond_true, cond_false] at s45 s49)
          · refine o7p rfl ?_
            intro K hK; gi_wp2; exact hK _ _ (show _ = (.bool (((E1 || E2) || E3) || E4) : Value) from by first | (simp only [hg, Bool.true_or, Bool.false_or, Bool.or_true, Bool.or_false, cond_true, cond_false, Bool.true_and, Bool.false_and, Bool.not_true, Bool.not_false, beq_self_eq_true]; try rfl) | rfl) (B7 _ _)
          · refine o7p rfl ?_
            intro K hK; gi_wp2; exact hK _ _ (show _ = (.bool (((E1 || E2) || E3) || E4) : Value) from by first | (simp only [hg, Bool.true_or, Bool.false_or, Bool.or_true, Bool.or_false, cond_true, cond_false, Bool.true_and, Bool.false_and, Bool.not_true, Bool.not_false, beq_self_eq_true]; try rfl) | rfl) (B7 _ _)
        · intro a' w' hA hC hD; obtain ⟨u50, s50, r50⟩ := hD ⟨21, .data⟩ (by simp) rfl _ rfl; replace r50 : u50 = .bool (((E1 || E2) || E3) || E4) := r50; subst r50; clear hA hD; refine o7p rfl ?_; intro K hK; gi_wp2; exact hK _ _ rfl (B7 _ _)
       case hend =>
        intro w4 hC
        simp only [EndFrom, eqv, forall_eq, Act.put, List.length_cons, List.length_nil, List.drop_succ_cons, List.drop_zero, Nat.reduceAdd, List.setIfInBounds_toArray, List.set_cons_succ, List.set_cons_zero]
        have HP := H7 (HP.out.below hC)
        clear hC HEE
        obtain ⟨E, hE⟩ : ∃ E, (((E1 || E2) || E3) || E4) = E := ⟨_, rfl⟩
        rw [hE] at HED
        simp only [hE]
        clear hE
        gi_wp2
        have pA := (HBK.out _ _ HP.out).2.2.1
        have pB := (HBK.out _ _ HP.out).2.1
        have a0 := c7b (k := 0) pA rfl
        have a1 := c7b (k := 1) pA rfl
        have z0 := c7b (k := 0) pB rfl
        have z1 := c7b (k := 1) pB rfl
        clear pA pB
        go_wp2_with fail
        clear a0 a1 z0 z1
        refine (betw_any (k : Int) ax zx _).mono ?_
        rintro e w45 ⟨rfl, hb⟩
        have HP := H7 (HP.out.below hb)
        clear hb
        cases hX : betwB (k : Int) ax zx with
        | false =>
         have HX := H7 hX
         clear hX
         go_wp2_with fail
         go_roundw
         case rel => exact ⟨k + 1, HK.out, by first | exact congrArg (Value.int .i64) HE2.out | exact congrArg (Value.int .i64) (Int.natCast_succ k).symm | (congr 1; omega), by rw [HST.out j k HK.out, if_neg (by rw [HQ.out]; unfold rectB; simp only; rw [HX.out]; simp)]; exact HP.out⟩
         case measure => (try rw [HE2.out]); have := HK.out; simp only [intOf]; omega
        | true =>
         have HX := H7 hX
         clear hX
         have pA := (HBK.out _ _ HP.out).2.2.1
         have pB := (HBK.out _ _ HP.out).2.1
         have a0 := c7b (k := 0) pA rfl
         have a1 := c7b (k := 1) pA rfl
         have z0 := c7b (k := 0) pB rfl
         have z1 := c7b (k := 1) pB rfl
         clear pA pB
         go_wp2_with fail
         clear a0 a1 z0 z1
         refine (betw_any (j : Int) ay zy _).mono ?_
         rintro e w5 ⟨rfl, hb⟩
         have HP := H7 (HP.out.below hb)
         clear hb
         cases hY : betwB (j : Int) ay zy with
         | false =>
          have HY := H7 hY
          clear hY
          go_wp2_with fail
          go_roundw
          case rel => exact ⟨k + 1, HK.out, by first | exact congrArg (Value.int .i64) HE2.out | exact congrArg (Value.int .i64) (Int.natCast_succ k).symm | (congr 1; omega), by rw [HST.out j k HK.out, if_neg (by rw [HQ.out]; unfold rectB; simp only; rw [HX.out, HY.out]; simp)]; exact HP.out⟩
          case measure => (try rw [HE2.out]); have := HK.out; simp only [intOf]; omega
         | true =>
          have HY := H7 hY
          clear hY
          cases E with
          | false =>
           go_wp2_with fail
           go_roundw
           case rel => exact ⟨k + 1, HK.out, by first | exact congrArg (Value.int .i64) HE2.out | exact congrArg (Value.int .i64) (Int.natCast_succ k).symm | (congr 1; omega), by rw [HST.out j k HK.out, if_neg (by rw [HQ.out]; unfold rectB; simp only; rw [HX.out, HY.out, HED.out]; simp)]; exact HP.out⟩
           case measure => (try rw [HE2.out]); have := HK.out; simp only [intOf]; omega
          | true =>
           have HH := H7 (show rectB true ⟨ax, ay⟩ ⟨zx, zy⟩ k j = true by unfold rectB; simp only; rw [HX.out, HY.out, HED.out]; rfl)
           have b1 := (HBK.out _ _ HP.out).2.2.2.1
           have y0 := c7b (k := 0) b1 rfl
           have y1 := c7b (k := 1) b1 rfl
           have y2 := c7b (k := 2) b1 rfl
           have y3 := c7b (k := 3) b1 rfl
           clear b1
           repeat ((fail_if_success (with_reducible refine stop_at (id := 10) ?_)); (first | go_values | go_skip | go_guarded | go_step | go_upon | go_back | (simp only [Int.not_lt, Int.not_le] at *; go_simp) | (go_values <;> (try go_simp)) | (go_ite <;> go_prune <;> (try go_simp)) | (split <;> (first | (rename_i hx; exact (hx _ rfl).elim) | go_prune))))
           repeat ((fail_if_success (with_reducible refine stop_at (id := 11) ?_)); (first | go_values | go_skip | go_guarded | go_step | go_upon | go_back | (simp only [Int.not_lt, Int.not_le] at *; go_simp) | (go_values <;> (try go_simp)) | (go_ite <;> go_prune <;> (try go_simp)) | (split <;> (first | (rename_i hx; exact (hx _ rfl).elim) | go_prune))))
           clear y0 y1 y2 y3
           have hbt : Below w5.heap.size w5 (w5.alloc (.cells #[.int .u8 r, .int .u8 g, .int .u8 b, .int .u8 al] 34 (0, 0))) := (B7 _ _).alloc (Nat.le_refl _) _
           have hTb := newBlock w5 (.cells #[.int .u8 r, .int .u8 g, .int .u8 b, .int .u8 al] 34 (0, 0)) w5.heap.size rfl
           have hBT : B < w5.heap.size := by obtain ⟨_, _, h1, -⟩ := HP.out.ex; exact b7t h1
           have hp6 := HP.out.below hbt
           obtain ⟨w6, hw6⟩ : ∃ w6, w5.alloc (.cells #[.int .u8 r, .int .u8 g, .int .u8 b, .int .u8 al] 34 (0, 0)) = w6 := ⟨_, rfl⟩
           rw [hw6] at hTb hp6
           rw [hw6]
           obtain ⟨T, hT⟩ : ∃ T, w5.heap.size = T := ⟨_, rfl⟩
           rw [hT] at hTb hBT
           simp only [hT]
           clear HP
           have HP := H7 hp6
           have HT := H7 (BlkA.mk hTb)
           have HBT := H7 hBT
           clear hbt hTb hBT hp6 hw6 hT
           obtain ⟨D, hD⟩ : ∃ D, pixTo C q f (j * W + k) = D := ⟨_, rfl⟩
           have HST2 := H7 (show pixTo C q f (j * W + (k + 1)) = dotC D ⟨(k : Int), (j : Int), ⟨r, g, b, al⟩⟩ by rw [HST.out j k HK.out, if_pos (by rw [HQ.out, HH.out]), ← hD, ← HF.out]; rfl)
           rw [hD] at HP
           clear hD
           obtain ⟨a6, c6, hB6, hv6⟩ := HP.out.ex
           have z0 := c7b (k := 0) hB6 rfl
           have z1 := c7b (k := 1) hB6 rfl
           have z2 := c7b (k := 2) hB6 rfl
           have t0 := c7b (k := 0) HT.out.at_ rfl
           have t1 := c7b (k := 1) HT.out.at_ rfl
           have t2 := c7b (k := 2) HT.out.at_ rfl
           have t3 := c7b (k := 3) HT.out.at_ rfl
           have HV6 := H7 hv6
           clear hB6 hv6
           go_wp2_with fail
           clear z0 z1 z2 t0 t1 t2 t3
           refine (HPT.out D HP.out.ok _ ⟨(k : Int), (j : Int), ⟨r, g, b, al⟩⟩ _ HV6.out).mono ?_
           rintro e w7 ⟨v7, rfl, hv7, hb⟩
           obtain ⟨a7, c7, rfl, -, -⟩ := id hv7
           have HP := H7 (HP.out.below hb)
           have HV7 := H7 hv7
           clear hb hv7
           obtain ⟨a8, c8, hB8, -⟩ := HP.out.ex
           have z0 := c7b (k := 0) hB8 rfl
           have z1 := c7b (k := 1) hB8 rfl
           have z2 := c7b (k := 2) hB8 rfl
           have f0 := f7b hB8
           clear hB8
           have HOK3 := H7 (show okCan (dotC D ⟨(k : Int), (j : Int), ⟨r, g, b, al⟩⟩) from HST2.out ▸ HOK.out q (j * W + (k + 1)) (pix_le HJ.out HK.out))
           go_wp2_with fail
           go_roundw
           case rel => exact ⟨k + 1, HK.out, by first | exact congrArg (Value.int .i64) HE2.out | exact congrArg (Value.int .i64) (Int.natCast_succ k).symm | (congr 1; omega), by rw [HST2.out]; exact HP.out.put HOK3.out HV7.out⟩
           case measure => (try rw [HE2.out]); have := HK.out; simp only [intOf]; omega
     · have hkW : k = W := by omega
       subst hkW
       go_wp2_with fail
       go_roundw
       case rel => exact ⟨j + 1, HJ.out, by first | exact congrArg (Value.int .i64) HE1.out | exact congrArg (Value.int .i64) (Int.natCast_succ j).symm | (congr 1; omega), by rw [← row_next]; exact HP.out⟩
       case measure => (try rw [HE1.out]); have := HJ.out; simp only [intOf]; omega
  · have hjH : j = H := by omega
    subst hjH
    obtain ⟨a6, c6, hB6, hv6⟩ := HP.out.ex
    obtain ⟨D, hD⟩ : ∃ D, pixTo C q f (j * W) = D := ⟨_, rfl⟩
    rw [hD] at hB6 hv6 HP
    have HDD := H7 hD
    have b0 := (HBK.out _ _ HP.out).1
    have z0 := c7b (k := 0) hB6 rfl
    have z1 := c7b (k := 1) hB6 rfl
    have z2 := c7b (k := 2) hB6 rfl
    have j0 := c7b (k := 0) b0 rfl
    have j1 := c7b (k := 1) b0 rfl
    have j2 := c7b (k := 2) b0 rfl
    have f0 := f7b b0
    have s1 := h7s (k := 0) b0 (.int .i64 D.wide)
    have s2 := h7s (k := 1) s1 (.int .i64 D.high)
    have HV9 := H7 (((hv6.other3 HP.out.ok b0 (by simp) 0 (.int .i64 D.wide)).other3 HP.out.ok s1 (by simp) 1 (.int .i64 D.high)).other3 HP.out.ok s2 (by simp) 2 (.slice a6 D.tiles.length c6))
    clear s1 s2 b0 hB6 hv6 hD hlt hj
    go_wp2_with fail
    have h0 := HP.out.st.low
    rw [HDD.out]
    refine bodyPost_ret (v := .agg #[.int .i64 D.wide, .int .i64 D.high, .slice a6 D.tiles.length c6]) (by simp [results, Tryz.results30, go_sem, j0, j1, j2]) rfl ⟨_, rfl, HV9.out, ?_⟩
    (repeat (first | exact B7 _ _ | assumption | refine Below.alloc ?_ (by first | omega | (simp; done) | (simp; omega)) _ | refine Below.setCell ?_ (by first | omega | (simp; done) | (simp; omega)) _ | refine Below.drew ?_))
set_option maxRecDepth 100000 in
set_option maxHeartbeats 4000000 in
theorem r7Rect_wash (C : CanT) (hC : okCan C) (v : Value) (pa pb : PtT) (c : ColT) (hc : okC c) (w : World) (hv : CanV w C v) :
 Calls Tryz.prog 30 #[v, c.val, pa.val, pb.val, .int .i64 2] w (GivesV (pixTo C (rectB false pa pb) (fwash c) (8 * C.high * (8 * C.wide))) w) := by
 have HV := H7 hv
 have HOC := H7 hC
 have HAT := H7 (fun (x y : Nat) hx hy w' (hb : Below w.heap.size w w') => r5At_any C hC v x y hx hy w' (hv.below hb))
 have HOV := H7 (fun u hu w' => r3Over_any u c hu hc w')
 have HPT := H7 (fun D hD v d w' h => r5Put_any D hD v d w' h)
 have HOK := H7 (fun q k hk => pixTo_ok hC q (fwash_ok hc) k hk)
 have HWD := H7 (fun q k => pixTo_wide C q (fwash c) k)
 obtain ⟨q, hq⟩ : ∃ q : Nat → Nat → Bool, q = rectB false pa pb := ⟨_, rfl⟩
 have HQ := H7 (fun x y : Nat => show q x y = rectB false pa pb x y by rw [hq])
 rw [← hq]
 obtain ⟨ca, ccap, rfl, -, -⟩ := id hv
 obtain ⟨W, hW⟩ : ∃ W, 8 * C.wide = W := ⟨_, rfl⟩
 obtain ⟨H, hH⟩ : ∃ H, 8 * C.high = H := ⟨_, rfl⟩
 have HST := H7 (fun j k (hk : k < W) => pixTo_step q (fwash c) (x := k) (y := j) hW hk)
 rw [hW, hH] at HOK
 rw [hW] at HAT
 rw [hH] at HAT
 rw [hW, hH]
 have HB := H7 (And.intro hC.wide (And.intro hC.high (And.intro hW hH)))
 obtain ⟨wi, hwi⟩ : ∃ wi, C.wide = wi := ⟨_, rfl⟩
 obtain ⟨hi, hhi⟩ : ∃ hi, C.high = hi := ⟨_, rfl⟩
 obtain ⟨n, hn⟩ : ∃ n, C.tiles.length = n := ⟨_, rfl⟩
 have HN := H7 (And.intro hwi (And.intro hhi hn))
 have e1 : wrap64 (8 * (wi : Int)) = (W : Int) := by have := HB.out; unfold wrap64; omega
 have e2 : wrap64 (8 * (hi : Int)) = (H : Int) := by have := HB.out; unfold wrap64; omega
 have HWH := H7 (show W ≤ 32 ∧ H ≤ 32 by have := HB.out; omega)
 rw [hwi, hhi, hn] at HAT ⊢
 have HS := H7 (St.start w)
 obtain ⟨f, hf⟩ : ∃ f, fwash c = f := ⟨_, rfl⟩
 have HF := H7 hf
 rw [hf] at HOK HWD HST ⊢
 obtain ⟨cc, hcc⟩ : ∃ cc, cc = c := ⟨_, rfl⟩
 have HCC := H7 hcc
 obtain ⟨r, g, b, al⟩ := c
 obtain ⟨ax, ay⟩ := pa
 obtain ⟨zx, zy⟩ := pb
 unfold ColT.val at HAT HOV ⊢
 unfold PtT.val
 simp only at HAT HOV ⊢
 clear hv hC hc hq hW hH hwi hhi hn hf hcc
 go_enter Tryz.func30, Tryz.ntmps30
 repeat ((fail_if_success (with_reducible refine stop_at (id := 1) ?_)); (first | go_values | go_skip | go_guarded | go_step | go_upon | go_back | (simp only [Int.not_lt, Int.not_le] at *; go_simp) | (go_values <;> (try go_simp)) | (go_ite <;> go_prune <;> (try go_simp)) | (split <;> (first | (rename_i hx; exact (hx _ rfl).elim) | go_prune))))
 have hs_ := (((((HS.out.alloc (.cells #[.int .i64 wi, .int .i64 hi, .slice ca n ccap] 24)).alloc (.cells #[.int .u8 r, .int .u8 g, .int .u8 b, .int .u8 al] 34)).alloc (.cells #[.int .i64 ax, .int .i64 ay] 26)).alloc (.cells #[.int .i64 zx, .int .i64 zy] 26)).alloc (.cells #[.int .i64 0, .int .i64 0, .slice none 0 0] 24))
 obtain ⟨w1, hw_⟩ : ∃ w1 : World, (((((w.alloc (.cells #[.int .i64 wi, .int .i64 hi, .slice ca n ccap] 24)).alloc (.cells #[.int .u8 r, .int .u8 g, .int .u8 b, .int .u8 al] 34)).alloc (.cells #[.int .i64 ax, .int .i64 ay] 26)).alloc (.cells #[.int .i64 zx, .int .i64 zy] 26)).alloc (.cells #[.int .i64 0, .int .i64 0, .slice none 0 0] 24)) = w1 := ⟨_, rfl⟩
 rw [hw_] at hs_
 try simp only [World.size_alloc] at hs_
 have HS := H7 hs_
 rw [hw_]
 clear hw_ hs_
 have q0 := h7c HS 4 0 rfl rfl
 have q1 := h7c HS 4 1 rfl rfl
 have q2 := h7c HS 4 2 rfl rfl
 repeat ((fail_if_success (with_reducible refine stop_at (id := 2) ?_)); (first | go_values | go_skip | go_guarded | go_step | go_upon | go_back | (simp only [Int.not_lt, Int.not_le] at *; go_simp) | (go_values <;> (try go_simp)) | (go_ite <;> go_prune <;> (try go_simp)) | (split <;> (first | (rename_i hx; exact (hx _ rfl).elim) | go_prune))))
 clear q0 q1 q2
 have HLW := H7 HS.out.size
 have HTOP := H7 HS.out.top
 obtain ⟨B, hB⟩ : ∃ B, w1.heap.size = B := ⟨_, rfl⟩
 have hs_ := (HS.out.alloc (.cells #[.int .i64 wi, .int .i64 hi, .slice ca n ccap] 24))
 obtain ⟨w2, hw_⟩ : ∃ w2 : World, (w1.alloc (.cells #[.int .i64 wi, .int .i64 hi, .slice ca n ccap] 24)) = w2 := ⟨_, rfl⟩
 rw [hw_] at hs_
 try simp only [World.size_alloc] at hs_
 have HS := H7 hs_
 rw [hw_]
 clear hw_ hs_
 obtain ⟨its, hits⟩ : ∃ its : List It, its = [.blk (w.heap.size + 1 + 1 + 1 + 1) (.cells #[.int .i64 0, .int .i64 0, .slice none 0 0] 24 (0, 0)), .blk (w.heap.size + 1 + 1 + 1) (.cells #[.int .i64 zx, .int .i64 zy] 26 (0, 0)), .blk (w.heap.size + 1 + 1) (.cells #[.int .i64 ax, .int .i64 ay] 26 (0, 0)), .blk (w.heap.size + 1) (.cells #[.int .u8 r, .int .u8 g, .int .u8 b, .int .u8 al] 34 (0, 0)), .blk (w.heap.size) (.cells #[.int .i64 wi, .int .i64 hi, .slice ca n ccap] 24 (0, 0))] := ⟨_, rfl⟩
 have HBK := H7 (show ∀ (x : World) (D : CanT), PutS w its B D x → x.heap[w.heap.size + 1 + 1 + 1 + 1]? = some (.cells #[.int .i64 0, .int .i64 0, .slice none 0 0] 24 (0, 0)) ∧ x.heap[w.heap.size + 1 + 1 + 1]? = some (.cells #[.int .i64 zx, .int .i64 zy] 26 (0, 0)) ∧ x.heap[w.heap.size + 1 + 1]? = some (.cells #[.int .i64 ax, .int .i64 ay] 26 (0, 0)) ∧ x.heap[w.heap.size + 1]? = some (.cells #[.int .u8 r, .int .u8 g, .int .u8 b, .int .u8 al] 34 (0, 0)) ∧ x.heap[w.heap.size]? = some (.cells #[.int .i64 wi, .int .i64 hi, .slice ca n ccap] 24 (0, 0)) from
  fun x D h => by subst hits; exact ⟨h.st.blockAt 0 rfl, h.st.blockAt 1 rfl, h.st.blockAt 2 rfl, h.st.blockAt 3 rfl, h.st.blockAt 4 rfl⟩)
 have HP := H7 (show PutS w its B C w2 by
  have hs := HS.out
  rw [hB, ← hits] at hs
  refine PutS.start (a := ca) (cap := ccap) ?_ HOC.out ?_ ?_ ?_
  · rw [HN.out.1, HN.out.2.1, HN.out.2.2]; exact hs
  · exact HV.out.below hs.low
  · have h1 := HS.out.drop1.low.size
    rw [← hB]
    exact HLW.out
  · intro i hi
    rw [← hB]
    exact HTOP.out i (by rw [← hits]; exact hi))
 rw [hB]
 clear HS HLW HTOP hits hB HV
 have q1 := c7b (k := 1) (HBK.out _ _ HP.out).2.2.2.2 rfl
 go_wp2_with fail
 clear q1
 try rw [e2]
 clear e2
 go_loopw [20] (fun i wr => ∃ j : Nat, j ≤ H ∧ i = .int .i64 (j : Int) ∧ PutS w its B (pixTo C q f (j * W)) wr) (fun i _ => H - (intOf i).toNat)
 case atStart => exact ⟨0, Nat.zero_le _, rfl, by rw [Nat.zero_mul]; exact HP.out⟩
 case round =>
  obtain ⟨j, hj, rfl, hp⟩ := hrel
  clear HP
  have HP := H7 hp
  clear hp
  by_cases hlt : j < H
  · have HJ := H7 hlt
    have HE1 := H7 (wrapS (n := j) (by have := HWH.out; omega))
    have q0 := c7b (k := 0) (HBK.out _ _ HP.out).2.2.2.2 rfl
    clear hj
    go_wp2_with fail
    clear q0 hlt
    try rw [e1]
    clear e1
    go_loopw [26] (fun i wx => ∃ k : Nat, k ≤ W ∧ i = .int .i64 (k : Int) ∧ PutS w its B (pixTo C q f (j * W + k)) wx) (fun i _ => W - (intOf i).toNat)
    case atStart => exact ⟨0, Nat.zero_le _, rfl, HP.out⟩
    case round =>
     obtain ⟨k, hk, rfl, hp⟩ := hrel
     clear HP
     have HP := H7 hp
     clear hp
     by_cases hkt : k < W
     · have HK := H7 hkt
       have HE2 := H7 (wrapS (n := k) (by have := HWH.out; omega))
       clear hk
       obtain ⟨E1, hE1⟩ : ∃ E1, ((k : Int) == ax) = E1 := ⟨_, rfl⟩
       obtain ⟨E2, hE2⟩ : ∃ E2, ((k : Int) == zx) = E2 := ⟨_, rfl⟩
       obtain ⟨E3, hE3⟩ : ∃ E3, ((j : Int) == ay) = E3 := ⟨_, rfl⟩
       obtain ⟨E4, hE4⟩ : ∃ E4, ((j : Int) == zy) = E4 := ⟨_, rfl⟩
       have HED := H7 (show edgeB ⟨ax, ay⟩ ⟨zx, zy⟩ (k : Int) (j : Int) = (((E1 || E2) || E3) || E4) by unfold edgeB; simp only; rw [hE1, hE2, hE3, hE4])
       have HEE := H7 (And.intro hE1 (And.intro hE2 (And.intro hE3 hE4)))
       clear hE1 hE2 hE3 hE4
       repeat ((fail_if_success (with_reducible refine stop_at (id := 8) ?_)); (first | go_values | go_skip | go_guarded | go_step | go_upon | go_back | (simp only [Int.not_lt, Int.not_le] at *; go_simp) | (go_values <;> (try go_simp)) | (go_ite <;> go_prune <;> (try go_simp)) | (split <;> (first | (rename_i hx; exact (hx _ rfl).elim) | go_prune))))
       clear hkt
       refine (wpIn_wide (n := 0)).1 ?_
       apply wp_region_textv 23 (Rl := [(eqv _), (eqv _), (eqv _), (fun v_ _ => v_ = (.bool E1 : Value)), (fun v_ _ => v_ = (.bool E1 : Value)), (fun v_ _ => v_ = (bif E1 then undef else .int .i64 (k : Int) : Value)), (fun v_ _ => v_ = (bif E1 then undef else .pointer (some ⟨w.heap.size + 1 + 1 + 1, 0, none⟩) : Value)), (fun v_ _ => v_ = (bif E1 then undef else .int .i64 zx : Value)), (fun v_ _ => v_ = (bif E1 then undef else .bool E2 : Value)), (fun v_ _ => v_ = (.bool (E1 || E2) : Value)), (fun v_ _ => v_ = (.bool (E1 || E2) : Value)), (fun v_ _ => v_ = (bif E1 || E2 then undef else .int .i64 (j : Int) : Value)), (fun v_ _ => v_ = (bif E1 || E2 then undef else .pointer (some ⟨w.heap.size + 1 + 1, 1, none⟩) : Value)), (fun v_ _ => v_ = (bif E1 || E2 then undef else .int .i64 ay : Value)), (fun v_ _ => v_ = (bif E1 || E2 then undef else .bool E3 : Value)), (fun v_ _ => v_ = (.bool ((E1 || E2) || E3) : Value)), (fun v_ _ => v_ = (.bool ((E1 || E2) || E3) : Value)), (fun v_ _ => v_ = (bif (E1 || E2) || E3 then undef else .int .i64 (j : Int) : Value)), (fun v_ _ => v_ = (bif (E1 || E2) || E3 then undef else .pointer (some ⟨w.heap.size + 1 + 1 + 1, 1, none⟩) : Value)), (fun v_ _ => v_ = (bif (E1 || E2) || E3 then undef else .int .i64 zy : Value)), (fun v_ _ => v_ = (bif (E1 || E2) || E3 then undef else .bool E4 : Value)), (fun v_ _ => v_ = (.bool (((E1 || E2) || E3) || E4) : Value)), (eqv _)]) (C := (fun x y => Below x.heap.size x y))
       case hk => rfl
       case hCr => exact (fun _ => B7 _ _)
       case hCt => intro _ _ _; exact (fun h k => g7t h k)
       case hst => repeat (first | exact trivial | refine ⟨fun _ _ _ _ h => h, ?_⟩)
       case hfo => kernel_rfl
       case hsteps =>
        refine ⟨?_, ?_, ?_, ?_, ?_, ?_, ?_, ?_, ?_, ?_, ?_, ?_, ?_, ?_, ?_, ?_, ?_, ?_, ?_, ?_, ?_, ?_, ?_, trivial⟩
        · intro a' w' hA hC hD; have s13 := hA.to 13 (by kernel_rfl) rfl; clear hA hD; refine o7p rfl ?_; intro K hK; gi_wp2; exact hK _ _ rfl (B7 _ _)
        · intro a' w' hA hC hD; have s7 := hA.to 7 (by kernel_rfl) rfl; clear hA hD; refine o7p rfl ?_; intro K hK; gi_wp2; exact hK _ _ rfl (B7 _ _)
        · intro a' w' hA hC hD; obtain ⟨u30, s30, rfl⟩ := hD ⟨1, .data⟩ (by simp) rfl _ rfl
          have pQ := (HBK.out _ _ (HP.out.below hC)).2.2.1; have aQ := c7b (k := 0) pQ rfl; clear pQ
          clear hA hD; refine o7p rfl ?_; intro K hK; gi_wp2; exact hK _ _ rfl (B7 _ _)
        · intro a' w' hA hC hD; obtain ⟨u29, s29, rfl⟩ := hD ⟨0, .data⟩ (by simp) rfl _ rfl; obtain ⟨u31, s31, rfl⟩ := hD ⟨2, .data⟩ (by simp) rfl _ rfl; clear hA hD; refine o7p rfl ?_; intro K hK; gi_wp2; exact hK _ _ (show _ = (.bool E1 : Value) from by first | (simp only [HEE.out.1, cond_true, cond_false, Bool.true_and, Bool.false_and, Bool.not_true, Bool.not_false, beq_self_eq_true]; try rfl) | rfl) (B7 _ _)
        · intro a' w' hA hC hD; obtain ⟨u32, s32, r32⟩ := hD ⟨3, .data⟩ (by simp) rfl _ rfl; replace r32 : u32 = .bool E1 := r32; subst r32; clear hA hD; refine o7p rfl ?_; intro K hK; gi_wp2; exact hK (.bool E1) _ rfl (B7 _ _)
        · intro a' w' hA hC hD; have s13 := hA.to 13 (by kernel_rfl) rfl; obtain ⟨u33, s33, r33⟩ := hD ⟨4, .guard⟩ (by simp) rfl _ rfl; replace r33 : u33 = .bool E1 := r33; subst r33; clear hA hD
          rcases (Bool.eq_false_or_eq_true (E1)).symm with hg | hg <;> (try simp only [hg, cond_true, cond_false] at s13 s33)
          · refine o7w rfl rfl s33 ?_
            intro K hK; gi_wp2; exact hK _ _ (show _ = (bif E1 then undef else .int .i64 (k : Int) : Value) from by first | (simp only [hg, cond_true, cond_false, Bool.true_and, Bool.false_and, Bool.not_true, Bool.not_false, beq_self_eq_true]; try rfl) | rfl) (B7 _ _)
          · exact o7s rfl rfl s33 (show (undef : Value) = (bif E1 then undef else .int .i64 (k : Int) : Value) from by simp only [hg, cond_true, cond_false])
        · intro a' w' hA hC hD; have s8 := hA.to 8 (by kernel_rfl) rfl; obtain ⟨u33, s33, r33⟩ := hD ⟨4, .guard⟩ (by simp) rfl _ rfl; replace r33 : u33 = .bool E1 := r33; subst r33; clear hA hD
          rcases (Bool.eq_false_or_eq_true (E1)).symm with hg | hg <;> (try simp only [hg, cond_true, cond_false] at s8 s33)
          · refine o7w rfl rfl s33 ?_
            intro K hK; gi_wp2; exact hK _ _ (show _ = (bif E1 then undef else .pointer (some ⟨w.heap.size + 1 + 1 + 1, 0, none⟩) : Value) from by first | (simp only [hg, cond_true, cond_false, Bool.true_and, Bool.false_and, Bool.not_true, Bool.not_false, beq_self_eq_true]; try rfl) | rfl) (B7 _ _)
          · exact o7s rfl rfl s33 (show (undef : Value) = (bif E1 then undef else .pointer (some ⟨w.heap.size + 1 + 1 + 1, 0, none⟩) : Value) from by simp only [hg, cond_true, cond_false])
        · intro a' w' hA hC hD; obtain ⟨u35, s35, r35⟩ := hD ⟨6, .data⟩ (by simp) rfl _ rfl; replace r35 : u35 = bif E1 then undef else .pointer (some ⟨w.heap.size + 1 + 1 + 1, 0, none⟩) := r35; subst r35; obtain ⟨u33, s33, r33⟩ := hD ⟨4, .guard⟩ (by simp) rfl _ rfl; replace r33 : u33 = .bool E1 := r33; subst r33
          have pQ := (HBK.out _ _ (HP.out.below hC)).2.1; have aQ := c7b (k := 0) pQ rfl; clear pQ
          clear hA hD
          rcases (Bool.eq_false_or_eq_true (E1)).symm with hg | hg <;> (try simp only [hg, cond_true, cond_false] at s35 s33)
          · refine o7w rfl rfl s33 ?_
            intro K hK; gi_wp2; exact hK _ _ (show _ = (bif E1 then undef else .int .i64 zx : Value) from by first | (simp only [hg, cond_true, cond_false, Bool.true_and, Bool.false_and, Bool.not_true, Bool.not_false, beq_self_eq_true]; try rfl) | rfl) (B7 _ _)
          · exact o7s rfl rfl s33 (show (undef : Value) = (bif E1 then undef else .int .i64 zx : Value) from by simp only [hg, cond_true, cond_false])
        · intro a' w' hA hC hD; obtain ⟨u34, s34, r34⟩ := hD ⟨5, .data⟩ (by simp) rfl _ rfl; replace r34 : u34 = bif E1 then undef else .int .i64 (k : Int) := r34; subst r34; obtain ⟨u36, s36, r36⟩ := hD ⟨7, .data⟩ (by simp) rfl _ rfl; replace r36 : u36 = bif E1 then undef else .int .i64 zx := r36; subst r36; obtain ⟨u33, s33, r33⟩ := hD ⟨4, .guard⟩ (by simp) rfl _ rfl; replace r33 : u33 = .bool E1 := r33; subst r33; clear hA hD
          rcases (Bool.eq_false_or_eq_true (E1)).symm with hg | hg <;> (try simp only [hg, cond_true, cond_false] at s34 s36 s33)
          · refine o7w rfl rfl s33 ?_
            intro K hK; gi_wp2; exact hK _ _ (show _ = (bif E1 then undef else .bool E2 : Value) from by first | (simp only [hg, HEE.out.2.1, cond_true, cond_false, Bool.true_and, Bool.false_and, Bool.not_true, Bool.not_false, beq_self_eq_true]; try rfl) | rfl) (B7 _ _)
          · exact o7s rfl rfl s33 (show (undef : Value) = (bif E1 then undef else .bool E2 : Value) from by simp only [hg, cond_true, cond_false])
        · intro a' w' hA hC hD; obtain ⟨u33, s33, r33⟩ := hD ⟨4, .data⟩ (by simp) rfl _ rfl; replace r33 : u33 = .bool E1 := r33; subst r33; obtain ⟨u37, s37, r37⟩ := hD ⟨8, .data⟩ (by simp) rfl _ rfl; replace r37 : u37 = bif E1 then undef else .bool E2 := r37; subst r37; clear hA hD
          rcases (Bool.eq_false_or_eq_true (E1)).symm with hg | hg <;> (try simp only [hg, cond_true, cond_false] at s33 s37)
          · refine o7p rfl ?_
            intro K hK; gi_wp2; exact hK _ _ (show _ = (.bool (E1 || E2) : Value) from by first | (simp only [hg, Bool.true_or, Bool.false_or, Bool.or_true, Bool.or_false, cond_true, cond_false, Bool.true_and, Bool.false_and, Bool.not_true, Bool.not_false, beq_self_eq_true]; try rfl) | rfl) (B7 _ _)
          · refine o7p rfl ?_
            intro K hK; gi_wp2; exact hK _ _ (show _ = (.bool (E1 || E2) : Value) from by first | (simp only [hg, Bool.true_or, Bool.false_or, Bool.or_true, Bool.or_false, cond_true, cond_false, Bool.true_and, Bool.false_and, Bool.not_true, Bool.not_false, beq_self_eq_true]; try rfl) | rfl) (B7 _ _)
        · intro a' w' hA hC hD; obtain ⟨u38, s38, r38⟩ := hD ⟨9, .data⟩ (by simp) rfl _ rfl; replace r38 : u38 = .bool (E1 || E2) := r38; subst r38; clear hA hD; refine o7p rfl ?_; intro K hK; gi_wp2; exact hK (.bool (E1 || E2)) _ rfl (B7 _ _)
        · intro a' w' hA hC hD; have s12 := hA.to 12 (by kernel_rfl) rfl; obtain ⟨u39, s39, r39⟩ := hD ⟨10, .guard⟩ (by simp) rfl _ rfl; replace r39 : u39 = .bool (E1 || E2) := r39; subst r39; clear hA hD
          rcases (Bool.eq_false_or_eq_true (E1 || E2)).symm with hg | hg <;> (try simp only [hg, cond_true, cond_false] at s12 s39)
          · refine o7w rfl rfl s39 ?_
            intro K hK; gi_wp2; exact hK _ _ (show _ = (bif E1 || E2 then undef else .int .i64 (j : Int) : Value) from by first | (simp only [hg, cond_true, cond_false, Bool.true_and, Bool.false_and, Bool.not_true, Bool.not_false, beq_self_eq_true]; try rfl) | rfl) (B7 _ _)
          · exact o7s rfl rfl s39 (show (undef : Value) = (bif E1 || E2 then undef else .int .i64 (j : Int) : Value) from by simp only [hg, cond_true, cond_false])
        · intro a' w' hA hC hD; have s7 := hA.to 7 (by kernel_rfl) rfl; obtain ⟨u39, s39, r39⟩ := hD ⟨10, .guard⟩ (by simp) rfl _ rfl; replace r39 : u39 = .bool (E1 || E2) := r39; subst r39; clear hA hD
          rcases (Bool.eq_false_or_eq_true (E1 || E2)).symm with hg | hg <;> (try simp only [hg, cond_true, cond_false] at s7 s39)
          · refine o7w rfl rfl s39 ?_
            intro K hK; gi_wp2; exact hK _ _ (show _ = (bif E1 || E2 then undef else .pointer (some ⟨w.heap.size + 1 + 1, 1, none⟩) : Value) from by first | (simp only [hg, cond_true, cond_false, Bool.true_and, Bool.false_and, Bool.not_true, Bool.not_false, beq_self_eq_true]; try rfl) | rfl) (B7 _ _)
          · exact o7s rfl rfl s39 (show (undef : Value) = (bif E1 || E2 then undef else .pointer (some ⟨w.heap.size + 1 + 1, 1, none⟩) : Value) from by simp only [hg, cond_true, cond_false])
        · intro a' w' hA hC hD; obtain ⟨u41, s41, r41⟩ := hD ⟨12, .data⟩ (by simp) rfl _ rfl
          replace r41 : u41 = bif E1 || E2 then undef else .pointer (some ⟨w.heap.size + 1 + 1, 1, none⟩) := r41
          subst r41; obtain ⟨u39, s39, r39⟩ := hD ⟨10, .guard⟩ (by simp) rfl _ rfl; replace r39 : u39 = .bool (E1 || E2) := r39; subst r39
          have pQ := (HBK.out _ _ (HP.out.below hC)).2.2.1; have aQ := c7b (k := 1) pQ rfl; clear pQ
          clear hA hD
          rcases (Bool.eq_false_or_eq_true (E1 || E2)).symm with hg | hg <;> (try simp only [hg, cond_true, cond_false] at s41 s39)
          · refine o7w rfl rfl s39 ?_
            intro K hK; gi_wp2; exact hK _ _ (show _ = (bif E1 || E2 then undef else .int .i64 ay : Value) from by first | (simp only [hg, cond_true, cond_false, Bool.true_and, Bool.false_and, Bool.not_true, Bool.not_false, beq_self_eq_true]; try rfl) | rfl) (B7 _ _)
          · exact o7s rfl rfl s39 (show (undef : Value) = (bif E1 || E2 then undef else .int .i64 ay : Value) from by simp only [hg, cond_true, cond_false])
        · intro a' w' hA hC hD; obtain ⟨u40, s40, r40⟩ := hD ⟨11, .data⟩ (by simp) rfl _ rfl
          replace r40 : u40 = bif E1 || E2 then undef else .int .i64 (j : Int) := r40
          subst r40; obtain ⟨u42, s42, r42⟩ := hD ⟨13, .data⟩ (by simp) rfl _ rfl
          replace r42 : u42 = bif E1 || E2 then undef else .int .i64 ay := r42
          subst r42; obtain ⟨u39, s39, r39⟩ := hD ⟨10, .guard⟩ (by simp) rfl _ rfl; replace r39 : u39 = .bool (E1 || E2) := r39; subst r39; clear hA hD
          rcases (Bool.eq_false_or_eq_true (E1 || E2)).symm with hg | hg <;> (try simp only [hg, cond_true, cond_false] at s40 s42 s39)
          · refine o7w rfl rfl s39 ?_
            intro K hK; gi_wp2; exact hK _ _ (show _ = (bif E1 || E2 then undef else .bool E3 : Value) from by first | (simp only [hg, HEE.out.2.2.1, cond_true, cond_false, Bool.true_and, Bool.false_and, Bool.not_true, Bool.not_false, beq_self_eq_true]; try rfl) | rfl) (B7 _ _)
          · exact o7s rfl rfl s39 (show (undef : Value) = (bif E1 || E2 then undef else .bool E3 : Value) from by simp only [hg, cond_true, cond_false])
        · intro a' w' hA hC hD; obtain ⟨u39, s39, r39⟩ := hD ⟨10, .data⟩ (by simp) rfl _ rfl; replace r39 : u39 = .bool (E1 || E2) := r39; subst r39; obtain ⟨u43, s43, r43⟩ := hD ⟨14, .data⟩ (by simp) rfl _ rfl
          replace r43 : u43 = bif E1 || E2 then undef else .bool E3 := r43
          subst r43; clear hA hD
          rcases (Bool.eq_false_or_eq_true (E1 || E2)).symm with hg | hg <;> (try simp only [hg, cond_true, cond_false] at s39 s43)
          · refine o7p rfl ?_
            intro K hK; gi_wp2; exact hK _ _ (show _ = (.bool ((E1 || E2) || E3) : Value) from by first | (simp only [hg, Bool.true_or, Bool.false_or, Bool.or_true, Bool.or_false, cond_true, cond_false, Bool.true_and, Bool.false_and, Bool.not_true, Bool.not_false, beq_self_eq_true]; try rfl) | rfl) (B7 _ _)
          · refine o7p rfl ?_
            intro K hK; gi_wp2; exact hK _ _ (show _ = (.bool ((E1 || E2) || E3) : Value) from by first | (simp only [hg, Bool.true_or, Bool.false_or, Bool.or_true, Bool.or_false, cond_true, cond_false, Bool.true_and, Bool.false_and, Bool.not_true, Bool.not_false, beq_self_eq_true]; try rfl) | rfl) (B7 _ _)
        · intro a' w' hA hC hD; obtain ⟨u44, s44, r44⟩ := hD ⟨15, .data⟩ (by simp) rfl _ rfl; replace r44 : u44 = .bool ((E1 || E2) || E3) := r44; subst r44; clear hA hD; refine o7p rfl ?_; intro K hK; gi_wp2; exact hK (.bool ((E1 || E2) || E3)) _ rfl (B7 _ _)
        · intro a' w' hA hC hD; have s12 := hA.to 12 (by kernel_rfl) rfl; obtain ⟨u45, s45, r45⟩ := hD ⟨16, .guard⟩ (by simp) rfl _ rfl; replace r45 : u45 = .bool ((E1 || E2) || E3) := r45; subst r45; clear hA hD
          rcases (Bool.eq_false_or_eq_true ((E1 || E2) || E3)).symm with hg | hg <;> (try simp only [hg, cond_true, cond_false] at s12 s45)
          · refine o7w rfl rfl s45 ?_
            intro K hK; gi_wp2; exact hK _ _ (show _ = (bif (E1 || E2) || E3 then undef else .int .i64 (j : Int) : Value) from by first | (simp only [hg, cond_true, cond_false, Bool.true_and, Bool.false_and, Bool.not_true, Bool.not_false, beq_self_eq_true]; try rfl) | rfl) (B7 _ _)
          · exact o7s rfl rfl s45 (show (undef : Value) = (bif (E1 || E2) || E3 then undef else .int .i64 (j : Int) : Value) from by simp only [hg, cond_true, cond_false])
        · intro a' w' hA hC hD; have s8 := hA.to 8 (by kernel_rfl) rfl; obtain ⟨u45, s45, r45⟩ := hD ⟨16, .guard⟩ (by simp) rfl _ rfl; replace r45 : u45 = .bool ((E1 || E2) || E3) := r45; subst r45; clear hA hD
          rcases (Bool.eq_false_or_eq_true ((E1 || E2) || E3)).symm with hg | hg <;> (try simp only [hg, cond_true, cond_false] at s8 s45)
          · refine o7w rfl rfl s45 ?_
            intro K hK; gi_wp2; exact hK _ _ (show _ = (bif (E1 || E2) || E3 then undef else .pointer (some ⟨w.heap.size + 1 + 1 + 1, 1, none⟩) : Value) from by first | (simp only [hg, cond_true, cond_false, Bool.true_and, Bool.false_and, Bool.not_true, Bool.not_false, beq_self_eq_true]; try rfl) | rfl) (B7 _ _)
          · exact o7s rfl rfl s45 (show (undef : Value) = (bif (E1 || E2) || E3 then undef else .pointer (some ⟨w.heap.size + 1 + 1 + 1, 1, none⟩) : Value) from by simp only [hg, cond_true, cond_false])
        · intro a' w' hA hC hD; obtain ⟨u47, s47, r47⟩ := hD ⟨18, .data⟩ (by simp) rfl _ rfl
          replace r47 : u47 = bif (E1 || E2) || E3 then undef else .pointer (some ⟨w.heap.size + 1 + 1 + 1, 1, none⟩) := r47
          subst r47; obtain ⟨u45, s45, r45⟩ := hD ⟨16, .guard⟩ (by simp) rfl _ rfl; replace r45 : u45 = .bool ((E1 || E2) || E3) := r45; subst r45
          have pQ := (HBK.out _ _ (HP.out.below hC)).2.1; have aQ := c7b (k := 1) pQ rfl; clear pQ
          clear hA hD
          rcases (Bool.eq_false_or_eq_true ((E1 || E2) || E3)).symm with hg | hg <;> (try simp only [hg, cond_true, cond_false] at s47 s45)
          · refine o7w rfl rfl s45 ?_
            intro K hK; gi_wp2; exact hK _ _ (show _ = (bif (E1 || E2) || E3 then undef else .int .i64 zy : Value) from by first | (simp only [hg, cond_true, cond_false, Bool.true_and, Bool.false_and, Bool.not_true, Bool.not_false, beq_self_eq_true]; try rfl) | rfl) (B7 _ _)
          · exact o7s rfl rfl s45 (show (undef : Value) = (bif (E1 || E2) || E3 then undef else .int .i64 zy : Value) from by simp only [hg, cond_true, cond_false])
        · intro a' w' hA hC hD; obtain ⟨u46, s46, r46⟩ := hD ⟨17, .data⟩ (by simp) rfl _ rfl
          replace r46 : u46 = bif (E1 || E2) || E3 then undef else .int .i64 (j : Int) := r46
          subst r46; obtain ⟨u48, s48, r48⟩ := hD ⟨19, .data⟩ (by simp) rfl _ rfl
          replace r48 : u48 = bif (E1 || E2) || E3 then undef else .int .i64 zy := r48
          subst r48; obtain ⟨u45, s45, r45⟩ := hD ⟨16, .guard⟩ (by simp) rfl _ rfl; replace r45 : u45 = .bool ((E1 || E2) || E3) := r45; subst r45; clear hA hD
          rcases (Bool.eq_false_or_eq_true ((E1 || E2) || E3)).symm with hg | hg <;> (try simp only [hg, cond_true, cond_false] at s46 s48 s45)
          · refine o7w rfl rfl s45 ?_
            intro K hK; gi_wp2; exact hK _ _ (show _ = (bif (E1 || E2) || E3 then undef else .bool E4 : Value) from by first | (simp only [hg, HEE.out.2.2.2, cond_true, cond_false, Bool.true_and, Bool.false_and, Bool.not_true, Bool.not_false, beq_self_eq_true]; try rfl) | rfl) (B7 _ _)
          · exact o7s rfl rfl s45 (show (undef : Value) = (bif (E1 || E2) || E3 then undef else .bool E4 : Value) from by simp only [hg, cond_true, cond_false])
        · intro a' w' hA hC hD; obtain ⟨u45, s45, r45⟩ := hD ⟨16, .data⟩ (by simp) rfl _ rfl; replace r45 : u45 = .bool ((E1 || E2) || E3) := r45; subst r45; obtain ⟨u49, s49, r49⟩ := hD ⟨20, .data⟩ (by simp) rfl _ rfl
          replace r49 : u49 = bif (E1 || E2) || E3 then undef else .bool E4 := r49
          subst r49; clear hA hD
          rcases (Bool.eq_false_or_eq_true ((E1 || E2) || E3)).symm with hg | hg <;> (try simp only [hg, cond_true, cond_false] at s45 s49)
          · refine o7p rfl ?_
            intro K hK; gi_wp2; exact hK _ _ (show _ = (.bool (((E1 || E2) || E3) || E4) : Value) from by first | (simp only [hg, Bool.true_or, Bool.false_or, Bool.or_true, Bool.or_false, cond_true, cond_false, Bool.true_and, Bool.false_and, Bool.not_true, Bool.not_false, beq_self_eq_true]; try rfl) | rfl) (B7 _ _)
          · refine o7p rfl ?_
            intro K hK; gi_wp2; exact hK _ _ (show _ = (.bool (((E1 || E2) || E3) || E4) : Value) from by first | (simp only [hg, Bool.true_or, Bool.false_or, Bool.or_true, Bool.or_false, cond_true, cond_false, Bool.true_and, Bool.false_and, Bool.not_true, Bool.not_false, beq_self_eq_true]; try rfl) | rfl) (B7 _ _)
        · intro a' w' hA hC hD; obtain ⟨u50, s50, r50⟩ := hD ⟨21, .data⟩ (by simp) rfl _ rfl; replace r50 : u50 = .bool (((E1 || E2) || E3) || E4) := r50; subst r50; clear hA hD; refine o7p rfl ?_; intro K hK; gi_wp2; exact hK _ _ rfl (B7 _ _)
       case hend =>
        intro w4 hC
        simp only [EndFrom, eqv, forall_eq, Act.put, List.length_cons, List.length_nil, List.drop_succ_cons, List.drop_zero, Nat.reduceAdd, List.setIfInBounds_toArray, List.set_cons_succ, List.set_cons_zero]
        have HP := H7 (HP.out.below hC)
        clear hC HEE
        obtain ⟨E, hE⟩ : ∃ E, (((E1 || E2) || E3) || E4) = E := ⟨_, rfl⟩
        rw [hE] at HED
        simp only [hE]
        clear hE
        gi_wp2
        have pA := (HBK.out _ _ HP.out).2.2.1
        have pB := (HBK.out _ _ HP.out).2.1
        have a0 := c7b (k := 0) pA rfl
        have a1 := c7b (k := 1) pA rfl
        have z0 := c7b (k := 0) pB rfl
        have z1 := c7b (k := 1) pB rfl
        clear pA pB
        go_wp2_with fail
        clear a0 a1 z0 z1
        refine (betw_any (k : Int) ax zx _).mono ?_
        rintro e w45 ⟨rfl, hb⟩
        have HP := H7 (HP.out.below hb)
        clear hb
        cases hX : betwB (k : Int) ax zx with
        | false =>
         have HX := H7 hX
         clear hX
         go_wp2_with fail
         go_roundw
         case rel => exact ⟨k + 1, HK.out, by first | exact congrArg (Value.int .i64) HE2.out | exact congrArg (Value.int .i64) (Int.natCast_succ k).symm | (congr 1; omega), by rw [HST.out j k HK.out, if_neg (by rw [HQ.out]; unfold rectB; simp only; rw [HX.out]; simp)]; exact HP.out⟩
         case measure => (try rw [HE2.out]); have := HK.out; simp only [intOf]; omega
        | true =>
         have HX := H7 hX
         clear hX
         have pA := (HBK.out _ _ HP.out).2.2.1
         have pB := (HBK.out _ _ HP.out).2.1
         have a0 := c7b (k := 0) pA rfl
         have a1 := c7b (k := 1) pA rfl
         have z0 := c7b (k := 0) pB rfl
         have z1 := c7b (k := 1) pB rfl
         clear pA pB
         go_wp2_with fail
         clear a0 a1 z0 z1
         refine (betw_any (j : Int) ay zy _).mono ?_
         rintro e w5 ⟨rfl, hb⟩
         have HP := H7 (HP.out.below hb)
         clear hb
         cases hY : betwB (j : Int) ay zy with
         | false =>
          have HY := H7 hY
          clear hY
          go_wp2_with fail
          go_roundw
          case rel => exact ⟨k + 1, HK.out, by first | exact congrArg (Value.int .i64) HE2.out | exact congrArg (Value.int .i64) (Int.natCast_succ k).symm | (congr 1; omega), by rw [HST.out j k HK.out, if_neg (by rw [HQ.out]; unfold rectB; simp only; rw [HX.out, HY.out]; simp)]; exact HP.out⟩
          case measure => (try rw [HE2.out]); have := HK.out; simp only [intOf]; omega
         | true =>
          have HY := H7 hY
          clear hY
          have HH := H7 (show rectB false ⟨ax, ay⟩ ⟨zx, zy⟩ k j = true by unfold rectB; simp only; rw [HX.out, HY.out]; rfl)
          have b1 := (HBK.out _ _ HP.out).2.2.2.1
          have y0 := c7b (k := 0) b1 rfl
          have y1 := c7b (k := 1) b1 rfl
          have y2 := c7b (k := 2) b1 rfl
          have y3 := c7b (k := 3) b1 rfl
          clear b1
          repeat ((fail_if_success (with_reducible refine stop_at (id := 10) ?_)); (first | go_values | go_skip | go_guarded | go_step | go_upon | go_back | (simp only [Int.not_lt, Int.not_le] at *; go_simp) | (go_values <;> (try go_simp)) | (go_ite <;> go_prune <;> (try go_simp)) | (split <;> (first | (rename_i hx; exact (hx _ rfl).elim) | go_prune))))
          repeat ((fail_if_success (with_reducible refine stop_at (id := 11) ?_)); (first | go_values | go_skip | go_guarded | go_step | go_upon | go_back | (simp only [Int.not_lt, Int.not_le] at *; go_simp) | (go_values <;> (try go_simp)) | (go_ite <;> go_prune <;> (try go_simp)) | (split <;> (first | (rename_i hx; exact (hx _ rfl).elim) | go_prune))))
          clear y0 y1 y2 y3
          have hbt : Below w5.heap.size w5 (w5.alloc (.cells #[.int .u8 r, .int .u8 g, .int .u8 b, .int .u8 al] 34 (0, 0))) := (B7 _ _).alloc (Nat.le_refl _) _
          have hTb := newBlock w5 (.cells #[.int .u8 r, .int .u8 g, .int .u8 b, .int .u8 al] 34 (0, 0)) w5.heap.size rfl
          have hBT : B < w5.heap.size := by obtain ⟨_, _, h1, -⟩ := HP.out.ex; exact b7t h1
          have hp6 := HP.out.below hbt
          obtain ⟨w6, hw6⟩ : ∃ w6, w5.alloc (.cells #[.int .u8 r, .int .u8 g, .int .u8 b, .int .u8 al] 34 (0, 0)) = w6 := ⟨_, rfl⟩
          rw [hw6] at hTb hp6
          rw [hw6]
          obtain ⟨T, hT⟩ : ∃ T, w5.heap.size = T := ⟨_, rfl⟩
          rw [hT] at hTb hBT
          simp only [hT]
          clear HP
          have HP := H7 hp6
          have HT := H7 (BlkA.mk hTb)
          have HBT := H7 hBT
          clear hbt hTb hBT hp6 hw6 hT
          obtain ⟨uc, huc⟩ : ∃ uc, colC C k j = uc := ⟨_, rfl⟩
          have hco : okC uc := huc ▸ (HOC.out.tile (by rw [HB.out.2.2.1]; exact HK.out) (by rw [HB.out.2.2.2]; exact HJ.out)).choose_spec.2.2
          have HAT2 := H7 (fun w' h => HAT.out k j HK.out HJ.out w' h)
          obtain ⟨oc, hoc⟩ : ∃ oc, f uc = oc := ⟨_, rfl⟩
          have HOV2 := H7 (fun w' => HOV.out uc hco w')
          rw [show overC uc ⟨r, g, b, al⟩ = oc by rw [← hoc, ← HF.out]; rfl] at HOV2
          rw [huc] at HAT2
          have HX := H7 (show f (colC C k j) = oc by rw [huc]; exact hoc)
          clear huc hco hoc
          obtain ⟨ur, ug, ub, ua⟩ := uc
          obtain ⟨xr, xg, xb, xa⟩ := oc
          simp only [ColT.val] at HAT2 HOV2
          repeat ((fail_if_success (with_reducible refine stop_at (id := 12) ?_)); (first | go_values | go_skip | go_guarded | go_step | go_upon | go_back | (simp only [Int.not_lt, Int.not_le] at *; go_simp) | (go_values <;> (try go_simp)) | (go_ite <;> go_prune <;> (try go_simp)) | (split <;> (first | (rename_i hx; exact (hx _ rfl).elim) | go_prune))))
          refine (wpIn_wide (n := 0)).1 ?_
          apply w7v 6 (Rl := [(eqv _), (eqv _), (eqv _), (eqv _), (eqv _), (eqv _)]) (C := (fun x y => Below x.heap.size x y))
          case hm => kernel_rfl
          case hk => rfl
          case hCr => exact (fun _ => B7 _ _)
          case hCt => intro _ _ _; exact (fun h k => g7t h k)
          case hst => repeat (first | exact trivial | refine ⟨fun _ _ _ _ h => h, ?_⟩)
          case hfo => kernel_rfl
          case ht => kernel_rfl
          case hC0 => exact (g7d _)
          case hsteps =>
           refine ⟨?_, ?_, ?_, ?_, ?_, ?_, trivial⟩
           · intro a' w' hA hC hD; have s5 := hA.to 5 (by kernel_rfl) rfl
             have b0 := (HBK.out _ _ (HP.out.below hC)).2.2.2.2; have z0 := c7b (k := 0) b0 rfl; have z1 := c7b (k := 1) b0 rfl; have z2 := c7b (k := 2) b0 rfl; clear b0
             clear hA hD; refine o7p rfl ?_; intro K hK; gi_wp2; exact hK _ _ rfl (B7 _ _)
           · intro a' w' hA hC hD; have s13 := hA.to 13 (by kernel_rfl) rfl; clear hA hD; refine o7p rfl ?_; intro K hK; gi_wp2; exact hK _ _ rfl (B7 _ _)
           · intro a' w' hA hC hD; have s12 := hA.to 12 (by kernel_rfl) rfl; clear hA hD; refine o7p rfl ?_; intro K hK; gi_wp2; exact hK _ _ rfl (B7 _ _)
           · intro a' w' hA hC hD; obtain ⟨u78, s78, rfl⟩ := hD ⟨0, .data⟩ (by simp) rfl _ rfl; obtain ⟨u79, s79, rfl⟩ := hD ⟨1, .data⟩ (by simp) rfl _ rfl; obtain ⟨u80, s80, rfl⟩ := hD ⟨2, .data⟩ (by simp) rfl _ rfl; clear hA hD; refine o7p rfl ?_; intro K hK
             gi_wp2_with fail; refine (callsIn_wide.2 (HAT2.out _ (HP.out.below hC).st.low)).mono ?_; rintro e w2 ⟨rfl, hb⟩
             exact hK _ _ rfl hb
           · intro a' w' hA hC hD; have s6 := hA.to 6 (by kernel_rfl) rfl
             have b0 := (HBK.out _ _ (HP.out.below hC)).2.2.2.1; have z0 := c7b (k := 0) b0 rfl; have z1 := c7b (k := 1) b0 rfl; have z2 := c7b (k := 2) b0 rfl; have z3 := c7b (k := 3) b0 rfl; clear b0
             clear hA hD; refine o7p rfl ?_; intro K hK; gi_wp2; exact hK _ _ rfl (B7 _ _)
           · intro a' w' hA hC hD; obtain ⟨u81, s81, rfl⟩ := hD ⟨3, .data⟩ (by simp) rfl _ rfl; obtain ⟨u82, s82, rfl⟩ := hD ⟨4, .data⟩ (by simp) rfl _ rfl; clear hA hD; refine o7p rfl ?_; intro K hK
             gi_wp2_with fail; refine (callsIn_wide.2 (HOV2.out _)).mono ?_; rintro e w2 ⟨rfl, hb⟩
             exact hK _ _ rfl hb
          case hend =>
          intro w7 hC
          simp only [EndFrom, eqv, forall_eq, Act.put, List.length_cons, List.length_nil, List.drop_succ_cons, List.drop_zero, Nat.reduceAdd, List.setIfInBounds_toArray, List.set_cons_succ, List.set_cons_zero]
          have hp7 := HP.out.below hC
          have hT7 := (HT.out.below hC).at_
          clear hC HP HT HAT2 HOV2
          have t0 := c7b (k := 0) hT7 rfl
          have t1 := c7b (k := 1) hT7 rfl
          have t2 := c7b (k := 2) hT7 rfl
          have t3 := c7b (k := 3) hT7 rfl
          have f0 := f7b hT7
          gi_wp2
          clear t0 t1 t2 t3 f0
          have s1 := h7s (k := 0) hT7 (.int .u8 xr)
          have s2 := h7s (k := 1) s1 (.int .u8 xg)
          have s3 := h7s (k := 2) s2 (.int .u8 xb)
          have s4 := h7s (k := 3) s3 (.int .u8 xa)
          have hp8 := (((hp7.young HBT.out hT7 (by simp) 0 (.int .u8 xr)).young HBT.out s1 (by simp) 1 (.int .u8 xg)).young HBT.out s2 (by simp) 2 (.int .u8 xb)).young HBT.out s3 (by simp) 3 (.int .u8 xa)
          clear s1 s2 s3 hp7 hT7
          obtain ⟨w8, hw8⟩ : ∃ w8, (((w7.setCell ⟨T, 0, none⟩ (.int .u8 xr)).setCell ⟨T, 1, none⟩ (.int .u8 xg)).setCell ⟨T, 2, none⟩ (.int .u8 xb)).setCell ⟨T, 3, none⟩ (.int .u8 xa) = w8 := ⟨_, rfl⟩
          rw [hw8] at s4 hp8
          first | rw [hw8] | simp only [hw8]
          have HP := H7 hp8
          have HT := H7 (BlkA.mk s4)
          clear s4 hp8 hw8
          obtain ⟨D, hD⟩ : ∃ D, pixTo C q f (j * W + k) = D := ⟨_, rfl⟩
          have HST2 := H7 (show pixTo C q f (j * W + (k + 1)) = dotC D ⟨(k : Int), (j : Int), ⟨xr, xg, xb, xa⟩⟩ by rw [HST.out j k HK.out, if_pos (by rw [HQ.out, HH.out]), ← hD, HX.out])
          rw [hD] at HP
          clear hD
          obtain ⟨a6, c6, hB6, hv6⟩ := HP.out.ex
          have z0 := c7b (k := 0) hB6 rfl
          have z1 := c7b (k := 1) hB6 rfl
          have z2 := c7b (k := 2) hB6 rfl
          have t0 := c7b (k := 0) HT.out.at_ rfl
          have t1 := c7b (k := 1) HT.out.at_ rfl
          have t2 := c7b (k := 2) HT.out.at_ rfl
          have t3 := c7b (k := 3) HT.out.at_ rfl
          have HV6 := H7 hv6
          clear hB6 hv6
          go_wp2_with fail
          clear z0 z1 z2 t0 t1 t2 t3
          refine (HPT.out D HP.out.ok _ ⟨(k : Int), (j : Int), ⟨xr, xg, xb, xa⟩⟩ _ HV6.out).mono ?_
          rintro e w7 ⟨v7, rfl, hv7, hb⟩
          obtain ⟨a7, c7, rfl, -, -⟩ := id hv7
          have HP := H7 (HP.out.below hb)
          have HV7 := H7 hv7
          clear hb hv7
          obtain ⟨a8, c8, hB8, -⟩ := HP.out.ex
          have z0 := c7b (k := 0) hB8 rfl
          have z1 := c7b (k := 1) hB8 rfl
          have z2 := c7b (k := 2) hB8 rfl
          have f0 := f7b hB8
          clear hB8
          have HOK3 := H7 (show okCan (dotC D ⟨(k : Int), (j : Int), ⟨xr, xg, xb, xa⟩⟩) from HST2.out ▸ HOK.out q (j * W + (k + 1)) (pix_le HJ.out HK.out))
          go_wp2_with fail
          go_roundw
          case rel => exact ⟨k + 1, HK.out, by first | exact congrArg (Value.int .i64) HE2.out | exact congrArg (Value.int .i64) (Int.natCast_succ k).symm | (congr 1; omega), by rw [HST2.out]; exact HP.out.put HOK3.out HV7.out⟩
          case measure => (try rw [HE2.out]); have := HK.out; simp only [intOf]; omega
     · have hkW : k = W := by omega
       subst hkW
       go_wp2_with fail
       go_roundw
       case rel => exact ⟨j + 1, HJ.out, by first | exact congrArg (Value.int .i64) HE1.out | exact congrArg (Value.int .i64) (Int.natCast_succ j).symm | (congr 1; omega), by rw [← row_next]; exact HP.out⟩
       case measure => (try rw [HE1.out]); have := HJ.out; simp only [intOf]; omega
  · have hjH : j = H := by omega
    subst hjH
    obtain ⟨a6, c6, hB6, hv6⟩ := HP.out.ex
    obtain ⟨D, hD⟩ : ∃ D, pixTo C q f (j * W) = D := ⟨_, rfl⟩
    rw [hD] at hB6 hv6 HP
    have HDD := H7 hD
    have b0 := (HBK.out _ _ HP.out).1
    have z0 := c7b (k := 0) hB6 rfl
    have z1 := c7b (k := 1) hB6 rfl
    have z2 := c7b (k := 2) hB6 rfl
    have j0 := c7b (k := 0) b0 rfl
    have j1 := c7b (k := 1) b0 rfl
    have j2 := c7b (k := 2) b0 rfl
    have f0 := f7b b0
    have s1 := h7s (k := 0) b0 (.int .i64 D.wide)
    have s2 := h7s (k := 1) s1 (.int .i64 D.high)
    have HV9 := H7 (((hv6.other3 HP.out.ok b0 (by simp) 0 (.int .i64 D.wide)).other3 HP.out.ok s1 (by simp) 1 (.int .i64 D.high)).other3 HP.out.ok s2 (by simp) 2 (.slice a6 D.tiles.length c6))
    clear s1 s2 b0 hB6 hv6 hD hlt hj
    go_wp2_with fail
    have h0 := HP.out.st.low
    rw [HDD.out]
    refine bodyPost_ret (v := .agg #[.int .i64 D.wide, .int .i64 D.high, .slice a6 D.tiles.length c6]) (by simp [results, Tryz.results30, go_sem, j0, j1, j2]) rfl ⟨_, rfl, HV9.out, ?_⟩
    (repeat (first | exact B7 _ _ | assumption | refine Below.alloc ?_ (by first | omega | (simp; done) | (simp; omega)) _ | refine Below.setCell ?_ (by first | omega | (simp; done) | (simp; omega)) _ | refine Below.drew ?_))
end Go.Proofs.YthcdkkmjnglmjaaGreatDoor
