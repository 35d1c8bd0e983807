/- Merged texts: Dst. -/
import Derived.Test.YthcdkkmjnglmjaaGreatDoorM22
set_option linter.unusedSimpArgs false
set_option linter.unusedVariables false
/- gessolaw07.DrawStrokes. -/
namespace Go.Proofs.YthcdkkmjnglmjaaGreatDoor
open Go.RowKit Go.Shelf
attribute [local go_sem] Oper.semAt_some
set_option maxRecDepth 100000 in
set_option maxHeartbeats 16000000 in
theorem drawStrokes_any (wide high : Int) (a : Option Addr) (cap : Nat) (us : List TileT) (hcap : us.length ≤ cap) (hcol : ∀ t ∈ us, ∀ c ∈ t.1, okC c) (br : BrT) (hc : okC br.c) (a2 : Option Addr) (m cap2 : Nat) (L : List PtT) (hlen : L.length = m) (hcap2 : m ≤ cap2)
 (w : World) (hred : RedAt w) (he : Elems w (.slice a us.length cap) us.length 256 (rowC encT us)) (he2 : Elems w (.slice a2 m cap2) m 2 (rowC encP L)) :
 Calls Tryz.prog 4 #[.agg #[.int .i64 wide, .int .i64 high, .slice a us.length cap], br.val, .slice a2 m cap2] w (Gives (.bool true) w) := by
 have HS := H7 (St.start w)
 have HR := H7 hred
 obtain ⟨T, hT⟩ : ∃ T, us.take 17 = T := ⟨_, rfl⟩
 obtain ⟨tn, htn⟩ : ∃ tn, T.length = tn := ⟨_, rfl⟩
 have hcolT : ∀ t ∈ T, ∀ c ∈ t.1, okC c := fun t ht => hcol t (List.mem_of_mem_take (hT ▸ ht))
 have HOW := H7 (fun w' (hb : Below w.heap.size w w') => (own_any wide high a us.length cap us rfl hcap w' (he.below hb)).mono fun e w'' h => own_v htn (hT ▸ h))
 have HOF := H7 (fun v w' h => ofBothN wide high T tn htn hcolT v w' h)
 have HCAN := H7 (fun (v : Value) (w' : World) (h : OwnV wide high T tn v w') hok => h.canV htn hok)
 obtain ⟨ok, hok⟩ : ∃ ok, okE wide high tn = ok := ⟨_, rfl⟩
 have HOKE := H7 hok
 rw [hok] at HOF HCAN
 obtain ⟨n, hn⟩ : ∃ n, us.length = n := ⟨_, rfl⟩
 rw [hn] at HOW ⊢
 obtain ⟨k, hk⟩ : ∃ k, min m 6 = k := ⟨_, rfl⟩
 have hk2 : k ≤ m ∧ k ≤ 6 := by omega
 have het := Elems.take encP_len hlen he2 hk2.1
 have htl : (L.take k).length = k := by rw [List.length_take]; omega
 have e1 : min (m : Int) 6 = (k : Int) := by omega
 obtain ⟨LL, hLL⟩ : ∃ LL, L.take k = LL := ⟨_, rfl⟩
 rw [hLL] at het htl
 have hkc : k ≤ cap2 := by omega
 have HCL := H7 (fun w' (hb : Below w.heap.size w w') => (cloneP_any (.slice a2 k cap2) LL w' (by rw [htl]; exact het.below hb) (by omega)).mono fun e w'' h => cloned_cl encP_len htl h)
 have HY := H7 het
 have HL := H7 (And.intro htl hk2)
 have HC0 := H7 hc
 have HSTK := H7 (fun C p w' h1 ca k cc M hM hk he => sStroke_any br hc p C ca k cc M hM hk w' h1 he)
 have HLIN := H7 (fun C pc p q w' h1 => sLine_any br hc p q pc C w' h1)
 have HRST := H7 (fun C hC v ca k cc M hM hk hL hs w' hv he => r7Stroke_any C hC v br hc hs ca k cc M hM hk hL w' hv he)
 have HLOK := H7 (fun p q => lineOk_eq br p q)
 obtain ⟨⟨r, g, b, al⟩, size, round⟩ := br
 unfold BrT.val at HSTK HLIN HRST ⊢
 simp only at HSTK HLIN HRST HLOK HC0 ⊢
 clear hred he he2 het hok hn hk htl hLL hlen hc hcol hcolT hT htn hcap
 go_enter Tryz.func4, Tryz.ntmps4
 repeat ((fail_if_success (with_reducible refine stop_at (id := 1) ?_)); (first | go_values | go_skip | go_guarded | go_step | go_upon | go_back | (simp only [Int.not_lt, Int.not_le] at *; go_simp) | (go_values <;> (try go_simp)) | (go_ite <;> go_prune <;> (try go_simp)) | (split <;> (first | (rename_i hx; exact (hx _ rfl).elim) | go_prune))))
 have hs_ := ((HS.out.alloc (.cells #[.int .i64 wide, .int .i64 high, .slice a n cap] 24)).alloc (.cells #[.int .u8 r, .int .u8 g, .int .u8 b, .int .u8 al, .int .i64 size, .bool round] 38))
 have hk_HR := HR.out.below (((B7 _ _).alloc (by exact Nat.le_refl _) (.cells #[.int .i64 wide, .int .i64 high, .slice a n cap] 24)).alloc (by simp only [World.size_alloc]; omega) (.cells #[.int .u8 r, .int .u8 g, .int .u8 b, .int .u8 al, .int .i64 size, .bool round] 38))
 have hk_HY := HY.out.below (((B7 _ _).alloc (by exact Nat.le_refl _) (.cells #[.int .i64 wide, .int .i64 high, .slice a n cap] 24)).alloc (by simp only [World.size_alloc]; omega) (.cells #[.int .u8 r, .int .u8 g, .int .u8 b, .int .u8 al, .int .i64 size, .bool round] 38))
 obtain ⟨w1, hw_⟩ : ∃ w1 : World, ((w.alloc (.cells #[.int .i64 wide, .int .i64 high, .slice a n cap] 24)).alloc (.cells #[.int .u8 r, .int .u8 g, .int .u8 b, .int .u8 al, .int .i64 size, .bool round] 38)) = w1 := ⟨_, rfl⟩
 rw [hw_] at hs_ hk_HR hk_HY
 try simp only [World.size_alloc] at hs_
 have HS := H7 hs_
 have HR := H7 hk_HR
 have HY := H7 hk_HY
 rw [hw_]
 clear hw_ hs_ hk_HR hk_HY
 go_wp2_with fail
 refine (dWakes_any w1 HR.out).mono ?_
 rintro e w2 ⟨rfl, hb⟩
 have HS := H7 (HS.out.below hb)
 have HY := H7 (HY.out.below hb)
 clear hb
 repeat ((fail_if_success (with_reducible refine stop_at (id := 3) ?_)); (first | go_values | go_skip | go_guarded | go_step | go_upon | go_back | (simp only [Int.not_lt, Int.not_le] at *; go_simp) | (go_values <;> (try go_simp)) | (go_ite <;> go_prune <;> (try go_simp)) | (split <;> (first | (rename_i hx; exact (hx _ rfl).elim) | go_prune))))
 refine (wpIn_wide (n := 0)).1 ?_
 apply w7v 9 (Rl := [(eqv _), (fun v_ w_ => OwnV wide high T tn v_ w_), (eqv _), (eqv _), (eqv _), (eqv _), (eqv _), (fun v_ w_ => Cl 2 encP 26 LL k v_ w_), (fun v_ w_ => ∃ g, v_ = .pointer (some ⟨g, 0, none⟩) ∧ w2.heap.size ≤ g ∧ w_.heap[g]? = some (.cells #[.int .i64 0, .int .i64 0, .slice none 0 0] 24 (0, 0)))]) (C := (fun x y => Below x.heap.size x y))
 case hm => kernel_rfl
 case hk => rfl
 case hCr => exact (fun _ => B7 _ _)
 case hCt => intro _ _ _; exact (fun h k => g7t h k)
 case hst => exact ⟨fun _ _ _ _ h => h, fun _ _ _ hC h => h.below hC, fun _ _ _ _ h => h, fun _ _ _ _ h => h, fun _ _ _ _ h => h, fun _ _ _ _ h => h, fun _ _ _ _ h => h, fun _ _ _ hC h => h.below hC, fun _ _ _ hC ⟨g, e, hg, h⟩ => ⟨g, e, hg, (hC.block _ (b7t h)).trans h⟩, trivial⟩
 case hfo => kernel_rfl
 case ht => kernel_rfl
 case hC0 => exact (g7d _)
 case hsteps =>
  refine ⟨?_, ?_, ?_, ?_, ?_, ?_, ?_, ?_, ?_, trivial⟩
  · intro a' w' hA hC hD; have s3 := hA.to 3 (by kernel_rfl) rfl
    have h1_ := (HS.out.below hC).blockAt 1 rfl; have c1_0 := c7b (k := 0) h1_ rfl; have c1_1 := c7b (k := 1) h1_ rfl; have c1_2 := c7b (k := 2) h1_ rfl; clear h1_
    clear hA hD; refine o7p rfl ?_; intro K hK; gi_wp2; exact hK _ _ rfl (B7 _ _)
  · intro a' w' hA hC hD; obtain ⟨u24, s24, r24⟩ := hD ⟨0, .data⟩ (by simp) rfl _ rfl; replace r24 : u24 = _ := r24; subst r24; clear hA hD; refine o7p rfl ?_; intro K hK
    gi_wp2_with fail; refine (callsIn_wide.2 (HOW.out _ (HS.out.below hC).low)).mono ?_; rintro e w5 ⟨v5, rfl, hr5, hb5⟩
    exact hK _ _ hr5 hb5
  · intro a' w' hA hC hD; have s2 := hA.to 2 (by kernel_rfl) rfl; clear hA hD; refine o7p rfl ?_; intro K hK; gi_wp2; exact hK _ _ rfl (B7 _ _)
  · intro a' w' hA hC hD; have s2 := hA.to 2 (by kernel_rfl) rfl; clear hA hD; refine o7p rfl ?_; intro K hK; gi_wp2; exact hK _ _ rfl (B7 _ _)
  · intro a' w' hA hC hD; obtain ⟨u27, s27, r27⟩ := hD ⟨3, .data⟩ (by simp) rfl _ rfl; replace r27 : u27 = _ := r27; subst r27; clear hA hD; refine o7p rfl ?_; intro K hK; gi_wp2; exact hK _ _ rfl (B7 _ _)
  · intro a' w' hA hC hD; obtain ⟨u28, s28, r28⟩ := hD ⟨4, .data⟩ (by simp) rfl _ rfl; replace r28 : u28 = _ := r28; subst r28; clear hA hD; refine o7p rfl ?_; intro K hK; gi_wp2; exact hK _ _ rfl (B7 _ _)
  · intro a' w' hA hC hD; obtain ⟨u26, s26, r26⟩ := hD ⟨2, .data⟩ (by simp) rfl _ rfl; replace r26 : u26 = _ := r26; subst r26; obtain ⟨u29, s29, r29⟩ := hD ⟨5, .data⟩ (by simp) rfl _ rfl; replace r29 : u29 = _ := r29; subst r29; clear hA hD; refine o7p rfl ?_; intro K hK; gi_wp2; exact hK _ _ rfl (B7 _ _)
  · intro a' w' hA hC hD; obtain ⟨u30, s30, r30⟩ := hD ⟨6, .data⟩ (by simp) rfl _ rfl; replace r30 : u30 = _ := r30; subst r30; clear hA hD; refine o7p rfl ?_; intro K hK
    gi_wp2_with fail; refine (callsIn_wide.2 (HCL.out _ (HS.out.below hC).low)).mono ?_; rintro e w5 ⟨v5, rfl, hr5, hb5⟩
    exact hK _ _ hr5 hb5
  · intro a' w' hA hC hD; clear hA hD; refine o7p rfl ?_; intro K hK; gi_wp2; exact hK _ _ ⟨w'.heap.size, rfl, hC.size, newBlock _ _ _ rfl⟩ ((B7 _ _).alloc (Nat.le_refl _) _)
 case hend =>
  intro w3 hC
  simp only [EndFrom, eqv, forall_eq, Act.put, List.length_cons, List.length_nil, List.drop_succ_cons, List.drop_zero, Nat.reduceAdd, List.setIfInBounds_toArray, List.set_cons_succ, List.set_cons_zero]
  intro v22 hv22 v28 hv28 v7 hv7
  obtain ⟨G, rfl, hgg, hgb⟩ := hv7
  obtain ⟨ca, cc, rfl, hcc, hce, hcb⟩ := id hv28
  obtain ⟨oa, oc, rfl, hoc, hoe⟩ := id hv22
  have z0 := c7b (k := 0) hgb rfl
  have z1 := c7b (k := 1) hgb rfl
  have z2 := c7b (k := 2) hgb rfl
  have f0 := f7b hgb
  have s1 := h7s (k := 0) hgb (.int .i64 wide)
  have s2 := h7s (k := 1) s1 (.int .i64 high)
  have s3 := h7s (k := 2) s2 (.slice oa tn oc)
  have hcl4 := ((hv28.store hgb (by decide) 0 (.int .i64 wide)).store s1 (by decide) 1 (.int .i64 high)).store s2 (by decide) 2 (.slice oa tn oc)
  have how4 := ((hv22.store hgb (by simp) 0 (.int .i64 wide)).store s1 (by simp) 1 (.int .i64 high)).store s2 (by simp) 2 (.slice oa tn oc)
  have hb4 : Below w2.heap.size w2 (((w3.setCell ⟨G, 0, none⟩ (.int .i64 wide)).setCell ⟨G, 1, none⟩ (.int .i64 high)).setCell ⟨G, 2, none⟩ (.slice oa tn oc)) := ((hC.setCell (p := ⟨G, 0, none⟩) hgg _).setCell (p := ⟨G, 1, none⟩) hgg _).setCell (p := ⟨G, 2, none⟩) hgg _
  clear hv28 hv22 hgb s1 s2 hcc hce hcb hoc hoe hC hgg
  gi_wp2
  clear z0 z1 z2 f0 e1 hkc
  obtain ⟨w4, hw4⟩ : ∃ w4, ((w3.setCell ⟨G, 0, none⟩ (.int .i64 wide)).setCell ⟨G, 1, none⟩ (.int .i64 high)).setCell ⟨G, 2, none⟩ (.slice oa tn oc) = w4 := ⟨_, rfl⟩
  rw [hw4] at s3 hcl4 how4 hb4
  first | rw [hw4] | simp only [hw4] | skip
  clear hw4
  have HG := H7 (BlkA.mk s3)
  have HCL := H7 hcl4
  have HOW := H7 how4
  have HS := H7 (HS.out.below hb4)
  have HY := H7 (HY.out.below hb4)
  clear s3 hcl4 how4 hb4
  have g0 := c7b (k := 0) HG.out.at_ rfl
  have g1 := c7b (k := 1) HG.out.at_ rfl
  have g2 := c7b (k := 2) HG.out.at_ rfl
  go_wp2_with fail
  clear g0 g1 g2
  refine (HOF.out _ w4 HOW.out).mono ?_
  rintro e w5 ⟨v, rfl, hb, hv1, hv2⟩
  have HG := H7 (HG.out.below hb)
  have HCL := H7 (HCL.out.below hb)
  have HOW := H7 (HOW.out.below hb)
  have HS := H7 (HS.out.below hb)
  have HY := H7 (HY.out.below hb)
  clear hb
  clear HOF
  cases ok with
  | false =>
   obtain rfl := hv2 rfl
   clear hv1 hv2
   simp only [errOf]
   have g0 := c7b (k := 0) HG.out.at_ rfl
   have g1 := c7b (k := 1) HG.out.at_ rfl
   have g2 := c7b (k := 2) HG.out.at_ rfl
   go_wp2_with fail
   clear g0 g1 g2
   refine (r5Right_any _ _ _ _ _ _).mono ?_
   rintro e w8 ⟨rfl, hb_⟩
   have HS := H7 (HS.out.below hb_)
   clear hb_
   rw [HOKE.out]
   go_wp2_with fail
   go_ret
   exact ⟨rfl, HS.out.low⟩
  | true =>
   obtain ⟨pc, rfl, hcan⟩ := hv1 rfl
   have HCP := H7 hcan
   have HCV := H7 (HCAN.out _ w5 HOW.out rfl)
   clear hv1 hv2 hcan HOW HCAN HOKE
   obtain ⟨C, hC⟩ : ∃ C, (⟨wide.toNat, high.toNat, T⟩ : CanT) = C := ⟨_, rfl⟩
   rw [hC] at HCP HCV
   clear hC
   have HNC := H7 (show C.tiles.length ≤ 1000 by have := HCP.out.ok.len; omega)
   have HE := H7 (show Elems w5 (.slice ca k cc) k 2 (rowC encP LL) by obtain ⟨x, y, h1, -, h2, -⟩ := HCL.out; cases h1; exact h2)
   clear HCL
   simp only [errOf]
   obtain ⟨b1, hb1⟩ : ∃ b1, decide (0 ≤ size) = b1 := ⟨_, rfl⟩
   obtain ⟨b2, hb2⟩ : ∃ b2, decide (size ≤ 15) = b2 := ⟨_, rfl⟩
   have HSZ := H7 (show sizeB size = (b1 && b2) by unfold sizeB; rw [Bool.decide_and, hb1, hb2])
   have HBB := H7 (And.intro hb1 hb2)
   clear hb1 hb2
   repeat ((fail_if_success (with_reducible refine stop_at (id := 7) ?_)); (first | go_values | go_skip | go_guarded | go_step | go_upon | go_back | (simp only [Int.not_lt, Int.not_le] at *; go_simp) | (go_values <;> (try go_simp)) | (go_ite <;> go_prune <;> (try go_simp)) | (split <;> (first | (rename_i hx; exact (hx _ rfl).elim) | go_prune))))
   refine (wpIn_wide (n := 0)).1 ?_
   apply wp_region_textv 9 (Rl := [(eqv _), (eqv _), (fun v_ _ => v_ = (.bool b1 : Value)), (fun v_ _ => v_ = (.bool b1 : Value)), (fun v_ _ => v_ = (bif b1 then .pointer (some ⟨w.heap.size + 1, 4, none⟩) else undef : Value)), (fun v_ _ => v_ = (bif b1 then .int .i64 size else undef : Value)), (fun v_ _ => v_ = (bif b1 then .bool b2 else undef : Value)), (fun v_ _ => v_ = (.bool (b1 && b2) : Value)), (eqv _)]) (C := (fun x y => Below x.heap.size x y))
   case hk => rfl
   case hCr => exact (fun _ => B7 _ _)
   case hCt => intro _ _ _; exact (fun h k => g7t h k)
   case hst => repeat (first | exact trivial | refine ⟨fun _ _ _ _ h => h, ?_⟩)
   case hfo => kernel_rfl
   case hsteps =>
    refine ⟨?_, ?_, ?_, ?_, ?_, ?_, ?_, ?_, ?_, trivial⟩
    · intro a' w' hA hC hD; have s4 := hA.to 4 (by kernel_rfl) rfl; clear hA hD; refine o7p rfl ?_; intro K hK; gi_wp2; exact hK _ _ rfl (B7 _ _)
    · intro a' w' hA hC hD; obtain ⟨u42, s42, r42⟩ := hD ⟨0, .data⟩ (by simp) rfl _ rfl; replace r42 : u42 = _ := r42; subst r42
      have y4 := c7b (k := 4) ((HS.out.below hC).blockAt 0 rfl) rfl
      clear hA hD; refine o7p rfl ?_; intro K hK; gi_wp2; exact hK _ _ rfl (B7 _ _)
    · intro a' w' hA hC hD; obtain ⟨u43, s43, r43⟩ := hD ⟨1, .data⟩ (by simp) rfl _ rfl; replace r43 : u43 = _ := r43; subst r43; clear hA hD; refine o7p rfl ?_; intro K hK; gi_wp2; exact hK _ _ (show _ = (.bool b1 : Value) from by first | (simp only [HBB.out.1, cond_true, cond_false, Bool.true_and, Bool.false_and, Bool.not_true, Bool.not_false, beq_self_eq_true]; try rfl) | rfl) (B7 _ _)
    · intro a' w' hA hC hD; obtain ⟨u44, s44, r44⟩ := hD ⟨2, .data⟩ (by simp) rfl _ rfl; replace r44 : u44 = .bool b1 := r44; subst r44; clear hA hD; refine o7p rfl ?_; intro K hK; gi_wp2; exact hK (.bool b1) _ rfl (B7 _ _)
    · intro a' w' hA hC hD; have s4 := hA.to 4 (by kernel_rfl) rfl; obtain ⟨u45, s45, r45⟩ := hD ⟨3, .guard⟩ (by simp) rfl _ rfl; replace r45 : u45 = .bool b1 := r45; subst r45; clear hA hD
      rcases (Bool.eq_false_or_eq_true (b1)).symm with hg | hg <;> (try simp only [hg, cond_true, cond_false] at s4 s45)
      · exact o7s rfl rfl s45 (show (undef : Value) = (bif b1 then .pointer (some ⟨w.heap.size + 1, 4, none⟩) else undef : Value) from by simp only [hg, cond_true, cond_false])
      · refine o7w rfl rfl s45 ?_
        intro K hK; gi_wp2; exact hK _ _ (show _ = (bif b1 then .pointer (some ⟨w.heap.size + 1, 4, none⟩) else undef : Value) from by first | (simp only [hg, cond_true, cond_false, Bool.true_and, Bool.false_and, Bool.not_true, Bool.not_false, beq_self_eq_true]; try rfl) | rfl) (B7 _ _)
    · intro a' w' hA hC hD; obtain ⟨u46, s46, r46⟩ := hD ⟨4, .data⟩ (by simp) rfl _ rfl; replace r46 : u46 = bif b1 then .pointer (some ⟨w.heap.size + 1, 4, none⟩) else undef := r46; subst r46; obtain ⟨u45, s45, r45⟩ := hD ⟨3, .guard⟩ (by simp) rfl _ rfl; replace r45 : u45 = .bool b1 := r45; subst r45
      have y4 := c7b (k := 4) ((HS.out.below hC).blockAt 0 rfl) rfl
      clear hA hD
      rcases (Bool.eq_false_or_eq_true (b1)).symm with hg | hg <;> (try simp only [hg, cond_true, cond_false] at s46 s45)
      · exact o7s rfl rfl s45 (show (undef : Value) = (bif b1 then .int .i64 size else undef : Value) from by simp only [hg, cond_true, cond_false])
      · refine o7w rfl rfl s45 ?_
        intro K hK; gi_wp2; exact hK _ _ (show _ = (bif b1 then .int .i64 size else undef : Value) from by first | (simp only [hg, cond_true, cond_false, Bool.true_and, Bool.false_and, Bool.not_true, Bool.not_false, beq_self_eq_true]; try rfl) | rfl) (B7 _ _)
    · intro a' w' hA hC hD; obtain ⟨u47, s47, r47⟩ := hD ⟨5, .data⟩ (by simp) rfl _ rfl; replace r47 : u47 = bif b1 then .int .i64 size else undef := r47; subst r47; obtain ⟨u45, s45, r45⟩ := hD ⟨3, .guard⟩ (by simp) rfl _ rfl; replace r45 : u45 = .bool b1 := r45; subst r45; clear hA hD
      rcases (Bool.eq_false_or_eq_true (b1)).symm with hg | hg <;> (try simp only [hg, cond_true, cond_false] at s47 s45)
      · exact o7s rfl rfl s45 (show (undef : Value) = (bif b1 then .bool b2 else undef : Value) from by simp only [hg, cond_true, cond_false])
      · refine o7w rfl rfl s45 ?_
        intro K hK; gi_wp2; exact hK _ _ (show _ = (bif b1 then .bool b2 else undef : Value) from by first | (simp only [hg, HBB.out.2, cond_true, cond_false, Bool.true_and, Bool.false_and, Bool.not_true, Bool.not_false, beq_self_eq_true]; try rfl) | rfl) (B7 _ _)
    · intro a' w' hA hC hD; obtain ⟨u45, s45, r45⟩ := hD ⟨3, .data⟩ (by simp) rfl _ rfl; replace r45 : u45 = .bool b1 := r45; subst r45; obtain ⟨u48, s48, r48⟩ := hD ⟨6, .data⟩ (by simp) rfl _ rfl; replace r48 : u48 = bif b1 then .bool b2 else undef := r48; subst r48; clear hA hD
      rcases (Bool.eq_false_or_eq_true (b1)).symm with hg | hg <;> (try simp only [hg, cond_true, cond_false] at s45 s48)
      · refine o7p rfl ?_
        intro K hK; gi_wp2; exact hK _ _ (show _ = (.bool (b1 && b2) : Value) from by first | (simp only [hg, Bool.true_and, Bool.false_and, cond_true, cond_false, Bool.true_and, Bool.false_and, Bool.not_true, Bool.not_false, beq_self_eq_true]; try rfl) | rfl) (B7 _ _)
      · refine o7p rfl ?_
        intro K hK; gi_wp2; exact hK _ _ (show _ = (.bool (b1 && b2) : Value) from by first | (simp only [hg, Bool.true_and, Bool.false_and, cond_true, cond_false, Bool.true_and, Bool.false_and, Bool.not_true, Bool.not_false, beq_self_eq_true]; try rfl) | rfl) (B7 _ _)
    · intro a' w' hA hC hD; obtain ⟨u49, s49, r49⟩ := hD ⟨7, .data⟩ (by simp) rfl _ rfl; replace r49 : u49 = .bool (b1 && b2) := r49; subst r49; clear hA hD; refine o7p rfl ?_; intro K hK; gi_wp2; exact hK _ _ rfl (B7 _ _)
   case hend =>
    intro w6 hC
    simp only [EndFrom, eqv, forall_eq, Act.put, List.length_cons, List.length_nil, List.drop_succ_cons, List.drop_zero, Nat.reduceAdd, List.setIfInBounds_toArray, List.set_cons_succ, List.set_cons_zero]
    have HG := H7 (HG.out.below hC)
    have HE := H7 (HE.out.below hC)
    have HCP := H7 (HCP.out.below hC)
    have HCV := H7 (HCV.out.below hC)
    have HS := H7 (HS.out.below hC)
    have HY := H7 (HY.out.below hC)
    clear hC
    obtain ⟨sz, hsz⟩ : ∃ sz, (b1 && b2) = sz := ⟨_, rfl⟩
    rw [hsz] at HSZ
    simp only [hsz]
    clear hsz HBB
    gi_wp2
    have HCF := H7 (fun w' h => containsFuncStr (fun p => !drawnB p) #[] ca k cc LL HL.out.1 (by have := HL.out; omega) w' h (fun x y _ => strokes1_any x y))
    obtain ⟨an, han⟩ : ∃ an, LL.any (fun p => !drawnB p) = an := ⟨_, rfl⟩
    rw [han] at HCF
    have HAN := H7 han
    clear han
    have HDS := H7 (pixTo_shown (q := fun x y : Nat => strokeB size round LL ⟨(x : Int), (y : Int)⟩) HCP.out.ok (fpaint_ok HC0.out) (Q := SwM size round LL) (fun x y _ _ => strokeB_iff))
    have HRS := H7 (fun v w' hv he hL hs => HRST.out C HCP.out.ok v ca k cc LL HL.out.1 (by have := HL.out; omega) hL hs w' hv he)
    have HST := H7 (fun w' h1 he => HSTK.out C pc w' h1 ca k cc LL HL.out.1 (by have := HL.out; omega) he)
    obtain ⟨D, hD⟩ : ∃ D, pixTo C (fun x y : Nat => strokeB size round LL ⟨(x : Int), (y : Int)⟩) (fpaint ⟨r, g, b, al⟩) (8 * C.high * (8 * C.wide)) = D := ⟨_, rfl⟩
    rw [hD] at HDS HRS
    rw [HSZ.out, HAN.out] at HST
    clear hD
    rcases (show sz = false ∨ sz = true by cases sz <;> simp) with rfl | rfl
    rotate_left
    all_goals try (
     repeat ((fail_if_success (with_reducible refine stop_at (id := 9) ?_)); (first | go_values | go_skip | go_guarded | go_step | go_upon | go_back | (simp only [Int.not_lt, Int.not_le] at *; go_simp) | (go_values <;> (try go_simp)) | (go_ite <;> go_prune <;> (try go_simp)) | (split <;> (first | (rename_i hx; exact (hx _ rfl).elim) | go_prune))))
     go_wp2_with fail
     refine (HCF.out w6 HE.out).mono ?_
     rintro e w7 ⟨rfl, hb⟩
     have HG := H7 (HG.out.below hb)
     have HE := H7 (HE.out.below hb)
     have HCP := H7 (HCP.out.below hb)
     have HCV := H7 (HCV.out.below hb)
     have HS := H7 (HS.out.below hb)
     have HY := H7 (HY.out.below hb)
     clear hb
     cases an)
    all_goals repeat ((fail_if_success (with_reducible refine stop_at (id := 11) ?_)); (first | go_values | go_skip | go_guarded | go_step | go_upon | go_back | (simp only [Int.not_lt, Int.not_le] at *; go_simp) | (go_values <;> (try go_simp)) | (go_ite <;> go_prune <;> (try go_simp)) | (split <;> (first | (rename_i hx; exact (hx _ rfl).elim) | go_prune))))
    all_goals try (
     fail_if_success (have h_ : World := w7)
     obtain ⟨w7, hw7⟩ : ∃ w7, w7 = w6 := ⟨_, rfl⟩
     subst hw7
     skip)
    all_goals
     have g0 := c7b (k := 0) HG.out.at_ rfl
     have g1 := c7b (k := 1) HG.out.at_ rfl
     have g2 := c7b (k := 2) HG.out.at_ rfl
     repeat ((fail_if_success (with_reducible refine stop_at (id := 12) ?_)); (first | go_values | go_skip | go_guarded | go_step | go_upon | go_back | (simp only [Int.not_lt, Int.not_le] at *; go_simp) | (go_values <;> (try go_simp)) | (go_ite <;> go_prune <;> (try go_simp)) | (split <;> (first | (rename_i hx; exact (hx _ rfl).elim) | go_prune))))
     clear g0 g1 g2
     have hb8 : Below w7.heap.size w7 (w7.alloc (.cells #[.int .i64 wide, .int .i64 high, .slice oa tn oc] 24 (0, 0))) := (B7 _ _).alloc (Nat.le_refl _) _
     have hW := newBlock w7 (.cells #[.int .i64 wide, .int .i64 high, .slice oa tn oc] 24 (0, 0)) w7.heap.size rfl
     obtain ⟨w8, hw8⟩ : ∃ w8, w7.alloc (.cells #[.int .i64 wide, .int .i64 high, .slice oa tn oc] 24 (0, 0)) = w8 := ⟨_, rfl⟩
     rw [hw8] at hb8 hW
     first | rw [hw8] | simp only [hw8]
     obtain ⟨W1, hW1⟩ : ∃ W1, w7.heap.size = W1 := ⟨_, rfl⟩
     rw [hW1] at hW
     have HW1 := H7 hW1
     simp only [hW1]
     clear hw8 hW1
     have HW := H7 (BlkA.mk hW)
     have HB8 := H7 hb8
     clear hW hb8
    all_goals try (
     repeat ((fail_if_success (with_reducible refine stop_at (id := 13) ?_)); (first | go_values | go_skip | go_guarded | go_step | go_upon | go_back | (simp only [Int.not_lt, Int.not_le] at *; go_simp) | (go_values <;> (try go_simp)) | (go_ite <;> go_prune <;> (try go_simp)) | (split <;> (first | (rename_i hx; exact (hx _ rfl).elim) | go_prune))))
     have y0 := c7b (k := 0) ((HS.out.below HB8.out).blockAt 0 rfl) rfl
     have y1 := c7b (k := 1) ((HS.out.below HB8.out).blockAt 0 rfl) rfl
     have y2 := c7b (k := 2) ((HS.out.below HB8.out).blockAt 0 rfl) rfl
     have y3 := c7b (k := 3) ((HS.out.below HB8.out).blockAt 0 rfl) rfl
     have y4 := c7b (k := 4) ((HS.out.below HB8.out).blockAt 0 rfl) rfl
     have y5 := c7b (k := 5) ((HS.out.below HB8.out).blockAt 0 rfl) rfl
     have g0 := c7b (k := 0) (HG.out.below HB8.out).at_ rfl
     have g1 := c7b (k := 1) (HG.out.below HB8.out).at_ rfl
     have g2 := c7b (k := 2) (HG.out.below HB8.out).at_ rfl
     go_wp2_with fail
     clear y0 y1 y2 y3 y4 y5
     clear g0 g1 g2
     refine (HRS.out _ w8 (HCV.out.below HB8.out) (HE.out.below HB8.out) (fun c hc => drawn_bound (by have h := List.any_eq_false.1 HAN.out c hc; simpa using h)) (size_bound HSZ.out)).mono ?_
     rintro e w9 ⟨v9, rfl, hv9, hb9⟩
     obtain ⟨a9, c9, rfl, -, -⟩ := id hv9
     have hW9 := (HW.out.below hb9).at_
     have z0 := c7b (k := 0) hW9 rfl
     have z1 := c7b (k := 1) hW9 rfl
     have z2 := c7b (k := 2) hW9 rfl
     have f0 := f7b hW9
     repeat ((fail_if_success (with_reducible refine stop_at (id := 14) ?_)); (first | go_values | go_skip | go_guarded | go_step | go_upon | go_back | (simp only [Int.not_lt, Int.not_le] at *; go_simp) | (go_values <;> (try go_simp)) | (go_ite <;> go_prune <;> (try go_simp)) | (split <;> (first | (rename_i hx; exact (hx _ rfl).elim) | go_prune))))
     clear z0 z1 z2 f0
     have s1 := h7s (k := 0) hW9 (.int .i64 D.wide)
     have s2 := h7s (k := 1) s1 (.int .i64 D.high)
     have s3 := h7s (k := 2) s2 (.slice a9 D.tiles.length c9)
     have hv12 := ((hv9.other3 HDS.out.ok hW9 (by simp) 0 (.int .i64 D.wide)).other3 HDS.out.ok s1 (by simp) 1 (.int .i64 D.high)).other3 HDS.out.ok s2 (by simp) 2 (.slice a9 D.tiles.length c9)
     have hW1 : w7.heap.size ≤ W1 := Nat.le_of_eq HW1.out
     have hb12 : Below w7.heap.size w7 (((w9.setCell ⟨W1, 0, none⟩ (.int .i64 D.wide)).setCell ⟨W1, 1, none⟩ (.int .i64 D.high)).setCell ⟨W1, 2, none⟩ (.slice a9 D.tiles.length c9)) := (((HB8.out.trans (hb9.mono HB8.out.size)).setCell (p := ⟨W1, 0, none⟩) hW1 _).setCell (p := ⟨W1, 1, none⟩) hW1 _).setCell (p := ⟨W1, 2, none⟩) hW1 _
     obtain ⟨w12, hw12⟩ : ∃ w12, ((w9.setCell ⟨W1, 0, none⟩ (.int .i64 D.wide)).setCell ⟨W1, 1, none⟩ (.int .i64 D.high)).setCell ⟨W1, 2, none⟩ (.slice a9 D.tiles.length c9) = w12 := ⟨_, rfl⟩
     rw [hw12] at s3 hv12 hb12
     first | rw [hw12] | simp only [hw12] | skip
     clear hw12 s1 s2 hW9 hv9 hb9 hW1
     have HW := H7 (BlkA.mk s3)
     have HWV := H7 hv12
     have HDD := H7 (show ((true && !false) = true → D = D) from fun _ => rfl)
     have HG := H7 (HG.out.below hb12)
     have HE := H7 (HE.out.below hb12)
     have HCP := H7 (HCP.out.below hb12)
     have HCV := H7 (HCV.out.below hb12)
     have HS := H7 (HS.out.below hb12)
     have HY := H7 (HY.out.below hb12)
     clear hb12
     clear s3 hv12)
    all_goals try (
     fail_if_success (have h_ : World := w12)
     repeat ((fail_if_success (with_reducible refine stop_at (id := 14) ?_)); (first | go_values | go_skip | go_guarded | go_step | go_upon | go_back | (simp only [Int.not_lt, Int.not_le] at *; go_simp) | (go_values <;> (try go_simp)) | (go_ite <;> go_prune <;> (try go_simp)) | (split <;> (first | (rename_i hx; exact (hx _ rfl).elim) | go_prune))))
     obtain ⟨w12, hw12⟩ : ∃ w12, w12 = w8 := ⟨_, rfl⟩
     subst hw12
     have hb12 := HB8.out
     have HWV := H7 (HCV.out.below hb12)
     have HG := H7 (HG.out.below hb12)
     have HE := H7 (HE.out.below hb12)
     have HCP := H7 (HCP.out.below hb12)
     have HCV := H7 (HCV.out.below hb12)
     have HS := H7 (HS.out.below hb12)
     have HY := H7 (HY.out.below hb12)
     clear hb12
     skip)
    all_goals
     have y0 := h7c HS 0 0 rfl rfl
     have y1 := h7c HS 0 1 rfl rfl
     have y2 := h7c HS 0 2 rfl rfl
     have y3 := h7c HS 0 3 rfl rfl
     have y4 := h7c HS 0 4 rfl rfl
     have y5 := h7c HS 0 5 rfl rfl
     go_wp2_with fail
     clear y0 y1 y2 y3 y4 y5
     refine (HST.out w12 HCP.out HE.out).mono ?_
     intro e w13 h
     obtain ⟨p1, rfl, hs, hb⟩ := h.says HDS.out
     have HP1 := H7 hs
     have HG := H7 (HG.out.below hb)
     have HE := H7 (HE.out.below hb)
     have HCP := H7 (HCP.out.below hb)
     have HCV := H7 (HCV.out.below hb)
     have HS := H7 (HS.out.below hb)
     have HY := H7 (HY.out.below hb)
     have HW := H7 (HW.out.below hb)
     have HWV := H7 (HWV.out.below hb)
     clear hb
     clear h hs HST
     have z0 := c7b (k := 0) HW.out.at_ rfl
     have z1 := c7b (k := 1) HW.out.at_ rfl
     have z2 := c7b (k := 2) HW.out.at_ rfl
     go_wp2_with fail
     clear z0 z1 z2
     refine (says_drawn _ 2 (by decide) D _ (by first | exact fun _ => rfl | (intro h; cases h)) _ _ _ HP1.out HWV.out).mono ?_
     rintro e w14 ⟨rfl, hb⟩
     have HG := H7 (HG.out.below hb)
     have HE := H7 (HE.out.below hb)
     have HCP := H7 (HCP.out.below hb)
     have HCV := H7 (HCV.out.below hb)
     have HS := H7 (HS.out.below hb)
     have HY := H7 (HY.out.below hb)
     clear hb
     clear HP1 HW HWV HRS HDS
     go_wp2_with fail
     have HLW := H7 (LowAt.mk (B7 w14.heap.size w14))
     go_loopw [15] (fun i wr => ∃ j : Nat, j ≤ 6 ∧ i = .int .i64 ((j + 1 : Nat) : Int) ∧ LowAt w14 wr) (fun i _ => 8 - (intOf i).toNat)
     case atStart => exact ⟨0, by omega, rfl, HLW.out⟩
     case round =>
      obtain ⟨j, hj, rfl, hg⟩ := hrel
      clear HLW
      have HGL := H7 hg
      have hlow := hg.low
      have HG := H7 (HG.out.below hlow)
      have HE := H7 (HE.out.below hlow)
      have HCP := H7 (HCP.out.below hlow)
      have HCV := H7 (HCV.out.below hlow)
      have HS := H7 (HS.out.below hlow)
      have HY := H7 (HY.out.below hlow)
      clear hlow
      clear hg
      by_cases hlt : j + 1 < k
      · have HJ := H7 hlt
        have e3 : wrap64 (((j + 1 : Nat) : Int) + 1) = ((j + 1 + 1 : Nat) : Int) := by unfold wrap64; omega
        have e4 : wrap64 (((j + 1 : Nat) : Int) - 1) = (j : Int) := by unfold wrap64; omega
        have HWK := H7 (And.intro e3 e4)
        obtain ⟨p, hp⟩ : ∃ p, LL[j]? = some p := ⟨_, List.getElem?_eq_getElem (by rw [HL.out.1]; omega)⟩
        obtain ⟨q, hq⟩ : ∃ q, LL[j + 1]? = some q := ⟨_, List.getElem?_eq_getElem (by rw [HL.out.1]; omega)⟩
        obtain ⟨bb, off, rfl, hbb, p0, p1⟩ := ptCells HL.out.1 HE.out j p hp
        obtain ⟨bb', off', e', -, q0, q1⟩ := ptCells HL.out.1 HE.out (j + 1) q hq
        cases e'
        have HPQ := H7 (And.intro (And.intro p0 p1) (And.intro q0 q1))
        have HBBK := H7 hbb
        clear hp hq p0 p1 q0 q1 hbb hj
        obtain ⟨px, py⟩ := p
        obtain ⟨qx, qy⟩ := q
        simp only at HPQ
        repeat ((fail_if_success (with_reducible refine stop_at (id := 20) ?_)); (first | go_values | go_skip | go_guarded | go_step | go_upon | go_back | (simp only [Int.not_lt, Int.not_le] at *; go_simp) | (go_values <;> (try go_simp)) | (go_ite <;> go_prune <;> (try go_simp)) | (split <;> (first | (rename_i hx; exact (hx _ rfl).elim) | go_prune))))
        refine (wpIn_wide (n := 0)).1 ?_
        apply wp_region_slots 13 [⟨9, 11, 16, .cells #[.int .i64 0, .int .i64 0] 26 (0, 0), .cells #[.int .i64 px, .int .i64 py] 26 (0, 0)⟩, ⟨10, 12, 17, .cells #[.int .i64 0, .int .i64 0] 26 (0, 0), .cells #[.int .i64 qx, .int .i64 qy] 26 (0, 0)⟩] _ (Rl := [(eqv _), (eqv _), (eqv _), (eqv _), (eqv _), (eqv _), (eqv _), (eqv _), (eqv _), (fun _ _ => True), (fun _ _ => True), (fun _ _ => True), (fun _ _ => True)])
        case hm => kernel_rfl
        case hk => rfl
        case hst => repeat (first | exact trivial | refine ⟨fun _ _ _ _ h => h, ?_⟩)
        case hfo => kernel_rfl
        case ht => kernel_rfl
        case hN => exact Nat.le_refl _
        case hok => kernel_rfl
        case hsk => intro s hs; simp only [List.mem_cons, List.not_mem_nil, or_false] at hs; rcases hs with rfl | rfl <;> exact ⟨Nat.le_of_ble_eq_true rfl, Nat.le_of_ble_eq_true rfl⟩
        case hsteps =>
         refine ⟨?_, ?_, ?_, ?_, ?_, ?_, ?_, ?_, ?_, ?_, ?_, ?_, ?_, trivial⟩
         · intro l_ a' w' hA hC hJ hN hB hD; have s8 := hA.to 8 (by kernel_rfl) rfl; clear hA hD; refine o7t rfl ?_; intro K hK; gi_wp2; exact hK _ _ rfl (B7 _ _) (SlT.plainB rfl (B7 _ _))
         · intro l_ a' w' hA hC hJ hN hB hD; have s15 := hA.to 15 (by kernel_rfl) rfl; clear hA hD; refine o7t rfl ?_; intro K hK; gi_wp2; exact hK _ _ rfl (B7 _ _) (SlT.plainB rfl (B7 _ _))
         · intro l_ a' w' hA hC hJ hN hB hD; obtain ⟨u83, s83, r83⟩ := hD ⟨1, .data⟩ (by simp) rfl _ rfl; replace r83 : u83 = _ := r83; subst r83; clear hA hD; refine o7t rfl ?_; intro K hK; gi_wp2; exact hK _ _ rfl (B7 _ _) (SlT.plainB rfl (B7 _ _))
         · intro l_ a' w' hA hC hJ hN hB hD; obtain ⟨u82, s82, r82⟩ := hD ⟨0, .data⟩ (by simp) rfl _ rfl; replace r82 : u82 = _ := r82; subst r82; obtain ⟨u84, s84, r84⟩ := hD ⟨2, .data⟩ (by simp) rfl _ rfl; replace r84 : u84 = _ := r84; subst r84
           have hin : j < k := by (have := HJ.out; omega)
           clear hA hD; refine o7t rfl ?_; intro K hK; gi_wp2; exact hK _ _ rfl (B7 _ _) (SlT.plainB rfl (B7 _ _))
         · intro l_ a' w' hA hC hJ hN hB hD; obtain ⟨u85, s85, r85⟩ := hD ⟨3, .data⟩ (by simp) rfl _ rfl; replace r85 : u85 = _ := r85; subst r85
           have c0 := (hC.cell (p := ⟨bb, off + j * 2, none⟩) HBBK.out).trans HPQ.out.1.1; have c1 := (hC.cell (p := ⟨bb, off + j * 2 + 1, none⟩) HBBK.out).trans HPQ.out.1.2
           clear hA hD; refine o7t rfl ?_; intro K hK; gi_wp2; exact hK _ _ rfl (B7 _ _) (SlT.plainB rfl (B7 _ _))
         · intro l_ a' w' hA hC hJ hN hB hD; have s8 := hA.to 8 (by kernel_rfl) rfl; clear hA hD; refine o7t rfl ?_; intro K hK; gi_wp2; exact hK _ _ rfl (B7 _ _) (SlT.plainB rfl (B7 _ _))
         · intro l_ a' w' hA hC hJ hN hB hD; have s15 := hA.to 15 (by kernel_rfl) rfl; clear hA hD; refine o7t rfl ?_; intro K hK; gi_wp2; exact hK _ _ rfl (B7 _ _) (SlT.plainB rfl (B7 _ _))
         · intro l_ a' w' hA hC hJ hN hB hD; obtain ⟨u87, s87, r87⟩ := hD ⟨5, .data⟩ (by simp) rfl _ rfl; replace r87 : u87 = _ := r87; subst r87; obtain ⟨u88, s88, r88⟩ := hD ⟨6, .data⟩ (by simp) rfl _ rfl; replace r88 : u88 = _ := r88; subst r88
           have hin : j + 1 < k := HJ.out
           clear hA hD; refine o7t rfl ?_; intro K hK; gi_wp2; exact hK _ _ rfl (B7 _ _) (SlT.plainB rfl (B7 _ _))
         · intro l_ a' w' hA hC hJ hN hB hD; obtain ⟨u89, s89, r89⟩ := hD ⟨7, .data⟩ (by simp) rfl _ rfl; replace r89 : u89 = _ := r89; subst r89
           have c0 := (hC.cell (p := ⟨bb, off + (j + 1) * 2, none⟩) HBBK.out).trans HPQ.out.2.1; have c1 := (hC.cell (p := ⟨bb, off + (j + 1) * 2 + 1, none⟩) HBBK.out).trans HPQ.out.2.2
           clear hA hD; refine o7t rfl ?_; intro K hK; gi_wp2; exact hK _ _ rfl (B7 _ _) (SlT.plainB rfl (B7 _ _))
         · intro l_ a' w' hA hC hJ hN hB hD; clear hA hD; refine o7t rfl ?_; intro K hK; gi_wp2; exact hK _ _ trivial ((B7 _ _).alloc hC.size _) (SlT.alloc (by intro t ht e; simp only [List.mem_cons, List.not_mem_nil, or_false] at ht; rcases ht with rfl | rfl <;> first | rfl | (exact absurd e (Nat.ne_of_beq_eq_false rfl))) (by intro t ht; simp only [List.mem_cons, List.not_mem_nil, or_false] at ht; rcases ht with rfl | rfl <;> exact Nat.ne_of_beq_eq_false rfl))
         · intro l_ a' w' hA hC hJ hN hB hD; clear hA hD; refine o7t rfl ?_; intro K hK; gi_wp2; exact hK _ _ trivial ((B7 _ _).alloc hC.size _) (SlT.alloc (by intro t ht e; simp only [List.mem_cons, List.not_mem_nil, or_false] at ht; rcases ht with rfl | rfl <;> first | rfl | (exact absurd e (Nat.ne_of_beq_eq_false rfl))) (by intro t ht; simp only [List.mem_cons, List.not_mem_nil, or_false] at ht; rcases ht with rfl | rfl <;> exact Nat.ne_of_beq_eq_false rfl))
         · intro l_ a' w' hA hC hJ hN hB hD; obtain ⟨u16, s16, r16⟩ := hD ⟨9, .data⟩ (by simp) rfl _ rfl; replace r16 : (fun _ _ => True) u16 w' := r16; obtain ⟨u86, s86, r86⟩ := hD ⟨4, .data⟩ (by simp) rfl _ rfl; replace r86 : u86 = _ := r86; subst r86
           obtain ⟨b16, n16, t16, o16⟩ := hJ.at_ _ (List.mem_of_getElem? (i := 0) rfl) (hB ⟨9, .data⟩ (by simp) rfl)
           rw [show l_.getD 11 false = false from hN] at o16
           replace o16 : w'.heap[b16]? = some (.cells #[.int .i64 0, .int .i64 0] 26 (0, 0)) := o16
           obtain rfl : u16 = ptrB b16 := Option.some.inj (s16.symm.trans t16)
           clear r16
           obtain ⟨b17, n17, t17, o17⟩ := hJ.at_ _ (List.mem_of_getElem? (i := 1) rfl) (hB ⟨10, .phase⟩ (by simp) rfl)
           clear hA hD; refine o7t rfl ?_; intro K hK
           have f16 := f7b o16
           have c16_0 := c7b (k := 0) o16 rfl
           have c16_1 := c7b (k := 1) o16 rfl
           have f16_0 := f16 0
           have f16_1 := f16 1
           clear f16; unfold ptrB at s16 t16; gi_wp2; exact hK undef _ trivial (by repeat (first | exact B7 _ _ | refine Below.setCell ?_ (by omega) _)) (SlT.store _ (by intro t ht e; simp only [List.mem_cons, List.not_mem_nil, or_false] at ht; rcases ht with rfl | rfl <;> first | rfl | (exact absurd e (Nat.ne_of_beq_eq_false rfl))) (by intro t ht; simp only [List.mem_cons, List.not_mem_nil, or_false] at ht; rcases ht with rfl | rfl <;> exact Nat.ne_of_beq_eq_false rfl) (List.mem_of_getElem? (i := 0) rfl) rfl b16 (by unfold envOf; rw [t16]; rfl) (h7s (h7s o16 _) _) (by intro k hk; repeat (first | rfl | refine (Below.heap_setCell _ _ _ k (by simpa using hk)).trans ?_)))
         · intro l_ a' w' hA hC hJ hN hB hD; obtain ⟨u17, s17, r17⟩ := hD ⟨10, .data⟩ (by simp) rfl _ rfl; replace r17 : (fun _ _ => True) u17 w' := r17; obtain ⟨u90, s90, r90⟩ := hD ⟨8, .data⟩ (by simp) rfl _ rfl; replace r90 : u90 = _ := r90; subst r90
           obtain ⟨b16, n16, t16, o16⟩ := hJ.at_ _ (List.mem_of_getElem? (i := 0) rfl) (hB ⟨9, .phase⟩ (by simp) rfl)
           obtain ⟨b17, n17, t17, o17⟩ := hJ.at_ _ (List.mem_of_getElem? (i := 1) rfl) (hB ⟨10, .data⟩ (by simp) rfl)
           rw [show l_.getD 12 false = false from hN] at o17
           replace o17 : w'.heap[b17]? = some (.cells #[.int .i64 0, .int .i64 0] 26 (0, 0)) := o17
           obtain rfl : u17 = ptrB b17 := Option.some.inj (s17.symm.trans t17)
           clear r17
           clear hA hD; refine o7t rfl ?_; intro K hK
           have f17 := f7b o17
           have c17_0 := c7b (k := 0) o17 rfl
           have c17_1 := c7b (k := 1) o17 rfl
           have f17_0 := f17 0
           have f17_1 := f17 1
           clear f17; unfold ptrB at s17 t17; gi_wp2; exact hK undef _ trivial (by repeat (first | exact B7 _ _ | refine Below.setCell ?_ (by omega) _)) (SlT.store _ (by intro t ht e; simp only [List.mem_cons, List.not_mem_nil, or_false] at ht; rcases ht with rfl | rfl <;> first | rfl | (exact absurd e (Nat.ne_of_beq_eq_false rfl))) (by intro t ht; simp only [List.mem_cons, List.not_mem_nil, or_false] at ht; rcases ht with rfl | rfl <;> exact Nat.ne_of_beq_eq_false rfl) (List.mem_of_getElem? (i := 1) rfl) rfl b17 (by unfold envOf; rw [t17]; rfl) (h7s (h7s o17 _) _) (by intro k hk; repeat (first | rfl | refine (Below.heap_setCell _ _ _ k (by simpa using hk)).trans ?_)))
        case hend =>
         intro w15 hC
         simp only [EndFrom, eqv, forall_eq, Act.put, List.length_cons, List.length_nil, List.drop_succ_cons, List.drop_zero, Nat.reduceAdd, List.setIfInBounds_toArray, List.set_cons_succ, List.set_cons_zero]
         intro pA _ pB _ pC _ pD _ hX
         obtain ⟨bA, hA1, hA2, hA3⟩ := hX.1 _ (List.mem_of_getElem? (i := 0) rfl)
         obtain ⟨bB, hB1, hB2, hB3⟩ := hX.1 _ (List.mem_of_getElem? (i := 1) rfl)
         obtain rfl : pA = ptrB bA := Option.some.inj hA2
         obtain rfl : pB = ptrB bB := Option.some.inj hB2
         clear hX hA2 hB2
         unfold ptrB
         dsimp only at hA3 hB3
         have HA := H7 (BlkA.mk hA3)
         have HB := H7 (BlkA.mk hB3)
         have HGL := H7 (HGL.out.below hC)
         have HG := H7 (HG.out.below hC)
         have HE := H7 (HE.out.below hC)
         have HCP := H7 (HCP.out.below hC)
         have HCV := H7 (HCV.out.below hC)
         have HS := H7 (HS.out.below hC)
         have HY := H7 (HY.out.below hC)
         clear hC
         clear hA3 hB3 HPQ HBBK
         gi_wp2
         clear e3 e4
         repeat ((fail_if_success (with_reducible refine stop_at (id := 21) ?_)); (first | go_values | go_skip | go_guarded | go_step | go_upon | go_back | (simp only [Int.not_lt, Int.not_le] at *; go_simp) | (go_values <;> (try go_simp)) | (go_ite <;> go_prune <;> (try go_simp)) | (split <;> (first | (rename_i hx; exact (hx _ rfl).elim) | go_prune))))
         refine (wpIn_wide (n := 0)).1 ?_
         apply wp_region_slots 4 [⟨1, 3, 19, .cells #[.int .i64 0, .int .i64 0, .slice none 0 0] 24 (0, 0), .cells #[.int .i64 wide, .int .i64 high, .slice oa tn oc] 24 (0, 0)⟩] _ (Rl := [(eqv _), (fun _ _ => True), (eqv _), (fun _ _ => True)])
         case hm => kernel_rfl
         case hk => rfl
         case hst => repeat (first | exact trivial | refine ⟨fun _ _ _ _ h => h, ?_⟩)
         case hfo => kernel_rfl
         case ht => kernel_rfl
         case hN => exact Nat.le_refl _
         case hok => kernel_rfl
         case hsk => intro s hs; simp only [List.mem_cons, List.not_mem_nil, or_false] at hs; rcases hs with rfl <;> exact ⟨Nat.le_of_ble_eq_true rfl, Nat.le_of_ble_eq_true rfl⟩
         case hsteps =>
          refine ⟨?_, ?_, ?_, ?_, trivial⟩
          · intro l_ a' w' hA hC hJ hN hB hD; have s7 := hA.to 7 (by kernel_rfl) rfl
            have g0 := c7b (k := 0) (HG.out.below hC).at_ rfl; have g1 := c7b (k := 1) (HG.out.below hC).at_ rfl; have g2 := c7b (k := 2) (HG.out.below hC).at_ rfl
            clear hA hD; refine o7t rfl ?_; intro K hK; gi_wp2; exact hK _ _ rfl (B7 _ _) (SlT.plainB rfl (B7 _ _))
          · intro l_ a' w' hA hC hJ hN hB hD; clear hA hD; refine o7t rfl ?_; intro K hK; gi_wp2; exact hK _ _ trivial ((B7 _ _).alloc hC.size _) (SlT.alloc (by intro t ht e; simp only [List.mem_cons, List.not_mem_nil, or_false] at ht; rcases ht with rfl <;> first | rfl | (exact absurd e (Nat.ne_of_beq_eq_false rfl))) (by intro t ht; simp only [List.mem_cons, List.not_mem_nil, or_false] at ht; rcases ht with rfl <;> exact Nat.ne_of_beq_eq_false rfl))
          · intro l_ a' w' hA hC hJ hN hB hD
            obtain ⟨b19, n19, t19, o19⟩ := hJ.at_ _ (List.mem_of_getElem? (i := 0) rfl) (hB ⟨1, .phase⟩ (by simp) rfl)
            clear hA hD; refine o7t rfl ?_; intro K hK; gi_wp2; exact hK _ _ rfl (B7 _ _) (SlT.plainB rfl (B7 _ _))
          · intro l_ a' w' hA hC hJ hN hB hD; obtain ⟨u19, s19, r19⟩ := hD ⟨1, .data⟩ (by simp) rfl _ rfl; replace r19 : (fun _ _ => True) u19 w' := r19; obtain ⟨u91, s91, r91⟩ := hD ⟨0, .data⟩ (by simp) rfl _ rfl; replace r91 : u91 = _ := r91; subst r91
            obtain ⟨b19, n19, t19, o19⟩ := hJ.at_ _ (List.mem_of_getElem? (i := 0) rfl) (hB ⟨1, .data⟩ (by simp) rfl)
            rw [show l_.getD 3 false = false from hN] at o19
            replace o19 : w'.heap[b19]? = some (.cells #[.int .i64 0, .int .i64 0, .slice none 0 0] 24 (0, 0)) := o19
            obtain rfl : u19 = ptrB b19 := Option.some.inj (s19.symm.trans t19)
            clear r19
            clear hA hD; refine o7t rfl ?_; intro K hK
            have f19 := f7b o19
            have c19_0 := c7b (k := 0) o19 rfl
            have c19_1 := c7b (k := 1) o19 rfl
            have c19_2 := c7b (k := 2) o19 rfl
            have f19_0 := f19 0
            have f19_1 := f19 1
            have f19_2 := f19 2
            clear f19; unfold ptrB at s19 t19; gi_wp2; exact hK undef _ trivial (by repeat (first | exact B7 _ _ | refine Below.setCell ?_ (by omega) _)) (SlT.store _ (by intro t ht e; simp only [List.mem_cons, List.not_mem_nil, or_false] at ht; rcases ht with rfl <;> first | rfl | (exact absurd e (Nat.ne_of_beq_eq_false rfl))) (by intro t ht; simp only [List.mem_cons, List.not_mem_nil, or_false] at ht; rcases ht with rfl <;> exact Nat.ne_of_beq_eq_false rfl) (List.mem_of_getElem? (i := 0) rfl) rfl b19 (by unfold envOf; rw [t19]; rfl) (h7s (h7s (h7s o19 _) _) _) (by intro k hk; repeat (first | rfl | refine (Below.heap_setCell _ _ _ k (by simpa using hk)).trans ?_)))
         case hend =>
          intro w16 hC
          simp only [EndFrom, eqv, forall_eq, Act.put, List.length_cons, List.length_nil, List.drop_succ_cons, List.drop_zero, Nat.reduceAdd, List.setIfInBounds_toArray, List.set_cons_succ, List.set_cons_zero]
          intro pC _ pD _ hX
          obtain ⟨bC, hC1, hC2, hC3⟩ := hX.1 _ (List.mem_of_getElem? (i := 0) rfl)
          obtain rfl : pC = ptrB bC := Option.some.inj hC2
          clear hX hC2
          unfold ptrB
          dsimp only at hC3
          have HW := H7 (BlkA.mk hC3)
          have HBC := H7 hC1
          have HBX := H7 hC
          clear hC hC1 hC3
          have HMP := H7 (fun w' => r7May_any ⟨px, py⟩ w')
          have HMQ := H7 (fun w' => r7May_any ⟨qx, qy⟩ w')
          have HLN := H7 (fun w' h => HLIN.out C pc ⟨px, py⟩ ⟨qx, qy⟩ w' h)
          have HLG := H7 (fun w' ha hb => refLineGot (a := ⟨px, py⟩) (b := ⟨qx, qy⟩) ha hb rfl rfl w')
          have HLD := H7 (fun ha hb => And.intro (lineL_drawn (a := ⟨px, py⟩) (b := ⟨qx, qy⟩) ha hb) (lineL_small (a := ⟨px, py⟩) (b := ⟨qx, qy⟩) ha hb))
          rw [HLOK.out] at HLN
          obtain ⟨LN, hLN⟩ : ∃ LN, lineL ⟨px, py⟩ ⟨qx, qy⟩ = LN := ⟨_, rfl⟩
          rw [hLN] at HLN HLG HLD
          have HDS := H7 (pixTo_shown (q := fun x y : Nat => strokeB size round LN ⟨(x : Int), (y : Int)⟩) HCP.out.ok (fpaint_ok HC0.out) (Q := SwM size round LN) (fun x y _ _ => strokeB_iff))
          have HRS := H7 (fun v la lc w' hv he hm hL hs => HRST.out C HCP.out.ok v la LN.length lc LN rfl hm hL hs w' hv he)
          obtain ⟨D2, hD2⟩ : ∃ D2, pixTo C (fun x y : Nat => strokeB size round LN ⟨(x : Int), (y : Int)⟩) (fpaint ⟨r, g, b, al⟩) (8 * C.high * (8 * C.wide)) = D2 := ⟨_, rfl⟩
          rw [hD2] at HDS HRS
          obtain ⟨ln, hln⟩ : ∃ ln, LN.length = ln := ⟨_, rfl⟩
          rw [hln] at HLG HLD HRS
          obtain ⟨dp, hdp⟩ : ∃ dp, drawnB ⟨px, py⟩ = dp := ⟨_, rfl⟩
          obtain ⟨dq, hdq⟩ : ∃ dq, drawnB ⟨qx, qy⟩ = dq := ⟨_, rfl⟩
          rw [hdp] at HMP HLN HLG HLD
          rw [hdq] at HMQ HLN HLG HLD
          rw [HSZ.out] at HLN
          clear hLN hD2 hdp hdq hln
          gi_wp2
          have a0 := c7b (k := 0) (HA.out.below HBX.out).at_ rfl
          have a1 := c7b (k := 1) (HA.out.below HBX.out).at_ rfl
          have b0 := c7b (k := 0) (HB.out.below HBX.out).at_ rfl
          have b1 := c7b (k := 1) (HB.out.below HBX.out).at_ rfl
          go_wp2_with fail
          clear a0 a1 b0 b1
          refine (HMP.out _).mono ?_
          rintro e w17 ⟨rfl, hb⟩
          have HBX := H7 (HBX.out.trans (hb.mono HBX.out.size))
          have HW := H7 (HW.out.below hb)
          clear hb
          rcases (show dp = false ∨ (dp = true ∧ dq = false) ∨ (dp = true ∧ dq = true) by cases dp <;> cases dq <;> simp) with rfl | ⟨rfl, rfl⟩ | ⟨rfl, rfl⟩
          all_goals try (
           have a0 := c7b (k := 0) (HA.out.below HBX.out).at_ rfl
           have a1 := c7b (k := 1) (HA.out.below HBX.out).at_ rfl
           have b0 := c7b (k := 0) (HB.out.below HBX.out).at_ rfl
           have b1 := c7b (k := 1) (HB.out.below HBX.out).at_ rfl
           go_wp2_with fail
           clear a0 a1 b0 b1
           refine (HMQ.out _).mono ?_
           rintro e w18 ⟨rfl, hb⟩
           have HBX := H7 (HBX.out.trans (hb.mono HBX.out.size))
           have HW := H7 (HW.out.below hb)
           clear hb
           skip)
          all_goals try (
           fail_if_success (have h_ : World := w18)
           obtain ⟨w18, hw18⟩ : ∃ w18, w18 = w17 := ⟨_, rfl⟩
           subst hw18
           skip)
          all_goals clear HMP HMQ
          all_goals try (
           repeat ((fail_if_success (with_reducible refine stop_at (id := 23) ?_)); (first | go_values | go_skip | go_guarded | go_step | go_upon | go_back | (simp only [Int.not_lt, Int.not_le] at *; go_simp) | (go_values <;> (try go_simp)) | (go_ite <;> go_prune <;> (try go_simp)) | (split <;> (first | (rename_i hx; exact (hx _ rfl).elim) | go_prune))))
           refine (wpIn_wide (n := 0)).1 ?_
           apply w7v 6 (Rl := [(eqv _), (eqv _), (eqv _), (eqv _), (fun v_ w_ => ∃ la lc, v_ = .slice la ln lc ∧ Elems w_ (.slice la ln lc) ln 2 (rowC encP LN)), (fun v_ w_ => CanV w_ D2 v_)]) (C := (fun x y => Below x.heap.size x y))
           case hm => kernel_rfl
           case hk => rfl
           case hCr => exact (fun _ => B7 _ _)
           case hCt => intro _ _ _; exact (fun h k => g7t h k)
           case hst => exact ⟨fun _ _ _ _ h => h, fun _ _ _ _ h => h, fun _ _ _ _ h => h, fun _ _ _ _ h => h, fun _ _ _ hC ⟨la, lc, e, h⟩ => ⟨la, lc, e, h.below hC⟩, fun _ _ _ hC h => h.below hC, trivial⟩
           case hfo => kernel_rfl
           case ht => kernel_rfl
           case hC0 => exact (g7d _)
           case hsteps =>
            refine ⟨?_, ?_, ?_, ?_, ?_, ?_, trivial⟩
            · intro a' w' hA hC hD; have s7 := hA.to 7 (by kernel_rfl) rfl
              have g0 := c7b (k := 0) (HG.out.below (HBX.out.trans (hC.mono HBX.out.size))).at_ rfl; have g1 := c7b (k := 1) (HG.out.below (HBX.out.trans (hC.mono HBX.out.size))).at_ rfl; have g2 := c7b (k := 2) (HG.out.below (HBX.out.trans (hC.mono HBX.out.size))).at_ rfl
              clear hA hD; refine o7p rfl ?_; intro K hK; gi_wp2; exact hK _ _ rfl (B7 _ _)
            · intro a' w' hA hC hD; have s4 := hA.to 4 (by kernel_rfl) rfl
              have y0 := c7b (k := 0) ((HS.out.below (HBX.out.trans (hC.mono HBX.out.size))).blockAt 0 rfl) rfl; have y1 := c7b (k := 1) ((HS.out.below (HBX.out.trans (hC.mono HBX.out.size))).blockAt 0 rfl) rfl; have y2 := c7b (k := 2) ((HS.out.below (HBX.out.trans (hC.mono HBX.out.size))).blockAt 0 rfl) rfl; have y3 := c7b (k := 3) ((HS.out.below (HBX.out.trans (hC.mono HBX.out.size))).blockAt 0 rfl) rfl; have y4 := c7b (k := 4) ((HS.out.below (HBX.out.trans (hC.mono HBX.out.size))).blockAt 0 rfl) rfl; have y5 := c7b (k := 5) ((HS.out.below (HBX.out.trans (hC.mono HBX.out.size))).blockAt 0 rfl) rfl
              clear hA hD; refine o7p rfl ?_; intro K hK; gi_wp2; exact hK _ _ rfl (B7 _ _)
            · intro a' w' hA hC hD; have s16 := hA.to 16 (by kernel_rfl) rfl
              have a0 := c7b (k := 0) (HA.out.below (HBX.out.trans (hC.mono HBX.out.size))).at_ rfl; have a1 := c7b (k := 1) (HA.out.below (HBX.out.trans (hC.mono HBX.out.size))).at_ rfl
              clear hA hD; refine o7p rfl ?_; intro K hK; gi_wp2; exact hK _ _ rfl (B7 _ _)
            · intro a' w' hA hC hD; have s17 := hA.to 17 (by kernel_rfl) rfl
              have b0 := c7b (k := 0) (HB.out.below (HBX.out.trans (hC.mono HBX.out.size))).at_ rfl; have b1 := c7b (k := 1) (HB.out.below (HBX.out.trans (hC.mono HBX.out.size))).at_ rfl
              clear hA hD; refine o7p rfl ?_; intro K hK; gi_wp2; exact hK _ _ rfl (B7 _ _)
            · intro a' w' hA hC hD; obtain ⟨u103, s103, r103⟩ := hD ⟨2, .data⟩ (by simp) rfl _ rfl; replace r103 : u103 = _ := r103; subst r103; obtain ⟨u104, s104, r104⟩ := hD ⟨3, .data⟩ (by simp) rfl _ rfl; replace r104 : u104 = _ := r104; subst r104; clear hA hD; refine o7p rfl ?_; intro K hK
              gi_wp2_with fail; refine (callsIn_wide.2 (HLG.out w' (by trivial) (by trivial))).mono ?_; rintro e w9 ⟨v9, rfl, hr9, hb9⟩; obtain ⟨la, lc, rfl, -⟩ := hr9.shape
              exact hK _ _ ⟨la, lc, rfl, hr9⟩ hb9
            · intro a' w' hA hC hD; obtain ⟨u101, s101, r101⟩ := hD ⟨0, .data⟩ (by simp) rfl _ rfl; replace r101 : u101 = _ := r101; subst r101; obtain ⟨u102, s102, r102⟩ := hD ⟨1, .data⟩ (by simp) rfl _ rfl; replace r102 : u102 = _ := r102; subst r102; obtain ⟨u105, s105, r105⟩ := hD ⟨4, .data⟩ (by simp) rfl _ rfl; replace r105 : (fun v_ w_ => ∃ la lc, v_ = .slice la ln lc ∧ Elems w_ (.slice la ln lc) ln 2 (rowC encP LN)) u105 w' := r105; clear hA hD; refine o7p rfl ?_; intro K hK
              obtain ⟨la, lc, rfl, hle⟩ := r105; gi_wp2_with fail; refine (callsIn_wide.2 (HRS.out _ la lc _ (HCV.out.below (HBX.out.trans (hC.mono HBX.out.size))) hle (by have := (HLD.out (by trivial) (by trivial)).2; omega) (fun c hc => drawn_bound ((HLD.out (by trivial) (by trivial)).1 c hc)) (size_bound HSZ.out))).mono ?_; rintro e w9 ⟨v9, rfl, hr9, hb9⟩
              exact hK _ _ hr9 hb9
           case hend =>
            intro w19 hC
            simp only [EndFrom, eqv, forall_eq, Act.put, List.length_cons, List.length_nil, List.drop_succ_cons, List.drop_zero, Nat.reduceAdd, List.setIfInBounds_toArray, List.set_cons_succ, List.set_cons_zero]
            intro v105 hv105 v106 hv106
            clear hv105
            obtain ⟨a9, c9, rfl, -, -⟩ := id hv106
            have hW9 := (HW.out.below hC).at_
            have z0 := c7b (k := 0) hW9 rfl
            have z1 := c7b (k := 1) hW9 rfl
            have z2 := c7b (k := 2) hW9 rfl
            have f0 := f7b hW9
            gi_wp2
            repeat ((fail_if_success (with_reducible refine stop_at (id := 24) ?_)); (first | go_values | go_skip | go_guarded | go_step | go_upon | go_back | (simp only [Int.not_lt, Int.not_le] at *; go_simp) | (go_values <;> (try go_simp)) | (go_ite <;> go_prune <;> (try go_simp)) | (split <;> (first | (rename_i hx; exact (hx _ rfl).elim) | go_prune))))
            clear z0 z1 z2 f0
            have s1 := h7s (k := 0) hW9 (.int .i64 D2.wide)
            have s2 := h7s (k := 1) s1 (.int .i64 D2.high)
            have s3 := h7s (k := 2) s2 (.slice a9 D2.tiles.length c9)
            have hv12 := ((hv106.other3 HDS.out.ok hW9 (by simp) 0 (.int .i64 D2.wide)).other3 HDS.out.ok s1 (by simp) 1 (.int .i64 D2.high)).other3 HDS.out.ok s2 (by simp) 2 (.slice a9 D2.tiles.length c9)
            have hb12 : Below w15.heap.size w15 (((w19.setCell ⟨bC, 0, none⟩ (.int .i64 D2.wide)).setCell ⟨bC, 1, none⟩ (.int .i64 D2.high)).setCell ⟨bC, 2, none⟩ (.slice a9 D2.tiles.length c9)) := (((HBX.out.trans (hC.mono HBX.out.size)).setCell (p := ⟨bC, 0, none⟩) HBC.out _).setCell (p := ⟨bC, 1, none⟩) HBC.out _).setCell (p := ⟨bC, 2, none⟩) HBC.out _
            obtain ⟨w20, hw20⟩ : ∃ w20, ((w19.setCell ⟨bC, 0, none⟩ (.int .i64 D2.wide)).setCell ⟨bC, 1, none⟩ (.int .i64 D2.high)).setCell ⟨bC, 2, none⟩ (.slice a9 D2.tiles.length c9) = w20 := ⟨_, rfl⟩
            rw [hw20] at s3 hv12 hb12
            first | rw [hw20] | simp only [hw20] | skip
            clear hw20 s1 s2 hW9 hv106 hC
            have HW := H7 (BlkA.mk s3)
            have HWV := H7 hv12
            clear s3 hv12
            have HGL := H7 (HGL.out.below hb12)
            have HG := H7 (HG.out.below hb12)
            have HE := H7 (HE.out.below hb12)
            have HCP := H7 (HCP.out.below hb12)
            have HCV := H7 (HCV.out.below hb12)
            have HS := H7 (HS.out.below hb12)
            have HY := H7 (HY.out.below hb12)
            have HA := H7 (HA.out.below hb12)
            have HB := H7 (HB.out.below hb12)
            clear hb12
            clear HBX HBC
            have y0 := h7c HS 0 0 rfl rfl
            have y1 := h7c HS 0 1 rfl rfl
            have y2 := h7c HS 0 2 rfl rfl
            have y3 := h7c HS 0 3 rfl rfl
            have y4 := h7c HS 0 4 rfl rfl
            have y5 := h7c HS 0 5 rfl rfl
            have a0 := c7b (k := 0) HA.out.at_ rfl
            have a1 := c7b (k := 1) HA.out.at_ rfl
            have b0 := c7b (k := 0) HB.out.at_ rfl
            have b1 := c7b (k := 1) HB.out.at_ rfl
            go_wp2_with fail
            clear y0 y1 y2 y3 y4 y5
            clear a0 a1 b0 b1
            refine (HLN.out _ HCP.out).mono ?_
            intro e w21 h
            obtain ⟨p1, rfl, hs, hb⟩ := h.says HDS.out
            have HP1 := H7 hs
            have HGL := H7 (HGL.out.below hb)
            have HG := H7 (HG.out.below hb)
            have HE := H7 (HE.out.below hb)
            have HCP := H7 (HCP.out.below hb)
            have HCV := H7 (HCV.out.below hb)
            have HS := H7 (HS.out.below hb)
            have HY := H7 (HY.out.below hb)
            have HW := H7 (HW.out.below hb)
            have HWV := H7 (HWV.out.below hb)
            clear hb
            clear h hs HLN
            have z0 := c7b (k := 0) HW.out.at_ rfl
            have z1 := c7b (k := 1) HW.out.at_ rfl
            have z2 := c7b (k := 2) HW.out.at_ rfl
            go_wp2_with fail
            clear z0 z1 z2
            refine (says_drawn _ 2 (by decide) D2 _ (by first | exact fun _ => rfl | (intro h; cases h)) _ _ _ HP1.out HWV.out).mono ?_
            rintro e w22 ⟨rfl, hb⟩
            have HGL := H7 (HGL.out.below hb)
            clear hb HP1 HW HWV
            go_wp2_with fail
            go_roundw
            case rel => exact ⟨j + 1, by have := HJ.out; have := HL.out; omega, by first | exact congrArg (Value.int .i64) HWK.out.1 | exact congrArg (Value.int .i64) (Int.natCast_succ (j + 1)).symm | (congr 1; omega), HGL.out⟩
            case measure => (try rw [HWK.out.1]); have := HJ.out; have := HL.out; simp only [intOf]; omega
           skip)
          all_goals
           repeat ((fail_if_success (with_reducible refine stop_at (id := 24) ?_)); (first | go_values | go_skip | go_guarded | go_step | go_upon | go_back | (simp only [Int.not_lt, Int.not_le] at *; go_simp) | (go_values <;> (try go_simp)) | (go_ite <;> go_prune <;> (try go_simp)) | (split <;> (first | (rename_i hx; exact (hx _ rfl).elim) | go_prune))))
           obtain ⟨w20, hw20⟩ : ∃ w20, w20 = w18 := ⟨_, rfl⟩
           subst hw20
           have hb12 := HBX.out
           have HWV := H7 (HCV.out.below hb12)
           have HGL := H7 (HGL.out.below hb12)
           have HG := H7 (HG.out.below hb12)
           have HE := H7 (HE.out.below hb12)
           have HCP := H7 (HCP.out.below hb12)
           have HCV := H7 (HCV.out.below hb12)
           have HS := H7 (HS.out.below hb12)
           have HY := H7 (HY.out.below hb12)
           have HA := H7 (HA.out.below hb12)
           have HB := H7 (HB.out.below hb12)
           clear hb12
           clear HBX HBC
           have y0 := h7c HS 0 0 rfl rfl
           have y1 := h7c HS 0 1 rfl rfl
           have y2 := h7c HS 0 2 rfl rfl
           have y3 := h7c HS 0 3 rfl rfl
           have y4 := h7c HS 0 4 rfl rfl
           have y5 := h7c HS 0 5 rfl rfl
           have a0 := c7b (k := 0) HA.out.at_ rfl
           have a1 := c7b (k := 1) HA.out.at_ rfl
           have b0 := c7b (k := 0) HB.out.at_ rfl
           have b1 := c7b (k := 1) HB.out.at_ rfl
           go_wp2_with fail
           clear y0 y1 y2 y3 y4 y5
           clear a0 a1 b0 b1
           refine (HLN.out _ HCP.out).mono ?_
           intro e w21 h
           obtain ⟨p1, rfl, hs, hb⟩ := h.says HDS.out
           have HP1 := H7 hs
           have HGL := H7 (HGL.out.below hb)
           have HG := H7 (HG.out.below hb)
           have HE := H7 (HE.out.below hb)
           have HCP := H7 (HCP.out.below hb)
           have HCV := H7 (HCV.out.below hb)
           have HS := H7 (HS.out.below hb)
           have HY := H7 (HY.out.below hb)
           have HW := H7 (HW.out.below hb)
           have HWV := H7 (HWV.out.below hb)
           clear hb
           clear h hs HLN
           have z0 := c7b (k := 0) HW.out.at_ rfl
           have z1 := c7b (k := 1) HW.out.at_ rfl
           have z2 := c7b (k := 2) HW.out.at_ rfl
           go_wp2_with fail
           clear z0 z1 z2
           refine (says_drawn _ 2 (by decide) D2 _ (by first | exact fun _ => rfl | (intro h; cases h)) _ _ _ HP1.out HWV.out).mono ?_
           rintro e w22 ⟨rfl, hb⟩
           have HGL := H7 (HGL.out.below hb)
           clear hb HP1 HW HWV
           go_wp2_with fail
           go_roundw
           case rel => exact ⟨j + 1, by have := HJ.out; have := HL.out; omega, by first | exact congrArg (Value.int .i64) HWK.out.1 | exact congrArg (Value.int .i64) (Int.natCast_succ (j + 1)).symm | (congr 1; omega), HGL.out⟩
           case measure => (try rw [HWK.out.1]); have := HJ.out; have := HL.out; simp only [intOf]; omega
      · have d1 : decide (((j + 1 : Nat) : Int) < (k : Int)) = false := by rw [decide_eq_false_iff_not]; omega
        have d2 : decide (j + 1 < k) = false := by rw [decide_eq_false_iff_not]; omega
        have d4 : decide ((j : Int) + 1 < (k : Int)) = false := by rw [decide_eq_false_iff_not]; omega
        clear hlt hj
        repeat ((fail_if_success (with_reducible refine stop_at (id := 27) ?_)); (first | go_values | go_skip | go_guarded | go_step | go_upon | go_back | (simp only [Int.not_lt, Int.not_le] at *; go_simp) | (go_values <;> (try go_simp)) | (go_ite <;> go_prune <;> (try go_simp)) | (split <;> (first | (rename_i hx; exact (hx _ rfl).elim) | go_prune))))
        clear d1 d2 d4
        refine (wpIn_wide (n := 0)).1 ?_
        apply w7v 13 (Rl := [(eqv _), (fun v_ w_ => CanV w_ C v_), (eqv _), (eqv _), (eqv _), (eqv _), (eqv _), (eqv _), (eqv _), (eqv _), (eqv _), (eqv _), (eqv _)]) (C := (fun x y => Below x.heap.size x y))
        case hm => kernel_rfl
        case hk => rfl
        case hCr => exact (fun _ => B7 _ _)
        case hCt => intro _ _ _; exact (fun h k => g7t h k)
        case hst => exact ⟨fun _ _ _ _ h => h, fun _ _ _ hC h => h.below hC, fun _ _ _ _ h => h, fun _ _ _ _ h => h, fun _ _ _ _ h => h, fun _ _ _ _ h => h, fun _ _ _ _ h => h, fun _ _ _ _ h => h, fun _ _ _ _ h => h, fun _ _ _ _ h => h, fun _ _ _ _ h => h, fun _ _ _ _ h => h, fun _ _ _ _ h => h, trivial⟩
        case hfo => kernel_rfl
        case ht => kernel_rfl
        case hC0 => exact (g7d _)
        case hsteps =>
         refine ⟨?_, ?_, ?_, ?_, ?_, ?_, ?_, ?_, ?_, ?_, ?_, ?_, ?_, trivial⟩
         · intro a' w' hA hC hD; have s9 := hA.to 9 (by kernel_rfl) rfl; clear hA hD; refine o7p rfl ?_; intro K hK; gi_wp2; exact hK _ _ rfl (B7 _ _)
         · intro a' w' hA hC hD; obtain ⟨u121, s121, r121⟩ := hD ⟨0, .data⟩ (by simp) rfl _ rfl; replace r121 : u121 = _ := r121; subst r121; clear hA hD; refine o7p rfl ?_; intro K hK
           gi_wp2_with fail; refine (callsIn_wide.2 (show_any C pc _ (HCP.out.below hC))).mono ?_; rintro e w9 ⟨v9, rfl, hr9, hb9⟩
           exact hK _ _ hr9 hb9
         · intro a' w' hA hC hD; have s7 := hA.to 7 (by kernel_rfl) rfl
           have g0 := c7b (k := 0) (HG.out.below hC).at_ rfl; have g1 := c7b (k := 1) (HG.out.below hC).at_ rfl; have g2 := c7b (k := 2) (HG.out.below hC).at_ rfl
           clear hA hD; refine o7p rfl ?_; intro K hK; gi_wp2; exact hK _ _ rfl (B7 _ _)
         · intro a' w' hA hC hD; obtain ⟨u122, s122, r122⟩ := hD ⟨1, .data⟩ (by simp) rfl _ rfl; replace r122 : (fun v_ w_ => CanV w_ C v_) u122 w' := r122; obtain ⟨u123, s123, r123⟩ := hD ⟨2, .data⟩ (by simp) rfl _ rfl; replace r123 : u123 = _ := r123; subst r123; clear hA hD; refine o7p rfl ?_; intro K hK
           gi_wp2_with fail; refine (callsIn_wide.2 (r5Same_eq C HNC.out _ _ _ r122 (HCV.out.below hC))).mono ?_; rintro e w2 ⟨rfl, hb⟩
           exact hK _ _ rfl hb
         · intro a' w' hA hC hD; obtain ⟨u124, s124, r124⟩ := hD ⟨3, .data⟩ (by simp) rfl _ rfl; replace r124 : u124 = _ := r124; subst r124; clear hA hD; refine o7p rfl ?_; intro K hK; gi_wp2; exact hK _ _ rfl (B7 _ _)
         · intro a' w' hA hC hD; have s8 := hA.to 8 (by kernel_rfl) rfl; obtain ⟨u125, s125, r125⟩ := hD ⟨4, .guard⟩ (by simp) rfl _ rfl; replace r125 : u125 = _ := r125; subst r125; clear hA hD; refine o7w rfl rfl s125 ?_; intro K hK; gi_wp2; exact hK _ _ rfl (B7 _ _)
         · intro a' w' hA hC hD; have s2 := hA.to 2 (by kernel_rfl) rfl; obtain ⟨u125, s125, r125⟩ := hD ⟨4, .guard⟩ (by simp) rfl _ rfl; replace r125 : u125 = _ := r125; subst r125; clear hA hD; refine o7w rfl rfl s125 ?_; intro K hK; gi_wp2; exact hK _ _ rfl (B7 _ _)
         · intro a' w' hA hC hD; have s8 := hA.to 8 (by kernel_rfl) rfl; obtain ⟨u125, s125, r125⟩ := hD ⟨4, .guard⟩ (by simp) rfl _ rfl; replace r125 : u125 = _ := r125; subst r125; clear hA hD; refine o7w rfl rfl s125 ?_; intro K hK; gi_wp2; exact hK _ _ rfl (B7 _ _)
         · intro a' w' hA hC hD; obtain ⟨u128, s128, r128⟩ := hD ⟨7, .data⟩ (by simp) rfl _ rfl; replace r128 : u128 = _ := r128; subst r128; obtain ⟨u125, s125, r125⟩ := hD ⟨4, .guard⟩ (by simp) rfl _ rfl; replace r125 : u125 = _ := r125; subst r125; clear hA hD; refine o7w rfl rfl s125 ?_; intro K hK; gi_wp2; exact hK _ _ rfl (B7 _ _)
         · intro a' w' hA hC hD; obtain ⟨u127, s127, r127⟩ := hD ⟨6, .data⟩ (by simp) rfl _ rfl; replace r127 : u127 = _ := r127; subst r127; obtain ⟨u129, s129, r129⟩ := hD ⟨8, .data⟩ (by simp) rfl _ rfl; replace r129 : u129 = _ := r129; subst r129; obtain ⟨u125, s125, r125⟩ := hD ⟨4, .guard⟩ (by simp) rfl _ rfl; replace r125 : u125 = _ := r125; subst r125
           have hkc : k ≤ cap2 := by (have := HL.out; omega)
           clear hA hD; refine o7w rfl rfl s125 ?_; intro K hK; gi_wp2; exact hK _ _ rfl (B7 _ _)
         · intro a' w' hA hC hD; obtain ⟨u126, s126, r126⟩ := hD ⟨5, .data⟩ (by simp) rfl _ rfl; replace r126 : u126 = _ := r126; subst r126; obtain ⟨u130, s130, r130⟩ := hD ⟨9, .data⟩ (by simp) rfl _ rfl; replace r130 : u130 = _ := r130; subst r130; obtain ⟨u125, s125, r125⟩ := hD ⟨4, .chain⟩ (by simp) rfl _ rfl; replace r125 : u125 = _ := r125; subst r125; clear hA hD; refine o7w rfl rfl s125 ?_; intro K hK
           gi_wp2_with fail; refine (callsIn_wide.2 (eqP_same _ _ LL k HL.out.1 _ (HE.out.below hC) (HY.out.below hC) (by have := HL.out; omega))).mono ?_; rintro e w2 ⟨rfl, hb⟩
           exact hK _ _ rfl hb
         · intro a' w' hA hC hD; obtain ⟨u125, s125, r125⟩ := hD ⟨4, .data⟩ (by simp) rfl _ rfl; replace r125 : u125 = _ := r125; subst r125; obtain ⟨u131, s131, r131⟩ := hD ⟨10, .data⟩ (by simp) rfl _ rfl; replace r131 : u131 = _ := r131; subst r131; clear hA hD; refine o7p rfl ?_; intro K hK; gi_wp2; exact hK _ _ rfl (B7 _ _)
         · intro a' w' hA hC hD; obtain ⟨u132, s132, r132⟩ := hD ⟨11, .data⟩ (by simp) rfl _ rfl; replace r132 : u132 = _ := r132; subst r132; clear hA hD; refine o7p rfl ?_; intro K hK; gi_wp2; exact hK _ _ rfl (B7 _ _)
        case hend =>
         intro w30 hC
         simp only [EndFrom, eqv, forall_eq, Act.put, List.length_cons, List.length_nil, List.drop_succ_cons, List.drop_zero, Nat.reduceAdd, List.setIfInBounds_toArray, List.set_cons_succ, List.set_cons_zero]
         have HS := H7 (HS.out.below hC)
         have HGL := H7 (HGL.out.below hC)
         clear hC
         intro v122 hv122
         clear hv122
         gi_wp2
         go_wp2_with fail
         go_ret
         exact ⟨rfl, HS.out.low⟩
end Go.Proofs.YthcdkkmjnglmjaaGreatDoor
