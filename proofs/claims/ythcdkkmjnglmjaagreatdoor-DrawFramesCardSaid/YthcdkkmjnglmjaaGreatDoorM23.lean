/- Merged texts: Df. -/
import Derived.Test.YthcdkkmjnglmjaaGreatDoorM22
/- gessolaw07.DrawFrames. -/
namespace Go.Proofs.YthcdkkmjnglmjaaGreatDoor
set_option linter.unusedSimpArgs false
set_option linter.unusedVariables false
open Go.RowKit Go.Shelf
attribute [local go_sem] Oper.semAt_some
set_option maxRecDepth 100000 in
set_option maxHeartbeats 4000000 in
theorem drawFrames_any (wide high : Int) (a : Option Addr) (cap : Nat) (us : List TileT) (hcol : ∀ t ∈ us, ∀ c ∈ t.1, okC c) (p q : PtT)
 (w : World) (hred : RedAt w) (he : Elems w (.slice a us.length cap) us.length 256 (rowC encT us)) :
 Calls Tryz.prog 3 #[.agg #[.int .i64 wide, .int .i64 high, .slice a us.length cap], p.val, q.val] w (Gives (.bool true) w) := by
 have HS := Lib.hid (St.start w)
 have HR := Lib.hid hred
 have HOF := Lib.hid (fun w' (hb : Below w.heap.size w w') => ofBothD wide high a cap us hcol w' (he.below hb))
 obtain ⟨ok, hok⟩ : ∃ ok, okE wide high us.length = ok := ⟨_, rfl⟩
 rw [hok] at HOF
 obtain ⟨n, hn⟩ : ∃ n, us.length = n := ⟨_, rfl⟩
 rw [hn] at HOF ⊢
 unfold PtT.val
 clear hred he hok hn hcol
 go_enter Tryz.func3, Tryz.ntmps3
 repeat ((fail_if_success (with_reducible refine stop_at (id := 1) ?_)); (first | go_values | go_skip | go_guarded | go_step | go_upon | go_back | (simp only [Int.not_lt, Int.not_le] at *; go_simp) | (go_values <;> (try go_simp)) | (go_ite <;> go_prune <;> (try go_simp)) | (split <;> (first | (rename_i hx; exact (hx _ rfl).elim) | go_prune))))
 have hs_ := (((HS.out.alloc (.cells #[.int .i64 wide, .int .i64 high, .slice a n cap] 24)).alloc (.cells #[.int .i64 p.x, .int .i64 p.y] 26)).alloc (.cells #[.int .i64 q.x, .int .i64 q.y] 26))
 have hk_HR := HR.out.below ((((Below.refl _ _).alloc (by exact Nat.le_refl _) (.cells #[.int .i64 wide, .int .i64 high, .slice a n cap] 24)).alloc (by simp only [World.size_alloc]; omega) (.cells #[.int .i64 p.x, .int .i64 p.y] 26)).alloc (by simp only [World.size_alloc]; omega) (.cells #[.int .i64 q.x, .int .i64 q.y] 26))
 obtain ⟨w1, hw_⟩ : ∃ w1 : World, (((w.alloc (.cells #[.int .i64 wide, .int .i64 high, .slice a n cap] 24)).alloc (.cells #[.int .i64 p.x, .int .i64 p.y] 26)).alloc (.cells #[.int .i64 q.x, .int .i64 q.y] 26)) = w1 := ⟨_, rfl⟩
 rw [hw_] at hs_ hk_HR
 try simp only [World.size_alloc] at hs_
 have HS := Lib.hid hs_
 have HR := Lib.hid hk_HR
 rw [hw_]
 clear hw_ hs_ hk_HR
 go_wp2_with fail
 refine (dWakes_any w1 HR.out).mono ?_
 rintro e w2 ⟨rfl, hb⟩
 have HS := Lib.hid (HS.out.below hb)
 have HR := Lib.hid (HR.out.below hb)
 clear hb
 have z0 := cell_of_block (k := 0) (HS.out.blockAt 2 rfl) rfl
 have z1 := cell_of_block (k := 1) (HS.out.blockAt 2 rfl) rfl
 have z2 := cell_of_block (k := 2) (HS.out.blockAt 2 rfl) rfl
 go_wp2_with fail
 clear z0 z1 z2
 refine (HOF.out w2 HS.out.low).mono ?_
 rintro e w3 ⟨v, rfl, hb, hv1, hv2⟩
 have HS := Lib.hid (HS.out.below hb)
 have HR := Lib.hid (HR.out.below hb)
 clear hb HOF
 cases ok with
 | false =>
  obtain rfl := hv2 rfl
  clear hv1 hv2
  simp only [errOf]
  go_wp2_with fail
  go_ret
  exact ⟨rfl, HS.out.low⟩
 | true =>
  obtain ⟨pc, rfl, hcan⟩ := hv1 rfl
  have HCP := Lib.hid hcan
  clear hv1 hv2 hcan
  obtain ⟨C, hC⟩ : ∃ C, (⟨wide.toNat, high.toNat, us⟩ : CanT) = C := ⟨_, rfl⟩
  rw [hC] at HCP
  clear hC
  simp only [errOf]
  have r0 := HR.out.c0
  have r1 := HR.out.c1
  have r2 := HR.out.c2
  have r3 := HR.out.c3
  have x0 := cell_of_block (k := 0) (HS.out.blockAt 1 rfl) rfl
  have x1 := cell_of_block (k := 1) (HS.out.blockAt 1 rfl) rfl
  have y0 := cell_of_block (k := 0) (HS.out.blockAt 0 rfl) rfl
  have y1 := cell_of_block (k := 1) (HS.out.blockAt 0 rfl) rfl
  go_wp2_with fail
  clear r0 r1 r2 r3 x0 x1 y0 y1
  refine (sRect_any redC redC_ok p q pc C w3 HCP.out).mono ?_
  intro e w4 h
  have hb := h.1
  have HS := Lib.hid (HS.out.below hb)
  have HR := Lib.hid (HR.out.below hb)
  have HCP := Lib.hid (HCP.out.below hb)
  clear hb
  cases hok : drawnB p && drawnB q with
  | false =>
   obtain rfl := h.2.2 hok
   clear h hok
   go_wp2_with fail
   go_ret
   exact ⟨rfl, HS.out.low⟩
  | true =>
   obtain ⟨d1, D1, rfl, hd, hsh⟩ := h.2.1 hok
   rw [Bool.and_eq_true] at hok
   have HOK := Lib.hid hok
   have HD1 := Lib.hid hd
   have HSH := Lib.hid hsh
   clear h hok hd hsh
   have r0 := HR.out.c0
   have r1 := HR.out.c1
   have r2 := HR.out.c2
   have r3 := HR.out.c3
   have x0 := cell_of_block (k := 0) (HS.out.blockAt 1 rfl) rfl
   have x1 := cell_of_block (k := 1) (HS.out.blockAt 1 rfl) rfl
   have y0 := cell_of_block (k := 0) (HS.out.blockAt 0 rfl) rfl
   have y1 := cell_of_block (k := 1) (HS.out.blockAt 0 rfl) rfl
   go_wp2_with fail
   clear r0 r1 r2 r3 x0 x1 y0 y1
   refine (sFrame_any redC redC_ok p q pc C w4 HCP.out).mono ?_
   intro e w5 h
   obtain ⟨d2, D2, rfl, hd, hsh⟩ := h.2.1 (by rw [HOK.out.1, HOK.out.2]; rfl)
   have hb := h.1
   have HS := Lib.hid (HS.out.below hb)
   have HR := Lib.hid (HR.out.below hb)
   have HCP := Lib.hid (HCP.out.below hb)
   have HD1 := Lib.hid (HD1.out.below hb)
   have HD2 := Lib.hid hd
   have HSF := Lib.hid hsh
   clear h hd hsh hb
   have r0 := HR.out.c0
   have r1 := HR.out.c1
   have r2 := HR.out.c2
   have r3 := HR.out.c3
   have x0 := cell_of_block (k := 0) (HS.out.blockAt 1 rfl) rfl
   have x1 := cell_of_block (k := 1) (HS.out.blockAt 1 rfl) rfl
   have y0 := cell_of_block (k := 0) (HS.out.blockAt 0 rfl) rfl
   have y1 := cell_of_block (k := 1) (HS.out.blockAt 0 rfl) rfl
   go_wp2_with fail
   clear r0 r1 r2 r3 x0 x1 y0 y1
   refine (sRect_any redC redC_ok q p pc C w5 HCP.out).mono ?_
   intro e w6 h
   obtain ⟨d3, D3, rfl, hd, hsh⟩ := h.2.1 (by rw [HOK.out.1, HOK.out.2]; rfl)
   have hb := h.1
   rw [(hsh.congr (rectP_swap p q)).unique HSH.out] at hd
   have HS := Lib.hid (HS.out.below hb)
   have HR := Lib.hid (HR.out.below hb)
   have HCP := Lib.hid (HCP.out.below hb)
   have HD1 := Lib.hid (HD1.out.below hb)
   have HD2 := Lib.hid (HD2.out.below hb)
   have HD3 := Lib.hid hd
   clear h hd hsh hb
   have r0 := HR.out.c0
   have r1 := HR.out.c1
   have r2 := HR.out.c2
   have r3 := HR.out.c3
   have x0 := cell_of_block (k := 0) (HS.out.blockAt 1 rfl) rfl
   have x1 := cell_of_block (k := 1) (HS.out.blockAt 1 rfl) rfl
   have y0 := cell_of_block (k := 0) (HS.out.blockAt 0 rfl) rfl
   have y1 := cell_of_block (k := 1) (HS.out.blockAt 0 rfl) rfl
   go_wp2_with fail
   clear r0 r1 r2 r3 x0 x1 y0 y1
   refine (sRect_any redC redC_ok ⟨p.x, q.y⟩ ⟨q.x, p.y⟩ pc C w6 HCP.out).mono ?_
   intro e w7 h
   obtain ⟨d4, D4, rfl, hd, hsh⟩ := h.2.1 (by rw [(drawn_cross HOK.out.1 HOK.out.2).1, (drawn_cross HOK.out.1 HOK.out.2).2]; rfl)
   have hb := h.1
   rw [(hsh.congr (rectP_cross p q)).unique HSH.out] at hd
   have HS := Lib.hid (HS.out.below hb)
   have HR := Lib.hid (HR.out.below hb)
   have HD1 := Lib.hid (HD1.out.below hb)
   have HD2 := Lib.hid (HD2.out.below hb)
   have HD3 := Lib.hid (HD3.out.below hb)
   have HD4 := Lib.hid hd
   clear h hd hsh hb HCP
   go_wp2_with fail
   refine (same_eq _ d3 d1 _ HD3.out HD1.out).mono ?_
   rintro e w8 ⟨rfl, hb⟩
   have HS := Lib.hid (HS.out.below hb)
   have HR := Lib.hid (HR.out.below hb)
   have HD1 := Lib.hid (HD1.out.below hb)
   have HD2 := Lib.hid (HD2.out.below hb)
   have HD4 := Lib.hid (HD4.out.below hb)
   clear hb HD3
   go_wp2_with fail
   refine (same_eq _ d4 d1 _ HD4.out HD1.out).mono ?_
   rintro e w9 ⟨rfl, hb⟩
   have HS := Lib.hid (HS.out.below hb)
   have HR := Lib.hid (HR.out.below hb)
   have HD1 := Lib.hid (HD1.out.below hb)
   have HD2 := Lib.hid (HD2.out.below hb)
   clear hb HD4
   obtain ⟨lx, hlx⟩ : ∃ lx, min p.x q.x + 1 = lx := ⟨_, rfl⟩
   obtain ⟨ly, hly⟩ : ∃ ly, min p.y q.y + 1 = ly := ⟨_, rfl⟩
   obtain ⟨hx, hhx⟩ : ∃ hx, max p.x q.x - 1 = hx := ⟨_, rfl⟩
   obtain ⟨hy, hhy⟩ : ∃ hy, max p.y q.y - 1 = hy := ⟨_, rfl⟩
   have d1_ := (drawn_iff p).1 HOK.out.1
   have d2_ := (drawn_iff q).1 HOK.out.2
   have e1 : wrap64 (min p.x q.x + 1) = lx := by unfold wrap64; omega
   have e2 : wrap64 (min p.y q.y + 1) = ly := by unfold wrap64; omega
   have e3 : wrap64 (max p.x q.x - 1) = hx := by unfold wrap64; omega
   have e4 : wrap64 (max p.y q.y - 1) = hy := by unfold wrap64; omega
   have HE := Lib.hid (And.intro (And.intro e1 e2) (And.intro e3 e4))
   have HQ := Lib.hid (And.intro (And.intro hlx hly) (And.intro hhx hhy))
   clear d1_ d2_ e1 e2 e3 e4 hlx hly hhx hhy
   repeat ((fail_if_success (with_reducible refine stop_at (id := 14) ?_)); (first | go_values | go_skip | go_guarded | go_step | go_upon | go_back | (simp only [Int.not_lt, Int.not_le] at *; go_simp) | (go_values <;> (try go_simp)) | (go_ite <;> go_prune <;> (try go_simp)) | (split <;> (first | (rename_i hx; exact (hx _ rfl).elim) | go_prune))))
   refine (wpIn_wide (n := 0)).1 ?_
   apply wp_region_slots 30 [⟨26, 28, 16, .cells #[.int .i64 0, .int .i64 0] 26 (0, 0), .cells #[.int .i64 lx, .int .i64 ly] 26 (0, 0)⟩, ⟨27, 29, 17, .cells #[.int .i64 0, .int .i64 0] 26 (0, 0), .cells #[.int .i64 hx, .int .i64 hy] 26 (0, 0)⟩] _ (Rl := [(eqv _), (eqv _), (eqv _), (eqv _), (eqv _), (eqv _), (eqv _), (eqv _), (eqv _), (eqv _), (eqv _), (eqv _), (eqv _), (eqv _), (eqv _), (eqv _), (eqv _), (eqv _), (eqv _), (eqv _), (eqv _), (eqv _), (eqv _), (eqv _), (eqv _), (eqv _), (fun _ _ => True), (fun _ _ => True), (fun _ _ => True), (fun _ _ => True)])
   case hm => kernel_rfl
   case hk => rfl
   case hst => exact ⟨fun _ _ _ _ h => h, fun _ _ _ _ h => h, fun _ _ _ _ h => h, fun _ _ _ _ h => h, fun _ _ _ _ h => h, fun _ _ _ _ h => h, fun _ _ _ _ h => h, fun _ _ _ _ h => h, fun _ _ _ _ h => h, fun _ _ _ _ h => h, fun _ _ _ _ h => h, fun _ _ _ _ h => h, fun _ _ _ _ h => h, fun _ _ _ _ h => h, fun _ _ _ _ h => h, fun _ _ _ _ h => h, fun _ _ _ _ h => h, fun _ _ _ _ h => h, fun _ _ _ _ h => h, fun _ _ _ _ h => h, fun _ _ _ _ h => h, fun _ _ _ _ h => h, fun _ _ _ _ h => h, fun _ _ _ _ h => h, fun _ _ _ _ h => h, fun _ _ _ _ h => h, fun _ _ _ _ h => h, fun _ _ _ _ h => h, fun _ _ _ _ h => h, fun _ _ _ _ h => h, trivial⟩
   case hfo => kernel_rfl
   case ht => kernel_rfl
   case hN => exact Nat.le_refl _
   case hok => kernel_rfl
   case hsk => intro s hs; simp only [List.mem_cons, List.not_mem_nil, or_false] at hs; rcases hs with rfl | rfl <;> exact ⟨Nat.le_of_ble_eq_true rfl, Nat.le_of_ble_eq_true rfl⟩
   case hsteps =>
    refine ⟨?_, ?_, ?_, ?_, ?_, ?_, ?_, ?_, ?_, ?_, ?_, ?_, ?_, ?_, ?_, ?_, ?_, ?_, ?_, ?_, ?_, ?_, ?_, ?_, ?_, ?_, ?_, ?_, ?_, ?_, trivial⟩
    · intro l_ a' w' hA hC hJ hN hB hD; have s4 : a'.tmps[4]? = some _ := (hA.at 4 (by kernel_rfl)).trans rfl; clear hA hD; refine stepOkT_plain rfl ?_; intro K hK; gi_wp2; exact hK _ _ rfl (Below.refl _ _) (SlT.plainB rfl (Below.refl _ _))
    · intro l_ a' w' hA hC hJ hN hB hD; obtain ⟨u101, s101, r101⟩ := hD ⟨0, .data⟩ (by simp) rfl _ rfl; replace r101 : u101 = _ := r101; subst r101
      have h1_ := (HS.out.below hC).blockAt 1 rfl; have c1_0 := cell_of_block (k := 0) h1_ rfl; have c1_1 := cell_of_block (k := 1) h1_ rfl; clear h1_
      clear hA hD; refine stepOkT_plain rfl ?_; intro K hK; gi_wp2; exact hK _ _ rfl (Below.refl _ _) (SlT.plainB rfl (Below.refl _ _))
    · intro l_ a' w' hA hC hJ hN hB hD; have s5 : a'.tmps[5]? = some _ := (hA.at 5 (by kernel_rfl)).trans rfl; clear hA hD; refine stepOkT_plain rfl ?_; intro K hK; gi_wp2; exact hK _ _ rfl (Below.refl _ _) (SlT.plainB rfl (Below.refl _ _))
    · intro l_ a' w' hA hC hJ hN hB hD; obtain ⟨u103, s103, r103⟩ := hD ⟨2, .data⟩ (by simp) rfl _ rfl; replace r103 : u103 = _ := r103; subst r103
      have h1_ := (HS.out.below hC).blockAt 0 rfl; have c1_0 := cell_of_block (k := 0) h1_ rfl; have c1_1 := cell_of_block (k := 1) h1_ rfl; clear h1_
      clear hA hD; refine stepOkT_plain rfl ?_; intro K hK; gi_wp2; exact hK _ _ rfl (Below.refl _ _) (SlT.plainB rfl (Below.refl _ _))
    · intro l_ a' w' hA hC hJ hN hB hD; obtain ⟨u102, s102, r102⟩ := hD ⟨1, .data⟩ (by simp) rfl _ rfl; replace r102 : u102 = _ := r102; subst r102; obtain ⟨u104, s104, r104⟩ := hD ⟨3, .data⟩ (by simp) rfl _ rfl; replace r104 : u104 = _ := r104; subst r104; clear hA hD; refine stepOkT_plain rfl ?_; intro K hK; gi_wp2; exact hK _ _ rfl (Below.refl _ _) (SlT.plainB rfl (Below.refl _ _))
    · intro l_ a' w' hA hC hJ hN hB hD; obtain ⟨u105, s105, r105⟩ := hD ⟨4, .data⟩ (by simp) rfl _ rfl; replace r105 : u105 = _ := r105; subst r105; clear hA hD; refine stepOkT_plain rfl ?_; intro K hK; gi_wp2; rw [HE.out.1.1]; exact hK _ _ rfl (Below.refl _ _) (SlT.plainB rfl (Below.refl _ _))
    · intro l_ a' w' hA hC hJ hN hB hD; have s4 : a'.tmps[4]? = some _ := (hA.at 4 (by kernel_rfl)).trans rfl; clear hA hD; refine stepOkT_plain rfl ?_; intro K hK; gi_wp2; exact hK _ _ rfl (Below.refl _ _) (SlT.plainB rfl (Below.refl _ _))
    · intro l_ a' w' hA hC hJ hN hB hD; obtain ⟨u107, s107, r107⟩ := hD ⟨6, .data⟩ (by simp) rfl _ rfl; replace r107 : u107 = _ := r107; subst r107
      have h1_ := (HS.out.below hC).blockAt 1 rfl; have c1_0 := cell_of_block (k := 0) h1_ rfl; have c1_1 := cell_of_block (k := 1) h1_ rfl; clear h1_
      clear hA hD; refine stepOkT_plain rfl ?_; intro K hK; gi_wp2; exact hK _ _ rfl (Below.refl _ _) (SlT.plainB rfl (Below.refl _ _))
    · intro l_ a' w' hA hC hJ hN hB hD; have s5 : a'.tmps[5]? = some _ := (hA.at 5 (by kernel_rfl)).trans rfl; clear hA hD; refine stepOkT_plain rfl ?_; intro K hK; gi_wp2; exact hK _ _ rfl (Below.refl _ _) (SlT.plainB rfl (Below.refl _ _))
    · intro l_ a' w' hA hC hJ hN hB hD; obtain ⟨u109, s109, r109⟩ := hD ⟨8, .data⟩ (by simp) rfl _ rfl; replace r109 : u109 = _ := r109; subst r109
      have h1_ := (HS.out.below hC).blockAt 0 rfl; have c1_0 := cell_of_block (k := 0) h1_ rfl; have c1_1 := cell_of_block (k := 1) h1_ rfl; clear h1_
      clear hA hD; refine stepOkT_plain rfl ?_; intro K hK; gi_wp2; exact hK _ _ rfl (Below.refl _ _) (SlT.plainB rfl (Below.refl _ _))
    · intro l_ a' w' hA hC hJ hN hB hD; obtain ⟨u108, s108, r108⟩ := hD ⟨7, .data⟩ (by simp) rfl _ rfl; replace r108 : u108 = _ := r108; subst r108; obtain ⟨u110, s110, r110⟩ := hD ⟨9, .data⟩ (by simp) rfl _ rfl; replace r110 : u110 = _ := r110; subst r110; clear hA hD; refine stepOkT_plain rfl ?_; intro K hK; gi_wp2; exact hK _ _ rfl (Below.refl _ _) (SlT.plainB rfl (Below.refl _ _))
    · intro l_ a' w' hA hC hJ hN hB hD; obtain ⟨u111, s111, r111⟩ := hD ⟨10, .data⟩ (by simp) rfl _ rfl; replace r111 : u111 = _ := r111; subst r111; clear hA hD; refine stepOkT_plain rfl ?_; intro K hK; gi_wp2; rw [HE.out.1.2]; exact hK _ _ rfl (Below.refl _ _) (SlT.plainB rfl (Below.refl _ _))
    · intro l_ a' w' hA hC hJ hN hB hD; obtain ⟨u106, s106, r106⟩ := hD ⟨5, .data⟩ (by simp) rfl _ rfl; replace r106 : u106 = _ := r106; subst r106; obtain ⟨u112, s112, r112⟩ := hD ⟨11, .data⟩ (by simp) rfl _ rfl; replace r112 : u112 = _ := r112; subst r112; clear hA hD; refine stepOkT_plain rfl ?_; intro K hK; gi_wp2; exact hK _ _ rfl (Below.refl _ _) (SlT.plainB rfl (Below.refl _ _))
    · intro l_ a' w' hA hC hJ hN hB hD; have s4 : a'.tmps[4]? = some _ := (hA.at 4 (by kernel_rfl)).trans rfl; clear hA hD; refine stepOkT_plain rfl ?_; intro K hK; gi_wp2; exact hK _ _ rfl (Below.refl _ _) (SlT.plainB rfl (Below.refl _ _))
    · intro l_ a' w' hA hC hJ hN hB hD; obtain ⟨u114, s114, r114⟩ := hD ⟨13, .data⟩ (by simp) rfl _ rfl; replace r114 : u114 = _ := r114; subst r114
      have h1_ := (HS.out.below hC).blockAt 1 rfl; have c1_0 := cell_of_block (k := 0) h1_ rfl; have c1_1 := cell_of_block (k := 1) h1_ rfl; clear h1_
      clear hA hD; refine stepOkT_plain rfl ?_; intro K hK; gi_wp2; exact hK _ _ rfl (Below.refl _ _) (SlT.plainB rfl (Below.refl _ _))
    · intro l_ a' w' hA hC hJ hN hB hD; have s5 : a'.tmps[5]? = some _ := (hA.at 5 (by kernel_rfl)).trans rfl; clear hA hD; refine stepOkT_plain rfl ?_; intro K hK; gi_wp2; exact hK _ _ rfl (Below.refl _ _) (SlT.plainB rfl (Below.refl _ _))
    · intro l_ a' w' hA hC hJ hN hB hD; obtain ⟨u116, s116, r116⟩ := hD ⟨15, .data⟩ (by simp) rfl _ rfl; replace r116 : u116 = _ := r116; subst r116
      have h1_ := (HS.out.below hC).blockAt 0 rfl; have c1_0 := cell_of_block (k := 0) h1_ rfl; have c1_1 := cell_of_block (k := 1) h1_ rfl; clear h1_
      clear hA hD; refine stepOkT_plain rfl ?_; intro K hK; gi_wp2; exact hK _ _ rfl (Below.refl _ _) (SlT.plainB rfl (Below.refl _ _))
    · intro l_ a' w' hA hC hJ hN hB hD; obtain ⟨u115, s115, r115⟩ := hD ⟨14, .data⟩ (by simp) rfl _ rfl; replace r115 : u115 = _ := r115; subst r115; obtain ⟨u117, s117, r117⟩ := hD ⟨16, .data⟩ (by simp) rfl _ rfl; replace r117 : u117 = _ := r117; subst r117; clear hA hD; refine stepOkT_plain rfl ?_; intro K hK; gi_wp2; exact hK _ _ rfl (Below.refl _ _) (SlT.plainB rfl (Below.refl _ _))
    · intro l_ a' w' hA hC hJ hN hB hD; obtain ⟨u118, s118, r118⟩ := hD ⟨17, .data⟩ (by simp) rfl _ rfl; replace r118 : u118 = _ := r118; subst r118; clear hA hD; refine stepOkT_plain rfl ?_; intro K hK; gi_wp2; rw [HE.out.2.1]; exact hK _ _ rfl (Below.refl _ _) (SlT.plainB rfl (Below.refl _ _))
    · intro l_ a' w' hA hC hJ hN hB hD; have s4 : a'.tmps[4]? = some _ := (hA.at 4 (by kernel_rfl)).trans rfl; clear hA hD; refine stepOkT_plain rfl ?_; intro K hK; gi_wp2; exact hK _ _ rfl (Below.refl _ _) (SlT.plainB rfl (Below.refl _ _))
    · intro l_ a' w' hA hC hJ hN hB hD; obtain ⟨u120, s120, r120⟩ := hD ⟨19, .data⟩ (by simp) rfl _ rfl; replace r120 : u120 = _ := r120; subst r120
      have h1_ := (HS.out.below hC).blockAt 1 rfl; have c1_0 := cell_of_block (k := 0) h1_ rfl; have c1_1 := cell_of_block (k := 1) h1_ rfl; clear h1_
      clear hA hD; refine stepOkT_plain rfl ?_; intro K hK; gi_wp2; exact hK _ _ rfl (Below.refl _ _) (SlT.plainB rfl (Below.refl _ _))
    · intro l_ a' w' hA hC hJ hN hB hD; have s5 : a'.tmps[5]? = some _ := (hA.at 5 (by kernel_rfl)).trans rfl; clear hA hD; refine stepOkT_plain rfl ?_; intro K hK; gi_wp2; exact hK _ _ rfl (Below.refl _ _) (SlT.plainB rfl (Below.refl _ _))
    · intro l_ a' w' hA hC hJ hN hB hD; obtain ⟨u122, s122, r122⟩ := hD ⟨21, .data⟩ (by simp) rfl _ rfl; replace r122 : u122 = _ := r122; subst r122
      have h1_ := (HS.out.below hC).blockAt 0 rfl; have c1_0 := cell_of_block (k := 0) h1_ rfl; have c1_1 := cell_of_block (k := 1) h1_ rfl; clear h1_
      clear hA hD; refine stepOkT_plain rfl ?_; intro K hK; gi_wp2; exact hK _ _ rfl (Below.refl _ _) (SlT.plainB rfl (Below.refl _ _))
    · intro l_ a' w' hA hC hJ hN hB hD; obtain ⟨u121, s121, r121⟩ := hD ⟨20, .data⟩ (by simp) rfl _ rfl; replace r121 : u121 = _ := r121; subst r121; obtain ⟨u123, s123, r123⟩ := hD ⟨22, .data⟩ (by simp) rfl _ rfl; replace r123 : u123 = _ := r123; subst r123; clear hA hD; refine stepOkT_plain rfl ?_; intro K hK; gi_wp2; exact hK _ _ rfl (Below.refl _ _) (SlT.plainB rfl (Below.refl _ _))
    · intro l_ a' w' hA hC hJ hN hB hD; obtain ⟨u124, s124, r124⟩ := hD ⟨23, .data⟩ (by simp) rfl _ rfl; replace r124 : u124 = _ := r124; subst r124; clear hA hD; refine stepOkT_plain rfl ?_; intro K hK; gi_wp2; rw [HE.out.2.2]; exact hK _ _ rfl (Below.refl _ _) (SlT.plainB rfl (Below.refl _ _))
    · intro l_ a' w' hA hC hJ hN hB hD; obtain ⟨u119, s119, r119⟩ := hD ⟨18, .data⟩ (by simp) rfl _ rfl; replace r119 : u119 = _ := r119; subst r119; obtain ⟨u125, s125, r125⟩ := hD ⟨24, .data⟩ (by simp) rfl _ rfl; replace r125 : u125 = _ := r125; subst r125; clear hA hD; refine stepOkT_plain rfl ?_; intro K hK; gi_wp2; exact hK _ _ rfl (Below.refl _ _) (SlT.plainB rfl (Below.refl _ _))
    · intro l_ a' w' hA hC hJ hN hB hD; clear hA hD; refine stepOkT_plain rfl ?_; intro K hK; gi_wp2; exact hK _ _ trivial ((Below.refl _ _).alloc hC.size _) (SlT.alloc (by intro t ht e; simp only [List.mem_cons, List.not_mem_nil, or_false] at ht; rcases ht with rfl | rfl <;> first | rfl | (exact absurd e (Nat.ne_of_beq_eq_false rfl))) (by intro t ht; simp only [List.mem_cons, List.not_mem_nil, or_false] at ht; rcases ht with rfl | rfl <;> exact Nat.ne_of_beq_eq_false rfl))
    · intro l_ a' w' hA hC hJ hN hB hD; clear hA hD; refine stepOkT_plain rfl ?_; intro K hK; gi_wp2; exact hK _ _ trivial ((Below.refl _ _).alloc hC.size _) (SlT.alloc (by intro t ht e; simp only [List.mem_cons, List.not_mem_nil, or_false] at ht; rcases ht with rfl | rfl <;> first | rfl | (exact absurd e (Nat.ne_of_beq_eq_false rfl))) (by intro t ht; simp only [List.mem_cons, List.not_mem_nil, or_false] at ht; rcases ht with rfl | rfl <;> exact Nat.ne_of_beq_eq_false rfl))
    · intro l_ a' w' hA hC hJ hN hB hD; obtain ⟨u16, s16, r16⟩ := hD ⟨26, .data⟩ (by simp) rfl _ rfl; replace r16 : (fun _ _ => True) u16 w' := r16; obtain ⟨u113, s113, r113⟩ := hD ⟨12, .data⟩ (by simp) rfl _ rfl; replace r113 : u113 = _ := r113; subst r113
      obtain ⟨b16, n16, t16, o16⟩ := hJ.at_ _ (List.mem_of_getElem? (i := 0) rfl) (hB ⟨26, .data⟩ (by simp) rfl)
      rw [show l_.getD 28 false = false from hN] at o16
      replace o16 : w'.heap[b16]? = some (.cells #[.int .i64 0, .int .i64 0] 26 (0, 0)) := o16
      obtain rfl : u16 = ptrB b16 := Option.some.inj (s16.symm.trans t16)
      clear r16
      obtain ⟨b17, n17, t17, o17⟩ := hJ.at_ _ (List.mem_of_getElem? (i := 1) rfl) (hB ⟨27, .phase⟩ (by simp) rfl)
      clear hA hD; refine stepOkT_plain rfl ?_; intro K hK
      have f16 := free_of_block o16
      have c16_0 := cell_of_block (k := 0) o16 rfl
      have c16_1 := cell_of_block (k := 1) o16 rfl
      have f16_0 := f16 0
      have f16_1 := f16 1
      clear f16; unfold ptrB at s16 t16; gi_wp2; exact hK undef _ trivial (by repeat (first | exact Below.refl _ _ | refine Below.setCell ?_ (by omega) _)) (SlT.store _ (by intro t ht e; simp only [List.mem_cons, List.not_mem_nil, or_false] at ht; rcases ht with rfl | rfl <;> first | rfl | (exact absurd e (Nat.ne_of_beq_eq_false rfl))) (by intro t ht; simp only [List.mem_cons, List.not_mem_nil, or_false] at ht; rcases ht with rfl | rfl <;> exact Nat.ne_of_beq_eq_false rfl) (List.mem_of_getElem? (i := 0) rfl) rfl b16 (by unfold envOf; rw [t16]; rfl) (heap_set_same (heap_set_same o16 _) _) (by intro k hk; repeat (first | rfl | refine (Below.heap_setCell _ _ _ k (by simpa using hk)).trans ?_)))
    · intro l_ a' w' hA hC hJ hN hB hD; obtain ⟨u17, s17, r17⟩ := hD ⟨27, .data⟩ (by simp) rfl _ rfl; replace r17 : (fun _ _ => True) u17 w' := r17; obtain ⟨u126, s126, r126⟩ := hD ⟨25, .data⟩ (by simp) rfl _ rfl; replace r126 : u126 = _ := r126; subst r126
      obtain ⟨b16, n16, t16, o16⟩ := hJ.at_ _ (List.mem_of_getElem? (i := 0) rfl) (hB ⟨26, .phase⟩ (by simp) rfl)
      obtain ⟨b17, n17, t17, o17⟩ := hJ.at_ _ (List.mem_of_getElem? (i := 1) rfl) (hB ⟨27, .data⟩ (by simp) rfl)
      rw [show l_.getD 29 false = false from hN] at o17
      replace o17 : w'.heap[b17]? = some (.cells #[.int .i64 0, .int .i64 0] 26 (0, 0)) := o17
      obtain rfl : u17 = ptrB b17 := Option.some.inj (s17.symm.trans t17)
      clear r17
      clear hA hD; refine stepOkT_plain rfl ?_; intro K hK
      have f17 := free_of_block o17
      have c17_0 := cell_of_block (k := 0) o17 rfl
      have c17_1 := cell_of_block (k := 1) o17 rfl
      have f17_0 := f17 0
      have f17_1 := f17 1
      clear f17; unfold ptrB at s17 t17; gi_wp2; exact hK undef _ trivial (by repeat (first | exact Below.refl _ _ | refine Below.setCell ?_ (by omega) _)) (SlT.store _ (by intro t ht e; simp only [List.mem_cons, List.not_mem_nil, or_false] at ht; rcases ht with rfl | rfl <;> first | rfl | (exact absurd e (Nat.ne_of_beq_eq_false rfl))) (by intro t ht; simp only [List.mem_cons, List.not_mem_nil, or_false] at ht; rcases ht with rfl | rfl <;> exact Nat.ne_of_beq_eq_false rfl) (List.mem_of_getElem? (i := 1) rfl) rfl b17 (by unfold envOf; rw [t17]; rfl) (heap_set_same (heap_set_same o17 _) _) (by intro k hk; repeat (first | rfl | refine (Below.heap_setCell _ _ _ k (by simpa using hk)).trans ?_)))
   case hend =>
    intro w10 hC
    simp only [EndFrom, eqv, forall_eq, Act.put, List.length_cons, List.length_nil, List.drop_succ_cons, List.drop_zero, Nat.reduceAdd, List.setIfInBounds_toArray, List.set_cons_succ, List.set_cons_zero]
    intro pA _ pB _ pC _ pD _ hX
    obtain ⟨bA, hA1, hA2, hA3⟩ := hX.1 _ (List.mem_of_getElem? (i := 0) rfl)
    obtain ⟨bB, hB1, hB2, hB3⟩ := hX.1 _ (List.mem_of_getElem? (i := 1) rfl)
    obtain rfl : pA = ptrB bA := Option.some.inj hA2
    obtain rfl : pB = ptrB bB := Option.some.inj hB2
    clear hX hA2 hB2
    unfold ptrB
    dsimp only at hA3 hB3
    have HA := Lib.hid (BlkA.mk hA3)
    have HB := Lib.hid (BlkA.mk hB3)
    have HS := Lib.hid (HS.out.below hC)
    have HR := Lib.hid (HR.out.below hC)
    have HD1 := Lib.hid (HD1.out.below hC)
    have HD2 := Lib.hid (HD2.out.below hC)
    clear hA3 hB3 hC
    have q0 := cell_of_block (k := 0) HA.out.at_ rfl
    have q1 := cell_of_block (k := 1) HA.out.at_ rfl
    have q2 := cell_of_block (k := 0) HB.out.at_ rfl
    have q3 := cell_of_block (k := 1) HB.out.at_ rfl
    rcases Classical.em (hx < lx ∨ hy < ly) with hw | hw
    · have HW := Lib.hid hw
      obtain rfl : D1 = D2 := HSH.out.unique (HSF.out.congr (frameP_whole (by have := HQ.out; have := HW.out; omega)))
      gi_wp2
      repeat ((fail_if_success (with_reducible refine stop_at (id := 16) ?_)); (first | go_values | go_skip | go_guarded | go_step | go_upon | go_back | (simp only [Int.not_lt, Int.not_le] at *; go_simp) | (go_values <;> (try go_simp)) | (go_ite <;> go_prune <;> (try go_simp)) | (split <;> (first | (rename_i hx; exact (hx _ rfl).elim) | go_prune))))
      all_goals
       clear q0 q1 q2 q3
       go_wp2_with fail
       refine (same_eq _ d2 d1 _ HD2.out HD1.out).mono ?_
       rintro e w11 ⟨rfl, hb⟩
       have HS := Lib.hid (HS.out.below hb)
       clear hb
       go_wp2_with fail
       go_ret
       exact ⟨rfl, HS.out.low⟩
    · have HW := Lib.hid hw
      have hw1 : decide (hx < lx) = false := by simp; omega
      have hw2 : decide (hy < ly) = false := by simp; omega
      clear hw
      gi_wp2
      repeat ((fail_if_success (with_reducible refine stop_at (id := 17) ?_)); (first | go_values | go_skip | go_guarded | go_step | go_upon | go_back | (simp only [Int.not_lt, Int.not_le] at *; go_simp) | (go_values <;> (try go_simp)) | (go_ite <;> go_prune <;> (try go_simp)) | (split <;> (first | (rename_i hx; exact (hx _ rfl).elim) | go_prune))))
      have r0 := HR.out.c0
      have r1 := HR.out.c1
      have r2 := HR.out.c2
      have r3 := HR.out.c3
      go_wp2_with fail
      clear q0 q1 q2 q3 r0 r1 r2 r3
      refine (sRect_any redC redC_ok ⟨lx, ly⟩ ⟨hx, hy⟩ d2 D2 _ HD2.out).mono ?_
      intro e w11 h
      have hin := drawn_in HOK.out.1 HOK.out.2
      rw [HQ.out.1.1, HQ.out.1.2, HQ.out.2.1, HQ.out.2.2] at hin
      have hin := hin.resolve_right HW.out
      obtain ⟨d5, D5, rfl, hd, hsh⟩ := h.2.1 (by rw [hin.1, hin.2]; rfl)
      have hb := h.1
      have hfin := fun x => frameP_in (a := p) (b := q) (by rw [HQ.out.1.1, HQ.out.1.2, HQ.out.2.1, HQ.out.2.2]; exact HW.out) x
      rw [HQ.out.1.1, HQ.out.1.2, HQ.out.2.1, HQ.out.2.2] at hfin
      rw [((HSF.out.more hsh).congr hfin).unique HSH.out] at hd
      have HS := Lib.hid (HS.out.below hb)
      have HD1 := Lib.hid (HD1.out.below hb)
      have HD5 := Lib.hid hd
      clear h hd hsh hb hin hfin
      go_wp2_with fail
      refine (same_eq _ d5 d1 _ HD5.out HD1.out).mono ?_
      rintro e w12 ⟨rfl, hb⟩
      have HS := Lib.hid (HS.out.below hb)
      clear hb
      go_wp2_with fail
      go_ret
      exact ⟨rfl, HS.out.low⟩
end Go.Proofs.YthcdkkmjnglmjaaGreatDoor
