/- Merged texts: RfD DgL DgS DgR DgN DrV. -/
import Derived.Test.YthcdkkmjnglmjaaGreatDoorM18
import Derived.Test.YthcdkkmjnglmjaaGreatDoorM14
import Derived.Test.YthcdkkmjnglmjaaGreatDoorM22
import Derived.Test.YthcdkkmjnglmjaaGreatDoorM21
set_option linter.unusedSimpArgs false
set_option linter.unusedVariables false
/- The document's layer 3: Over. -/
namespace Go.Proofs.YthcdkkmjnglmjaaGreatDoor
open Go.RowKit Go.Shelf
attribute [local go_sem] Oper.semAt_some
theorem wrap_u {x : Int} (h : 0 ≤ x ∧ x < 256) : wrap64 x = x := by unfold wrap64; omega
set_option maxRecDepth 100000 in
set_option maxHeartbeats 1000000 in
theorem r3Parts_any (c : ColT) (hc : okC c) (w : World) : Calls Tryz.prog 102 #[c.val] w (Gives (.agg #[.int .i64 c.r, .int .i64 c.g, .int .i64 c.b, .int .i64 c.a]) w) := by
 have HS := H7 (St.start w)
 obtain ⟨r, g, b, a⟩ := c
 have e0 := wrap_u hc.1.1
 have e1 := wrap_u hc.1.2
 have e2 := wrap_u hc.2.1
 have e3 := wrap_u hc.2.2
 simp only at *
 unfold ColT.val
 clear hc
 go_enter Tryz.func102, Tryz.ntmps102
 repeat ((fail_if_success (with_reducible refine stop_at (id := 1) ?_)); (first | go_values | go_skip | go_guarded | go_step | go_upon | go_back | (simp only [Int.not_lt, Int.not_le] at *; go_simp) | (go_values <;> (try go_simp)) | (go_ite <;> go_prune <;> (try go_simp)) | (split <;> (first | (rename_i hx; exact (hx _ rfl).elim) | go_prune))))
 have hs_ := ((HS.out.alloc (.cells #[.int .u8 r, .int .u8 g, .int .u8 b, .int .u8 a] 34)).alloc (.cells #[.int .i64 0, .int .i64 0, .int .i64 0, .int .i64 0] 143))
 obtain ⟨w1, hw_⟩ : ∃ w1 : World, ((w.alloc (.cells #[.int .u8 r, .int .u8 g, .int .u8 b, .int .u8 a] 34)).alloc (.cells #[.int .i64 0, .int .i64 0, .int .i64 0, .int .i64 0] 143)) = w1 := ⟨_, rfl⟩
 rw [hw_] at hs_
 try simp only [World.size_alloc] at hs_
 have HS := H7 hs_
 rw [hw_]
 clear hw_ hs_
 have c0 := h7c HS 1 0 rfl rfl
 have c1 := h7c HS 1 1 rfl rfl
 have c2 := h7c HS 1 2 rfl rfl
 have c3 := h7c HS 1 3 rfl rfl
 have k0 := h7c HS 0 0 rfl rfl
 have k1 := h7c HS 0 1 rfl rfl
 have k2 := h7c HS 0 2 rfl rfl
 have k3 := h7c HS 0 3 rfl rfl
 have f0 := f7b (HS.out.blockAt 0 rfl)
 go_wp2_with fail
 refine bodyPost_ret (v := .agg #[.int .i64 r, .int .i64 g, .int .i64 b, .int .i64 a]) (by simp [results, Tryz.results102, go_sem, k0, k1, k2, k3]) rfl ⟨rfl, ?_⟩
 have h0 := HS.out.low
 (repeat (first | exact B7 _ _ | assumption | refine Below.alloc ?_ (by first | omega | (simp; done) | (simp; omega)) _ | refine Below.setCell ?_ (by first | omega | (simp; done) | (simp; omega)) _ | refine Below.drew ?_))
set_option maxRecDepth 100000 in
set_option maxHeartbeats 1000000 in
theorem r3Of_any (c : ColT) (hc : okC c) (w : World) : Calls Tryz.prog 103 #[.agg #[.int .i64 c.r, .int .i64 c.g, .int .i64 c.b, .int .i64 c.a]] w (Gives c.val w) := by
 have HS := H7 (St.start w)
 obtain ⟨r, g, b, a⟩ := c
 have e0 : r % 256 = r := by have := hc.1.1; simp only at this; omega
 have e1 : g % 256 = g := by have := hc.1.2; simp only at this; omega
 have e2 : b % 256 = b := by have := hc.2.1; simp only at this; omega
 have e3 : a % 256 = a := by have := hc.2.2; simp only at this; omega
 simp only at *
 unfold ColT.val
 clear hc
 go_enter Tryz.func103, Tryz.ntmps103
 repeat ((fail_if_success (with_reducible refine stop_at (id := 1) ?_)); (first | go_values | go_skip | go_guarded | go_step | go_upon | go_back | (simp only [Int.not_lt, Int.not_le] at *; go_simp) | (go_values <;> (try go_simp)) | (go_ite <;> go_prune <;> (try go_simp)) | (split <;> (first | (rename_i hx; exact (hx _ rfl).elim) | go_prune))))
 have hs_ := ((HS.out.alloc (.cells #[.int .i64 r, .int .i64 g, .int .i64 b, .int .i64 a] 143)).alloc (.cells #[.int .u8 0, .int .u8 0, .int .u8 0, .int .u8 0] 34))
 obtain ⟨w1, hw_⟩ : ∃ w1 : World, ((w.alloc (.cells #[.int .i64 r, .int .i64 g, .int .i64 b, .int .i64 a] 143)).alloc (.cells #[.int .u8 0, .int .u8 0, .int .u8 0, .int .u8 0] 34)) = w1 := ⟨_, rfl⟩
 rw [hw_] at hs_
 try simp only [World.size_alloc] at hs_
 have HS := H7 hs_
 rw [hw_]
 clear hw_ hs_
 have c0 := h7c HS 1 0 rfl rfl
 have c1 := h7c HS 1 1 rfl rfl
 have c2 := h7c HS 1 2 rfl rfl
 have c3 := h7c HS 1 3 rfl rfl
 have k0 := h7c HS 0 0 rfl rfl
 have k1 := h7c HS 0 1 rfl rfl
 have k2 := h7c HS 0 2 rfl rfl
 have k3 := h7c HS 0 3 rfl rfl
 have f0 := f7b (HS.out.blockAt 0 rfl)
 go_wp2_with fail
 refine bodyPost_ret (v := .agg #[.int .u8 r, .int .u8 g, .int .u8 b, .int .u8 a]) (by simp [results, Tryz.results103, go_sem, k0, k1, k2, k3]) rfl ⟨rfl, ?_⟩
 have h0 := HS.out.low
 (repeat (first | exact B7 _ _ | assumption | refine Below.alloc ?_ (by first | omega | (simp; done) | (simp; omega)) _ | refine Below.setCell ?_ (by first | omega | (simp; done) | (simp; omega)) _ | refine Below.drew ?_))
theorem shI_refs {x y p s : Int} (hx : 0 ≤ x ∧ x < 256) (hy : 0 ≤ y ∧ y < 256) (hp : 0 ≤ p ∧ p < 256) (hs : 255 - p = s) :
 wrap64 (255 - p) = s ∧ ∃ A B V : Int, A = x * s ∧ B = y * p ∧ V = shI x y p ∧ wrap64 (y * p) = B ∧ wrap64 (x * s) = A ∧ wrap64 (B + A) = B + A ∧ wrap64 (B + A + 127) = B + A + 127 ∧ wrap64 ((B + A + 127).tdiv 255) = V := by
 have h := sh_sum hx hy hp
 have h2 := shI_ok hx hy hp
 unfold shI at h2 ⊢
 rw [hs] at h h2 ⊢
 obtain ⟨A, hA⟩ : ∃ A, x * s = A := ⟨_, rfl⟩
 obtain ⟨B, hB⟩ : ∃ B, y * p = B := ⟨_, rfl⟩
 rw [hA, hB] at h h2 ⊢
 clear hA hB
 refine ⟨by unfold wrap64; omega, A, B, _, rfl, rfl, rfl, ?_, ?_, ?_, ?_, ?_⟩
 · unfold wrap64; omega
 · unfold wrap64; omega
 · unfold wrap64; omega
 · unfold wrap64; omega
 · rw [Int.tdiv_eq_ediv_of_nonneg (by omega : 0 ≤ B + A + 127)]; unfold wrap64; omega
theorem shA_refs {x p s : Int} (hx : 0 ≤ x ∧ x < 256) (hp : 0 ≤ p ∧ p < 256) (hs : 255 - p = s) :
 ∃ A V : Int, A = x * s ∧ V = shI x 0 p ∧ wrap64 (x * s) = A ∧ wrap64 (A + 127) = A + 127 ∧ wrap64 ((A + 127).tdiv 255) = V ∧ wrap64 (p + V) = p + V := by
 have h := sh_sum hx (y := 0) ⟨by omega, by omega⟩ hp
 have h2 := over_a hx hp
 unfold shI at h2 ⊢
 rw [Int.zero_mul] at h h2 ⊢
 rw [hs] at h h2 ⊢
 obtain ⟨A, hA⟩ : ∃ A, x * s = A := ⟨_, rfl⟩
 rw [hA] at h h2 ⊢
 clear hA
 refine ⟨A, _, rfl, rfl, ?_, ?_, ?_, ?_⟩
 · unfold wrap64; omega
 · unfold wrap64; omega
 · rw [Int.tdiv_eq_ediv_of_nonneg (by omega : 0 ≤ A + 127)]; unfold wrap64; omega
 · unfold wrap64; omega
set_option maxRecDepth 100000 in
set_option maxHeartbeats 2000000 in
theorem r3Over_any (u o : ColT) (hu : okC u) (ho : okC o) (w : World) : Calls Tryz.prog 71 #[u.val, o.val] w (Gives (overC u o).val w) := by
 have HU := H7 hu
 have HO := H7 ho
 have HPU := H7 (fun w' => r3Parts_any u hu w')
 have HPO := H7 (fun w' => r3Parts_any o ho w')
 have HOF := H7 (fun w' => r3Of_any (overC u o) (overC_ok hu ho) w')
 have HS := H7 (St.start w)
 obtain ⟨ur, ug, ub, ua⟩ := u
 obtain ⟨r, g, b, a⟩ := o
 unfold ColT.val at *
 simp only at *
 clear hu ho
 go_enter Tryz.func71, Tryz.ntmps71
 repeat ((fail_if_success (with_reducible refine stop_at (id := 1) ?_)); (first | go_values | go_skip | go_guarded | go_step | go_upon | go_back | (simp only [Int.not_lt, Int.not_le] at *; go_simp) | (go_values <;> (try go_simp)) | (go_ite <;> go_prune <;> (try go_simp)) | (split <;> (first | (rename_i hx; exact (hx _ rfl).elim) | go_prune))))
 have hs_ := (((HS.out.alloc (.cells #[.int .u8 ur, .int .u8 ug, .int .u8 ub, .int .u8 ua] 34)).alloc (.cells #[.int .u8 r, .int .u8 g, .int .u8 b, .int .u8 a] 34)).alloc (.cells #[.int .u8 0, .int .u8 0, .int .u8 0, .int .u8 0] 34))
 obtain ⟨w1, hw_⟩ : ∃ w1 : World, (((w.alloc (.cells #[.int .u8 ur, .int .u8 ug, .int .u8 ub, .int .u8 ua] 34)).alloc (.cells #[.int .u8 r, .int .u8 g, .int .u8 b, .int .u8 a] 34)).alloc (.cells #[.int .u8 0, .int .u8 0, .int .u8 0, .int .u8 0] 34)) = w1 := ⟨_, rfl⟩
 rw [hw_] at hs_
 try simp only [World.size_alloc] at hs_
 have HS := H7 hs_
 rw [hw_]
 clear hw_ hs_
 refine (wpIn_wide (n := 0)).1 ?_
 apply wp_region_slots 8 [⟨4, 6, 5, .cells #[.int .i64 0, .int .i64 0, .int .i64 0, .int .i64 0] 143 (0, 0), .cells #[.int .i64 ur, .int .i64 ug, .int .i64 ub, .int .i64 ua] 143 (0, 0)⟩, ⟨5, 7, 6, .cells #[.int .i64 0, .int .i64 0, .int .i64 0, .int .i64 0] 143 (0, 0), .cells #[.int .i64 r, .int .i64 g, .int .i64 b, .int .i64 a] 143 (0, 0)⟩] _ (Rl := [(eqv _), (eqv _), (eqv _), (eqv _), (fun _ _ => True), (fun _ _ => True), (fun _ _ => True), (fun _ _ => True)])
 case hm => kernel_rfl
 case hk => rfl
 case hst => repeat (first | exact trivial | refine ⟨fun _ _ _ _ h => h, ?_⟩)
 case hfo => kernel_rfl
 case ht => kernel_rfl
 case hN => exact Nat.le_refl _
 case hok => kernel_rfl
 case hsk => intro s hs; simp only [List.mem_cons, List.not_mem_nil, or_false] at hs; rcases hs with rfl | rfl <;> exact ⟨Nat.le_of_ble_eq_true rfl, Nat.le_of_ble_eq_true rfl⟩
 case hsteps =>
  refine ⟨?_, ?_, ?_, ?_, ?_, ?_, ?_, ?_, trivial⟩
  · intro l_ a' w' hA hC hJ hN hB hD; have s2 := hA.to 2 (by kernel_rfl) rfl
    have h1_ := (HS.out.below hC).blockAt 2 rfl; have c1_0 := c7b (k := 0) h1_ rfl; have c1_1 := c7b (k := 1) h1_ rfl; have c1_2 := c7b (k := 2) h1_ rfl; have c1_3 := c7b (k := 3) h1_ rfl; clear h1_
    clear hA hD; refine o7t rfl ?_; intro K hK; gi_wp2; exact hK _ _ rfl (B7 _ _) (SlT.plainB rfl (B7 _ _))
  · intro l_ a' w' hA hC hJ hN hB hD; obtain ⟨u8, s8, rfl⟩ := hD ⟨0, .data⟩ (by simp) rfl _ rfl; clear hA hD; refine o7t rfl ?_; intro K hK
    gi_wp2_with fail; refine (callsIn_wide.2 (HPU.out _)).mono ?_; rintro e w2 ⟨rfl, hb⟩
    exact hK _ _ rfl (hb.mono hC.size) (SlT.plainB rfl hb)
  · intro l_ a' w' hA hC hJ hN hB hD; have s3 := hA.to 3 (by kernel_rfl) rfl
    have h1_ := (HS.out.below hC).blockAt 1 rfl; have c1_0 := c7b (k := 0) h1_ rfl; have c1_1 := c7b (k := 1) h1_ rfl; have c1_2 := c7b (k := 2) h1_ rfl; have c1_3 := c7b (k := 3) h1_ rfl; clear h1_
    clear hA hD; refine o7t rfl ?_; intro K hK; gi_wp2; exact hK _ _ rfl (B7 _ _) (SlT.plainB rfl (B7 _ _))
  · intro l_ a' w' hA hC hJ hN hB hD; obtain ⟨u10, s10, rfl⟩ := hD ⟨2, .data⟩ (by simp) rfl _ rfl; clear hA hD; refine o7t rfl ?_; intro K hK
    gi_wp2_with fail; refine (callsIn_wide.2 (HPO.out _)).mono ?_; rintro e w2 ⟨rfl, hb⟩
    exact hK _ _ rfl (hb.mono hC.size) (SlT.plainB rfl hb)
  · intro l_ a' w' hA hC hJ hN hB hD; clear hA hD; refine o7t rfl ?_; intro K hK; gi_wp2; exact hK _ _ trivial ((B7 _ _).alloc hC.size _) (SlT.alloc (by intro t ht e; simp only [List.mem_cons, List.not_mem_nil, or_false] at ht; rcases ht with rfl | rfl <;> first | rfl | (exact absurd e (Nat.ne_of_beq_eq_false rfl))) (by intro t ht; simp only [List.mem_cons, List.not_mem_nil, or_false] at ht; rcases ht with rfl | rfl <;> exact Nat.ne_of_beq_eq_false rfl))
  · intro l_ a' w' hA hC hJ hN hB hD; clear hA hD; refine o7t rfl ?_; intro K hK; gi_wp2; exact hK _ _ trivial ((B7 _ _).alloc hC.size _) (SlT.alloc (by intro t ht e; simp only [List.mem_cons, List.not_mem_nil, or_false] at ht; rcases ht with rfl | rfl <;> first | rfl | (exact absurd e (Nat.ne_of_beq_eq_false rfl))) (by intro t ht; simp only [List.mem_cons, List.not_mem_nil, or_false] at ht; rcases ht with rfl | rfl <;> exact Nat.ne_of_beq_eq_false rfl))
  · intro l_ a' w' hA hC hJ hN hB hD; obtain ⟨u5, s5, r5⟩ := hD ⟨4, .data⟩ (by simp) rfl _ rfl; replace r5 : (fun _ _ => True) u5 w' := r5; obtain ⟨u9, s9, rfl⟩ := hD ⟨1, .data⟩ (by simp) rfl _ rfl
    obtain ⟨b5, n5, t5, o5⟩ := hJ.at_ _ (List.mem_of_getElem? (i := 0) rfl) (hB ⟨4, .data⟩ (by simp) rfl)
    rw [show l_.getD 6 false = false from hN] at o5
    replace o5 : w'.heap[b5]? = some (.cells #[.int .i64 0, .int .i64 0, .int .i64 0, .int .i64 0] 143 (0, 0)) := o5
    obtain rfl : u5 = ptrB b5 := Option.some.inj (s5.symm.trans t5)
    clear r5
    obtain ⟨b6, n6, t6, o6⟩ := hJ.at_ _ (List.mem_of_getElem? (i := 1) rfl) (hB ⟨5, .phase⟩ (by simp) rfl)
    clear hA hD; refine o7t rfl ?_; intro K hK
    have f5 := f7b o5
    have c5_0 := c7b (k := 0) o5 rfl
    have c5_1 := c7b (k := 1) o5 rfl
    have c5_2 := c7b (k := 2) o5 rfl
    have c5_3 := c7b (k := 3) o5 rfl
    have f5_0 := f5 0
    have f5_1 := f5 1
    have f5_2 := f5 2
    have f5_3 := f5 3
    clear f5; unfold ptrB at s5 t5; gi_wp2; exact hK undef _ trivial (by repeat (first | exact B7 _ _ | refine Below.setCell ?_ (by omega) _)) (SlT.store _ (by intro t ht e; simp only [List.mem_cons, List.not_mem_nil, or_false] at ht; rcases ht with rfl | rfl <;> first | rfl | (exact absurd e (Nat.ne_of_beq_eq_false rfl))) (by intro t ht; simp only [List.mem_cons, List.not_mem_nil, or_false] at ht; rcases ht with rfl | rfl <;> exact Nat.ne_of_beq_eq_false rfl) (List.mem_of_getElem? (i := 0) rfl) rfl b5 (by unfold envOf; rw [t5]; rfl) (h7s (h7s (h7s (h7s o5 _) _) _) _) (by intro k hk; repeat (first | rfl | refine (Below.heap_setCell _ _ _ k (by simpa using hk)).trans ?_)))
  · intro l_ a' w' hA hC hJ hN hB hD; obtain ⟨u6, s6, r6⟩ := hD ⟨5, .data⟩ (by simp) rfl _ rfl; replace r6 : (fun _ _ => True) u6 w' := r6; obtain ⟨u11, s11, rfl⟩ := hD ⟨3, .data⟩ (by simp) rfl _ rfl
    obtain ⟨b5, n5, t5, o5⟩ := hJ.at_ _ (List.mem_of_getElem? (i := 0) rfl) (hB ⟨4, .phase⟩ (by simp) rfl)
    obtain ⟨b6, n6, t6, o6⟩ := hJ.at_ _ (List.mem_of_getElem? (i := 1) rfl) (hB ⟨5, .data⟩ (by simp) rfl)
    rw [show l_.getD 7 false = false from hN] at o6
    replace o6 : w'.heap[b6]? = some (.cells #[.int .i64 0, .int .i64 0, .int .i64 0, .int .i64 0] 143 (0, 0)) := o6
    obtain rfl : u6 = ptrB b6 := Option.some.inj (s6.symm.trans t6)
    clear r6
    clear hA hD; refine o7t rfl ?_; intro K hK
    have f6 := f7b o6
    have c6_0 := c7b (k := 0) o6 rfl
    have c6_1 := c7b (k := 1) o6 rfl
    have c6_2 := c7b (k := 2) o6 rfl
    have c6_3 := c7b (k := 3) o6 rfl
    have f6_0 := f6 0
    have f6_1 := f6 1
    have f6_2 := f6 2
    have f6_3 := f6 3
    clear f6; unfold ptrB at s6 t6; gi_wp2; exact hK undef _ trivial (by repeat (first | exact B7 _ _ | refine Below.setCell ?_ (by omega) _)) (SlT.store _ (by intro t ht e; simp only [List.mem_cons, List.not_mem_nil, or_false] at ht; rcases ht with rfl | rfl <;> first | rfl | (exact absurd e (Nat.ne_of_beq_eq_false rfl))) (by intro t ht; simp only [List.mem_cons, List.not_mem_nil, or_false] at ht; rcases ht with rfl | rfl <;> exact Nat.ne_of_beq_eq_false rfl) (List.mem_of_getElem? (i := 1) rfl) rfl b6 (by unfold envOf; rw [t6]; rfl) (h7s (h7s (h7s (h7s o6 _) _) _) _) (by intro k hk; repeat (first | rfl | refine (Below.heap_setCell _ _ _ k (by simpa using hk)).trans ?_)))
 case hend =>
  intro w3 hC
  simp only [EndFrom, eqv, forall_eq, Act.put, List.length_cons, List.length_nil, List.drop_succ_cons, List.drop_zero, Nat.reduceAdd, List.setIfInBounds_toArray, List.set_cons_succ, List.set_cons_zero]
  intro pA _ pB _ pC _ pD _ hX
  obtain ⟨bA, hA1, hA2, hA3⟩ := hX.1 _ (List.mem_of_getElem? (i := 0) rfl)
  obtain ⟨bB, hB1, hB2, hB3⟩ := hX.1 _ (List.mem_of_getElem? (i := 1) rfl)
  obtain rfl : pA = ptrB bA := Option.some.inj hA2
  obtain rfl : pB = ptrB bB := Option.some.inj hB2
  clear hX hA2 hB2
  unfold ptrB
  dsimp only at hA3 hB3
  have HS := H7 (HS.out.below hC)
  have u0 := c7b (k := 0) hA3 rfl
  have u1 := c7b (k := 1) hA3 rfl
  have u2 := c7b (k := 2) hA3 rfl
  have u3 := c7b (k := 3) hA3 rfl
  have o0 := c7b (k := 0) hB3 rfl
  have o1 := c7b (k := 1) hB3 rfl
  have o2 := c7b (k := 2) hB3 rfl
  have o3 := c7b (k := 3) hB3 rfl
  clear hA3 hB3 hC
  gi_wp2
  have ex : overC ⟨ur, ug, ub, ua⟩ ⟨r, g, b, a⟩ = ⟨shI ur r a, shI ug g a, shI ub b a, a + shI ua 0 a⟩ := rfl
  rw [ex] at HOF ⊢
  obtain ⟨s, hs⟩ : ∃ s, 255 - a = s := ⟨_, rfl⟩
  obtain ⟨es, Ar, Br, Vr, -, -, hr, r1, r2, r3, r4, r5⟩ := shI_refs HU.out.1.1 HO.out.1.1 HO.out.2.2 hs
  obtain ⟨-, Ag, Bg, Vg, -, -, hg, g1, g2, g3, g4, g5⟩ := shI_refs HU.out.1.2 HO.out.1.2 HO.out.2.2 hs
  obtain ⟨-, Ab, Bb, Vb, -, -, hb, b1, b2, b3, b4, b5⟩ := shI_refs HU.out.2.1 HO.out.2.1 HO.out.2.2 hs
  obtain ⟨Aa, Va, -, ha, a1, a2, a3, a4⟩ := shA_refs HU.out.2.2 HO.out.2.2 hs
  simp only at *
  rw [← hr, ← hg, ← hb, ← ha] at HOF ⊢
  clear hs hr hg hb ha ex
  go_wp2_with fail
  clear u0 u1 u2 u3 o0 o1 o2 o3
  refine (HOF.out _).mono ?_
  rintro e w5 ⟨rfl, hb_⟩
  have HS := H7 (HS.out.below hb_)
  clear hb_
  have k0 := h7c HS 0 0 rfl rfl
  have k1 := h7c HS 0 1 rfl rfl
  have k2 := h7c HS 0 2 rfl rfl
  have k3 := h7c HS 0 3 rfl rfl
  have f0 := f7b (HS.out.blockAt 0 rfl)
  go_wp2_with fail
  refine bodyPost_ret (v := .agg #[.int .u8 Vr, .int .u8 Vg, .int .u8 Vb, .int .u8 (a + Va)]) (by simp [results, Tryz.results71, go_sem, k0, k1, k2, k3]) rfl ⟨rfl, ?_⟩
  have h0 := HS.out.low
  (repeat (first | exact B7 _ _ | assumption | refine Below.alloc ?_ (by first | omega | (simp; done) | (simp; omega)) _ | refine Below.setCell ?_ (by first | omega | (simp; done) | (simp; omega)) _ | refine Below.drew ?_))
end Go.Proofs.YthcdkkmjnglmjaaGreatDoor
/- Layer 7: the document's pixel by pixel, plain. -/
namespace Go.Proofs.YthcdkkmjnglmjaaGreatDoor
open Go.RowKit Go.Shelf
/-- The first k pixels gone through, row by row: those of q turned by f. -/
def pixTo (C : CanT) (q : Nat → Nat → Bool) (f : ColT → ColT) : Nat → CanT
 | 0 => C
 | k + 1 => if q (k % (8 * C.wide)) (k / (8 * C.wide)) = true then dotC (pixTo C q f k) ⟨((k % (8 * C.wide) : Nat) : Int), ((k / (8 * C.wide) : Nat) : Int), f (colC C (k % (8 * C.wide)) (k / (8 * C.wide)))⟩ else pixTo C q f k
theorem pixTo_wide (C : CanT) (q : Nat → Nat → Bool) (f : ColT → ColT) : ∀ k, (pixTo C q f k).wide = C.wide ∧ (pixTo C q f k).high = C.high
 | 0 => ⟨rfl, rfl⟩
 | k + 1 => by
  have h := pixTo_wide C q f k
  unfold pixTo
  split
  · rw [dotC_wide, dotC_high]; exact h
  · exact h
theorem pix_on {C : CanT} (hC : okCan C) {k : Nat} (hk : k < 8 * C.high * (8 * C.wide)) : k % (8 * C.wide) < 8 * C.wide ∧ k / (8 * C.wide) < 8 * C.high := by
 have hw : 0 < 8 * C.wide := by have := hC.wide; omega
 exact ⟨Nat.mod_lt _ hw, Nat.div_lt_of_lt_mul (by rw [Nat.mul_comm]; exact hk)⟩
theorem pixTo_ok {C : CanT} (hC : okCan C) (q : Nat → Nat → Bool) {f : ColT → ColT} (hf : ∀ c, okC c → okC (f c)) : ∀ k, k ≤ 8 * C.high * (8 * C.wide) → okCan (pixTo C q f k)
 | 0, _ => hC
 | k + 1, hk => by
  have h := pixTo_ok hC q hf k (by omega)
  have ho := pix_on hC (k := k) (by omega)
  unfold pixTo
  split
  · exact h.dotC (hf _ ((hC.tile ho.1 ho.2).choose_spec.2.2))
  · exact h
theorem pixTo_col {C : CanT} (hC : okCan C) (q : Nat → Nat → Bool) {f : ColT → ColT} (hf : ∀ c, okC c → okC (f c)) {x y : Nat} (hx : x < 8 * C.wide) (hy : y < 8 * C.high) :
 ∀ k, k ≤ 8 * C.high * (8 * C.wide) → colC (pixTo C q f k) x y = if y * (8 * C.wide) + x < k ∧ q x y = true then f (colC C x y) else colC C x y
 | 0, _ => by rw [if_neg (by omega)]; rfl
 | k + 1, hk => by
  have h := pixTo_col hC q hf hx hy k (by omega)
  have hw := pixTo_wide C q f k
  have ho := pix_on hC (k := k) (by omega)
  have hok := pixTo_ok hC q hf k (by omega)
  have hkd : k / (8 * C.wide) * (8 * C.wide) + k % (8 * C.wide) = k := by rw [Nat.mul_comm]; exact Nat.div_add_mod k (8 * C.wide)
  have huniq : y * (8 * C.wide) + x = k → x = k % (8 * C.wide) ∧ y = k / (8 * C.wide) := fun e => by
   subst e
   refine ⟨?_, ?_⟩
   · rw [Nat.add_comm, Nat.add_mul_mod_self_right, Nat.mod_eq_of_lt hx]
   · rw [Nat.add_comm, Nat.add_mul_div_right _ _ (by omega), Nat.div_eq_of_lt hx, Nat.zero_add]
  unfold pixTo
  by_cases h1 : q (k % (8 * C.wide)) (k / (8 * C.wide)) = true
  · rw [if_pos h1, colC_dotC hok (by rw [hw.1]; exact hx) (by rw [hw.2]; exact hy), h]
    by_cases h2 : y * (8 * C.wide) + x = k
    · obtain ⟨ex, ey⟩ := huniq h2
      rw [if_pos (by simp only; omega), if_pos (by rw [ex, ey]; exact ⟨by rw [hkd]; omega, h1⟩)]
      rw [ex, ey]
    · rw [if_neg (fun e => h2 (by
       have e1 : k % (8 * C.wide) = x := by have := e.1; simp only at this; omega
       have e2 : k / (8 * C.wide) = y := by have := e.2; simp only at this; omega
       rw [← e1, ← e2]; exact hkd))]
      by_cases h3 : y * (8 * C.wide) + x < k ∧ q x y = true
      · rw [if_pos h3, if_pos ⟨by omega, h3.2⟩]
      · rw [if_neg h3, if_neg (fun h4 => h3 ⟨by omega, h4.2⟩)]
  · rw [if_neg h1, h]
    by_cases h3 : y * (8 * C.wide) + x < k ∧ q x y = true
    · rw [if_pos h3, if_pos ⟨by omega, h3.2⟩]
    · rw [if_neg h3, if_neg (fun h4 => h3 ⟨by
       rcases Nat.lt_or_ge (y * (8 * C.wide) + x) k with h5 | h5
       · exact h5
       · obtain ⟨ex, ey⟩ := huniq (by omega)
         exact absurd (by rw [← ex, ← ey]; exact h4.2) h1, h4.2⟩)]
theorem pixTo_shown {C : CanT} (hC : okCan C) {q : Nat → Nat → Bool} {f : ColT → ColT} (hf : ∀ c, okC c → okC (f c)) {Q : PtT → Prop} (hq : ∀ x y : Nat, x < 8 * C.wide → y < 8 * C.high → (q x y = true ↔ Q ⟨(x : Int), (y : Int)⟩)) :
 Shown C Q f (pixTo C q f (8 * C.high * (8 * C.wide))) := by
 have hw := pixTo_wide C q f (8 * C.high * (8 * C.wide))
 have hlt : ∀ x y : Nat, x < 8 * C.wide → y < 8 * C.high → y * (8 * C.wide) + x < 8 * C.high * (8 * C.wide) := fun x y hx hy => by
  have : (y + 1) * (8 * C.wide) ≤ 8 * C.high * (8 * C.wide) := Nat.mul_le_mul_right _ hy
  rw [Nat.add_one_mul] at this
  omega
 refine ⟨pixTo_ok hC q hf _ (Nat.le_refl _), hw.1, hw.2, fun x y hx hy h1 => ?_, fun x y hx hy h1 => ?_⟩
 · rw [pixTo_col hC q hf hx hy _ (Nat.le_refl _), if_pos ⟨hlt x y hx hy, (hq x y hx hy).2 h1⟩]
 · rw [pixTo_col hC q hf hx hy _ (Nat.le_refl _), if_neg (fun h2 => h1 ((hq x y hx hy).1 h2.2))]
/-- One pixel more. -/
theorem pixTo_step {C : CanT} (q : Nat → Nat → Bool) (f : ColT → ColT) {W x y : Nat} (hW : 8 * C.wide = W) (hx : x < W) : pixTo C q f (y * W + (x + 1)) = if q x y = true then dotC (pixTo C q f (y * W + x)) ⟨(x : Int), (y : Int), f (colC C x y)⟩ else pixTo C q f (y * W + x) := by
 subst hW
 have e1 : (y * (8 * C.wide) + x) % (8 * C.wide) = x := by rw [Nat.add_comm, Nat.add_mul_mod_self_right, Nat.mod_eq_of_lt hx]
 have e2 : (y * (8 * C.wide) + x) / (8 * C.wide) = y := by rw [Nat.add_comm, Nat.add_mul_div_right _ _ (by omega), Nat.div_eq_of_lt hx, Nat.zero_add]
 rw [← Nat.add_assoc]
 conv => lhs; unfold pixTo
 rw [e1, e2]
/-- A canvas as a value, in a block of a call's own; the things that are kept. -/
structure PutS (w0 : World) (its : List It) (B : Nat) (D : CanT) (x : World) : Prop where
 st : St w0 its x
 ok : okCan D
 ex : ∃ a cap, x.heap[B]? = some (.cells #[.int .i64 D.wide, .int .i64 D.high, .slice a D.tiles.length cap] 24 (0, 0)) ∧ CanV x D (.agg #[.int .i64 D.wide, .int .i64 D.high, .slice a D.tiles.length cap])
 lo : w0.heap.size ≤ B
 top : ∀ i ∈ its, i.top ≤ B
theorem PutS.below {w0 x y : World} {its : List It} {B : Nat} {D : CanT} (h : PutS w0 its B D x) (hb : Below x.heap.size x y) : PutS w0 its B D y := by
 obtain ⟨a, cap, h1, h2⟩ := h.ex
 exact ⟨h.st.below hb, h.ok, ⟨a, cap, (hb.block B (b7t h1)).trans h1, h2.below hb⟩, h.lo, h.top⟩
/-- A canvas' tiles don't lie in a block of few cells. -/
theorem CanV.other3 {x : World} {D : CanT} (hD : okCan D) {v : Value} (h : CanV x D v) {B : Nat} {c : Array Value} {t : TypeId} {f : Nat × Nat} (hB : x.heap[B]? = some (.cells c t f)) (hc : c.size ≤ 255) (k : Nat) (u : Value) : CanV (x.setCell ⟨B, k, none⟩ u) D v := by
 obtain ⟨a, cap, rfl, h1, h2⟩ := h
 refine ⟨a, cap, rfl, h1, elems_other h2 (fun ad e => ?_) k u⟩
 have hn : 0 < D.tiles.length := by rw [hD.many]; exact Nat.mul_pos hD.wide.1 hD.high.1
 rcases h2 with ⟨e2, h0⟩ | ⟨b, off, cap', e2, -, hcs⟩
 · omega
 · subst e
   cases e2
   intro e3
   have e3 : b = B := e3
   subst e3
   have h5 := hcs 255 (by omega)
   unfold World.cell? at h5
   simp only [hB] at h5
   rw [if_neg (by simp), Array.getElem?_eq_none (by omega)] at h5
   cases h5
/-- The three cells of the block are written. -/
theorem PutS.put {w0 x : World} {its : List It} {B : Nat} {D D' : CanT} {a : Option Addr} {cap : Nat} (h : PutS w0 its B D x) (hok : okCan D') (hv : CanV x D' (.agg #[.int .i64 D'.wide, .int .i64 D'.high, .slice a D'.tiles.length cap])) :
 PutS w0 its B D' (((x.setCell ⟨B, 0, none⟩ (.int .i64 D'.wide)).setCell ⟨B, 1, none⟩ (.int .i64 D'.high)).setCell ⟨B, 2, none⟩ (.slice a D'.tiles.length cap)) := by
 obtain ⟨a0, cap0, h1, -⟩ := h.ex
 have b1 := h7s (k := 0) h1 (.int .i64 D'.wide)
 have b2 := h7s (k := 1) b1 (.int .i64 D'.high)
 have b3 := h7s (k := 2) b2 (.slice a D'.tiles.length cap)
 have v1 := hv.other3 hok h1 (by simp) 0 (.int .i64 D'.wide)
 have v2 := v1.other3 hok b1 (by simp) 1 (.int .i64 D'.high)
 have v3 := v2.other3 hok b2 (by simp) 2 (.slice a D'.tiles.length cap)
 have hg := grownTrans (grownTrans (g7c x B 0 (.int .i64 D'.wide)) (g7c _ B 1 (.int .i64 D'.high))) (g7c _ B 2 (.slice a D'.tiles.length cap))
 exact ⟨h.st.grown (base := B) (row := some B) (fun j e => by cases e; exact Nat.le_refl _) h.lo h.top hg, hok, ⟨a, cap, b3, v3⟩, h.lo, h.top⟩
/-- A younger block of few cells is written. -/
theorem PutS.young {w0 x : World} {its : List It} {B : Nat} {D : CanT} (h : PutS w0 its B D x) {T : Nat} (hT : B < T) {c : Array Value} {t : TypeId} {f : Nat × Nat} (hB : x.heap[T]? = some (.cells c t f)) (hc : c.size ≤ 255) (k : Nat) (u : Value) : PutS w0 its B D (x.setCell ⟨T, k, none⟩ u) := by
 obtain ⟨a, cap, h1, h2⟩ := h.ex
 exact ⟨h.st.grown (base := B) (row := some T) (fun j e => by cases e; omega) h.lo h.top (g7c x T k u), h.ok, ⟨a, cap, (Below.heap_setCell _ _ _ B (by show B ≠ T; omega)).trans h1, h2.other3 h.ok hB hc k u⟩, h.lo, h.top⟩
theorem PutS.start {w0 x : World} {its : List It} {B : Nat} {D : CanT} {a : Option Addr} {cap : Nat} (h : St w0 (.blk B (.cells #[.int .i64 D.wide, .int .i64 D.high, .slice a D.tiles.length cap] 24 (0, 0)) :: its) x) (hD : okCan D) (hv : CanV x D (.agg #[.int .i64 D.wide, .int .i64 D.high, .slice a D.tiles.length cap])) (hlo : w0.heap.size ≤ B) (ht : ∀ i ∈ its, i.top ≤ B) : PutS w0 its B D x :=
 ⟨h.drop1, hD, ⟨a, cap, h.blockAt 0 rfl, hv⟩, hlo, ht⟩
end Go.Proofs.YthcdkkmjnglmjaaGreatDoor
/- The document's layer 7: Spans. -/
namespace Go.Proofs.YthcdkkmjnglmjaaGreatDoor
open Go.RowKit Go.Shelf
attribute [local go_sem] Oper.semAt_some
theorem row_next {j W : Nat} : j * W + W = (j + 1) * W := (Nat.succ_mul j W).symm
theorem pix_le {j k H W : Nat} (hj : j < H) (hk : k < W) : j * W + (k + 1) ≤ H * W := by
 have : (j + 1) * W ≤ H * W := Nat.mul_le_mul_right _ hj
 rw [Nat.add_one_mul] at this
 omega
set_option maxRecDepth 100000 in
set_option maxHeartbeats 4000000 in
theorem r7Spans_paint (C : CanT) (hC : okCan C) (v : Value) (a : Option Addr) (m cap : Nat) (L : List SpT) (hlen : L.length = m) (hm : m ≤ 1000000) (c : ColT) (hc : okC c) (w : World) (hv : CanV w C v) (he : Elems w (.slice a m cap) m 3 (rowC encS L)) :
 Calls Tryz.prog 35 #[v, .slice a m cap, c.val, .bool false] w (GivesV (pixTo C (fun x y : Nat => hasB L ⟨(x : Int), (y : Int)⟩) (fpaint c) (8 * C.high * (8 * C.wide))) w) := by
 have HV := H7 hv
 have HOC := H7 hC
 have HHS := H7 (fun p w' (hb : Below w.heap.size w w') => refHas_any a m cap L hlen (by omega) p w' (he.below hb))
 have HAT := H7 (fun (x y : Nat) hx hy w' (hb : Below w.heap.size w w') => r5At_any C hC v x y hx hy w' (hv.below hb))
 have HOV := H7 (fun u hu w' => r3Over_any u c hu hc w')
 have HPT := H7 (fun D hD v d w' h => r5Put_any D hD v d w' h)
 have HOK := H7 (fun q k hk => pixTo_ok hC q (fpaint_ok hc) k hk)
 have HWD := H7 (fun q k => pixTo_wide C q (fpaint c) k)
 obtain ⟨q, hq⟩ : ∃ q : Nat → Nat → Bool, q = fun x y : Nat => hasB L ⟨(x : Int), (y : Int)⟩ := ⟨_, rfl⟩
 have HQ := H7 (fun x y : Nat => show q x y = hasB L ⟨(x : Int), (y : Int)⟩ by rw [hq])
 rw [← hq]
 obtain ⟨ca, ccap, rfl, -, -⟩ := id hv
 obtain ⟨W, hW⟩ : ∃ W, 8 * C.wide = W := ⟨_, rfl⟩
 obtain ⟨H, hH⟩ : ∃ H, 8 * C.high = H := ⟨_, rfl⟩
 have HST := H7 (fun j k (hk : k < W) => pixTo_step q (fpaint c) (x := k) (y := j) hW hk)
 rw [hW, hH] at HOK
 rw [hW] at HAT
 rw [hH] at HAT
 rw [hW, hH]
 have HB := H7 (And.intro hC.wide (And.intro hC.high (And.intro hW hH)))
 obtain ⟨wi, hwi⟩ : ∃ wi, C.wide = wi := ⟨_, rfl⟩
 obtain ⟨hi, hhi⟩ : ∃ hi, C.high = hi := ⟨_, rfl⟩
 obtain ⟨n, hn⟩ : ∃ n, C.tiles.length = n := ⟨_, rfl⟩
 have HN := H7 (And.intro hwi (And.intro hhi hn))
 have e1 : wrap64 (8 * (wi : Int)) = (W : Int) := by have := HB.out; unfold wrap64; omega
 have e2 : wrap64 (8 * (hi : Int)) = (H : Int) := by have := HB.out; unfold wrap64; omega
 have HWH := H7 (show W ≤ 32 ∧ H ≤ 32 by have := HB.out; omega)
 rw [hwi, hhi, hn] at HAT ⊢
 have HS := H7 (St.start w)
 obtain ⟨f, hf⟩ : ∃ f, fpaint c = f := ⟨_, rfl⟩
 have HF := H7 hf
 rw [hf] at HOK HWD HST ⊢
 obtain ⟨cc, hcc⟩ : ∃ cc, cc = c := ⟨_, rfl⟩
 have HCC := H7 hcc
 obtain ⟨r, g, b, al⟩ := c
 unfold ColT.val at HAT HOV ⊢
 simp only at HAT HOV ⊢
 clear hv hC he hlen hm hc hq hW hH hwi hhi hn hf hcc
 go_enter Tryz.func35, Tryz.ntmps35
 repeat ((fail_if_success (with_reducible refine stop_at (id := 1) ?_)); (first | go_values | go_skip | go_guarded | go_step | go_upon | go_back | (simp only [Int.not_lt, Int.not_le] at *; go_simp) | (go_values <;> (try go_simp)) | (go_ite <;> go_prune <;> (try go_simp)) | (split <;> (first | (rename_i hx; exact (hx _ rfl).elim) | go_prune))))
 have hs_ := (((HS.out.alloc (.cells #[.int .i64 wi, .int .i64 hi, .slice ca n ccap] 24)).alloc (.cells #[.int .u8 r, .int .u8 g, .int .u8 b, .int .u8 al] 34)).alloc (.cells #[.int .i64 0, .int .i64 0, .slice none 0 0] 24))
 obtain ⟨w1, hw_⟩ : ∃ w1 : World, (((w.alloc (.cells #[.int .i64 wi, .int .i64 hi, .slice ca n ccap] 24)).alloc (.cells #[.int .u8 r, .int .u8 g, .int .u8 b, .int .u8 al] 34)).alloc (.cells #[.int .i64 0, .int .i64 0, .slice none 0 0] 24)) = w1 := ⟨_, rfl⟩
 rw [hw_] at hs_
 try simp only [World.size_alloc] at hs_
 have HS := H7 hs_
 rw [hw_]
 clear hw_ hs_
 have q0 := h7c HS 2 0 rfl rfl
 have q1 := h7c HS 2 1 rfl rfl
 have q2 := h7c HS 2 2 rfl rfl
 repeat ((fail_if_success (with_reducible refine stop_at (id := 2) ?_)); (first | go_values | go_skip | go_guarded | go_step | go_upon | go_back | (simp only [Int.not_lt, Int.not_le] at *; go_simp) | (go_values <;> (try go_simp)) | (go_ite <;> go_prune <;> (try go_simp)) | (split <;> (first | (rename_i hx; exact (hx _ rfl).elim) | go_prune))))
 clear q0 q1 q2
 have HLW := H7 HS.out.size
 have HTOP := H7 HS.out.top
 obtain ⟨B, hB⟩ : ∃ B, w1.heap.size = B := ⟨_, rfl⟩
 have hs_ := (HS.out.alloc (.cells #[.int .i64 wi, .int .i64 hi, .slice ca n ccap] 24))
 obtain ⟨w2, hw_⟩ : ∃ w2 : World, (w1.alloc (.cells #[.int .i64 wi, .int .i64 hi, .slice ca n ccap] 24)) = w2 := ⟨_, rfl⟩
 rw [hw_] at hs_
 try simp only [World.size_alloc] at hs_
 have HS := H7 hs_
 rw [hw_]
 clear hw_ hs_
 obtain ⟨its, hits⟩ : ∃ its : List It, its = [.blk (w.heap.size + 1 + 1) (.cells #[.int .i64 0, .int .i64 0, .slice none 0 0] 24 (0, 0)), .blk (w.heap.size + 1) (.cells #[.int .u8 r, .int .u8 g, .int .u8 b, .int .u8 al] 34 (0, 0)), .blk w.heap.size (.cells #[.int .i64 wi, .int .i64 hi, .slice ca n ccap] 24 (0, 0))] := ⟨_, rfl⟩
 have HBK := H7 (show ∀ (x : World) (D : CanT), PutS w its B D x → x.heap[w.heap.size + 1 + 1]? = some (.cells #[.int .i64 0, .int .i64 0, .slice none 0 0] 24 (0, 0)) ∧ x.heap[w.heap.size + 1]? = some (.cells #[.int .u8 r, .int .u8 g, .int .u8 b, .int .u8 al] 34 (0, 0)) ∧ x.heap[w.heap.size]? = some (.cells #[.int .i64 wi, .int .i64 hi, .slice ca n ccap] 24 (0, 0)) from
  fun x D h => by subst hits; exact ⟨h.st.blockAt 0 rfl, h.st.blockAt 1 rfl, h.st.blockAt 2 rfl⟩)
 have HP := H7 (show PutS w its B C w2 by
  have hs := HS.out
  rw [hB, ← hits] at hs
  refine PutS.start (a := ca) (cap := ccap) ?_ HOC.out ?_ ?_ ?_
  · rw [HN.out.1, HN.out.2.1, HN.out.2.2]; exact hs
  · exact HV.out.below hs.low
  · have h1 := HS.out.drop1.low.size
    rw [← hB]
    exact HLW.out
  · intro i hi
    rw [← hB]
    exact HTOP.out i (by rw [← hits]; exact hi))
 rw [hB]
 clear HS HLW HTOP hits hB HV
 have q1 := c7b (k := 1) (HBK.out _ _ HP.out).2.2 rfl
 go_wp2_with fail
 clear q1
 try rw [e2]
 clear e2
 go_loopw [17] (fun i wr => ∃ j : Nat, j ≤ H ∧ i = .int .i64 (j : Int) ∧ PutS w its B (pixTo C q f (j * W)) wr) (fun i _ => H - (intOf i).toNat)
 case atStart => exact ⟨0, Nat.zero_le _, rfl, by rw [Nat.zero_mul]; exact HP.out⟩
 case round =>
  obtain ⟨j, hj, rfl, hp⟩ := hrel
  clear HP
  have HP := H7 hp
  clear hp
  by_cases hlt : j < H
  · have HJ := H7 hlt
    have HE1 := H7 (wrapS (n := j) (by have := HWH.out; omega))
    have q0 := c7b (k := 0) (HBK.out _ _ HP.out).2.2 rfl
    clear hj
    go_wp2_with fail
    clear q0 hlt
    try rw [e1]
    clear e1
    go_loopw [23] (fun i wx => ∃ k : Nat, k ≤ W ∧ i = .int .i64 (k : Int) ∧ PutS w its B (pixTo C q f (j * W + k)) wx) (fun i _ => W - (intOf i).toNat)
    case atStart => exact ⟨0, Nat.zero_le _, rfl, HP.out⟩
    case round =>
     obtain ⟨k, hk, rfl, hp⟩ := hrel
     clear HP
     have HP := H7 hp
     clear hp
     by_cases hkt : k < W
     · have HK := H7 hkt
       have HE2 := H7 (wrapS (n := k) (by have := HWH.out; omega))
       clear hk
       go_wp2_with fail
       clear hkt
       refine (HHS.out ⟨k, j⟩ _ HP.out.st.low).mono ?_
       rintro e w5 ⟨rfl, hb⟩
       have HP := H7 (HP.out.below hb)
       clear hb
       cases hh : hasB L ⟨(k : Int), (j : Int)⟩ with
       | false =>
        have HH := H7 hh
        clear hh
        go_wp2_with fail
        go_roundw
        case rel => exact ⟨k + 1, HK.out, by first | exact congrArg (Value.int .i64) HE2.out | exact congrArg (Value.int .i64) (Int.natCast_succ k).symm | (congr 1; omega), by rw [HST.out j k HK.out, if_neg (by rw [HQ.out, HH.out]; simp)]; exact HP.out⟩
        case measure => (try rw [HE2.out]); have := HK.out; simp only [intOf]; omega
       | true =>
        have HH := H7 hh
        clear hh
        have b1 := (HBK.out _ _ HP.out).2.1
        have y0 := c7b (k := 0) b1 rfl
        have y1 := c7b (k := 1) b1 rfl
        have y2 := c7b (k := 2) b1 rfl
        have y3 := c7b (k := 3) b1 rfl
        clear b1
        repeat ((fail_if_success (with_reducible refine stop_at (id := 9) ?_)); (first | go_values | go_skip | go_guarded | go_step | go_upon | go_back | (simp only [Int.not_lt, Int.not_le] at *; go_simp) | (go_values <;> (try go_simp)) | (go_ite <;> go_prune <;> (try go_simp)) | (split <;> (first | (rename_i hx; exact (hx _ rfl).elim) | go_prune))))
        repeat ((fail_if_success (with_reducible refine stop_at (id := 10) ?_)); (first | go_values | go_skip | go_guarded | go_step | go_upon | go_back | (simp only [Int.not_lt, Int.not_le] at *; go_simp) | (go_values <;> (try go_simp)) | (go_ite <;> go_prune <;> (try go_simp)) | (split <;> (first | (rename_i hx; exact (hx _ rfl).elim) | go_prune))))
        clear y0 y1 y2 y3
        have hbt : Below w5.heap.size w5 (w5.alloc (.cells #[.int .u8 r, .int .u8 g, .int .u8 b, .int .u8 al] 34 (0, 0))) := (B7 _ _).alloc (Nat.le_refl _) _
        have hTb := newBlock w5 (.cells #[.int .u8 r, .int .u8 g, .int .u8 b, .int .u8 al] 34 (0, 0)) w5.heap.size rfl
        have hBT : B < w5.heap.size := by obtain ⟨_, _, h1, -⟩ := HP.out.ex; exact b7t h1
        have hp6 := HP.out.below hbt
        obtain ⟨w6, hw6⟩ : ∃ w6, w5.alloc (.cells #[.int .u8 r, .int .u8 g, .int .u8 b, .int .u8 al] 34 (0, 0)) = w6 := ⟨_, rfl⟩
        rw [hw6] at hTb hp6
        rw [hw6]
        obtain ⟨T, hT⟩ : ∃ T, w5.heap.size = T := ⟨_, rfl⟩
        rw [hT] at hTb hBT
        simp only [hT]
        clear HP
        have HP := H7 hp6
        have HT := H7 (BlkA.mk hTb)
        have HBT := H7 hBT
        clear hbt hTb hBT hp6 hw6 hT
        obtain ⟨D, hD⟩ : ∃ D, pixTo C q f (j * W + k) = D := ⟨_, rfl⟩
        have HST2 := H7 (show pixTo C q f (j * W + (k + 1)) = dotC D ⟨(k : Int), (j : Int), ⟨r, g, b, al⟩⟩ by rw [HST.out j k HK.out, if_pos (by rw [HQ.out, HH.out]), ← hD, ← HF.out]; rfl)
        rw [hD] at HP
        clear hD
        obtain ⟨a6, c6, hB6, hv6⟩ := HP.out.ex
        have z0 := c7b (k := 0) hB6 rfl
        have z1 := c7b (k := 1) hB6 rfl
        have z2 := c7b (k := 2) hB6 rfl
        have t0 := c7b (k := 0) HT.out.at_ rfl
        have t1 := c7b (k := 1) HT.out.at_ rfl
        have t2 := c7b (k := 2) HT.out.at_ rfl
        have t3 := c7b (k := 3) HT.out.at_ rfl
        have HV6 := H7 hv6
        clear hB6 hv6
        go_wp2_with fail
        clear z0 z1 z2 t0 t1 t2 t3
        refine (HPT.out D HP.out.ok _ ⟨(k : Int), (j : Int), ⟨r, g, b, al⟩⟩ _ HV6.out).mono ?_
        rintro e w7 ⟨v7, rfl, hv7, hb⟩
        obtain ⟨a7, c7, rfl, -, -⟩ := id hv7
        have HP := H7 (HP.out.below hb)
        have HV7 := H7 hv7
        clear hb hv7
        obtain ⟨a8, c8, hB8, -⟩ := HP.out.ex
        have z0 := c7b (k := 0) hB8 rfl
        have z1 := c7b (k := 1) hB8 rfl
        have z2 := c7b (k := 2) hB8 rfl
        have f0 := f7b hB8
        clear hB8
        have HOK3 := H7 (show okCan (dotC D ⟨(k : Int), (j : Int), ⟨r, g, b, al⟩⟩) from HST2.out ▸ HOK.out q (j * W + (k + 1)) (pix_le HJ.out HK.out))
        go_wp2_with fail
        go_roundw
        case rel => exact ⟨k + 1, HK.out, by first | exact congrArg (Value.int .i64) HE2.out | exact congrArg (Value.int .i64) (Int.natCast_succ k).symm | (congr 1; omega), by rw [HST2.out]; exact HP.out.put HOK3.out HV7.out⟩
        case measure => (try rw [HE2.out]); have := HK.out; simp only [intOf]; omega
     · have hkW : k = W := by omega
       subst hkW
       go_wp2_with fail
       go_roundw
       case rel => exact ⟨j + 1, HJ.out, by first | exact congrArg (Value.int .i64) HE1.out | exact congrArg (Value.int .i64) (Int.natCast_succ j).symm | (congr 1; omega), by rw [← row_next]; exact HP.out⟩
       case measure => (try rw [HE1.out]); have := HJ.out; simp only [intOf]; omega
  · have hjH : j = H := by omega
    subst hjH
    obtain ⟨a6, c6, hB6, hv6⟩ := HP.out.ex
    obtain ⟨D, hD⟩ : ∃ D, pixTo C q f (j * W) = D := ⟨_, rfl⟩
    rw [hD] at hB6 hv6 HP
    have HDD := H7 hD
    have b0 := (HBK.out _ _ HP.out).1
    have z0 := c7b (k := 0) hB6 rfl
    have z1 := c7b (k := 1) hB6 rfl
    have z2 := c7b (k := 2) hB6 rfl
    have j0 := c7b (k := 0) b0 rfl
    have j1 := c7b (k := 1) b0 rfl
    have j2 := c7b (k := 2) b0 rfl
    have f0 := f7b b0
    have s1 := h7s (k := 0) b0 (.int .i64 D.wide)
    have s2 := h7s (k := 1) s1 (.int .i64 D.high)
    have HV9 := H7 (((hv6.other3 HP.out.ok b0 (by simp) 0 (.int .i64 D.wide)).other3 HP.out.ok s1 (by simp) 1 (.int .i64 D.high)).other3 HP.out.ok s2 (by simp) 2 (.slice a6 D.tiles.length c6))
    clear s1 s2 b0 hB6 hv6 hD hlt hj
    go_wp2_with fail
    have h0 := HP.out.st.low
    rw [HDD.out]
    refine bodyPost_ret (v := .agg #[.int .i64 D.wide, .int .i64 D.high, .slice a6 D.tiles.length c6]) (by simp [results, Tryz.results35, go_sem, j0, j1, j2]) rfl ⟨_, rfl, HV9.out, ?_⟩
    (repeat (first | exact B7 _ _ | assumption | refine Below.alloc ?_ (by first | omega | (simp; done) | (simp; omega)) _ | refine Below.setCell ?_ (by first | omega | (simp; done) | (simp; omega)) _ | refine Below.drew ?_))
set_option maxRecDepth 100000 in
set_option maxHeartbeats 4000000 in
theorem r7Spans_wash (C : CanT) (hC : okCan C) (v : Value) (a : Option Addr) (m cap : Nat) (L : List SpT) (hlen : L.length = m) (hm : m ≤ 1000000) (c : ColT) (hc : okC c) (w : World) (hv : CanV w C v) (he : Elems w (.slice a m cap) m 3 (rowC encS L)) :
 Calls Tryz.prog 35 #[v, .slice a m cap, c.val, .bool true] w (GivesV (pixTo C (fun x y : Nat => hasB L ⟨(x : Int), (y : Int)⟩) (fwash c) (8 * C.high * (8 * C.wide))) w) := by
 have HV := H7 hv
 have HOC := H7 hC
 have HHS := H7 (fun p w' (hb : Below w.heap.size w w') => refHas_any a m cap L hlen (by omega) p w' (he.below hb))
 have HAT := H7 (fun (x y : Nat) hx hy w' (hb : Below w.heap.size w w') => r5At_any C hC v x y hx hy w' (hv.below hb))
 have HOV := H7 (fun u hu w' => r3Over_any u c hu hc w')
 have HPT := H7 (fun D hD v d w' h => r5Put_any D hD v d w' h)
 have HOK := H7 (fun q k hk => pixTo_ok hC q (fwash_ok hc) k hk)
 have HWD := H7 (fun q k => pixTo_wide C q (fwash c) k)
 obtain ⟨q, hq⟩ : ∃ q : Nat → Nat → Bool, q = fun x y : Nat => hasB L ⟨(x : Int), (y : Int)⟩ := ⟨_, rfl⟩
 have HQ := H7 (fun x y : Nat => show q x y = hasB L ⟨(x : Int), (y : Int)⟩ by rw [hq])
 rw [← hq]
 obtain ⟨ca, ccap, rfl, -, -⟩ := id hv
 obtain ⟨W, hW⟩ : ∃ W, 8 * C.wide = W := ⟨_, rfl⟩
 obtain ⟨H, hH⟩ : ∃ H, 8 * C.high = H := ⟨_, rfl⟩
 have HST := H7 (fun j k (hk : k < W) => pixTo_step q (fwash c) (x := k) (y := j) hW hk)
 rw [hW, hH] at HOK
 rw [hW] at HAT
 rw [hH] at HAT
 rw [hW, hH]
 have HB := H7 (And.intro hC.wide (And.intro hC.high (And.intro hW hH)))
 obtain ⟨wi, hwi⟩ : ∃ wi, C.wide = wi := ⟨_, rfl⟩
 obtain ⟨hi, hhi⟩ : ∃ hi, C.high = hi := ⟨_, rfl⟩
 obtain ⟨n, hn⟩ : ∃ n, C.tiles.length = n := ⟨_, rfl⟩
 have HN := H7 (And.intro hwi (And.intro hhi hn))
 have e1 : wrap64 (8 * (wi : Int)) = (W : Int) := by have := HB.out; unfold wrap64; omega
 have e2 : wrap64 (8 * (hi : Int)) = (H : Int) := by have := HB.out; unfold wrap64; omega
 have HWH := H7 (show W ≤ 32 ∧ H ≤ 32 by have := HB.out; omega)
 rw [hwi, hhi, hn] at HAT ⊢
 have HS := H7 (St.start w)
 obtain ⟨f, hf⟩ : ∃ f, fwash c = f := ⟨_, rfl⟩
 have HF := H7 hf
 rw [hf] at HOK HWD HST ⊢
 obtain ⟨cc, hcc⟩ : ∃ cc, cc = c := ⟨_, rfl⟩
 have HCC := H7 hcc
 obtain ⟨r, g, b, al⟩ := c
 unfold ColT.val at HAT HOV ⊢
 simp only at HAT HOV ⊢
 clear hv hC he hlen hm hc hq hW hH hwi hhi hn hf hcc
 go_enter Tryz.func35, Tryz.ntmps35
 repeat ((fail_if_success (with_reducible refine stop_at (id := 1) ?_)); (first | go_values | go_skip | go_guarded | go_step | go_upon | go_back | (simp only [Int.not_lt, Int.not_le] at *; go_simp) | (go_values <;> (try go_simp)) | (go_ite <;> go_prune <;> (try go_simp)) | (split <;> (first | (rename_i hx; exact (hx _ rfl).elim) | go_prune))))
 have hs_ := (((HS.out.alloc (.cells #[.int .i64 wi, .int .i64 hi, .slice ca n ccap] 24)).alloc (.cells #[.int .u8 r, .int .u8 g, .int .u8 b, .int .u8 al] 34)).alloc (.cells #[.int .i64 0, .int .i64 0, .slice none 0 0] 24))
 obtain ⟨w1, hw_⟩ : ∃ w1 : World, (((w.alloc (.cells #[.int .i64 wi, .int .i64 hi, .slice ca n ccap] 24)).alloc (.cells #[.int .u8 r, .int .u8 g, .int .u8 b, .int .u8 al] 34)).alloc (.cells #[.int .i64 0, .int .i64 0, .slice none 0 0] 24)) = w1 := ⟨_, rfl⟩
 rw [hw_] at hs_
 try simp only [World.size_alloc] at hs_
 have HS := H7 hs_
 rw [hw_]
 clear hw_ hs_
 have q0 := h7c HS 2 0 rfl rfl
 have q1 := h7c HS 2 1 rfl rfl
 have q2 := h7c HS 2 2 rfl rfl
 repeat ((fail_if_success (with_reducible refine stop_at (id := 2) ?_)); (first | go_values | go_skip | go_guarded | go_step | go_upon | go_back | (simp only [Int.not_lt, Int.not_le] at *; go_simp) | (go_values <;> (try go_simp)) | (go_ite <;> go_prune <;> (try go_simp)) | (split <;> (first | (rename_i hx; exact (hx _ rfl).elim) | go_prune))))
 clear q0 q1 q2
 have HLW := H7 HS.out.size
 have HTOP := H7 HS.out.top
 obtain ⟨B, hB⟩ : ∃ B, w1.heap.size = B := ⟨_, rfl⟩
 have hs_ := (HS.out.alloc (.cells #[.int .i64 wi, .int .i64 hi, .slice ca n ccap] 24))
 obtain ⟨w2, hw_⟩ : ∃ w2 : World, (w1.alloc (.cells #[.int .i64 wi, .int .i64 hi, .slice ca n ccap] 24)) = w2 := ⟨_, rfl⟩
 rw [hw_] at hs_
 try simp only [World.size_alloc] at hs_
 have HS := H7 hs_
 rw [hw_]
 clear hw_ hs_
 obtain ⟨its, hits⟩ : ∃ its : List It, its = [.blk (w.heap.size + 1 + 1) (.cells #[.int .i64 0, .int .i64 0, .slice none 0 0] 24 (0, 0)), .blk (w.heap.size + 1) (.cells #[.int .u8 r, .int .u8 g, .int .u8 b, .int .u8 al] 34 (0, 0)), .blk w.heap.size (.cells #[.int .i64 wi, .int .i64 hi, .slice ca n ccap] 24 (0, 0))] := ⟨_, rfl⟩
 have HBK := H7 (show ∀ (x : World) (D : CanT), PutS w its B D x → x.heap[w.heap.size + 1 + 1]? = some (.cells #[.int .i64 0, .int .i64 0, .slice none 0 0] 24 (0, 0)) ∧ x.heap[w.heap.size + 1]? = some (.cells #[.int .u8 r, .int .u8 g, .int .u8 b, .int .u8 al] 34 (0, 0)) ∧ x.heap[w.heap.size]? = some (.cells #[.int .i64 wi, .int .i64 hi, .slice ca n ccap] 24 (0, 0)) from
  fun x D h => by subst hits; exact ⟨h.st.blockAt 0 rfl, h.st.blockAt 1 rfl, h.st.blockAt 2 rfl⟩)
 have HP := H7 (show PutS w its B C w2 by
  have hs := HS.out
  rw [hB, ← hits] at hs
  refine PutS.start (a := ca) (cap := ccap) ?_ HOC.out ?_ ?_ ?_
  · rw [HN.out.1, HN.out.2.1, HN.out.2.2]; exact hs
  · exact HV.out.below hs.low
  · have h1 := HS.out.drop1.low.size
    rw [← hB]
    exact HLW.out
  · intro i hi
    rw [← hB]
    exact HTOP.out i (by rw [← hits]; exact hi))
 rw [hB]
 clear HS HLW HTOP hits hB HV
 have q1 := c7b (k := 1) (HBK.out _ _ HP.out).2.2 rfl
 go_wp2_with fail
 clear q1
 try rw [e2]
 clear e2
 go_loopw [17] (fun i wr => ∃ j : Nat, j ≤ H ∧ i = .int .i64 (j : Int) ∧ PutS w its B (pixTo C q f (j * W)) wr) (fun i _ => H - (intOf i).toNat)
 case atStart => exact ⟨0, Nat.zero_le _, rfl, by rw [Nat.zero_mul]; exact HP.out⟩
 case round =>
  obtain ⟨j, hj, rfl, hp⟩ := hrel
  clear HP
  have HP := H7 hp
  clear hp
  by_cases hlt : j < H
  · have HJ := H7 hlt
    have HE1 := H7 (wrapS (n := j) (by have := HWH.out; omega))
    have q0 := c7b (k := 0) (HBK.out _ _ HP.out).2.2 rfl
    clear hj
    go_wp2_with fail
    clear q0 hlt
    try rw [e1]
    clear e1
    go_loopw [23] (fun i wx => ∃ k : Nat, k ≤ W ∧ i = .int .i64 (k : Int) ∧ PutS w its B (pixTo C q f (j * W + k)) wx) (fun i _ => W - (intOf i).toNat)
    case atStart => exact ⟨0, Nat.zero_le _, rfl, HP.out⟩
    case round =>
     obtain ⟨k, hk, rfl, hp⟩ := hrel
     clear HP
     have HP := H7 hp
     clear hp
     by_cases hkt : k < W
     · have HK := H7 hkt
       have HE2 := H7 (wrapS (n := k) (by have := HWH.out; omega))
       clear hk
       go_wp2_with fail
       clear hkt
       refine (HHS.out ⟨k, j⟩ _ HP.out.st.low).mono ?_
       rintro e w5 ⟨rfl, hb⟩
       have HP := H7 (HP.out.below hb)
       clear hb
       cases hh : hasB L ⟨(k : Int), (j : Int)⟩ with
       | false =>
        have HH := H7 hh
        clear hh
        go_wp2_with fail
        go_roundw
        case rel => exact ⟨k + 1, HK.out, by first | exact congrArg (Value.int .i64) HE2.out | exact congrArg (Value.int .i64) (Int.natCast_succ k).symm | (congr 1; omega), by rw [HST.out j k HK.out, if_neg (by rw [HQ.out, HH.out]; simp)]; exact HP.out⟩
        case measure => (try rw [HE2.out]); have := HK.out; simp only [intOf]; omega
       | true =>
        have HH := H7 hh
        clear hh
        have b1 := (HBK.out _ _ HP.out).2.1
        have y0 := c7b (k := 0) b1 rfl
        have y1 := c7b (k := 1) b1 rfl
        have y2 := c7b (k := 2) b1 rfl
        have y3 := c7b (k := 3) b1 rfl
        clear b1
        repeat ((fail_if_success (with_reducible refine stop_at (id := 9) ?_)); (first | go_values | go_skip | go_guarded | go_step | go_upon | go_back | (simp only [Int.not_lt, Int.not_le] at *; go_simp) | (go_values <;> (try go_simp)) | (go_ite <;> go_prune <;> (try go_simp)) | (split <;> (first | (rename_i hx; exact (hx _ rfl).elim) | go_prune))))
        repeat ((fail_if_success (with_reducible refine stop_at (id := 10) ?_)); (first | go_values | go_skip | go_guarded | go_step | go_upon | go_back | (simp only [Int.not_lt, Int.not_le] at *; go_simp) | (go_values <;> (try go_simp)) | (go_ite <;> go_prune <;> (try go_simp)) | (split <;> (first | (rename_i hx; exact (hx _ rfl).elim) | go_prune))))
        clear y0 y1 y2 y3
        have hbt : Below w5.heap.size w5 (w5.alloc (.cells #[.int .u8 r, .int .u8 g, .int .u8 b, .int .u8 al] 34 (0, 0))) := (B7 _ _).alloc (Nat.le_refl _) _
        have hTb := newBlock w5 (.cells #[.int .u8 r, .int .u8 g, .int .u8 b, .int .u8 al] 34 (0, 0)) w5.heap.size rfl
        have hBT : B < w5.heap.size := by obtain ⟨_, _, h1, -⟩ := HP.out.ex; exact b7t h1
        have hp6 := HP.out.below hbt
        obtain ⟨w6, hw6⟩ : ∃ w6, w5.alloc (.cells #[.int .u8 r, .int .u8 g, .int .u8 b, .int .u8 al] 34 (0, 0)) = w6 := ⟨_, rfl⟩
        rw [hw6] at hTb hp6
        rw [hw6]
        obtain ⟨T, hT⟩ : ∃ T, w5.heap.size = T := ⟨_, rfl⟩
        rw [hT] at hTb hBT
        simp only [hT]
        clear HP
        have HP := H7 hp6
        have HT := H7 (BlkA.mk hTb)
        have HBT := H7 hBT
        clear hbt hTb hBT hp6 hw6 hT
        obtain ⟨uc, huc⟩ : ∃ uc, colC C k j = uc := ⟨_, rfl⟩
        have hco : okC uc := huc ▸ (HOC.out.tile (by rw [HB.out.2.2.1]; exact HK.out) (by rw [HB.out.2.2.2]; exact HJ.out)).choose_spec.2.2
        have HAT2 := H7 (fun w' h => HAT.out k j HK.out HJ.out w' h)
        obtain ⟨oc, hoc⟩ : ∃ oc, f uc = oc := ⟨_, rfl⟩
        have HOV2 := H7 (fun w' => HOV.out uc hco w')
        rw [show overC uc ⟨r, g, b, al⟩ = oc by rw [← hoc, ← HF.out]; rfl] at HOV2
        rw [huc] at HAT2
        have HX := H7 (show f (colC C k j) = oc by rw [huc]; exact hoc)
        clear huc hco hoc
        obtain ⟨ur, ug, ub, ua⟩ := uc
        obtain ⟨xr, xg, xb, xa⟩ := oc
        simp only [ColT.val] at HAT2 HOV2
        repeat ((fail_if_success (with_reducible refine stop_at (id := 11) ?_)); (first | go_values | go_skip | go_guarded | go_step | go_upon | go_back | (simp only [Int.not_lt, Int.not_le] at *; go_simp) | (go_values <;> (try go_simp)) | (go_ite <;> go_prune <;> (try go_simp)) | (split <;> (first | (rename_i hx; exact (hx _ rfl).elim) | go_prune))))
        refine (wpIn_wide (n := 0)).1 ?_
        apply w7v 6 (Rl := [(eqv _), (eqv _), (eqv _), (eqv _), (eqv _), (eqv _)]) (C := (fun x y => Below x.heap.size x y))
        case hm => kernel_rfl
        case hk => rfl
        case hCr => exact (fun _ => B7 _ _)
        case hCt => intro _ _ _; exact (fun h k => g7t h k)
        case hst => repeat (first | exact trivial | refine ⟨fun _ _ _ _ h => h, ?_⟩)
        case hfo => kernel_rfl
        case ht => kernel_rfl
        case hC0 => exact (g7d _)
        case hsteps =>
         refine ⟨?_, ?_, ?_, ?_, ?_, ?_, trivial⟩
         · intro a' w' hA hC hD; have s4 := hA.to 4 (by kernel_rfl) rfl
           have b0 := (HBK.out _ _ (HP.out.below hC)).2.2; have z0 := c7b (k := 0) b0 rfl; have z1 := c7b (k := 1) b0 rfl; have z2 := c7b (k := 2) b0 rfl; clear b0
           clear hA hD; refine o7p rfl ?_; intro K hK; gi_wp2; exact hK _ _ rfl (B7 _ _)
         · intro a' w' hA hC hD; have s11 := hA.to 11 (by kernel_rfl) rfl; clear hA hD; refine o7p rfl ?_; intro K hK; gi_wp2; exact hK _ _ rfl (B7 _ _)
         · intro a' w' hA hC hD; have s10 := hA.to 10 (by kernel_rfl) rfl; clear hA hD; refine o7p rfl ?_; intro K hK; gi_wp2; exact hK _ _ rfl (B7 _ _)
         · intro a' w' hA hC hD; obtain ⟨u34, s34, rfl⟩ := hD ⟨0, .data⟩ (by simp) rfl _ rfl; obtain ⟨u35, s35, rfl⟩ := hD ⟨1, .data⟩ (by simp) rfl _ rfl; obtain ⟨u36, s36, rfl⟩ := hD ⟨2, .data⟩ (by simp) rfl _ rfl; clear hA hD; refine o7p rfl ?_; intro K hK
           gi_wp2_with fail; refine (callsIn_wide.2 (HAT2.out _ (HP.out.below hC).st.low)).mono ?_; rintro e w2 ⟨rfl, hb⟩
           exact hK _ _ rfl hb
         · intro a' w' hA hC hD; have s6 := hA.to 6 (by kernel_rfl) rfl
           have b0 := (HBK.out _ _ (HP.out.below hC)).2.1; have z0 := c7b (k := 0) b0 rfl; have z1 := c7b (k := 1) b0 rfl; have z2 := c7b (k := 2) b0 rfl; have z3 := c7b (k := 3) b0 rfl; clear b0
           clear hA hD; refine o7p rfl ?_; intro K hK; gi_wp2; exact hK _ _ rfl (B7 _ _)
         · intro a' w' hA hC hD; obtain ⟨u37, s37, rfl⟩ := hD ⟨3, .data⟩ (by simp) rfl _ rfl; obtain ⟨u38, s38, rfl⟩ := hD ⟨4, .data⟩ (by simp) rfl _ rfl; clear hA hD; refine o7p rfl ?_; intro K hK
           gi_wp2_with fail; refine (callsIn_wide.2 (HOV2.out _)).mono ?_; rintro e w2 ⟨rfl, hb⟩
           exact hK _ _ rfl hb
        case hend =>
        intro w7 hC
        simp only [EndFrom, eqv, forall_eq, Act.put, List.length_cons, List.length_nil, List.drop_succ_cons, List.drop_zero, Nat.reduceAdd, List.setIfInBounds_toArray, List.set_cons_succ, List.set_cons_zero]
        have hp7 := HP.out.below hC
        have hT7 := (HT.out.below hC).at_
        clear hC HP HT HAT2 HOV2
        have t0 := c7b (k := 0) hT7 rfl
        have t1 := c7b (k := 1) hT7 rfl
        have t2 := c7b (k := 2) hT7 rfl
        have t3 := c7b (k := 3) hT7 rfl
        have f0 := f7b hT7
        gi_wp2
        clear t0 t1 t2 t3 f0
        have s1 := h7s (k := 0) hT7 (.int .u8 xr)
        have s2 := h7s (k := 1) s1 (.int .u8 xg)
        have s3 := h7s (k := 2) s2 (.int .u8 xb)
        have s4 := h7s (k := 3) s3 (.int .u8 xa)
        have hp8 := (((hp7.young HBT.out hT7 (by simp) 0 (.int .u8 xr)).young HBT.out s1 (by simp) 1 (.int .u8 xg)).young HBT.out s2 (by simp) 2 (.int .u8 xb)).young HBT.out s3 (by simp) 3 (.int .u8 xa)
        clear s1 s2 s3 hp7 hT7
        obtain ⟨w8, hw8⟩ : ∃ w8, (((w7.setCell ⟨T, 0, none⟩ (.int .u8 xr)).setCell ⟨T, 1, none⟩ (.int .u8 xg)).setCell ⟨T, 2, none⟩ (.int .u8 xb)).setCell ⟨T, 3, none⟩ (.int .u8 xa) = w8 := ⟨_, rfl⟩
        rw [hw8] at s4 hp8
        first | rw [hw8] | simp only [hw8]
        have HP := H7 hp8
        have HT := H7 (BlkA.mk s4)
        clear s4 hp8 hw8
        obtain ⟨D, hD⟩ : ∃ D, pixTo C q f (j * W + k) = D := ⟨_, rfl⟩
        have HST2 := H7 (show pixTo C q f (j * W + (k + 1)) = dotC D ⟨(k : Int), (j : Int), ⟨xr, xg, xb, xa⟩⟩ by rw [HST.out j k HK.out, if_pos (by rw [HQ.out, HH.out]), ← hD, HX.out])
        rw [hD] at HP
        clear hD
        obtain ⟨a6, c6, hB6, hv6⟩ := HP.out.ex
        have z0 := c7b (k := 0) hB6 rfl
        have z1 := c7b (k := 1) hB6 rfl
        have z2 := c7b (k := 2) hB6 rfl
        have t0 := c7b (k := 0) HT.out.at_ rfl
        have t1 := c7b (k := 1) HT.out.at_ rfl
        have t2 := c7b (k := 2) HT.out.at_ rfl
        have t3 := c7b (k := 3) HT.out.at_ rfl
        have HV6 := H7 hv6
        clear hB6 hv6
        go_wp2_with fail
        clear z0 z1 z2 t0 t1 t2 t3
        refine (HPT.out D HP.out.ok _ ⟨(k : Int), (j : Int), ⟨xr, xg, xb, xa⟩⟩ _ HV6.out).mono ?_
        rintro e w7 ⟨v7, rfl, hv7, hb⟩
        obtain ⟨a7, c7, rfl, -, -⟩ := id hv7
        have HP := H7 (HP.out.below hb)
        have HV7 := H7 hv7
        clear hb hv7
        obtain ⟨a8, c8, hB8, -⟩ := HP.out.ex
        have z0 := c7b (k := 0) hB8 rfl
        have z1 := c7b (k := 1) hB8 rfl
        have z2 := c7b (k := 2) hB8 rfl
        have f0 := f7b hB8
        clear hB8
        have HOK3 := H7 (show okCan (dotC D ⟨(k : Int), (j : Int), ⟨xr, xg, xb, xa⟩⟩) from HST2.out ▸ HOK.out q (j * W + (k + 1)) (pix_le HJ.out HK.out))
        go_wp2_with fail
        go_roundw
        case rel => exact ⟨k + 1, HK.out, by first | exact congrArg (Value.int .i64) HE2.out | exact congrArg (Value.int .i64) (Int.natCast_succ k).symm | (congr 1; omega), by rw [HST2.out]; exact HP.out.put HOK3.out HV7.out⟩
        case measure => (try rw [HE2.out]); have := HK.out; simp only [intOf]; omega
     · have hkW : k = W := by omega
       subst hkW
       go_wp2_with fail
       go_roundw
       case rel => exact ⟨j + 1, HJ.out, by first | exact congrArg (Value.int .i64) HE1.out | exact congrArg (Value.int .i64) (Int.natCast_succ j).symm | (congr 1; omega), by rw [← row_next]; exact HP.out⟩
       case measure => (try rw [HE1.out]); have := HJ.out; simp only [intOf]; omega
  · have hjH : j = H := by omega
    subst hjH
    obtain ⟨a6, c6, hB6, hv6⟩ := HP.out.ex
    obtain ⟨D, hD⟩ : ∃ D, pixTo C q f (j * W) = D := ⟨_, rfl⟩
    rw [hD] at hB6 hv6 HP
    have HDD := H7 hD
    have b0 := (HBK.out _ _ HP.out).1
    have z0 := c7b (k := 0) hB6 rfl
    have z1 := c7b (k := 1) hB6 rfl
    have z2 := c7b (k := 2) hB6 rfl
    have j0 := c7b (k := 0) b0 rfl
    have j1 := c7b (k := 1) b0 rfl
    have j2 := c7b (k := 2) b0 rfl
    have f0 := f7b b0
    have s1 := h7s (k := 0) b0 (.int .i64 D.wide)
    have s2 := h7s (k := 1) s1 (.int .i64 D.high)
    have HV9 := H7 (((hv6.other3 HP.out.ok b0 (by simp) 0 (.int .i64 D.wide)).other3 HP.out.ok s1 (by simp) 1 (.int .i64 D.high)).other3 HP.out.ok s2 (by simp) 2 (.slice a6 D.tiles.length c6))
    clear s1 s2 b0 hB6 hv6 hD hlt hj
    go_wp2_with fail
    have h0 := HP.out.st.low
    rw [HDD.out]
    refine bodyPost_ret (v := .agg #[.int .i64 D.wide, .int .i64 D.high, .slice a6 D.tiles.length c6]) (by simp [results, Tryz.results35, go_sem, j0, j1, j2]) rfl ⟨_, rfl, HV9.out, ?_⟩
    (repeat (first | exact B7 _ _ | assumption | refine Below.alloc ?_ (by first | omega | (simp; done) | (simp; omega)) _ | refine Below.setCell ?_ (by first | omega | (simp; done) | (simp; omega)) _ | refine Below.drew ?_))
/- The document's layer 7: Rect. -/
/- The document's layer 7: Near, and Stroke. -/
/- gessolaw07.DrawTwice. -/
/-- Of, whatever it is. -/
theorem ofBothD (wide high : Int) (a : Option Addr) (cap : Nat) (us : List TileT) (hcol : ∀ t ∈ us, ∀ c ∈ t.1, okC c) (w : World) (he : Elems w (.slice a us.length cap) us.length 256 (rowC encT us)) :
 Calls Tryz.prog 10 #[.agg #[.int .i64 wide, .int .i64 high, .slice a us.length cap]] w fun e w' => ∃ v, e = .returned (.tuple #[v, .int .i64 (errOf (okE wide high us.length) 150)]) ∧ Below w.heap.size w w' ∧
  (okE wide high us.length = true → ∃ p, v = .pointer (some ⟨p, 0, none⟩) ∧ CanAt w' p ⟨wide.toNat, high.toNat, us⟩) ∧ (okE wide high us.length = false → v = .pointer none) := by
 cases hok : okE wide high us.length with
 | false =>
  refine (of_bad wide high a us.length cap hok w).mono ?_
  rintro e w' ⟨rfl, hb⟩
  exact ⟨_, rfl, hb, fun h => (by cases h), fun _ => rfl⟩
 | true =>
  unfold okE at hok
  rw [Bool.and_eq_true] at hok
  have h1 := mayB_iff.1 hok.1
  have h2 := of_decide_eq_true hok.2
  obtain ⟨W, rfl⟩ := Int.eq_ofNat_of_zero_le (a := wide) (by omega)
  obtain ⟨H, rfl⟩ := Int.eq_ofNat_of_zero_le (a := high) (by omega)
  have hC : okCan ⟨W, H, us⟩ := ⟨by simp only; omega, by simp only; omega, by simp only; exact_mod_cast h2, hcol⟩
  refine (of_good ⟨W, H, us⟩ hC a cap w he).mono ?_
  rintro e w' ⟨p, rfl, hc, -, hb⟩
  exact ⟨_, rfl, hb, fun _ => ⟨p, rfl, by simpa using hc⟩, fun h => (by cases h)⟩
end Go.Proofs.YthcdkkmjnglmjaaGreatDoor
