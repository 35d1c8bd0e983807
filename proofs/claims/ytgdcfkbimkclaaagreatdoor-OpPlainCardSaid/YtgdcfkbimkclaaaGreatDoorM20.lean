/- Merged texts: OpY. -/
import Derived.Test.YtgdcfkbimkclaaaGreatDoorM19
set_option linter.unusedSimpArgs false
set_option linter.unusedVariables false
/- Layer 12's law of Plain. -/
namespace Go.Proofs.YtgdcfkbimkclaaaGreatDoor
open Go.RowKit Go.Shelf
attribute [local go_sem] Oper.semAt_some
theorem ownO_len (o : OpT) : (ownO o).px.length ≤ 1000000000 := by
 show (o.px.take 66).length ≤ _
 rw [List.length_take]
 omega
theorem run_neq_self (a b c : Int) (w : World) : (binOp .neq 24 (.agg #[.int .u64 a, .int .i64 b, .int .u64 c]) (.agg #[.int .u64 a, .int .i64 b, .int .u64 c])).run Tryz.prog w = .ok (.bool false) w := (run_neq_id w a b c a b c).trans (by rw [(idEqB_iff _ _).2 rfl]; rfl)
theorem run_eql_col0 (w : World) : (binOp .eql 26 (.agg #[.int .u8 0, .int .u8 0, .int .u8 0, .int .u8 0]) (.agg #[.int .u8 0, .int .u8 0, .int .u8 0, .int .u8 0])).run Tryz.prog w = .ok (.bool true) w := by
 have h := colE_run ⟨0, 0, 0, 0⟩ ⟨0, 0, 0, 0⟩ w
 unfold ColT.val at h
 simp [binOp, h]
set_option maxRecDepth 100000 in
set_option maxHeartbeats 8000000 in
theorem opPlainLaw_any (y : OpT) (pv : Value) (hl : y.px.length ≤ 9223372036854775807) (w : World) (hred : RedO w) (hp : PixV y.px pv w) :
 Calls Tryz.prog 4 #[.agg (y.cells pv)] w (Gives (.bool true) w) := by
 have HS := H7 (St.start w)
 have HR := H7 hred
 have HOW := H7 (fun w' (hb : Below w.heap.size w w') => own12_any y pv hl w' (hp.below hb))
 have hlen := ownO_len y
 obtain ⟨o, ho⟩ : ∃ o, ownO y = o := ⟨_, rfl⟩
 rw [ho] at HOW hlen
 clear hred hp hl ho
 go_enter Tryz.func4, Tryz.ntmps4
 repeat ((fail_if_success (with_reducible refine stop_at (id := 1) ?_)); (first | go_values | go_skip | go_guarded | go_step | go_upon | go_back | (simp only [Int.not_lt, Int.not_le] at *; go_simp) | (go_values <;> (try go_simp)) | (go_ite <;> go_prune <;> (try go_simp)) | (split <;> (first | (rename_i hx; exact (hx _ rfl).elim) | go_prune))))
 have hs_ := (HS.out.alloc (.cells (y.cells pv) 31))
 have hk_HR := HR.out.below ((B7 _ _).alloc (by exact Nat.le_refl _) (.cells (y.cells pv) 31))
 obtain ⟨w1, hw_⟩ : ∃ w1 : World, (w.alloc (.cells (y.cells pv) 31)) = w1 := ⟨_, rfl⟩
 rw [hw_] at hs_ hk_HR
 try simp only [World.size_alloc] at hs_
 have HS := H7 hs_
 have HR := H7 hk_HR
 rw [hw_]
 clear hw_ hs_ hk_HR
 have HY := H7 (BlkO.mk (HS.out.blockAt 0 rfl))
 have HL := H7 (LowW.mk HS.out.low)
 clear HS
 go_wp2_with fail
 refine (wakes12_any w1 HR.out).mono ?_
 rintro e w2 ⟨rfl, hb⟩
 have HL := H7 (HL.out.below hb)
 have HY := H7 (HY.out.below hb)
 clear hb
 repeat ((fail_if_success (with_reducible refine stop_at (id := 3) ?_)); (first | go_values | go_skip | go_guarded | go_step | go_upon | go_back | (simp only [Int.not_lt, Int.not_le] at *; go_simp) | (go_values <;> (try go_simp)) | (go_ite <;> go_prune <;> (try go_simp)) | (split <;> (first | (rename_i hx; exact (hx _ rfl).elim) | go_prune))))
 refine (wpIn_wide (n := 0)).1 ?_
 repeat ((fail_if_success (refine opIn_load 31 _ rfl w.heap.size rfl 31 _ (0, 0) _ HY.out.at_ Tryz.underlying31 rfl (by kernel_rfl) ?_)); gi_step)
 refine opIn_load 31 _ rfl w.heap.size rfl 31 _ (0, 0) _ HY.out.at_ Tryz.underlying31 rfl (by kernel_rfl) ?_
 simp only [Act.put, List.setIfInBounds_toArray, List.set_cons_succ, List.set_cons_zero]
 gi_wp2_with fail
 refine (callsIn_wide.2 (HOW.out w2 HL.out.b)).mono ?_
 rintro e w3 ⟨pv3, rfl, hp3, hb⟩
 clear HY HOW HR
 have HL := H7 (HL.out.below hb)
 clear hb
 obtain ⟨a3, c3, rfl, hc3, he3⟩ := hp3
 have HP := H7 (show PixV o.px (.slice a3 o.px.length c3) w3 from ⟨a3, c3, rfl, hc3, he3⟩)
 clear hc3 he3
 simp only []
 go_at_K
 repeat ((fail_if_success (refine opIn_store 31 _ _ rfl w3.heap.size 31 opZ (o.cells (.slice a3 o.px.length c3)) rfl rfl (World.alloc_heap_new _ _) (by kernel_rfl) rfl (by unfold OpT.cells; rw [List.all_toArray]; rfl) ?_)); gi_step)
 refine opIn_store 31 _ _ rfl w3.heap.size 31 opZ (o.cells (.slice a3 o.px.length c3)) rfl rfl (World.alloc_heap_new _ _) (by kernel_rfl) rfl (by unfold OpT.cells; rw [List.all_toArray]; rfl) ?_
 simp only [Act.put, List.setIfInBounds_toArray, List.set_cons_succ, List.set_cons_zero]
 rw [← opZ.eq_1]
 have hb := below_setRow ((B7 w3.heap.size w3).alloc (Nat.le_refl _) (.cells opZ 31)) (Nat.le_refl _) (o.cells (.slice a3 o.px.length c3))
 have ho := setRow_heap (w3.alloc (.cells opZ 31)) w3.heap.size opZ (o.cells (.slice a3 o.px.length c3)) _ _ (World.alloc_heap_new _ _)
 obtain ⟨w4, hw_⟩ : ∃ w4, (w3.alloc (.cells opZ 31)).setRow w3.heap.size (o.cells (.slice a3 o.px.length c3)) = w4 := ⟨_, rfl⟩
 rw [hw_] at hb ho ⊢
 clear hw_
 have HO := H7 (BlkO.mk ho)
 clear ho
 have HL := H7 (HL.out.below hb)
 have HP := H7 (HP.out.below hb)
 clear hb
 gi_wp2
 repeat ((fail_if_success (with_reducible refine stop_at (id := 4) ?_)); (first | go_values | go_skip | go_guarded | go_step | go_upon | go_back | (simp only [Int.not_lt, Int.not_le] at *; go_simp) | (go_values <;> (try go_simp)) | (go_ite <;> go_prune <;> (try go_simp)) | (split <;> (first | (rename_i hx; exact (hx _ rfl).elim) | go_prune))))
 refine (wpIn_wide (n := 0)).1 ?_
 repeat ((fail_if_success (refine opIn_load 31 _ rfl w3.heap.size rfl 31 _ (0, 0) _ HO.out.at_ Tryz.underlying31 rfl (by kernel_rfl) ?_)); gi_step)
 refine opIn_load 31 _ rfl w3.heap.size rfl 31 _ (0, 0) _ HO.out.at_ Tryz.underlying31 rfl (by kernel_rfl) ?_
 simp only [Act.put, List.setIfInBounds_toArray, List.set_cons_succ, List.set_cons_zero]
 gi_wp2_with fail
 refine (callsIn_wide.2 (opPlain_any o _ hlen w4 HP.out)).mono ?_
 rintro e w5 ⟨pv5, rfl, hp5, hb⟩
 have HL := H7 (HL.out.below hb)
 have HP := H7 (HP.out.below hb)
 have HO := H7 (HO.out.below hb)
 clear hb
 obtain ⟨p, hpq⟩ : ∃ p, plainO o = p := ⟨_, rfl⟩
 have hplen : p.px.length ≤ 1000000000 := by rw [← hpq]; exact Nat.le_trans (plainO_px o) hlen
 rw [hpq] at hp5 ⊢
 obtain ⟨a5, c5, rfl, hc5, he5⟩ := hp5
 have HPP := H7 (show PixV p.px (.slice a5 p.px.length c5) w5 from ⟨a5, c5, rfl, hc5, he5⟩)
 clear hc5 he5
 simp only []
 go_at_K
 repeat ((fail_if_success (refine opIn_store 31 _ _ rfl w5.heap.size 31 opZ (p.cells (.slice a5 p.px.length c5)) rfl rfl (World.alloc_heap_new _ _) (by kernel_rfl) rfl (by unfold OpT.cells; rw [List.all_toArray]; rfl) ?_)); gi_step)
 refine opIn_store 31 _ _ rfl w5.heap.size 31 opZ (p.cells (.slice a5 p.px.length c5)) rfl rfl (World.alloc_heap_new _ _) (by kernel_rfl) rfl (by unfold OpT.cells; rw [List.all_toArray]; rfl) ?_
 simp only [Act.put, List.setIfInBounds_toArray, List.set_cons_succ, List.set_cons_zero]
 rw [← opZ.eq_1]
 have hb := below_setRow ((B7 w5.heap.size w5).alloc (Nat.le_refl _) (.cells opZ 31)) (Nat.le_refl _) (p.cells (.slice a5 p.px.length c5))
 have ho := setRow_heap (w5.alloc (.cells opZ 31)) w5.heap.size opZ (p.cells (.slice a5 p.px.length c5)) _ _ (World.alloc_heap_new _ _)
 obtain ⟨w6, hw_⟩ : ∃ w6, (w5.alloc (.cells opZ 31)).setRow w5.heap.size (p.cells (.slice a5 p.px.length c5)) = w6 := ⟨_, rfl⟩
 rw [hw_] at hb ho ⊢
 clear hw_
 have HQ := H7 (BlkO.mk ho)
 clear ho
 have HL := H7 (HL.out.below hb)
 have HP := H7 (HP.out.below hb)
 have HO := H7 (HO.out.below hb)
 have HPP := H7 (HPP.out.below hb)
 clear hb
 have HF := H7 (show p.id = o.id ∧ p.kind = o.kind ∧ plainO p = p ∧ (opMayB o = true → sameO o p = true) from ⟨by rw [← hpq]; exact plainO_id o, by rw [← hpq]; exact plainO_kind o, by rw [← hpq]; exact plainO_plain o, fun h => by rw [← hpq]; exact may_same h⟩)
 have HT := H7 (show (¬ (o.kind = 7 ∨ o.kind = 8) → p.tg = ⟨0, 0, 0⟩) ∧ ((o.kind = 7 ∨ o.kind = 8) → p.x = 0 ∧ p.c = ⟨0, 0, 0, 0⟩) from ⟨fun h => by rw [← hpq]; exact plainO_tg o h, fun h => by rw [← hpq]; exact plainO_78 o h⟩)
 have HLN := H7 (And.intro hlen hplen)
 clear hpq hlen hplen
 gi_wp2
 repeat ((fail_if_success (with_reducible refine stop_at (id := 5) ?_)); (first | go_values | go_skip | go_guarded | go_step | go_upon | go_back | (simp only [Int.not_lt, Int.not_le] at *; go_simp) | (go_values <;> (try go_simp)) | (go_ite <;> go_prune <;> (try go_simp)) | (split <;> (first | (rename_i hx; exact (hx _ rfl).elim) | go_prune))))
 have HPL := H7 (fun w' (hb : Below w6.heap.size w6 w') => opPlain_any p _ HLN.out.2 w' (HPP.out.below hb))
 have HS2 := H7 (fun w' (hb : Below w6.heap.size w6 w') pv7 (h7 : PixV p.px pv7 w') => opSame_any p p pv7 _ HLN.out.2 w' h7 (HPP.out.below hb))
 rw [HF.out.2.2.1] at HPL
 rw [sameO_self] at HS2
 have HCK := H7 (fun w' (hb : Below w6.heap.size w6 w') => opCheck_any o _ HLN.out.1 w' (HP.out.below hb))
 have HS1 := H7 (fun w' (hb : Below w6.heap.size w6 w') => opSame_any o p _ _ HLN.out.1 w' (HP.out.below hb) (HPP.out.below hb))
 cases hmay : opMayB o with
 | true =>
  rw [hmay] at HCK
  simp only [errOf, if_true] at HCK
  rw [HF.out.2.2.2 hmay] at HS1
  refine (wpIn_wide (n := 0)).1 ?_
  apply w7v 30 (Rl := [(eqv _), (eqv _), (eqv _), (eqv _), (eqv _), (eqv _), (eqv _), (eqv _), (eqv _), (eqv _), (eqv _), (fun v_ w_ => ∃ pv7, v_ = .agg (p.cells pv7) ∧ PixV p.px pv7 w_), (eqv _), (eqv _), (eqv _), (eqv _), (eqv _), (eqv _), (eqv _), (eqv _), (eqv _), (eqv _), (eqv _), (eqv _), (eqv _), (eqv _), (eqv _), (eqv _), (eqv _), (eqv _)]) (C := (fun x y => Below x.heap.size x y))
  case hm => kernel_rfl
  case hk => rfl
  case hCr => exact (fun _ => B7 _ _)
  case hCt => intro _ _ _; exact (fun h k => g7t h k)
  case hst => exact ⟨fun _ _ _ _ h => h, fun _ _ _ _ h => h, fun _ _ _ _ h => h, fun _ _ _ _ h => h, fun _ _ _ _ h => h, fun _ _ _ _ h => h, fun _ _ _ _ h => h, fun _ _ _ _ h => h, fun _ _ _ _ h => h, fun _ _ _ _ h => h, fun _ _ _ _ h => h, fun _ _ _ hC ⟨pv7, h1, h2⟩ => ⟨pv7, h1, h2.below hC⟩, fun _ _ _ _ h => h, fun _ _ _ _ h => h, fun _ _ _ _ h => h, fun _ _ _ _ h => h, fun _ _ _ _ h => h, fun _ _ _ _ h => h, fun _ _ _ _ h => h, fun _ _ _ _ h => h, fun _ _ _ _ h => h, fun _ _ _ _ h => h, fun _ _ _ _ h => h, fun _ _ _ _ h => h, fun _ _ _ _ h => h, fun _ _ _ _ h => h, fun _ _ _ _ h => h, fun _ _ _ _ h => h, fun _ _ _ _ h => h, fun _ _ _ _ h => h, trivial⟩
  case hfo => kernel_rfl
  case ht => kernel_rfl
  case hC0 => exact (g7d _)
  case hsteps =>
   refine ⟨?_, ?_, ?_, ?_, ?_, ?_, ?_, ?_, ?_, ?_, ?_, ?_, ?_, ?_, ?_, ?_, ?_, ?_, ?_, ?_, ?_, ?_, ?_, ?_, ?_, ?_, ?_, ?_, ?_, ?_, trivial⟩
   · intro a' w' hA hC hD; have s3 := hA.to 3 (by kernel_rfl) rfl; clear hA hD; refine o7p rfl ?_; intro K hK
     refine opIn_load 31 _ rfl w3.heap.size (by simp [Act.eval, s3]) 31 _ (0, 0) _ (HO.out.below hC).at_ Tryz.underlying31 rfl (by kernel_rfl) (hK _ _ rfl (B7 _ _))
   · intro a' w' hA hC hD; obtain ⟨u12, s12, rfl⟩ := hD ⟨0, .data⟩ (by simp) rfl _ rfl; clear hA hD; refine o7p rfl ?_; intro K hK
     gi_wp2_with fail; refine (callsIn_wide.2 (HCK.out _ hC)).mono ?_; rintro e w9 ⟨rfl, hb⟩; exact hK _ _ rfl hb
   · intro a' w' hA hC hD; obtain ⟨u13, s13, rfl⟩ := hD ⟨1, .data⟩ (by simp) rfl _ rfl; clear hA hD; refine o7p rfl ?_; intro K hK; gi_wp2; exact hK _ _ rfl (B7 _ _)
   · intro a' w' hA hC hD; obtain ⟨u14, s14, rfl⟩ := hD ⟨2, .data⟩ (by simp) rfl _ rfl; clear hA hD; refine o7p rfl ?_; intro K hK; gi_wp2; exact hK _ _ rfl (B7 _ _)
   · intro a' w' hA hC hD; have s3 := hA.to 3 (by kernel_rfl) rfl; obtain ⟨u15, s15, rfl⟩ := hD ⟨3, .guard⟩ (by simp) rfl _ rfl; clear hA hD; refine o7w rfl rfl s15 ?_; intro K hK
     refine opIn_load 31 _ rfl w3.heap.size (by simp [Act.eval, s3]) 31 _ (0, 0) _ (HO.out.below hC).at_ Tryz.underlying31 rfl (by kernel_rfl) (hK _ _ rfl (B7 _ _))
   · intro a' w' hA hC hD; have s4 := hA.to 4 (by kernel_rfl) rfl; obtain ⟨u15, s15, rfl⟩ := hD ⟨3, .guard⟩ (by simp) rfl _ rfl; clear hA hD; refine o7w rfl rfl s15 ?_; intro K hK
     refine opIn_load 31 _ rfl w5.heap.size (by simp [Act.eval, s4]) 31 _ (0, 0) _ (HQ.out.below hC).at_ Tryz.underlying31 rfl (by kernel_rfl) (hK _ _ rfl (B7 _ _))
   · intro a' w' hA hC hD; obtain ⟨u16, s16, rfl⟩ := hD ⟨4, .data⟩ (by simp) rfl _ rfl; obtain ⟨u17, s17, rfl⟩ := hD ⟨5, .data⟩ (by simp) rfl _ rfl; obtain ⟨u15, s15, rfl⟩ := hD ⟨3, .chain⟩ (by simp) rfl _ rfl; clear hA hD; refine o7w rfl rfl s15 ?_; intro K hK
     gi_wp2_with fail; refine (callsIn_wide.2 (HS1.out _ hC)).mono ?_; rintro e w9 ⟨rfl, hb⟩; exact hK _ _ rfl hb
   · intro a' w' hA hC hD; obtain ⟨u18, s18, rfl⟩ := hD ⟨6, .data⟩ (by simp) rfl _ rfl; obtain ⟨u15, s15, rfl⟩ := hD ⟨3, .guard⟩ (by simp) rfl _ rfl; clear hA hD; refine o7w rfl rfl s15 ?_; intro K hK; gi_wp2; exact hK _ _ rfl (B7 _ _)
   · intro a' w' hA hC hD; obtain ⟨u15, s15, rfl⟩ := hD ⟨3, .data⟩ (by simp) rfl _ rfl; obtain ⟨u19, s19, rfl⟩ := hD ⟨7, .data⟩ (by simp) rfl _ rfl; clear hA hD; refine o7p rfl ?_; intro K hK; gi_wp2; exact hK _ _ rfl (B7 _ _)
   · intro a' w' hA hC hD; obtain ⟨u20, s20, rfl⟩ := hD ⟨8, .data⟩ (by simp) rfl _ rfl; clear hA hD; refine o7p rfl ?_; intro K hK; gi_wp2; exact hK _ _ rfl (B7 _ _)
   · intro a' w' hA hC hD; have s4 := hA.to 4 (by kernel_rfl) rfl; obtain ⟨u21, s21, rfl⟩ := hD ⟨9, .guard⟩ (by simp) rfl _ rfl; clear hA hD; refine o7w rfl rfl s21 ?_; intro K hK
     refine opIn_load 31 _ rfl w5.heap.size (by simp [Act.eval, s4]) 31 _ (0, 0) _ (HQ.out.below hC).at_ Tryz.underlying31 rfl (by kernel_rfl) (hK _ _ rfl (B7 _ _))
   · intro a' w' hA hC hD; obtain ⟨u22, s22, rfl⟩ := hD ⟨10, .data⟩ (by simp) rfl _ rfl; obtain ⟨u21, s21, rfl⟩ := hD ⟨9, .chain⟩ (by simp) rfl _ rfl; clear hA hD; refine o7w rfl rfl s21 ?_; intro K hK
     gi_wp2_with fail; refine (callsIn_wide.2 (HPL.out _ hC)).mono ?_; rintro e w9 ⟨pv7, rfl, h7, hb⟩
     exact hK _ _ ⟨pv7, rfl, h7⟩ hb
   · intro a' w' hA hC hD; have s4 := hA.to 4 (by kernel_rfl) rfl; obtain ⟨u21, s21, rfl⟩ := hD ⟨9, .guard⟩ (by simp) rfl _ rfl; clear hA hD; refine o7w rfl rfl s21 ?_; intro K hK
     refine opIn_load 31 _ rfl w5.heap.size (by simp [Act.eval, s4]) 31 _ (0, 0) _ (HQ.out.below hC).at_ Tryz.underlying31 rfl (by kernel_rfl) (hK _ _ rfl (B7 _ _))
   · intro a' w' hA hC hD; obtain ⟨u23, s23, r23⟩ := hD ⟨11, .data⟩ (by simp) rfl _ rfl; replace r23 : (fun v_ w_ => ∃ pv7, v_ = .agg (p.cells pv7) ∧ PixV p.px pv7 w_) u23 w' := r23; obtain ⟨u24, s24, rfl⟩ := hD ⟨12, .data⟩ (by simp) rfl _ rfl; obtain ⟨u21, s21, rfl⟩ := hD ⟨9, .guard⟩ (by simp) rfl _ rfl
     obtain ⟨pv7, rfl, h7⟩ := r23
     clear hA hD; refine o7w rfl rfl s21 ?_; intro K hK
     gi_wp2_with fail; refine (callsIn_wide.2 (HS2.out _ hC pv7 h7)).mono ?_; rintro e w9 ⟨rfl, hb⟩; exact hK _ _ rfl hb
   · intro a' w' hA hC hD; obtain ⟨u25, s25, rfl⟩ := hD ⟨13, .data⟩ (by simp) rfl _ rfl; obtain ⟨u21, s21, rfl⟩ := hD ⟨9, .guard⟩ (by simp) rfl _ rfl; clear hA hD; refine o7w rfl rfl s21 ?_; intro K hK; gi_wp2; exact hK _ _ rfl (B7 _ _)
   · intro a' w' hA hC hD; obtain ⟨u21, s21, rfl⟩ := hD ⟨9, .data⟩ (by simp) rfl _ rfl; obtain ⟨u26, s26, rfl⟩ := hD ⟨14, .data⟩ (by simp) rfl _ rfl; clear hA hD; refine o7p rfl ?_; intro K hK; gi_wp2; exact hK _ _ rfl (B7 _ _)
   · intro a' w' hA hC hD; obtain ⟨u27, s27, rfl⟩ := hD ⟨15, .data⟩ (by simp) rfl _ rfl; clear hA hD; refine o7p rfl ?_; intro K hK; gi_wp2; exact hK _ _ rfl (B7 _ _)
   · intro a' w' hA hC hD; have s4 := hA.to 4 (by kernel_rfl) rfl; obtain ⟨u28, s28, rfl⟩ := hD ⟨16, .guard⟩ (by simp) rfl _ rfl; clear hA hD; refine o7w rfl rfl s28 ?_; intro K hK; gi_wp2; exact hK _ _ rfl (B7 _ _)
   · intro a' w' hA hC hD; obtain ⟨u29, s29, rfl⟩ := hD ⟨17, .data⟩ (by simp) rfl _ rfl; obtain ⟨u28, s28, rfl⟩ := hD ⟨16, .guard⟩ (by simp) rfl _ rfl
     obtain ⟨q0, q1, q2, -⟩ := opCells (HQ.out.below hC).at_; rw [HF.out.1] at q0 q1 q2
     clear hA hD; refine o7w rfl rfl s28 ?_; intro K hK; gi_wp2; exact hK _ _ rfl (B7 _ _)
   · intro a' w' hA hC hD; have s3 := hA.to 3 (by kernel_rfl) rfl; obtain ⟨u28, s28, rfl⟩ := hD ⟨16, .guard⟩ (by simp) rfl _ rfl; clear hA hD; refine o7w rfl rfl s28 ?_; intro K hK; gi_wp2; exact hK _ _ rfl (B7 _ _)
   · intro a' w' hA hC hD; obtain ⟨u31, s31, rfl⟩ := hD ⟨19, .data⟩ (by simp) rfl _ rfl; obtain ⟨u28, s28, rfl⟩ := hD ⟨16, .guard⟩ (by simp) rfl _ rfl
     obtain ⟨q0, q1, q2, -⟩ := opCells (HO.out.below hC).at_
     clear hA hD; refine o7w rfl rfl s28 ?_; intro K hK; gi_wp2; exact hK _ _ rfl (B7 _ _)
   · intro a' w' hA hC hD; obtain ⟨u30, s30, rfl⟩ := hD ⟨18, .data⟩ (by simp) rfl _ rfl; obtain ⟨u32, s32, rfl⟩ := hD ⟨20, .data⟩ (by simp) rfl _ rfl; obtain ⟨u28, s28, rfl⟩ := hD ⟨16, .guard⟩ (by simp) rfl _ rfl
     have hr := run_neq_self o.id.time o.id.site o.id.seq w'
     clear hA hD; refine o7w rfl rfl s28 ?_; intro K hK; gi_wp2; exact hK _ _ rfl (B7 _ _)
   · intro a' w' hA hC hD; obtain ⟨u28, s28, rfl⟩ := hD ⟨16, .data⟩ (by simp) rfl _ rfl; obtain ⟨u33, s33, rfl⟩ := hD ⟨21, .data⟩ (by simp) rfl _ rfl; clear hA hD; refine o7p rfl ?_; intro K hK; gi_wp2; exact hK _ _ rfl (B7 _ _)
   · intro a' w' hA hC hD; obtain ⟨u34, s34, rfl⟩ := hD ⟨22, .data⟩ (by simp) rfl _ rfl; clear hA hD; refine o7p rfl ?_; intro K hK; gi_wp2; exact hK _ _ rfl (B7 _ _)
   · intro a' w' hA hC hD; have s4 := hA.to 4 (by kernel_rfl) rfl; obtain ⟨u35, s35, rfl⟩ := hD ⟨23, .guard⟩ (by simp) rfl _ rfl; clear hA hD; refine o7w rfl rfl s35 ?_; intro K hK; gi_wp2; exact hK _ _ rfl (B7 _ _)
   · intro a' w' hA hC hD; obtain ⟨u36, s36, rfl⟩ := hD ⟨24, .data⟩ (by simp) rfl _ rfl; obtain ⟨u35, s35, rfl⟩ := hD ⟨23, .guard⟩ (by simp) rfl _ rfl
     obtain ⟨-, -, -, q3, -⟩ := opCells (HQ.out.below hC).at_; rw [HF.out.2.1] at q3
     clear hA hD; refine o7w rfl rfl s35 ?_; intro K hK; gi_wp2; exact hK _ _ rfl (B7 _ _)
   · intro a' w' hA hC hD; have s3 := hA.to 3 (by kernel_rfl) rfl; obtain ⟨u35, s35, rfl⟩ := hD ⟨23, .guard⟩ (by simp) rfl _ rfl; clear hA hD; refine o7w rfl rfl s35 ?_; intro K hK; gi_wp2; exact hK _ _ rfl (B7 _ _)
   · intro a' w' hA hC hD; obtain ⟨u38, s38, rfl⟩ := hD ⟨26, .data⟩ (by simp) rfl _ rfl; obtain ⟨u35, s35, rfl⟩ := hD ⟨23, .guard⟩ (by simp) rfl _ rfl
     obtain ⟨-, -, -, q3, -⟩ := opCells (HO.out.below hC).at_
     clear hA hD; refine o7w rfl rfl s35 ?_; intro K hK; gi_wp2; exact hK _ _ rfl (B7 _ _)
   · intro a' w' hA hC hD; obtain ⟨u37, s37, rfl⟩ := hD ⟨25, .data⟩ (by simp) rfl _ rfl; obtain ⟨u39, s39, rfl⟩ := hD ⟨27, .data⟩ (by simp) rfl _ rfl; obtain ⟨u35, s35, rfl⟩ := hD ⟨23, .guard⟩ (by simp) rfl _ rfl; clear hA hD; refine o7w rfl rfl s35 ?_; intro K hK; gi_wp2; exact hK _ _ rfl (B7 _ _)
   · intro a' w' hA hC hD; obtain ⟨u35, s35, rfl⟩ := hD ⟨23, .data⟩ (by simp) rfl _ rfl; obtain ⟨u40, s40, rfl⟩ := hD ⟨28, .data⟩ (by simp) rfl _ rfl; clear hA hD; refine o7p rfl ?_; intro K hK; gi_wp2; exact hK _ _ rfl (B7 _ _)
  case hend =>
   intro w7 hC
   simp only [EndFrom, eqv, forall_eq, Act.put, List.length_cons, List.length_nil, List.drop_succ_cons, List.drop_zero, Nat.reduceAdd, List.setIfInBounds_toArray, List.set_cons_succ, List.set_cons_zero]
   have hb := hC
   clear hC HPL HS2 HCK HS1 HPP HP
   have HL := H7 (HL.out.below hb)
   have HO := H7 (HO.out.below hb)
   have HQ := H7 (HQ.out.below hb)
   clear hb
   rintro v11 -
   obtain ⟨-, -, -, q3, -⟩ := opCells HO.out.at_
   gi_wp2
   go_wp2_with fail
   refine (opUses_any o.kind w7).mono ?_
   rintro e w8 ⟨rfl, hb⟩
   clear q3
   have HL := H7 (HL.out.below hb)
   have HO := H7 (HO.out.below hb)
   have HQ := H7 (HQ.out.below hb)
   clear hb
   have hpt : ∀ w', Calls Tryz.prog 16 #[.int .i64 o.kind] w' (Gives (.bool (paintsB o.kind)) w') := fun w' => opPaints_any o.kind w'
   have HE := H7 (fun w' => run_eql_id w' 0 0 0 0 0 0)
   have HEC := H7 (fun w' => run_eql_col0 w')
   rcases uses_cases o.kind with ⟨hpb, ht, hn⟩ | ⟨hpb, ht, h78⟩ | ⟨hpb, ht, hn⟩
   · rw [hpb] at hpt
     have HPT := H7 hpt
     have HTG := H7 (HT.out.1 hn)
     clear hpb hn hpt
     obtain ⟨-, -, -, q3, -⟩ := opCells HO.out.at_
     rcases ht with ht | ht | ht | ht <;> (
      rw [ht]
      clear ht
      go_wp2_with fail
      refine (HPT.out _).mono ?_
      rintro e w9 ⟨rfl, hb⟩
      clear q3
      have HL := H7 (HL.out.below hb)
      have HQ := H7 (HQ.out.below hb)
      clear hb
      obtain ⟨-, -, -, -, -, -, -, -, -, -, -, -, -, -, -, -, z16, z17, z18⟩ := opCells HQ.out.at_
      rw [HTG.out] at z16 z17 z18
      have hr := HE.out
      go_wp2_with fail
      all_goals first
       | (exfalso; rename_i h_; exact h_ (by first | rfl | decide +kernel))
       | (go_ret; exact ⟨rfl, HL.out.b⟩))
   · rw [hpb] at hpt
     have HPT := H7 hpt
     have HX := H7 (HT.out.2 h78)
     clear hpb h78 hpt
     obtain ⟨-, -, -, q3, -⟩ := opCells HO.out.at_
     rw [ht]
     clear ht
     go_wp2_with fail
     refine (HPT.out _).mono ?_
     rintro e w9 ⟨rfl, hb⟩
     clear q3
     have HL := H7 (HL.out.below hb)
     have HQ := H7 (HQ.out.below hb)
     clear hb
     obtain ⟨-, -, -, -, z4, -, -, -, -, z9, z10, z11, z12, -⟩ := opCells HQ.out.at_
     rw [HX.out.1] at z4
     rw [HX.out.2] at z9 z10 z11 z12
     have hr := HEC.out
     go_wp2_with fail
     go_ret
     exact ⟨rfl, HL.out.b⟩
   · rw [hpb] at hpt
     have HPT := H7 hpt
     have HTG := H7 (HT.out.1 hn)
     clear hpb hn hpt
     obtain ⟨-, -, -, q3, -⟩ := opCells HO.out.at_
     rw [ht]
     clear ht
     go_wp2_with fail
     refine (HPT.out _).mono ?_
     rintro e w9 ⟨rfl, hb⟩
     clear q3
     have HL := H7 (HL.out.below hb)
     have HQ := H7 (HQ.out.below hb)
     clear hb
     obtain ⟨-, -, -, -, -, -, -, -, -, -, -, -, -, -, -, -, z16, z17, z18⟩ := opCells HQ.out.at_
     rw [HTG.out] at z16 z17 z18
     have hr := HE.out
     go_wp2_with fail
     go_ret
     exact ⟨rfl, HL.out.b⟩
 | false =>
  rw [hmay] at HCK
  simp only [errOf, Bool.false_eq_true, if_false] at HCK
  refine (wpIn_wide (n := 0)).1 ?_
  apply w7v 30 (Rl := [(eqv _), (eqv _), (eqv _), (eqv _), (fun v_ _ => v_ = (undef : Value)), (fun v_ _ => v_ = (undef : Value)), (fun v_ _ => v_ = (undef : Value)), (fun v_ _ => v_ = (undef : Value)), (eqv _), (eqv _), (eqv _), (fun v_ w_ => ∃ pv7, v_ = .agg (p.cells pv7) ∧ PixV p.px pv7 w_), (eqv _), (eqv _), (eqv _), (eqv _), (eqv _), (eqv _), (eqv _), (eqv _), (eqv _), (eqv _), (eqv _), (eqv _), (eqv _), (eqv _), (eqv _), (eqv _), (eqv _), (eqv _)]) (C := (fun x y => Below x.heap.size x y))
  case hm => kernel_rfl
  case hk => rfl
  case hCr => exact (fun _ => B7 _ _)
  case hCt => intro _ _ _; exact (fun h k => g7t h k)
  case hst => exact ⟨fun _ _ _ _ h => h, fun _ _ _ _ h => h, fun _ _ _ _ h => h, fun _ _ _ _ h => h, fun _ _ _ _ h => h, fun _ _ _ _ h => h, fun _ _ _ _ h => h, fun _ _ _ _ h => h, fun _ _ _ _ h => h, fun _ _ _ _ h => h, fun _ _ _ _ h => h, fun _ _ _ hC ⟨pv7, h1, h2⟩ => ⟨pv7, h1, h2.below hC⟩, fun _ _ _ _ h => h, fun _ _ _ _ h => h, fun _ _ _ _ h => h, fun _ _ _ _ h => h, fun _ _ _ _ h => h, fun _ _ _ _ h => h, fun _ _ _ _ h => h, fun _ _ _ _ h => h, fun _ _ _ _ h => h, fun _ _ _ _ h => h, fun _ _ _ _ h => h, fun _ _ _ _ h => h, fun _ _ _ _ h => h, fun _ _ _ _ h => h, fun _ _ _ _ h => h, fun _ _ _ _ h => h, fun _ _ _ _ h => h, fun _ _ _ _ h => h, trivial⟩
  case hfo => kernel_rfl
  case ht => kernel_rfl
  case hC0 => exact (g7d _)
  case hsteps =>
   refine ⟨?_, ?_, ?_, ?_, ?_, ?_, ?_, ?_, ?_, ?_, ?_, ?_, ?_, ?_, ?_, ?_, ?_, ?_, ?_, ?_, ?_, ?_, ?_, ?_, ?_, ?_, ?_, ?_, ?_, ?_, trivial⟩
   · intro a' w' hA hC hD; have s3 := hA.to 3 (by kernel_rfl) rfl; clear hA hD; refine o7p rfl ?_; intro K hK
     refine opIn_load 31 _ rfl w3.heap.size (by simp [Act.eval, s3]) 31 _ (0, 0) _ (HO.out.below hC).at_ Tryz.underlying31 rfl (by kernel_rfl) (hK _ _ rfl (B7 _ _))
   · intro a' w' hA hC hD; obtain ⟨u12, s12, rfl⟩ := hD ⟨0, .data⟩ (by simp) rfl _ rfl; clear hA hD; refine o7p rfl ?_; intro K hK
     gi_wp2_with fail; refine (callsIn_wide.2 (HCK.out _ hC)).mono ?_; rintro e w9 ⟨rfl, hb⟩; exact hK _ _ rfl hb
   · intro a' w' hA hC hD; obtain ⟨u13, s13, rfl⟩ := hD ⟨1, .data⟩ (by simp) rfl _ rfl; clear hA hD; refine o7p rfl ?_; intro K hK; gi_wp2; exact hK _ _ rfl (B7 _ _)
   · intro a' w' hA hC hD; obtain ⟨u14, s14, rfl⟩ := hD ⟨2, .data⟩ (by simp) rfl _ rfl; clear hA hD; refine o7p rfl ?_; intro K hK; gi_wp2; exact hK _ _ rfl (B7 _ _)
   · intro a' w' hA hC hD; have s3 := hA.to 3 (by kernel_rfl) rfl; obtain ⟨u15, s15, rfl⟩ := hD ⟨3, .guard⟩ (by simp) rfl _ rfl; clear hA hD
     exact o7s rfl rfl s15 rfl
   · intro a' w' hA hC hD; have s4 := hA.to 4 (by kernel_rfl) rfl; obtain ⟨u15, s15, rfl⟩ := hD ⟨3, .guard⟩ (by simp) rfl _ rfl; clear hA hD
     exact o7s rfl rfl s15 rfl
   · intro a' w' hA hC hD; obtain ⟨u16, s16, r16⟩ := hD ⟨4, .data⟩ (by simp) rfl _ rfl; replace r16 : u16 = undef := r16; subst r16; obtain ⟨u17, s17, r17⟩ := hD ⟨5, .data⟩ (by simp) rfl _ rfl; replace r17 : u17 = undef := r17; subst r17; obtain ⟨u15, s15, rfl⟩ := hD ⟨3, .chain⟩ (by simp) rfl _ rfl; clear hA hD
     exact o7s rfl rfl s15 rfl
   · intro a' w' hA hC hD; obtain ⟨u18, s18, r18⟩ := hD ⟨6, .data⟩ (by simp) rfl _ rfl; replace r18 : u18 = undef := r18; subst r18; obtain ⟨u15, s15, rfl⟩ := hD ⟨3, .guard⟩ (by simp) rfl _ rfl; clear hA hD
     exact o7s rfl rfl s15 rfl
   · intro a' w' hA hC hD; obtain ⟨u15, s15, rfl⟩ := hD ⟨3, .data⟩ (by simp) rfl _ rfl; obtain ⟨u19, s19, r19⟩ := hD ⟨7, .data⟩ (by simp) rfl _ rfl; replace r19 : u19 = undef := r19; subst r19; clear hA hD; refine o7p rfl ?_; intro K hK; gi_wp2; exact hK _ _ rfl (B7 _ _)
   · intro a' w' hA hC hD; obtain ⟨u20, s20, rfl⟩ := hD ⟨8, .data⟩ (by simp) rfl _ rfl; clear hA hD; refine o7p rfl ?_; intro K hK; gi_wp2; exact hK _ _ rfl (B7 _ _)
   · intro a' w' hA hC hD; have s4 := hA.to 4 (by kernel_rfl) rfl; obtain ⟨u21, s21, rfl⟩ := hD ⟨9, .guard⟩ (by simp) rfl _ rfl; clear hA hD; refine o7w rfl rfl s21 ?_; intro K hK
     refine opIn_load 31 _ rfl w5.heap.size (by simp [Act.eval, s4]) 31 _ (0, 0) _ (HQ.out.below hC).at_ Tryz.underlying31 rfl (by kernel_rfl) (hK _ _ rfl (B7 _ _))
   · intro a' w' hA hC hD; obtain ⟨u22, s22, rfl⟩ := hD ⟨10, .data⟩ (by simp) rfl _ rfl; obtain ⟨u21, s21, rfl⟩ := hD ⟨9, .chain⟩ (by simp) rfl _ rfl; clear hA hD; refine o7w rfl rfl s21 ?_; intro K hK
     gi_wp2_with fail; refine (callsIn_wide.2 (HPL.out _ hC)).mono ?_; rintro e w9 ⟨pv7, rfl, h7, hb⟩
     exact hK _ _ ⟨pv7, rfl, h7⟩ hb
   · intro a' w' hA hC hD; have s4 := hA.to 4 (by kernel_rfl) rfl; obtain ⟨u21, s21, rfl⟩ := hD ⟨9, .guard⟩ (by simp) rfl _ rfl; clear hA hD; refine o7w rfl rfl s21 ?_; intro K hK
     refine opIn_load 31 _ rfl w5.heap.size (by simp [Act.eval, s4]) 31 _ (0, 0) _ (HQ.out.below hC).at_ Tryz.underlying31 rfl (by kernel_rfl) (hK _ _ rfl (B7 _ _))
   · intro a' w' hA hC hD; obtain ⟨u23, s23, r23⟩ := hD ⟨11, .data⟩ (by simp) rfl _ rfl; replace r23 : (fun v_ w_ => ∃ pv7, v_ = .agg (p.cells pv7) ∧ PixV p.px pv7 w_) u23 w' := r23; obtain ⟨u24, s24, rfl⟩ := hD ⟨12, .data⟩ (by simp) rfl _ rfl; obtain ⟨u21, s21, rfl⟩ := hD ⟨9, .guard⟩ (by simp) rfl _ rfl
     obtain ⟨pv7, rfl, h7⟩ := r23
     clear hA hD; refine o7w rfl rfl s21 ?_; intro K hK
     gi_wp2_with fail; refine (callsIn_wide.2 (HS2.out _ hC pv7 h7)).mono ?_; rintro e w9 ⟨rfl, hb⟩; exact hK _ _ rfl hb
   · intro a' w' hA hC hD; obtain ⟨u25, s25, rfl⟩ := hD ⟨13, .data⟩ (by simp) rfl _ rfl; obtain ⟨u21, s21, rfl⟩ := hD ⟨9, .guard⟩ (by simp) rfl _ rfl; clear hA hD; refine o7w rfl rfl s21 ?_; intro K hK; gi_wp2; exact hK _ _ rfl (B7 _ _)
   · intro a' w' hA hC hD; obtain ⟨u21, s21, rfl⟩ := hD ⟨9, .data⟩ (by simp) rfl _ rfl; obtain ⟨u26, s26, rfl⟩ := hD ⟨14, .data⟩ (by simp) rfl _ rfl; clear hA hD; refine o7p rfl ?_; intro K hK; gi_wp2; exact hK _ _ rfl (B7 _ _)
   · intro a' w' hA hC hD; obtain ⟨u27, s27, rfl⟩ := hD ⟨15, .data⟩ (by simp) rfl _ rfl; clear hA hD; refine o7p rfl ?_; intro K hK; gi_wp2; exact hK _ _ rfl (B7 _ _)
   · intro a' w' hA hC hD; have s4 := hA.to 4 (by kernel_rfl) rfl; obtain ⟨u28, s28, rfl⟩ := hD ⟨16, .guard⟩ (by simp) rfl _ rfl; clear hA hD; refine o7w rfl rfl s28 ?_; intro K hK; gi_wp2; exact hK _ _ rfl (B7 _ _)
   · intro a' w' hA hC hD; obtain ⟨u29, s29, rfl⟩ := hD ⟨17, .data⟩ (by simp) rfl _ rfl; obtain ⟨u28, s28, rfl⟩ := hD ⟨16, .guard⟩ (by simp) rfl _ rfl
     obtain ⟨q0, q1, q2, -⟩ := opCells (HQ.out.below hC).at_; rw [HF.out.1] at q0 q1 q2
     clear hA hD; refine o7w rfl rfl s28 ?_; intro K hK; gi_wp2; exact hK _ _ rfl (B7 _ _)
   · intro a' w' hA hC hD; have s3 := hA.to 3 (by kernel_rfl) rfl; obtain ⟨u28, s28, rfl⟩ := hD ⟨16, .guard⟩ (by simp) rfl _ rfl; clear hA hD; refine o7w rfl rfl s28 ?_; intro K hK; gi_wp2; exact hK _ _ rfl (B7 _ _)
   · intro a' w' hA hC hD; obtain ⟨u31, s31, rfl⟩ := hD ⟨19, .data⟩ (by simp) rfl _ rfl; obtain ⟨u28, s28, rfl⟩ := hD ⟨16, .guard⟩ (by simp) rfl _ rfl
     obtain ⟨q0, q1, q2, -⟩ := opCells (HO.out.below hC).at_
     clear hA hD; refine o7w rfl rfl s28 ?_; intro K hK; gi_wp2; exact hK _ _ rfl (B7 _ _)
   · intro a' w' hA hC hD; obtain ⟨u30, s30, rfl⟩ := hD ⟨18, .data⟩ (by simp) rfl _ rfl; obtain ⟨u32, s32, rfl⟩ := hD ⟨20, .data⟩ (by simp) rfl _ rfl; obtain ⟨u28, s28, rfl⟩ := hD ⟨16, .guard⟩ (by simp) rfl _ rfl
     have hr := run_neq_self o.id.time o.id.site o.id.seq w'
     clear hA hD; refine o7w rfl rfl s28 ?_; intro K hK; gi_wp2; exact hK _ _ rfl (B7 _ _)
   · intro a' w' hA hC hD; obtain ⟨u28, s28, rfl⟩ := hD ⟨16, .data⟩ (by simp) rfl _ rfl; obtain ⟨u33, s33, rfl⟩ := hD ⟨21, .data⟩ (by simp) rfl _ rfl; clear hA hD; refine o7p rfl ?_; intro K hK; gi_wp2; exact hK _ _ rfl (B7 _ _)
   · intro a' w' hA hC hD; obtain ⟨u34, s34, rfl⟩ := hD ⟨22, .data⟩ (by simp) rfl _ rfl; clear hA hD; refine o7p rfl ?_; intro K hK; gi_wp2; exact hK _ _ rfl (B7 _ _)
   · intro a' w' hA hC hD; have s4 := hA.to 4 (by kernel_rfl) rfl; obtain ⟨u35, s35, rfl⟩ := hD ⟨23, .guard⟩ (by simp) rfl _ rfl; clear hA hD; refine o7w rfl rfl s35 ?_; intro K hK; gi_wp2; exact hK _ _ rfl (B7 _ _)
   · intro a' w' hA hC hD; obtain ⟨u36, s36, rfl⟩ := hD ⟨24, .data⟩ (by simp) rfl _ rfl; obtain ⟨u35, s35, rfl⟩ := hD ⟨23, .guard⟩ (by simp) rfl _ rfl
     obtain ⟨-, -, -, q3, -⟩ := opCells (HQ.out.below hC).at_; rw [HF.out.2.1] at q3
     clear hA hD; refine o7w rfl rfl s35 ?_; intro K hK; gi_wp2; exact hK _ _ rfl (B7 _ _)
   · intro a' w' hA hC hD; have s3 := hA.to 3 (by kernel_rfl) rfl; obtain ⟨u35, s35, rfl⟩ := hD ⟨23, .guard⟩ (by simp) rfl _ rfl; clear hA hD; refine o7w rfl rfl s35 ?_; intro K hK; gi_wp2; exact hK _ _ rfl (B7 _ _)
   · intro a' w' hA hC hD; obtain ⟨u38, s38, rfl⟩ := hD ⟨26, .data⟩ (by simp) rfl _ rfl; obtain ⟨u35, s35, rfl⟩ := hD ⟨23, .guard⟩ (by simp) rfl _ rfl
     obtain ⟨-, -, -, q3, -⟩ := opCells (HO.out.below hC).at_
     clear hA hD; refine o7w rfl rfl s35 ?_; intro K hK; gi_wp2; exact hK _ _ rfl (B7 _ _)
   · intro a' w' hA hC hD; obtain ⟨u37, s37, rfl⟩ := hD ⟨25, .data⟩ (by simp) rfl _ rfl; obtain ⟨u39, s39, rfl⟩ := hD ⟨27, .data⟩ (by simp) rfl _ rfl; obtain ⟨u35, s35, rfl⟩ := hD ⟨23, .guard⟩ (by simp) rfl _ rfl; clear hA hD; refine o7w rfl rfl s35 ?_; intro K hK; gi_wp2; exact hK _ _ rfl (B7 _ _)
   · intro a' w' hA hC hD; obtain ⟨u35, s35, rfl⟩ := hD ⟨23, .data⟩ (by simp) rfl _ rfl; obtain ⟨u40, s40, rfl⟩ := hD ⟨28, .data⟩ (by simp) rfl _ rfl; clear hA hD; refine o7p rfl ?_; intro K hK; gi_wp2; exact hK _ _ rfl (B7 _ _)
  case hend =>
   intro w7 hC
   simp only [EndFrom, eqv, forall_eq, Act.put, List.length_cons, List.length_nil, List.drop_succ_cons, List.drop_zero, Nat.reduceAdd, List.setIfInBounds_toArray, List.set_cons_succ, List.set_cons_zero]
   have hb := hC
   clear hC HPL HS2 HCK HS1 HPP HP
   have HL := H7 (HL.out.below hb)
   have HO := H7 (HO.out.below hb)
   have HQ := H7 (HQ.out.below hb)
   clear hb
   rintro v11 -
   obtain ⟨-, -, -, q3, -⟩ := opCells HO.out.at_
   gi_wp2
   go_wp2_with fail
   refine (opUses_any o.kind w7).mono ?_
   rintro e w8 ⟨rfl, hb⟩
   clear q3
   have HL := H7 (HL.out.below hb)
   have HO := H7 (HO.out.below hb)
   have HQ := H7 (HQ.out.below hb)
   clear hb
   have hpt : ∀ w', Calls Tryz.prog 16 #[.int .i64 o.kind] w' (Gives (.bool (paintsB o.kind)) w') := fun w' => opPaints_any o.kind w'
   have HE := H7 (fun w' => run_eql_id w' 0 0 0 0 0 0)
   have HEC := H7 (fun w' => run_eql_col0 w')
   rcases uses_cases o.kind with ⟨hpb, ht, hn⟩ | ⟨hpb, ht, h78⟩ | ⟨hpb, ht, hn⟩
   · rw [hpb] at hpt
     have HPT := H7 hpt
     have HTG := H7 (HT.out.1 hn)
     clear hpb hn hpt
     obtain ⟨-, -, -, q3, -⟩ := opCells HO.out.at_
     rcases ht with ht | ht | ht | ht <;> (
      rw [ht]
      clear ht
      go_wp2_with fail
      refine (HPT.out _).mono ?_
      rintro e w9 ⟨rfl, hb⟩
      clear q3
      have HL := H7 (HL.out.below hb)
      have HQ := H7 (HQ.out.below hb)
      clear hb
      obtain ⟨-, -, -, -, -, -, -, -, -, -, -, -, -, -, -, -, z16, z17, z18⟩ := opCells HQ.out.at_
      rw [HTG.out] at z16 z17 z18
      have hr := HE.out
      go_wp2_with fail
      all_goals first
       | (exfalso; rename_i h_; exact h_ (by first | rfl | decide +kernel))
       | (go_ret; exact ⟨rfl, HL.out.b⟩))
   · rw [hpb] at hpt
     have HPT := H7 hpt
     have HX := H7 (HT.out.2 h78)
     clear hpb h78 hpt
     obtain ⟨-, -, -, q3, -⟩ := opCells HO.out.at_
     rw [ht]
     clear ht
     go_wp2_with fail
     refine (HPT.out _).mono ?_
     rintro e w9 ⟨rfl, hb⟩
     clear q3
     have HL := H7 (HL.out.below hb)
     have HQ := H7 (HQ.out.below hb)
     clear hb
     obtain ⟨-, -, -, -, z4, -, -, -, -, z9, z10, z11, z12, -⟩ := opCells HQ.out.at_
     rw [HX.out.1] at z4
     rw [HX.out.2] at z9 z10 z11 z12
     have hr := HEC.out
     go_wp2_with fail
     go_ret
     exact ⟨rfl, HL.out.b⟩
   · rw [hpb] at hpt
     have HPT := H7 hpt
     have HTG := H7 (HT.out.1 hn)
     clear hpb hn hpt
     obtain ⟨-, -, -, q3, -⟩ := opCells HO.out.at_
     rw [ht]
     clear ht
     go_wp2_with fail
     refine (HPT.out _).mono ?_
     rintro e w9 ⟨rfl, hb⟩
     clear q3
     have HL := H7 (HL.out.below hb)
     have HQ := H7 (HQ.out.below hb)
     clear hb
     obtain ⟨-, -, -, -, -, -, -, -, -, -, -, -, -, -, -, -, z16, z17, z18⟩ := opCells HQ.out.at_
     rw [HTG.out] at z16 z17 z18
     have hr := HE.out
     go_wp2_with fail
     go_ret
     exact ⟨rfl, HL.out.b⟩
end Go.Proofs.YtgdcfkbimkclaaaGreatDoor
