/- Merged texts: FrU. -/
import Derived.Test.YteklfmacnnmomaaGreatM16
set_option linter.unusedSimpArgs false
set_option linter.unusedVariables false
/- Layer 18: the law FrontierRises. -/
namespace Go.Proofs.YteklfmacnnmomaaGreat
open Go.RowKit Go.Shelf
attribute [local go_sem] Oper.semAt_some
theorem rowSt {w w2 : World} {l : List Int} {sv : Value} {m : Nat} (hm : l.length = m) (h : w2.ownsRow w.heap.size 3 1 sv l.length (l.flatMap encZ)) : ∃ a c, sv = .slice a m c ∧ Elems w2 (.slice a m c) m 1 (rowC encZ l) := by
 subst hm
 obtain ⟨a, c, rfl⟩ := rowShape h
 exact ⟨a, c, rfl, ownsRow_rows encZ_len h⟩
theorem stRow {l : List Int} {m : Nat} (v : Value) (x y : World) (hC : Below x.heap.size x y) (h : ∃ a c, v = .slice a m c ∧ Elems x (.slice a m c) m 1 (rowC encZ l)) : ∃ a c, v = .slice a m c ∧ Elems y (.slice a m c) m 1 (rowC encZ l) := by
 obtain ⟨a, c, h1, h2⟩ := h
 exact ⟨a, c, h1, h2.below hC⟩
theorem frEqZ : frEq frZ frZ = true := frEq_self frZ
theorem sitesL_nil {f : Frt} (h : f.okB = true) : sitesL f [] = natI (regL f) := by
 unfold sitesL
 rw [if_pos h]; rfl
theorem waitsL_prop0 {f : Frt} (h : f.prop = 0) (S : Nat → Int) : waitsL f S = [] := by
 unfold waitsL mayB
 rw [h]
 simp
theorem readyB_prop0 {f : Frt} (h : f.prop = 0) (S : Nat → Int) : readyB f S = false := by
 unfold readyB mayB
 rw [h]
 simp
set_option maxRecDepth 100000 in
set_option maxHeartbeats 8000000 in
theorem frontierRises_any (f : Frt) (S : Nat → Int) (a : Option Addr) (n c : Nat) (l : List Int) (hl : l.length = n) (h0 : 0 ≤ f.folded) (w : World) (he : Elems w (.slice a n c) n 1 (rowC encZ l)) :
 Calls Tryz.prog 7 #[.agg f.cells, .agg (lit9 S), .slice a n c] w (Gives (.bool true) w) := by
 have HS := H7 (St.start w)
 have HE := H7 (fun w' (hb : Below w.heap.size w w') => he.below hb)
 have HL := H7 (And.intro hl trivial)
 have H0 := H7 h0
 clear hl h0 he
 go_enter Tryz.func7, Tryz.ntmps7
 repeat ((fail_if_success (with_reducible refine stop_at (id := 1) ?_)); (first | go_values | go_skip | go_guarded | go_step | go_upon | go_back | (simp only [Int.not_lt, Int.not_le] at *; go_simp) | (go_values <;> (try go_simp)) | (go_ite <;> go_prune <;> (try go_simp)) | (split <;> (first | (rename_i hx; exact (hx _ rfl).elim) | go_prune))))
 have hs_ := ((HS.out.alloc (.cells f.cells 29)).alloc (.cells (lit9 S) 24))
 obtain ⟨w1, hw_⟩ : ∃ w1 : World, ((w.alloc (.cells f.cells 29)).alloc (.cells (lit9 S) 24)) = w1 := ⟨_, rfl⟩
 rw [hw_] at hs_
 try simp only [World.size_alloc] at hs_
 have HS := H7 hs_
 rw [hw_]
 clear hw_ hs_
 go_wp2_with fail
 refine (wakes18_any _).mono ?_
 rintro e w2 ⟨rfl, hb_⟩
 have HS := H7 (HS.out.below hb_)
 clear hb_
 repeat ((fail_if_success (with_reducible refine stop_at (id := 3) ?_)); (first | go_values | go_skip | go_guarded | go_step | go_upon | go_back | (simp only [Int.not_lt, Int.not_le] at *; go_simp) | (go_values <;> (try go_simp)) | (go_ite <;> go_prune <;> (try go_simp)) | (split <;> (first | (rename_i hx; exact (hx _ rfl).elim) | go_prune))))
 refine (wpIn_wide (n := 0)).1 ?_
 repeat (first | (refine ldF _ rfl rfl (HS.out.blockAt 1 rfl) ?_; simp only [Act.put, List.setIfInBounds_toArray, List.set_cons_succ, List.set_cons_zero]) | gi_step)
 have hr := rise_any f w2
 cases hok : f.okB with
 | false =>
  rw [show trF f (riseF f) 0 = frZ from by unfold trF trE; rw [hok]; rfl, show trE f 0 = 280 from by unfold trE; rw [hok]; rfl] at hr
  refine (callsIn_wide.2 hr).mono ?_
  rintro e w3 ⟨rfl, hb_⟩
  have HS := H7 (HS.out.below hb_)
  clear hb_
  clear hr
  simp only []; go_at_K
  repeat (first | (refine nwF rfl ?_; simp only [Act.put, List.setIfInBounds_toArray, List.set_cons_succ, List.set_cons_zero]) | (refine stNewF _ _ rfl rfl rfl rfl rfl ?_; simp only [Act.put, List.setIfInBounds_toArray, List.set_cons_succ, List.set_cons_zero]) | gi_step)
  gi_wp2_with fail
  have hs_ := (HS.out.alloc (.cells frZ.cells 29))
  obtain ⟨w4, hw_⟩ : ∃ w4 : World, (w3.alloc (.cells frZ.cells 29)) = w4 := ⟨_, rfl⟩
  rw [hw_] at hs_
  try simp only [World.size_alloc] at hs_
  have HS := H7 hs_
  rw [hw_]
  clear hw_ hs_
  repeat ((fail_if_success (with_reducible refine stop_at (id := 5) ?_)); (first | go_values | go_skip | go_guarded | go_step | go_upon | go_back | (simp only [Int.not_lt, Int.not_le] at *; go_simp) | (go_values <;> (try go_simp)) | (go_ite <;> go_prune <;> (try go_simp)) | (split <;> (first | (rename_i hx; exact (hx _ rfl).elim) | go_prune))))
  refine (wpIn_wide (n := 0)).1 ?_
  repeat (first | (refine ldF _ rfl rfl (HS.out.blockAt 0 rfl) ?_; simp only [Act.put, List.setIfInBounds_toArray, List.set_cons_succ, List.set_cons_zero]) | (refine ldF _ rfl rfl (HS.out.blockAt 2 rfl) ?_; simp only [Act.put, List.setIfInBounds_toArray, List.set_cons_succ, List.set_cons_zero]) | (refine bdF _ rfl rfl ?_; simp only [Act.put, List.setIfInBounds_toArray, List.set_cons_succ, List.set_cons_zero]) | (refine eqF' _ _ _ rfl rfl rfl frEqZ ?_; simp only [Act.put, List.setIfInBounds_toArray, List.set_cons_succ, List.set_cons_zero]) | gi_step)
  refine (callsIn_wide.2 (frCheck_any f _)).mono ?_
  rintro e w5 ⟨rfl, hb_⟩
  have HS := H7 (HS.out.below hb_)
  clear hb_
  rw [hok, show errOf false 280 = 280 from rfl]
  gi_wp2_with (exfalso; exact undefB (by assumption))
  go_wp2_with fail
  go_ret
  exact ⟨rfl, HS.out.low⟩
 | true =>
  rw [show trF f (riseF f) 0 = riseF f from by unfold trF trE; rw [hok]; rfl, show trE f 0 = 0 from by unfold trE; rw [hok]; rfl] at hr
  have HOKU := H7 (okB_rise hok)
  have HUF := H7 (show (riseF f).folded = f.folded from rfl)
  have HUB := H7 (show vecEq (riseF f).by_ f.by_ = true from vecEq_self _)
  have HUP := H7 (show (riseF f).prop = 0 from rfl)
  have HSU := H7 (sitesL_nil (okB_rise hok))
  have HSF := H7 (sitesL_nil hok)
  rw [regL_rise] at HSU
  have HOK := H7 hok
  clear hok
  generalize riseF f = U at *
  refine (callsIn_wide.2 hr).mono ?_
  rintro e w3 ⟨rfl, hb_⟩
  have HS := H7 (HS.out.below hb_)
  clear hb_
  clear hr
  simp only []; go_at_K
  repeat (first | (refine nwF rfl ?_; simp only [Act.put, List.setIfInBounds_toArray, List.set_cons_succ, List.set_cons_zero]) | (refine stNewF _ _ rfl rfl rfl rfl rfl ?_; simp only [Act.put, List.setIfInBounds_toArray, List.set_cons_succ, List.set_cons_zero]) | gi_step)
  gi_wp2_with fail
  have hs_ := (HS.out.alloc (.cells U.cells 29))
  obtain ⟨w4, hw_⟩ : ∃ w4 : World, (w3.alloc (.cells U.cells 29)) = w4 := ⟨_, rfl⟩
  rw [hw_] at hs_
  try simp only [World.size_alloc] at hs_
  have HS := H7 hs_
  rw [hw_]
  clear hw_ hs_
  obtain ⟨L, hL⟩ : ∃ L, natI (regL f) = L := ⟨_, rfl⟩
  obtain ⟨m, hm⟩ : ∃ m, L.length = m := ⟨_, rfl⟩
  have hm9 : m ≤ 9 := by rw [← hm, ← hL, natI_len]; exact regL_len f
  rw [hL] at HSU HSF
  have HM := H7 (And.intro hm hm9)
  have HC1 := H7 (fun w' => show Calls Tryz.prog 36 #[.agg U.cells, .slice none 0 0] w' (GivesRow 3 1 L.length (L.flatMap encZ) w') from by have h := sitesF_any U none 0 0 [] rfl (by decide) w' (.inl ⟨rfl, rfl⟩); rw [HSU.out] at h; exact h)
  have HC2 := H7 (fun w' => show Calls Tryz.prog 36 #[.agg f.cells, .slice none 0 0] w' (GivesRow 3 1 L.length (L.flatMap encZ) w') from by have h := sitesF_any f none 0 0 [] rfl (by decide) w' (.inl ⟨rfl, rfl⟩); rw [HSF.out] at h; exact h)
  have HCU := H7 (fun w' => show Calls Tryz.prog 21 #[.agg U.cells] w' (Gives (.int .i64 0) w') from by have h := frCheck_any U w'; rw [HOKU.out] at h; exact h)
  clear hL hm hm9
  repeat ((fail_if_success (with_reducible refine stop_at (id := 6) ?_)); (first | go_values | go_skip | go_guarded | go_step | go_upon | go_back | (simp only [Int.not_lt, Int.not_le] at *; go_simp) | (go_values <;> (try go_simp)) | (go_ite <;> go_prune <;> (try go_simp)) | (split <;> (first | (rename_i hx; exact (hx _ rfl).elim) | go_prune))))
  refine (wpIn_wide (n := 0)).1 ?_
  apply w7v 30 (Rl := [(eqv _), (eqv _), (eqv _), (eqv _), (eqv _), (eqv _), (eqv _), (eqv _), (eqv _), (eqv _), (eqv _), (eqv _), (eqv _), (eqv _), (eqv _), (eqv _), (eqv _), (eqv _), (eqv _), (eqv _), (eqv _), (eqv _), (eqv _), (eqv _), (fun v_ w_ => ∃ a c, v_ = .slice a m c ∧ Elems w_ (.slice a m c) m 1 (rowC encZ L)), (eqv _), (fun v_ w_ => ∃ a c, v_ = .slice a m c ∧ Elems w_ (.slice a m c) m 1 (rowC encZ L)), (eqv _), (eqv _), (eqv _)]) (C := (fun x y => Below x.heap.size x y))
  case hm => kernel_rfl
  case hk => rfl
  case hCr => exact (fun _ => B7 _ _)
  case hCt => intro _ _ _; exact (fun h k => g7t h k)
  case hst => exact ⟨fun _ _ _ _ h => h, fun _ _ _ _ h => h, fun _ _ _ _ h => h, fun _ _ _ _ h => h, fun _ _ _ _ h => h, fun _ _ _ _ h => h, fun _ _ _ _ h => h, fun _ _ _ _ h => h, fun _ _ _ _ h => h, fun _ _ _ _ h => h, fun _ _ _ _ h => h, fun _ _ _ _ h => h, fun _ _ _ _ h => h, fun _ _ _ _ h => h, fun _ _ _ _ h => h, fun _ _ _ _ h => h, fun _ _ _ _ h => h, fun _ _ _ _ h => h, fun _ _ _ _ h => h, fun _ _ _ _ h => h, fun _ _ _ _ h => h, fun _ _ _ _ h => h, fun _ _ _ _ h => h, fun _ _ _ _ h => h, stRow, fun _ _ _ _ h => h, stRow, fun _ _ _ _ h => h, fun _ _ _ _ h => h, fun _ _ _ _ h => h, trivial⟩
  case hfo => kernel_rfl
  case ht => kernel_rfl
  case hC0 => exact (g7d _)
  case hsteps =>
   refine ⟨?_, ?_, ?_, ?_, ?_, ?_, ?_, ?_, ?_, ?_, ?_, ?_, ?_, ?_, ?_, ?_, ?_, ?_, ?_, ?_, ?_, ?_, ?_, ?_, ?_, ?_, ?_, ?_, ?_, ?_, trivial⟩
   · intro a' w' hA hC hD; have s7 := hA.to 7 (by kernel_rfl) rfl; clear hA hD; refine o7p rfl ?_; intro K hK; gi_wp2; exact hK _ _ rfl (B7 _ _)
   · intro a' w' hA hC hD; obtain ⟨u37, s37, rfl⟩ := hD ⟨0, .data⟩ (by simp) rfl _ rfl
     have c1 : w'.cell? ⟨w3.heap.size, 0, none⟩ = some (.int .u64 f.folded) := HUF.out ▸ Frt.foldedC ((HS.out.below hC).blockAt 0 rfl)
     clear hA hD; refine o7p rfl ?_; intro K hK; gi_wp2; exact hK _ _ rfl (B7 _ _)
   · intro a' w' hA hC hD; have s3 := hA.to 3 (by kernel_rfl) rfl; clear hA hD; refine o7p rfl ?_; intro K hK; gi_wp2; exact hK _ _ rfl (B7 _ _)
   · intro a' w' hA hC hD; obtain ⟨u39, s39, rfl⟩ := hD ⟨2, .data⟩ (by simp) rfl _ rfl
     have c3 := Frt.foldedC ((HS.out.below hC).blockAt 2 rfl)
     clear hA hD; refine o7p rfl ?_; intro K hK; gi_wp2; exact hK _ _ rfl (B7 _ _)
   · intro a' w' hA hC hD; obtain ⟨u38, s38, rfl⟩ := hD ⟨1, .data⟩ (by simp) rfl _ rfl; obtain ⟨u40, s40, rfl⟩ := hD ⟨3, .data⟩ (by simp) rfl _ rfl; clear hA hD; refine o7p rfl ?_; intro K hK; gi_wp2; exact hK _ _ rfl (B7 _ _)
   · intro a' w' hA hC hD; obtain ⟨u41, s41, rfl⟩ := hD ⟨4, .data⟩ (by simp) rfl _ rfl; clear hA hD; refine o7p rfl ?_; intro K hK; gi_wp2; exact hK _ _ rfl (B7 _ _)
   · intro a' w' hA hC hD; have s7 := hA.to 7 (by kernel_rfl) rfl; obtain ⟨u42, s42, rfl⟩ := hD ⟨5, .guard⟩ (by simp) rfl _ rfl; clear hA hD; refine o7w rfl rfl s42 ?_; intro K hK; gi_wp2; exact hK _ _ rfl (B7 _ _)
   · intro a' w' hA hC hD; obtain ⟨u43, s43, rfl⟩ := hD ⟨6, .data⟩ (by simp) rfl _ rfl; obtain ⟨u42, s42, rfl⟩ := hD ⟨5, .guard⟩ (by simp) rfl _ rfl; clear hA hD; refine o7w rfl rfl s42 ?_; intro K hK
     refine ldBy _ rfl (by simp [Act.eval, s43]) ((HS.out.below hC).blockAt 0 rfl) ?_; exact hK _ _ rfl (B7 _ _)
   · intro a' w' hA hC hD; have s3 := hA.to 3 (by kernel_rfl) rfl; obtain ⟨u42, s42, rfl⟩ := hD ⟨5, .guard⟩ (by simp) rfl _ rfl; clear hA hD; refine o7w rfl rfl s42 ?_; intro K hK; gi_wp2; exact hK _ _ rfl (B7 _ _)
   · intro a' w' hA hC hD; obtain ⟨u45, s45, rfl⟩ := hD ⟨8, .data⟩ (by simp) rfl _ rfl; obtain ⟨u42, s42, rfl⟩ := hD ⟨5, .guard⟩ (by simp) rfl _ rfl; clear hA hD; refine o7w rfl rfl s42 ?_; intro K hK
     refine ldBy _ rfl (by simp [Act.eval, s45]) ((HS.out.below hC).blockAt 2 rfl) ?_; exact hK _ _ rfl (B7 _ _)
   · intro a' w' hA hC hD; obtain ⟨u44, s44, rfl⟩ := hD ⟨7, .data⟩ (by simp) rfl _ rfl; obtain ⟨u46, s46, rfl⟩ := hD ⟨9, .data⟩ (by simp) rfl _ rfl; obtain ⟨u42, s42, rfl⟩ := hD ⟨5, .guard⟩ (by simp) rfl _ rfl; clear hA hD; refine o7w rfl rfl s42 ?_; intro K hK
     refine neV' _ _ _ rfl (by simp [Act.eval, s44]) (by simp [Act.eval, s46]) HUB.out ?_; exact hK _ _ rfl (B7 _ _)
   · intro a' w' hA hC hD; obtain ⟨u42, s42, rfl⟩ := hD ⟨5, .data⟩ (by simp) rfl _ rfl; obtain ⟨u47, s47, rfl⟩ := hD ⟨10, .data⟩ (by simp) rfl _ rfl; clear hA hD; refine o7p rfl ?_; intro K hK; gi_wp2; exact hK _ _ rfl (B7 _ _)
   · intro a' w' hA hC hD; obtain ⟨u48, s48, rfl⟩ := hD ⟨11, .data⟩ (by simp) rfl _ rfl; clear hA hD; refine o7p rfl ?_; intro K hK; gi_wp2; exact hK _ _ rfl (B7 _ _)
   · intro a' w' hA hC hD; have s7 := hA.to 7 (by kernel_rfl) rfl; obtain ⟨u49, s49, rfl⟩ := hD ⟨12, .guard⟩ (by simp) rfl _ rfl; clear hA hD; refine o7w rfl rfl s49 ?_; intro K hK; gi_wp2; exact hK _ _ rfl (B7 _ _)
   · intro a' w' hA hC hD; obtain ⟨u50, s50, rfl⟩ := hD ⟨13, .data⟩ (by simp) rfl _ rfl; obtain ⟨u49, s49, rfl⟩ := hD ⟨12, .guard⟩ (by simp) rfl _ rfl
     have c14 : w'.cell? ⟨w3.heap.size, 10, none⟩ = some (.int .u64 0) := HUP.out ▸ Frt.propC ((HS.out.below hC).blockAt 0 rfl)
     clear hA hD; refine o7w rfl rfl s49 ?_; intro K hK; gi_wp2; exact hK _ _ rfl (B7 _ _)
   · intro a' w' hA hC hD; obtain ⟨u51, s51, rfl⟩ := hD ⟨14, .data⟩ (by simp) rfl _ rfl; obtain ⟨u49, s49, rfl⟩ := hD ⟨12, .guard⟩ (by simp) rfl _ rfl; clear hA hD; refine o7w rfl rfl s49 ?_; intro K hK; gi_wp2; exact hK _ _ rfl (B7 _ _)
   · intro a' w' hA hC hD; obtain ⟨u49, s49, rfl⟩ := hD ⟨12, .data⟩ (by simp) rfl _ rfl; obtain ⟨u52, s52, rfl⟩ := hD ⟨15, .data⟩ (by simp) rfl _ rfl; clear hA hD; refine o7p rfl ?_; intro K hK; gi_wp2; exact hK _ _ rfl (B7 _ _)
   · intro a' w' hA hC hD; obtain ⟨u53, s53, rfl⟩ := hD ⟨16, .data⟩ (by simp) rfl _ rfl; clear hA hD; refine o7p rfl ?_; intro K hK; gi_wp2; exact hK _ _ rfl (B7 _ _)
   · intro a' w' hA hC hD; have s7 := hA.to 7 (by kernel_rfl) rfl; obtain ⟨u54, s54, rfl⟩ := hD ⟨17, .guard⟩ (by simp) rfl _ rfl; clear hA hD; refine o7w rfl rfl s54 ?_; intro K hK
     refine ldF _ rfl (by simp [Act.eval, s7]) ((HS.out.below hC).blockAt 0 rfl) ?_; exact hK _ _ rfl (B7 _ _)
   · intro a' w' hA hC hD; obtain ⟨u55, s55, rfl⟩ := hD ⟨18, .data⟩ (by simp) rfl _ rfl; obtain ⟨u54, s54, rfl⟩ := hD ⟨17, .chain⟩ (by simp) rfl _ rfl; clear hA hD; refine o7w rfl rfl s54 ?_; intro K hK
     gi_wp2_with fail; refine (callsIn_wide.2 (HCU.out _)).mono ?_; rintro e w2 ⟨rfl, hb⟩
     exact hK _ _ rfl hb
   · intro a' w' hA hC hD; obtain ⟨u56, s56, rfl⟩ := hD ⟨19, .data⟩ (by simp) rfl _ rfl; obtain ⟨u54, s54, rfl⟩ := hD ⟨17, .guard⟩ (by simp) rfl _ rfl; clear hA hD; refine o7w rfl rfl s54 ?_; intro K hK; gi_wp2; exact hK _ _ rfl (B7 _ _)
   · intro a' w' hA hC hD; obtain ⟨u54, s54, rfl⟩ := hD ⟨17, .data⟩ (by simp) rfl _ rfl; obtain ⟨u57, s57, rfl⟩ := hD ⟨20, .data⟩ (by simp) rfl _ rfl; clear hA hD; refine o7p rfl ?_; intro K hK; gi_wp2; exact hK _ _ rfl (B7 _ _)
   · intro a' w' hA hC hD; obtain ⟨u58, s58, rfl⟩ := hD ⟨21, .data⟩ (by simp) rfl _ rfl; clear hA hD; refine o7p rfl ?_; intro K hK; gi_wp2; exact hK _ _ rfl (B7 _ _)
   · intro a' w' hA hC hD; have s7 := hA.to 7 (by kernel_rfl) rfl; obtain ⟨u59, s59, rfl⟩ := hD ⟨22, .guard⟩ (by simp) rfl _ rfl; clear hA hD; refine o7w rfl rfl s59 ?_; intro K hK
     refine ldF _ rfl (by simp [Act.eval, s7]) ((HS.out.below hC).blockAt 0 rfl) ?_; exact hK _ _ rfl (B7 _ _)
   · intro a' w' hA hC hD; obtain ⟨u60, s60, rfl⟩ := hD ⟨23, .data⟩ (by simp) rfl _ rfl; obtain ⟨u59, s59, rfl⟩ := hD ⟨22, .chain⟩ (by simp) rfl _ rfl; clear hA hD; refine o7w rfl rfl s59 ?_; intro K hK; gi_wp2
     refine (callsIn_wide.2 (HC1.out _)).mono ?_; rintro e w5 ⟨sv, rfl, hrow, hb⟩; exact hK _ _ (rowSt HM.out.1 hrow) hb
   · intro a' w' hA hC hD; have s3 := hA.to 3 (by kernel_rfl) rfl; obtain ⟨u59, s59, rfl⟩ := hD ⟨22, .guard⟩ (by simp) rfl _ rfl; clear hA hD; refine o7w rfl rfl s59 ?_; intro K hK
     refine ldF _ rfl (by simp [Act.eval, s3]) ((HS.out.below hC).blockAt 2 rfl) ?_; exact hK _ _ rfl (B7 _ _)
   · intro a' w' hA hC hD; obtain ⟨u62, s62, rfl⟩ := hD ⟨25, .data⟩ (by simp) rfl _ rfl; obtain ⟨u59, s59, rfl⟩ := hD ⟨22, .guard⟩ (by simp) rfl _ rfl; clear hA hD; refine o7w rfl rfl s59 ?_; intro K hK; gi_wp2
     refine (callsIn_wide.2 (HC2.out _)).mono ?_; rintro e w5 ⟨sv, rfl, hrow, hb⟩; exact hK _ _ (rowSt HM.out.1 hrow) hb
   · intro a' w' hA hC hD; obtain ⟨u61, s61, r61⟩ := hD ⟨24, .data⟩ (by simp) rfl _ rfl; replace r61 : (fun v_ w_ => ∃ a c, v_ = .slice a m c ∧ Elems w_ (.slice a m c) m 1 (rowC encZ L)) u61 w' := r61; obtain ⟨u63, s63, r63⟩ := hD ⟨26, .data⟩ (by simp) rfl _ rfl; replace r63 : (fun v_ w_ => ∃ a c, v_ = .slice a m c ∧ Elems w_ (.slice a m c) m 1 (rowC encZ L)) u63 w' := r63; obtain ⟨u59, s59, rfl⟩ := hD ⟨22, .guard⟩ (by simp) rfl _ rfl; clear hA hD; refine o7w rfl rfl s59 ?_; intro K hK
     obtain ⟨a1, c1, rfl, h1⟩ := r61; obtain ⟨a2, c2, rfl, h2⟩ := r63; gi_wp2_with fail; refine (callsIn_wide.2 (eqZ_any a1 a2 m m c1 c2 L L HM.out.1 HM.out.1 (by have := HM.out.2; omega) _ h1 h2)).mono ?_; rintro e w5 ⟨rfl, hb⟩; rw [decide_eq_true rfl]; exact hK _ _ rfl hb
   · intro a' w' hA hC hD; obtain ⟨u64, s64, rfl⟩ := hD ⟨27, .data⟩ (by simp) rfl _ rfl; obtain ⟨u59, s59, rfl⟩ := hD ⟨22, .guard⟩ (by simp) rfl _ rfl; clear hA hD; refine o7w rfl rfl s59 ?_; intro K hK; gi_wp2; exact hK _ _ rfl (B7 _ _)
   · intro a' w' hA hC hD; obtain ⟨u59, s59, rfl⟩ := hD ⟨22, .data⟩ (by simp) rfl _ rfl; obtain ⟨u65, s65, rfl⟩ := hD ⟨28, .data⟩ (by simp) rfl _ rfl; clear hA hD; refine o7p rfl ?_; intro K hK; gi_wp2; exact hK _ _ rfl (B7 _ _)
  case hend =>
   intro w5 hC
   simp only [EndFrom, eqv, forall_eq, Act.put, List.length_cons, List.length_nil, List.drop_succ_cons, List.drop_zero, Nat.reduceAdd, List.setIfInBounds_toArray, List.set_cons_succ, List.set_cons_zero]
   rintro v24 - v26 -
   have HS := H7 (HS.out.below hC)
   clear hC HC1 HC2 HCU HSU HSF HM
   gi_wp2_with fail
   have hru := fun w' => ready_any U S w'
   unfold readyV vecV at hru
   rw [readyB_prop0 HUP.out, if_neg (by decide)] at hru
   have hwu := fun w' => waits_any U S w'
   rw [waitsL_prop0 HUP.out] at hwu
   have HRU := H7 hru
   have HWU := H7 hwu
   clear hru hwu
   repeat ((fail_if_success (with_reducible refine stop_at (id := 8) ?_)); (first | go_values | go_skip | go_guarded | go_step | go_upon | go_back | (simp only [Int.not_lt, Int.not_le] at *; go_simp) | (go_values <;> (try go_simp)) | (go_ite <;> go_prune <;> (try go_simp)) | (split <;> (first | (rename_i hx; exact (hx _ rfl).elim) | go_prune))))
   refine (wpIn_wide (n := 0)).1 ?_
   repeat (first | (refine ldF _ rfl rfl (HS.out.blockAt 0 rfl) ?_; simp only [Act.put, List.setIfInBounds_toArray, List.set_cons_succ, List.set_cons_zero]) | (refine ldV _ rfl rfl (HS.out.blockAt 1 rfl) ?_; simp only [Act.put, List.setIfInBounds_toArray, List.set_cons_succ, List.set_cons_zero]) | gi_step)
   refine (callsIn_wide.2 (HRU.out _)).mono ?_
   rintro e w6 ⟨rfl, hb_⟩
   have HS := H7 (HS.out.below hb_)
   clear hb_
   clear HRU
   simp only []; go_at_K
   repeat (first | (refine nwV rfl ?_; simp only [Act.put, List.setIfInBounds_toArray, List.set_cons_succ, List.set_cons_zero]) | (refine stNewV _ _ rfl rfl rfl rfl rfl ?_; simp only [Act.put, List.setIfInBounds_toArray, List.set_cons_succ, List.set_cons_zero]) | gi_step)
   gi_wp2_with fail
   have hs_ := (HS.out.alloc (.cells (lit9 fun _ => 0) 24))
   obtain ⟨w7, hw_⟩ : ∃ w7 : World, (w6.alloc (.cells (lit9 fun _ => 0) 24)) = w7 := ⟨_, rfl⟩
   rw [hw_] at hs_
   try simp only [World.size_alloc] at hs_
   have HS := H7 hs_
   rw [hw_]
   clear hw_ hs_
   repeat ((fail_if_success (with_reducible refine stop_at (id := 9) ?_)); (first | go_values | go_skip | go_guarded | go_step | go_upon | go_back | (simp only [Int.not_lt, Int.not_le] at *; go_simp) | (go_values <;> (try go_simp)) | (go_ite <;> go_prune <;> (try go_simp)) | (split <;> (first | (rename_i hx; exact (hx _ rfl).elim) | go_prune))))
   refine (wpIn_wide (n := 0)).1 ?_
   repeat (first | (refine ldF _ rfl rfl (HS.out.blockAt 1 rfl) ?_; simp only [Act.put, List.setIfInBounds_toArray, List.set_cons_succ, List.set_cons_zero]) | (refine ldV _ rfl rfl (HS.out.blockAt 2 rfl) ?_; simp only [Act.put, List.setIfInBounds_toArray, List.set_cons_succ, List.set_cons_zero]) | gi_step)
   refine (callsIn_wide.2 (HWU.out _)).mono ?_
   rintro e w8 ⟨sv, rfl, hrow, hb_⟩
   have HS := H7 (HS.out.below hb_)
   clear hb_
   obtain ⟨a2, c2, rfl⟩ := rowShape hrow
   clear hrow HWU
   rw [List.length_nil]
   gi_wp2_with (exfalso; exact undefB (by assumption))
   repeat ((fail_if_success (with_reducible refine stop_at (id := 11) ?_)); (first | go_values | go_skip | go_guarded | go_step | go_upon | go_back | (simp only [Int.not_lt, Int.not_le] at *; go_simp) | (go_values <;> (try go_simp)) | (go_ite <;> go_prune <;> (try go_simp)) | (split <;> (first | (rename_i hx; exact (hx _ rfl).elim) | go_prune))))
   refine (wpIn_wide (n := 0)).1 ?_
   repeat (first | (refine ldF _ rfl rfl (HS.out.blockAt 3 rfl) ?_; simp only [Act.put, List.setIfInBounds_toArray, List.set_cons_succ, List.set_cons_zero]) | (refine ldV _ rfl rfl (HS.out.blockAt 2 rfl) ?_; simp only [Act.put, List.setIfInBounds_toArray, List.set_cons_succ, List.set_cons_zero]) | gi_step)
   have hf := fold_any f S w8
   have hE2 : trE f (foldE f S) = 0 → (trF f (foldF f) (foldE f S)).okB = true ∧ f.folded < (trF f (foldF f) (foldE f S)).folded ∧ waitsL f S = [] := by
    intro h
    rw [trF_ok h]
    have hr : readyB f S = true := by
     unfold trE foldE at h
     rw [if_pos HOK.out] at h
     cases hv : vecOk S
     · rw [hv] at h; cases h
     · cases hr : readyB f S
       · rw [hv, hr] at h; cases h
       · rfl
    exact ⟨(okB_fold hr).1, (okB_fold hr).2, (ready_parts hr).2.2.2.1⟩
   have HE2 := H7 hE2
   clear hE2
   generalize trF f (foldF f) (foldE f S) = F2 at hf HE2
   generalize trE f (foldE f S) = E2 at hf HE2
   refine (callsIn_wide.2 hf).mono ?_
   rintro e w9 ⟨rfl, hb_⟩
   have HS := H7 (HS.out.below hb_)
   clear hb_
   clear hf
   simp only []; go_at_K
   repeat (first | (refine nwF rfl ?_; simp only [Act.put, List.setIfInBounds_toArray, List.set_cons_succ, List.set_cons_zero]) | (refine stNewF _ _ rfl rfl rfl rfl rfl ?_; simp only [Act.put, List.setIfInBounds_toArray, List.set_cons_succ, List.set_cons_zero]) | gi_step)
   gi_wp2_with fail
   have hs_ := (HS.out.alloc (.cells F2.cells 29))
   obtain ⟨w10, hw_⟩ : ∃ w10 : World, (w9.alloc (.cells F2.cells 29)) = w10 := ⟨_, rfl⟩
   rw [hw_] at hs_
   try simp only [World.size_alloc] at hs_
   have HS := H7 hs_
   rw [hw_]
   clear hw_ hs_
   have hbr : ∃ its : List It, its = [.blk w6.heap.size (.cells (lit9 fun _ => 0) 24 (0, 0))] := ⟨_, rfl⟩
   clear hbr
   by_cases hE : E2 = 0
   case' pos =>
    obtain ⟨k1, k2, k3⟩ := HE2.out hE
    subst hE
    have q0 := Frt.foldedC (HS.out.blockAt 0 rfl)
    have q1 := Frt.foldedC (HS.out.blockAt 4 rfl)
    have e1 : decide (F2.folded ≤ f.folded) = false := decide_eq_false (by omega)
    have HCK := H7 (fun w' => show Calls Tryz.prog 21 #[.agg F2.cells] w' (Gives (.int .i64 0) w') from by have h := frCheck_any F2 w'; rw [k1] at h; exact h)
    have HWF := H7 (fun w' => show Calls Tryz.prog 31 #[.agg f.cells, .agg (lit9 S)] w' (GivesRow 3 1 ([] : List Int).length (([] : List Int).flatMap encZ) w') from by have h := waits_any f S w'; rw [k3] at h; exact h)
    clear k1 k2 k3
    repeat ((fail_if_success (with_reducible refine stop_at (id := 13) ?_)); (first | go_values | go_skip | go_guarded | go_step | go_upon | go_back | (simp only [Int.not_lt, Int.not_le] at *; go_simp) | (go_values <;> (try go_simp)) | (go_ite <;> go_prune <;> (try go_simp)) | (split <;> (first | (rename_i hx; exact (hx _ rfl).elim) | go_prune))))
    refine (wpIn_wide (n := 0)).1 ?_
    repeat (first | (refine ldF _ rfl rfl (HS.out.blockAt 0 rfl) ?_; simp only [Act.put, List.setIfInBounds_toArray, List.set_cons_succ, List.set_cons_zero]) | (refine ldF _ rfl rfl (HS.out.blockAt 4 rfl) ?_; simp only [Act.put, List.setIfInBounds_toArray, List.set_cons_succ, List.set_cons_zero]) | (refine ldV _ rfl rfl (HS.out.blockAt 3 rfl) ?_; simp only [Act.put, List.setIfInBounds_toArray, List.set_cons_succ, List.set_cons_zero]) | gi_step)
    refine (callsIn_wide.2 (HCK.out _)).mono ?_
    rintro e w11 ⟨rfl, hb_⟩
    have HS := H7 (HS.out.below hb_)
    clear hb_
    clear q0 q1 e1 HCK
    simp only []; go_at_K
    repeat (first | (refine ldF _ rfl rfl (HS.out.blockAt 0 rfl) ?_; simp only [Act.put, List.setIfInBounds_toArray, List.set_cons_succ, List.set_cons_zero]) | (refine ldF _ rfl rfl (HS.out.blockAt 4 rfl) ?_; simp only [Act.put, List.setIfInBounds_toArray, List.set_cons_succ, List.set_cons_zero]) | (refine ldV _ rfl rfl (HS.out.blockAt 3 rfl) ?_; simp only [Act.put, List.setIfInBounds_toArray, List.set_cons_succ, List.set_cons_zero]) | gi_step)
    refine (callsIn_wide.2 (HWF.out _)).mono ?_
    rintro e wt ⟨sv, rfl, hrow, hb_⟩
    have HS := H7 (HS.out.below hb_)
    clear hb_
    obtain ⟨a3, c3, rfl⟩ := rowShape hrow
    clear hrow HWF
    rw [List.length_nil]
    gi_wp2_with (exfalso; exact undefB (by assumption))
    repeat ((fail_if_success (with_reducible refine stop_at (id := 15) ?_)); (first | go_values | go_skip | go_guarded | go_step | go_upon | go_back | (simp only [Int.not_lt, Int.not_le] at *; go_simp) | (go_values <;> (try go_simp)) | (go_ite <;> go_prune <;> (try go_simp)) | (split <;> (first | (rename_i hx; exact (hx _ rfl).elim) | go_prune))))
   case' neg =>
    obtain ⟨wt, rfl⟩ : ∃ wt, wt = w10 := ⟨_, rfl⟩
    replace hE : (E2 == 0) = false := beq_eq_false_iff_ne.2 hE
    repeat ((fail_if_success (with_reducible refine stop_at (id := 15) ?_)); (first | go_values | go_skip | go_guarded | go_step | go_upon | go_back | (simp only [Int.not_lt, Int.not_le] at *; go_simp) | (go_values <;> (try go_simp)) | (go_ite <;> go_prune <;> (try go_simp)) | (split <;> (first | (rename_i hx; exact (hx _ rfl).elim) | go_prune))))
    clear hE
   all_goals
    refine (wpIn_wide (n := 0)).1 ?_
    repeat (first | (refine ldF _ rfl rfl (HS.out.blockAt 2 rfl) ?_; simp only [Act.put, List.setIfInBounds_toArray, List.set_cons_succ, List.set_cons_zero]) | (refine nwF rfl ?_; simp only [Act.put, List.setIfInBounds_toArray, List.set_cons_succ, List.set_cons_zero]) | (refine stNewF _ _ rfl rfl rfl rfl rfl ?_; simp only [Act.put, List.setIfInBounds_toArray, List.set_cons_succ, List.set_cons_zero]) | gi_step)
    gi_wp2_with fail
    have hs_ := (HS.out.alloc (.cells U.cells 29))
    obtain ⟨wv, hw_⟩ : ∃ wv : World, (wt.alloc (.cells U.cells 29)) = wv := ⟨_, rfl⟩
    rw [hw_] at hs_
    try simp only [World.size_alloc] at hs_
    have HS := H7 hs_
    rw [hw_]
    clear hw_ hs_
    have HUP := H7 (And.intro HUP.out (show 0 ≤ U.folded from by rw [HUF.out]; exact H0.out))
    have HS0 := H7 (show ∃ its, St w (.blk wt.heap.size (.cells U.cells 29 (0, 0)) :: its) wv from ⟨_, HS.out⟩)
    clear HUF HUB
    generalize wt.heap.size = g at HS0 ⊢
    clear HS
    go_wp2_with fail
    go_loopw [109] (fun i wr => ∃ (k : Nat) (G : Frt) (its : List It), k ≤ n ∧ k ≤ 9 ∧ i = .int .i64 (k : Int) ∧ G.okB = true ∧ G.prop = 0 ∧ 0 ≤ G.folded ∧ St w (.blk g (.cells G.cells 29 (0, 0)) :: its) wr) (fun i _ => n - (intOf i).toNat)
    case atStart =>
     obtain ⟨its, h⟩ := HS0.out
     exact ⟨0, U, its, by omega, by omega, rfl, HOKU.out, HUP.out.1, HUP.out.2, h⟩
    case round =>
     obtain ⟨k, G, its, hk, hk9, rfl, hG1, hG2, hG3, hs⟩ := hrel
     have HS := H7 hs
     have HG := H7 (And.intro hG1 (And.intro hG2 hG3))
     clear hs hG1 hG2 hG3 HS0
     by_cases hlt : k < n
     · obtain ⟨x, hx⟩ : ∃ x, l[k]? = some x := ⟨_, List.getElem?_eq_getElem (by rw [HL.out.1]; exact hlt)⟩
       obtain ⟨b1, o1, rfl, hb1, hc1⟩ := zCells HL.out.1 (HE.out wr HS.out.low) k x hx
       clear hx hb1
       by_cases h9 : k = 9
       · subst h9
         go_wp2_with fail
         go_ret
         exact ⟨rfl, HS.out.low⟩
       · have HLT := H7 (And.intro hlt (And.intro hk9 h9))
         have h9' : ((k : Int) == 9) = false := beq_eq_false_iff_ne.2 (by omega)
         repeat ((fail_if_success (with_reducible refine stop_at (id := 20) ?_)); (first | go_values | go_skip | go_guarded | go_step | go_upon | go_back | (simp only [Int.not_lt, Int.not_le] at *; go_simp) | (go_values <;> (try go_simp)) | (go_ite <;> go_prune <;> (try go_simp)) | (split <;> (first | (rename_i hx; exact (hx _ rfl).elim) | go_prune))))
         clear hc1 h9' hlt hk hk9 h9
         try clear hE
         refine (wpIn_wide (n := 0)).1 ?_
         repeat (first | (refine ldF _ rfl rfl (HS.out.blockAt 0 rfl) ?_; simp only [Act.put, List.setIfInBounds_toArray, List.set_cons_succ, List.set_cons_zero]) | gi_step)
         have hs_ := (HS.out.alloc (.cells #[.int .i64 x] 3))
         obtain ⟨w5, hw_⟩ : ∃ w5 : World, (wr.alloc (.cells #[.int .i64 x] 3)) = w5 := ⟨_, rfl⟩
         rw [hw_] at hs_
         try simp only [World.size_alloc] at hs_
         have HS := H7 hs_
         rw [hw_]
         clear hw_ hs_
         refine (callsIn_wide.2 (sitesF_any G _ 1 1 [x] rfl (by decide) _ (elZ_of (l := [x]) (HS.out.blockAt 0 rfl)))).mono ?_
         rintro e w6 ⟨sv, rfl, hrow, hb_⟩
         have HS := H7 (HS.out.below hb_)
         clear hb_
         obtain ⟨a4, c4, rfl⟩ := rowShape hrow
         clear hrow
         obtain ⟨m, hm⟩ : ∃ m, (sitesL G [x]).length = m := ⟨_, rfl⟩
         rw [hm]
         rw [sites_one HG.out.1] at hm
         have HM := H7 hm
         clear hm
         gi_wp2_with fail
         repeat ((fail_if_success (with_reducible refine stop_at (id := 21) ?_)); (first | go_values | go_skip | go_guarded | go_step | go_upon | go_back | (simp only [Int.not_lt, Int.not_le] at *; go_simp) | (go_values <;> (try go_simp)) | (go_ite <;> go_prune <;> (try go_simp)) | (split <;> (first | (rename_i hx; exact (hx _ rfl).elim) | go_prune))))
         refine (wpIn_wide (n := 0)).1 ?_
         repeat (first | (refine ldF _ rfl rfl (HS.out.blockAt 1 rfl) ?_; simp only [Act.put, List.setIfInBounds_toArray, List.set_cons_succ, List.set_cons_zero]) | gi_step)
         have hf := register_any G x w6
         have h5 := reg_there HG.out.1 x
         have h0 := fun h => reg_ok HG.out.1 (s := x) h
         have h3 : trE G (regE G x) = 0 → trF G (regF G x) (regE G x) = regF G x := fun h => trF_ok h
         obtain ⟨E, hE⟩ : ∃ E, trE G (regE G x) = E := ⟨_, rfl⟩
         obtain ⟨F3, hF3⟩ : ∃ F3, trF G (regF G x) (regE G x) = F3 := ⟨_, rfl⟩
         rw [hE] at hf h5 h0 h3
         rw [hF3] at hf h3
         have H3 := H7 h3
         have H00 := H7 h0
         have H5 := H7 h5
         clear hE hF3 h3 h0 h5
         refine (callsIn_wide.2 hf).mono ?_
         rintro e w7 ⟨rfl, hb_⟩
         have HS := H7 (HS.out.below hb_)
         clear hb_
         clear hf
         simp only []; go_at_K
         repeat (first | (refine nwF rfl ?_; simp only [Act.put, List.setIfInBounds_toArray, List.set_cons_succ, List.set_cons_zero]) | (refine stNewF _ _ rfl rfl rfl rfl rfl ?_; simp only [Act.put, List.setIfInBounds_toArray, List.set_cons_succ, List.set_cons_zero]) | gi_step)
         gi_wp2_with fail
         have hs_ := (HS.out.alloc (.cells F3.cells 29))
         obtain ⟨w8, hw_⟩ : ∃ w8 : World, (w7.alloc (.cells F3.cells 29)) = w8 := ⟨_, rfl⟩
         rw [hw_] at hs_
         try simp only [World.size_alloc] at hs_
         have HS := H7 hs_
         rw [hw_]
         clear hw_ hs_
         have hboth : ∃ b, (E == 5) = b ∧ (((m : Nat) : Int) == 1) = b := by
          refine ⟨_, H5.out, ?_⟩
          have h := HM.out
          by_cases hx : x ∈ natI (regL G)
          · rw [if_pos hx] at h
            rw [decide_eq_true hx, ← h]; rfl
          · rw [if_neg hx] at h
            rw [decide_eq_false hx, ← h]; rfl
         obtain ⟨bb, hb5, hb1⟩ := hboth
         have HB5 := H7 hb5
         have HB1 := H7 hb1
         clear hb5 hb1
         repeat ((fail_if_success (with_reducible refine stop_at (id := 22) ?_)); (first | go_values | go_skip | go_guarded | go_step | go_upon | go_back | (simp only [Int.not_lt, Int.not_le] at *; go_simp) | (go_values <;> (try go_simp)) | (go_ite <;> go_prune <;> (try go_simp)) | (split <;> (first | (rename_i hx; exact (hx _ rfl).elim) | go_prune))))
         by_cases hE0 : E = 0
         · obtain ⟨k', rfl, hk', hok3, hmem3, hfl⟩ := H00.out hE0
           have hF3 := H3.out hE0
           rw [← hF3] at hok3 hmem3 hfl
           have hbf : bb = false := by rw [← HB5.out, hE0]; rfl
           subst hbf
           have HE0b := H7 (show (E == 0) = true from by rw [hE0]; rfl)
           have HK' := H7 hk'
           have HFL := H7 (show (F3.site k').l[1]? = some (.int .u64 G.folded) from by
            have hg := HG.out
            have : (F3.site k').floor = G.folded := by rw [hfl, hg.2.1]; have := hg.2.2; omega
            rw [← this]; rfl)
           have HS1 := H7 (show (sitesL F3 [(k' : Int)]).length = 1 from by rw [sites_one hok3, if_pos hmem3])
           have HGF := H7 (show F3.okB = true ∧ F3.prop = 0 ∧ 0 ≤ F3.folded from ⟨hok3, by rw [hF3]; exact HG.out.2.1, by rw [hF3]; exact HG.out.2.2⟩)
           clear hok3 hmem3 hfl hF3 hk' hE0 H3 H00 H5 HM
           rename_i q10 q9 q8 q7 q6 q5 q4 q3 q2 q1
           generalize hQ : q10 = q
           have HQ := H7 hQ
           clear hQ
           refine (wpIn_wide (n := 0)).1 ?_
           apply w7v 27 (Rl := [(eqv _), (eqv _), (eqv _), (eqv _), (eqv _), (eqv _), (eqv _), (eqv _), (eqv _), (eqv _), (eqv _), (fun v_ w_ => ∃ g, v_ = .slice (some ⟨g, 0, none⟩) 1 1 ∧ w_.heap[g]? = some (.cells #[.int .i64 (k' : Int)] 3 (0, 0))), (fun v_ w_ => ∃ a c, v_ = .slice a 1 c), (eqv _), (eqv _), (eqv _), (eqv _), (eqv _), (eqv _), (eqv _), (eqv _), (eqv _), (eqv _), (eqv _), (eqv _), (eqv _), (eqv _)]) (C := (fun x y => Below x.heap.size x y))
           case hm => kernel_rfl
           case hk => rfl
           case hCr => exact (fun _ => B7 _ _)
           case hCt => intro _ _ _; exact (fun h k => g7t h k)
           case hst => exact ⟨fun _ _ _ _ h => h, fun _ _ _ _ h => h, fun _ _ _ _ h => h, fun _ _ _ _ h => h, fun _ _ _ _ h => h, fun _ _ _ _ h => h, fun _ _ _ _ h => h, fun _ _ _ _ h => h, fun _ _ _ _ h => h, fun _ _ _ _ h => h, fun _ _ _ _ h => h, fun v x y hC ⟨g, h1, h2⟩ => ⟨g, h1, (hC.block g (b7t h2)).trans h2⟩, fun v x y hC h => h, fun _ _ _ _ h => h, fun _ _ _ _ h => h, fun _ _ _ _ h => h, fun _ _ _ _ h => h, fun _ _ _ _ h => h, fun _ _ _ _ h => h, fun _ _ _ _ h => h, fun _ _ _ _ h => h, fun _ _ _ _ h => h, fun _ _ _ _ h => h, fun _ _ _ _ h => h, fun _ _ _ _ h => h, fun _ _ _ _ h => h, fun _ _ _ _ h => h, trivial⟩
           case hfo => kernel_rfl
           case ht => kernel_rfl
           case hC0 => exact (g7d _)
           case hsteps =>
            refine ⟨?_, ?_, ?_, ?_, ?_, ?_, ?_, ?_, ?_, ?_, ?_, ?_, ?_, ?_, ?_, ?_, ?_, ?_, ?_, ?_, ?_, ?_, ?_, ?_, ?_, ?_, ?_, trivial⟩
            · intro a' w' hA hC hD; have s18 : a'.tmps[18]? = some (.int .i64 E) := (hA.at 18 (by kernel_rfl)).trans rfl; clear hA hD; refine o7p rfl ?_; intro K hK; gi_wp2; exact hK _ _ rfl (B7 _ _)
            · intro a' w' hA hC hD; obtain ⟨u127, s127, rfl⟩ := hD ⟨0, .data⟩ (by simp) rfl _ rfl; clear hA hD; refine o7p rfl ?_; intro K hK; gi_wp2; rw [HB5.out]; exact hK _ _ rfl (B7 _ _)
            · intro a' w' hA hC hD; have s16 : a'.tmps[16]? = some (.int .i64 ((m : Nat) : Int)) := (hA.at 16 (by kernel_rfl)).trans rfl; clear hA hD; refine o7p rfl ?_; intro K hK; gi_wp2; exact hK _ _ rfl (B7 _ _)
            · intro a' w' hA hC hD; obtain ⟨u129, s129, rfl⟩ := hD ⟨2, .data⟩ (by simp) rfl _ rfl; clear hA hD; refine o7p rfl ?_; intro K hK; gi_wp2; rw [HB1.out]; exact hK _ _ rfl (B7 _ _)
            · intro a' w' hA hC hD; obtain ⟨u128, s128, rfl⟩ := hD ⟨1, .data⟩ (by simp) rfl _ rfl; obtain ⟨u130, s130, rfl⟩ := hD ⟨3, .data⟩ (by simp) rfl _ rfl; clear hA hD; refine o7p rfl ?_; intro K hK; gi_wp2; exact hK _ _ rfl (B7 _ _)
            · intro a' w' hA hC hD; obtain ⟨u131, s131, rfl⟩ := hD ⟨4, .data⟩ (by simp) rfl _ rfl; clear hA hD; refine o7p rfl ?_; intro K hK; gi_wp2; exact hK _ _ rfl (B7 _ _)
            · intro a' w' hA hC hD; have s18 : a'.tmps[18]? = some (.int .i64 E) := (hA.at 18 (by kernel_rfl)).trans rfl; obtain ⟨u132, s132, rfl⟩ := hD ⟨5, .guard⟩ (by simp) rfl _ rfl; clear hA hD; refine o7w rfl rfl s132 ?_; intro K hK; gi_wp2; exact hK _ _ rfl (B7 _ _)
            · intro a' w' hA hC hD; obtain ⟨u133, s133, rfl⟩ := hD ⟨6, .data⟩ (by simp) rfl _ rfl; obtain ⟨u132, s132, rfl⟩ := hD ⟨5, .guard⟩ (by simp) rfl _ rfl; clear hA hD; refine o7w rfl rfl s132 ?_; intro K hK; gi_wp2; rw [HE0b.out]; exact hK _ _ rfl (B7 _ _)
            · intro a' w' hA hC hD; obtain ⟨u134, s134, rfl⟩ := hD ⟨7, .data⟩ (by simp) rfl _ rfl; obtain ⟨u132, s132, rfl⟩ := hD ⟨5, .chain⟩ (by simp) rfl _ rfl; clear hA hD; refine o7w rfl rfl s132 ?_; intro K hK; gi_wp2; exact hK _ _ rfl (B7 _ _)
            · intro a' w' hA hC hD; have s17 : a'.tmps[17]? = some (.pointer (some ⟨w7.heap.size, 0, none⟩)) := (hA.at 17 (by kernel_rfl)).trans rfl; obtain ⟨u135, s135, rfl⟩ := hD ⟨8, .guard⟩ (by simp) rfl _ rfl; clear hA hD; refine o7w rfl rfl s135 ?_; intro K hK
              refine ldF _ rfl (by simp [Act.eval, s17]) ((HS.out.below hC).blockAt 0 rfl) ?_; exact hK _ _ rfl (B7 _ _)
            · intro a' w' hA hC hD; have s15 : a'.tmps[15]? = some (.int .i64 (k' : Int)) := (hA.at 15 (by kernel_rfl)).trans rfl; obtain ⟨u135, s135, rfl⟩ := hD ⟨8, .guard⟩ (by simp) rfl _ rfl; clear hA hD; refine o7w rfl rfl s135 ?_; intro K hK; gi_wp2; exact hK _ _ rfl (B7 _ _)
            · intro a' w' hA hC hD; obtain ⟨u137, s137, rfl⟩ := hD ⟨10, .data⟩ (by simp) rfl _ rfl; obtain ⟨u135, s135, rfl⟩ := hD ⟨8, .guard⟩ (by simp) rfl _ rfl; clear hA hD; refine o7w rfl rfl s135 ?_; intro K hK; gi_wp2; exact hK _ _ ⟨w'.heap.size, rfl, newBlock _ _ _ rfl⟩ ((B7 _ _).alloc (Nat.le_refl _) _)
            · intro a' w' hA hC hD; obtain ⟨u136, s136, rfl⟩ := hD ⟨9, .data⟩ (by simp) rfl _ rfl; obtain ⟨u138, s138, r138⟩ := hD ⟨11, .data⟩ (by simp) rfl _ rfl; replace r138 : (fun v_ w_ => ∃ g, v_ = .slice (some ⟨g, 0, none⟩) 1 1 ∧ w_.heap[g]? = some (.cells #[.int .i64 (k' : Int)] 3 (0, 0))) u138 w' := r138; obtain ⟨u135, s135, rfl⟩ := hD ⟨8, .chain⟩ (by simp) rfl _ rfl; clear hA hD; refine o7w rfl rfl s135 ?_; intro K hK
              obtain ⟨g12, rfl, hg12⟩ := r138; gi_wp2_with fail
              refine (callsIn_wide.2 (sitesF_any F3 _ 1 1 [(k' : Int)] rfl (by decide) _ (elZ_of (l := [(k' : Int)]) hg12))).mono ?_; rintro e w5 ⟨sv, rfl, hrow, hb⟩; obtain ⟨a5, c5, rfl⟩ := rowShape hrow; exact hK _ _ ⟨a5, c5, by rw [HS1.out]⟩ hb
            · intro a' w' hA hC hD; obtain ⟨u139, s139, r139⟩ := hD ⟨12, .data⟩ (by simp) rfl _ rfl; replace r139 : (fun v_ w_ => ∃ a c, v_ = .slice a 1 c) u139 w' := r139; obtain ⟨u135, s135, rfl⟩ := hD ⟨8, .guard⟩ (by simp) rfl _ rfl; clear hA hD; refine o7w rfl rfl s135 ?_; intro K hK
              obtain ⟨a6, c6, rfl⟩ := r139; gi_wp2; exact hK _ _ rfl (B7 _ _)
            · intro a' w' hA hC hD; obtain ⟨u140, s140, rfl⟩ := hD ⟨13, .data⟩ (by simp) rfl _ rfl; obtain ⟨u135, s135, rfl⟩ := hD ⟨8, .guard⟩ (by simp) rfl _ rfl; clear hA hD; refine o7w rfl rfl s135 ?_; intro K hK; gi_wp2; exact hK _ _ rfl (B7 _ _)
            · intro a' w' hA hC hD; obtain ⟨u141, s141, rfl⟩ := hD ⟨14, .data⟩ (by simp) rfl _ rfl; obtain ⟨u135, s135, rfl⟩ := hD ⟨8, .guard⟩ (by simp) rfl _ rfl; clear hA hD; refine o7w rfl rfl s135 ?_; intro K hK; gi_wp2; exact hK _ _ rfl (B7 _ _)
            · intro a' w' hA hC hD; have s15 : a'.tmps[15]? = some (.int .i64 (k' : Int)) := (hA.at 15 (by kernel_rfl)).trans rfl; obtain ⟨u142, s142, rfl⟩ := hD ⟨15, .guard⟩ (by simp) rfl _ rfl; clear hA hD; refine o7w rfl rfl s142 ?_; intro K hK; gi_wp2; exact hK _ _ rfl (B7 _ _)
            · intro a' w' hA hC hD; have s17 : a'.tmps[17]? = some (.pointer (some ⟨w7.heap.size, 0, none⟩)) := (hA.at 17 (by kernel_rfl)).trans rfl; obtain ⟨u142, s142, rfl⟩ := hD ⟨15, .guard⟩ (by simp) rfl _ rfl; clear hA hD; refine o7w rfl rfl s142 ?_; intro K hK; gi_wp2; exact hK _ _ rfl (B7 _ _)
            · intro a' w' hA hC hD; obtain ⟨u144, s144, rfl⟩ := hD ⟨17, .data⟩ (by simp) rfl _ rfl; obtain ⟨u143, s143, rfl⟩ := hD ⟨16, .data⟩ (by simp) rfl _ rfl; obtain ⟨u142, s142, rfl⟩ := hD ⟨15, .guard⟩ (by simp) rfl _ rfl
              have hk9 := HK'.out
              clear hA hD; refine o7w rfl rfl s142 ?_; intro K hK; gi_wp2; exact hK _ _ rfl (B7 _ _)
            · intro a' w' hA hC hD; obtain ⟨u145, s145, rfl⟩ := hD ⟨18, .data⟩ (by simp) rfl _ rfl; obtain ⟨u142, s142, rfl⟩ := hD ⟨15, .guard⟩ (by simp) rfl _ rfl; clear hA hD; refine o7w rfl rfl s142 ?_; intro K hK; gi_wp2; exact hK _ _ rfl (B7 _ _)
            · intro a' w' hA hC hD; obtain ⟨u146, s146, rfl⟩ := hD ⟨19, .data⟩ (by simp) rfl _ rfl; obtain ⟨u142, s142, rfl⟩ := hD ⟨15, .guard⟩ (by simp) rfl _ rfl
              have c20 := Frt.cell ((HS.out.below hC).blockAt 0 rfl) HK'.out HFL.out
              clear hA hD; refine o7w rfl rfl s142 ?_; intro K hK; gi_wp2; exact hK _ _ rfl (B7 _ _)
            · intro a' w' hA hC hD; have s13 : a'.tmps[13]? = some (.pointer (some ⟨g, 0, none⟩)) := (hA.at 13 (by kernel_rfl)).trans rfl; obtain ⟨u142, s142, rfl⟩ := hD ⟨15, .guard⟩ (by simp) rfl _ rfl; clear hA hD; refine o7w rfl rfl s142 ?_; intro K hK; gi_wp2; exact hK _ _ rfl (B7 _ _)
            · intro a' w' hA hC hD; obtain ⟨u148, s148, rfl⟩ := hD ⟨21, .data⟩ (by simp) rfl _ rfl; obtain ⟨u142, s142, rfl⟩ := hD ⟨15, .guard⟩ (by simp) rfl _ rfl
              have c22 := Frt.foldedC ((HS.out.below hC).blockAt 2 rfl)
              clear hA hD; refine o7w rfl rfl s142 ?_; intro K hK; gi_wp2; exact hK _ _ rfl (B7 _ _)
            · intro a' w' hA hC hD; obtain ⟨u147, s147, rfl⟩ := hD ⟨20, .data⟩ (by simp) rfl _ rfl; obtain ⟨u149, s149, rfl⟩ := hD ⟨22, .data⟩ (by simp) rfl _ rfl; obtain ⟨u142, s142, rfl⟩ := hD ⟨15, .guard⟩ (by simp) rfl _ rfl; clear hA hD; refine o7w rfl rfl s142 ?_; intro K hK; gi_wp2; exact hK _ _ rfl (B7 _ _)
            · intro a' w' hA hC hD; obtain ⟨u142, s142, rfl⟩ := hD ⟨15, .data⟩ (by simp) rfl _ rfl; obtain ⟨u150, s150, rfl⟩ := hD ⟨23, .data⟩ (by simp) rfl _ rfl; obtain ⟨u135, s135, rfl⟩ := hD ⟨8, .guard⟩ (by simp) rfl _ rfl; clear hA hD; refine o7w rfl rfl s135 ?_; intro K hK; gi_wp2; exact hK _ _ rfl (B7 _ _)
            · intro a' w' hA hC hD; obtain ⟨u135, s135, rfl⟩ := hD ⟨8, .data⟩ (by simp) rfl _ rfl; obtain ⟨u151, s151, rfl⟩ := hD ⟨24, .data⟩ (by simp) rfl _ rfl; obtain ⟨u132, s132, rfl⟩ := hD ⟨5, .guard⟩ (by simp) rfl _ rfl; clear hA hD; refine o7w rfl rfl s132 ?_; intro K hK; gi_wp2; exact hK _ _ rfl (B7 _ _)
            · intro a' w' hA hC hD; obtain ⟨u132, s132, rfl⟩ := hD ⟨5, .data⟩ (by simp) rfl _ rfl; obtain ⟨u152, s152, rfl⟩ := hD ⟨25, .data⟩ (by simp) rfl _ rfl; clear hA hD; refine o7p rfl ?_; intro K hK; gi_wp2; exact hK _ _ rfl (B7 _ _)
           case hend =>
            intro w9 hC
            simp only [EndFrom, eqv, forall_eq, Act.put, List.length_cons, List.length_nil, List.drop_succ_cons, List.drop_zero, Nat.reduceAdd, List.setIfInBounds_toArray, List.set_cons_succ, List.set_cons_zero]
            rintro v11 - v12 -
            have HS := H7 (HS.out.below hC)
            clear hC
            have e24 := HE0b.out
            gi_wp2_with fail
            repeat ((fail_if_success (with_reducible refine stop_at (id := 25) ?_)); (first | go_values | go_skip | go_guarded | go_step | go_upon | go_back | (simp only [Int.not_lt, Int.not_le] at *; go_simp) | (go_values <;> (try go_simp)) | (go_ite <;> go_prune <;> (try go_simp)) | (split <;> (first | (rename_i hx; exact (hx _ rfl).elim) | go_prune))))
            clear e24
            refine (wpIn_wide (n := 0)).1 ?_
            repeat (first | (refine ldF _ rfl rfl (HS.out.blockAt 0 rfl) ?_; simp only [Act.put, List.setIfInBounds_toArray, List.set_cons_succ, List.set_cons_zero]) | (refine stF _ _ rfl rfl (HS.out.blockAt 2 rfl) rfl rfl ?_; simp only [Act.put, List.setIfInBounds_toArray, List.set_cons_succ, List.set_cons_zero]) | gi_step)
            gi_wp2_with fail
            have hs := HS.out.putRow (c' := F3.cells) (pre := [.blk _ _, .blk _ _]) (by intro i hi; simp only [List.mem_cons, List.not_mem_nil, or_false] at hi; rcases hi with rfl | rfl <;> exact ⟨_, _, rfl⟩)
            simp only [List.cons_append, List.nil_append] at hs
            have HS2 := H7 hs.tl.tl
            clear hs
            obtain ⟨hlt, hk9, h9⟩ := HLT.out
            go_wp2_with fail
            go_roundw
            case rel => exact ⟨k + 1, F3, its, hlt, by omega, by simp, HGF.out.1, HGF.out.2.1, HGF.out.2.2, HS2.out⟩
            case measure => exact frM hlt (by simp)
         · have HE0 := H7 (show (E == 0) = false from beq_eq_false_iff_ne.2 hE0)
           have hne : ¬ E = 0 := hE0
           clear hE0 hne
           rename_i q10 q9 q8 q7 q6 q5 q4 q3 q2 q1
           generalize hQ : q10 = q
           have HQ := H7 hQ
           clear hQ
           refine (wpIn_wide (n := 0)).1 ?_
           cases bb
           all_goals
            apply w7v 27 (Rl := [(eqv _), (eqv _), (eqv _), (eqv _), (eqv _), (eqv _), (eqv _), (eqv _), (eqv _), (fun v_ _ => v_ = (undef : Value)), (fun v_ _ => v_ = (undef : Value)), (fun v_ _ => v_ = (undef : Value)), (fun v_ _ => v_ = (undef : Value)), (fun v_ _ => v_ = (undef : Value)), (fun v_ _ => v_ = (undef : Value)), (fun v_ _ => v_ = (undef : Value)), (fun v_ _ => v_ = (undef : Value)), (fun v_ _ => v_ = (undef : Value)), (fun v_ _ => v_ = (undef : Value)), (fun v_ _ => v_ = (undef : Value)), (fun v_ _ => v_ = (undef : Value)), (fun v_ _ => v_ = (undef : Value)), (fun v_ _ => v_ = (undef : Value)), (fun v_ _ => v_ = (undef : Value)), (fun v_ _ => v_ = (undef : Value)), (eqv _), (eqv _)]) (C := (fun x y => Below x.heap.size x y))
            case hm => kernel_rfl
            case hk => rfl
            case hCr => exact (fun _ => B7 _ _)
            case hCt => intro _ _ _; exact (fun h k => g7t h k)
            case hst => repeat (first | exact trivial | refine ⟨fun _ _ _ _ h => h, ?_⟩)
            case hfo => kernel_rfl
            case ht => kernel_rfl
            case hC0 => exact (g7d _)
            case hsteps =>
             refine ⟨?_, ?_, ?_, ?_, ?_, ?_, ?_, ?_, ?_, ?_, ?_, ?_, ?_, ?_, ?_, ?_, ?_, ?_, ?_, ?_, ?_, ?_, ?_, ?_, ?_, ?_, ?_, trivial⟩
             · intro a' w' hA hC hD; have s18 : a'.tmps[18]? = some (.int .i64 E) := (hA.at 18 (by kernel_rfl)).trans rfl; clear hA hD; refine o7p rfl ?_; intro K hK; gi_wp2; exact hK _ _ rfl (B7 _ _)
             · intro a' w' hA hC hD; obtain ⟨u127, s127, rfl⟩ := hD ⟨0, .data⟩ (by simp) rfl _ rfl; clear hA hD; refine o7p rfl ?_; intro K hK; gi_wp2; rw [HB5.out]; exact hK _ _ rfl (B7 _ _)
             · intro a' w' hA hC hD; have s16 : a'.tmps[16]? = some (.int .i64 ((m : Nat) : Int)) := (hA.at 16 (by kernel_rfl)).trans rfl; clear hA hD; refine o7p rfl ?_; intro K hK; gi_wp2; exact hK _ _ rfl (B7 _ _)
             · intro a' w' hA hC hD; obtain ⟨u129, s129, rfl⟩ := hD ⟨2, .data⟩ (by simp) rfl _ rfl; clear hA hD; refine o7p rfl ?_; intro K hK; gi_wp2; rw [HB1.out]; exact hK _ _ rfl (B7 _ _)
             · intro a' w' hA hC hD; obtain ⟨u128, s128, rfl⟩ := hD ⟨1, .data⟩ (by simp) rfl _ rfl; obtain ⟨u130, s130, rfl⟩ := hD ⟨3, .data⟩ (by simp) rfl _ rfl; clear hA hD; refine o7p rfl ?_; intro K hK; gi_wp2; exact hK _ _ rfl (B7 _ _)
             · intro a' w' hA hC hD; obtain ⟨u131, s131, rfl⟩ := hD ⟨4, .data⟩ (by simp) rfl _ rfl; clear hA hD; refine o7p rfl ?_; intro K hK; gi_wp2; exact hK _ _ rfl (B7 _ _)
             · intro a' w' hA hC hD; have s18 : a'.tmps[18]? = some (.int .i64 E) := (hA.at 18 (by kernel_rfl)).trans rfl; obtain ⟨u132, s132, rfl⟩ := hD ⟨5, .guard⟩ (by simp) rfl _ rfl; clear hA hD; refine o7w rfl rfl s132 ?_; intro K hK; gi_wp2; exact hK _ _ rfl (B7 _ _)
             · intro a' w' hA hC hD; obtain ⟨u133, s133, rfl⟩ := hD ⟨6, .data⟩ (by simp) rfl _ rfl; obtain ⟨u132, s132, rfl⟩ := hD ⟨5, .guard⟩ (by simp) rfl _ rfl; clear hA hD; refine o7w rfl rfl s132 ?_; intro K hK; gi_wp2; rw [HE0.out]; exact hK _ _ rfl (B7 _ _)
             · intro a' w' hA hC hD; obtain ⟨u134, s134, rfl⟩ := hD ⟨7, .data⟩ (by simp) rfl _ rfl; obtain ⟨u132, s132, rfl⟩ := hD ⟨5, .chain⟩ (by simp) rfl _ rfl; clear hA hD; refine o7w rfl rfl s132 ?_; intro K hK; gi_wp2; exact hK _ _ rfl (B7 _ _)
             · intro a' w' hA hC hD; have s17 := hA.to 17 (by kernel_rfl) rfl; obtain ⟨u135, s135, rfl⟩ := hD ⟨8, .guard⟩ (by simp) rfl _ rfl; clear hA hD
               exact o7s rfl rfl s135 rfl
             · intro a' w' hA hC hD; have s15 := hA.to 15 (by kernel_rfl) rfl; obtain ⟨u135, s135, rfl⟩ := hD ⟨8, .guard⟩ (by simp) rfl _ rfl; clear hA hD
               exact o7s rfl rfl s135 rfl
             · intro a' w' hA hC hD; obtain ⟨u137, s137, r137⟩ := hD ⟨10, .data⟩ (by simp) rfl _ rfl; replace r137 : u137 = undef := r137; subst r137; obtain ⟨u135, s135, rfl⟩ := hD ⟨8, .guard⟩ (by simp) rfl _ rfl; clear hA hD
               exact o7s rfl rfl s135 rfl
             · intro a' w' hA hC hD; obtain ⟨u136, s136, r136⟩ := hD ⟨9, .data⟩ (by simp) rfl _ rfl; replace r136 : u136 = undef := r136; subst r136; obtain ⟨u138, s138, r138⟩ := hD ⟨11, .data⟩ (by simp) rfl _ rfl; replace r138 : u138 = undef := r138; subst r138; obtain ⟨u135, s135, rfl⟩ := hD ⟨8, .chain⟩ (by simp) rfl _ rfl; clear hA hD
               exact o7s rfl rfl s135 rfl
             · intro a' w' hA hC hD; obtain ⟨u139, s139, r139⟩ := hD ⟨12, .data⟩ (by simp) rfl _ rfl; replace r139 : u139 = undef := r139; subst r139; obtain ⟨u135, s135, rfl⟩ := hD ⟨8, .guard⟩ (by simp) rfl _ rfl; clear hA hD
               exact o7s rfl rfl s135 rfl
             · intro a' w' hA hC hD; obtain ⟨u140, s140, r140⟩ := hD ⟨13, .data⟩ (by simp) rfl _ rfl; replace r140 : u140 = undef := r140; subst r140; obtain ⟨u135, s135, rfl⟩ := hD ⟨8, .guard⟩ (by simp) rfl _ rfl; clear hA hD
               exact o7s rfl rfl s135 rfl
             · intro a' w' hA hC hD; obtain ⟨u141, s141, r141⟩ := hD ⟨14, .data⟩ (by simp) rfl _ rfl; replace r141 : u141 = undef := r141; subst r141; obtain ⟨u135, s135, rfl⟩ := hD ⟨8, .guard⟩ (by simp) rfl _ rfl; clear hA hD
               exact o7s rfl rfl s135 rfl
             · intro a' w' hA hC hD; have s15 := hA.to 15 (by kernel_rfl) rfl; obtain ⟨u142, s142, r142⟩ := hD ⟨15, .guard⟩ (by simp) rfl _ rfl; replace r142 : u142 = undef := r142; subst r142; clear hA hD
               exact stepOk_skip' rfl rfl s142 rfl
             · intro a' w' hA hC hD; have s17 := hA.to 17 (by kernel_rfl) rfl; obtain ⟨u142, s142, r142⟩ := hD ⟨15, .guard⟩ (by simp) rfl _ rfl; replace r142 : u142 = undef := r142; subst r142; clear hA hD
               exact stepOk_skip' rfl rfl s142 rfl
             · intro a' w' hA hC hD; obtain ⟨u144, s144, r144⟩ := hD ⟨17, .data⟩ (by simp) rfl _ rfl; replace r144 : u144 = undef := r144; subst r144; obtain ⟨u143, s143, r143⟩ := hD ⟨16, .data⟩ (by simp) rfl _ rfl; replace r143 : u143 = undef := r143; subst r143; obtain ⟨u142, s142, r142⟩ := hD ⟨15, .guard⟩ (by simp) rfl _ rfl; replace r142 : u142 = undef := r142; subst r142; clear hA hD
               exact stepOk_skip' rfl rfl s142 rfl
             · intro a' w' hA hC hD; obtain ⟨u145, s145, r145⟩ := hD ⟨18, .data⟩ (by simp) rfl _ rfl; replace r145 : u145 = undef := r145; subst r145; obtain ⟨u142, s142, r142⟩ := hD ⟨15, .guard⟩ (by simp) rfl _ rfl; replace r142 : u142 = undef := r142; subst r142; clear hA hD
               exact stepOk_skip' rfl rfl s142 rfl
             · intro a' w' hA hC hD; obtain ⟨u146, s146, r146⟩ := hD ⟨19, .data⟩ (by simp) rfl _ rfl; replace r146 : u146 = undef := r146; subst r146; obtain ⟨u142, s142, r142⟩ := hD ⟨15, .guard⟩ (by simp) rfl _ rfl; replace r142 : u142 = undef := r142; subst r142; clear hA hD
               exact stepOk_skip' rfl rfl s142 rfl
             · intro a' w' hA hC hD; have s13 := hA.to 13 (by kernel_rfl) rfl; obtain ⟨u142, s142, r142⟩ := hD ⟨15, .guard⟩ (by simp) rfl _ rfl; replace r142 : u142 = undef := r142; subst r142; clear hA hD
               exact stepOk_skip' rfl rfl s142 rfl
             · intro a' w' hA hC hD; obtain ⟨u148, s148, r148⟩ := hD ⟨21, .data⟩ (by simp) rfl _ rfl; replace r148 : u148 = undef := r148; subst r148; obtain ⟨u142, s142, r142⟩ := hD ⟨15, .guard⟩ (by simp) rfl _ rfl; replace r142 : u142 = undef := r142; subst r142; clear hA hD
               exact stepOk_skip' rfl rfl s142 rfl
             · intro a' w' hA hC hD; obtain ⟨u147, s147, r147⟩ := hD ⟨20, .data⟩ (by simp) rfl _ rfl; replace r147 : u147 = undef := r147; subst r147; obtain ⟨u149, s149, r149⟩ := hD ⟨22, .data⟩ (by simp) rfl _ rfl; replace r149 : u149 = undef := r149; subst r149; obtain ⟨u142, s142, r142⟩ := hD ⟨15, .guard⟩ (by simp) rfl _ rfl; replace r142 : u142 = undef := r142; subst r142; clear hA hD
               exact stepOk_skip' rfl rfl s142 rfl
             · intro a' w' hA hC hD; obtain ⟨u142, s142, r142⟩ := hD ⟨15, .data⟩ (by simp) rfl _ rfl; replace r142 : u142 = undef := r142; subst r142; obtain ⟨u150, s150, r150⟩ := hD ⟨23, .data⟩ (by simp) rfl _ rfl; replace r150 : u150 = undef := r150; subst r150; obtain ⟨u135, s135, rfl⟩ := hD ⟨8, .guard⟩ (by simp) rfl _ rfl; clear hA hD
               exact o7s rfl rfl s135 rfl
             · intro a' w' hA hC hD; obtain ⟨u135, s135, rfl⟩ := hD ⟨8, .data⟩ (by simp) rfl _ rfl; obtain ⟨u151, s151, r151⟩ := hD ⟨24, .data⟩ (by simp) rfl _ rfl; replace r151 : u151 = undef := r151; subst r151; obtain ⟨u132, s132, rfl⟩ := hD ⟨5, .guard⟩ (by simp) rfl _ rfl; clear hA hD; refine o7w rfl rfl s132 ?_; intro K hK; gi_wp2; exact hK _ _ rfl (B7 _ _)
             · intro a' w' hA hC hD; obtain ⟨u132, s132, rfl⟩ := hD ⟨5, .data⟩ (by simp) rfl _ rfl; obtain ⟨u152, s152, rfl⟩ := hD ⟨25, .data⟩ (by simp) rfl _ rfl; clear hA hD; refine o7p rfl ?_; intro K hK; gi_wp2; exact hK _ _ rfl (B7 _ _)
            case hend =>
             intro w9 hC
             simp only [EndFrom, eqv, forall_eq, Act.put, List.length_cons, List.length_nil, List.drop_succ_cons, List.drop_zero, Nat.reduceAdd, List.setIfInBounds_toArray, List.set_cons_succ, List.set_cons_zero]
             have HS := H7 (HS.out.below hC)
             clear hC
             have e24 := HE0.out
             gi_wp2_with fail
             have HS2 := H7 HS.out.tl.tl
             obtain ⟨hlt, hk9, h9⟩ := HLT.out
             go_wp2_with fail
             clear e24
             go_roundw
             case rel => exact ⟨k + 1, G, its, hlt, by omega, by simp, HG.out.1, HG.out.2.1, HG.out.2.2, HS2.out⟩
             case measure => exact frM hlt (by simp)
     · obtain rfl : k = n := by omega
       go_wp2_with fail
       go_ret
       exact ⟨rfl, HS.out.low⟩
end Go.Proofs.YteklfmacnnmomaaGreat
