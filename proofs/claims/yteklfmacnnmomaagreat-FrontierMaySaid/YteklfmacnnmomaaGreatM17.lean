/- Merged texts: FrX FrY FrYb FsA. -/
import Derived.Test.YteklfmacnnmomaaGreatM16
set_option linter.unusedSimpArgs false
set_option linter.unusedVariables false
/- Layer 18: the document's Right. -/
namespace Go.Proofs.YteklfmacnnmomaaGreat
open Go.RowKit Go.Shelf
attribute [local go_sem] Oper.semAt_some
theorem sitOk_of_out {f : Frt} {k : Nat} (h : (f.site k).inn = false) : sitOk f k = plEq (f.site k) plZ := by
 unfold sitOk
 have : pledgeOk (f.site k) = false := by unfold pledgeOk; rw [h]; rfl
 rw [this]; simp
theorem sitOk_of_in {f : Frt} {k : Nat} (h : (f.site k).inn = true) : sitOk f k = ((siteB k && pledgeOk (f.site k)) && decide (f.folded ≤ (f.site k).floor)) := by
 unfold sitOk
 rw [plEq_in h]; rfl
theorem siteB_pos {k : Nat} (h : k ≠ 0) (h9 : k < 9) : siteB (k : Int) = true := by
 unfold siteB
 simp only [Bool.and_eq_true, decide_eq_true_eq]
 omega
set_option maxRecDepth 100000 in
set_option maxHeartbeats 4000000 in
theorem r18Right_any (f : Frt) (w : World) : Calls Tryz.prog 9 #[.agg f.cells] w (Gives (.bool f.okB) w) := by
 have HS := H7 (St.start w)
 have HV := H7 (fun w' => right_any f.by_ w')
 obtain ⟨R, hR⟩ : ∃ R, f.okB = R := ⟨_, rfl⟩
 rw [hR]
 unfold Frt.okB propOk at hR
 go_enter Tryz.func9, Tryz.ntmps9
 repeat ((fail_if_success (with_reducible refine stop_at (id := 1) ?_)); (first | go_values | go_skip | go_guarded | go_step | go_upon | go_back | (simp only [Int.not_lt, Int.not_le] at *; go_simp) | (go_values <;> (try go_simp)) | (go_ite <;> go_prune <;> (try go_simp)) | (split <;> (first | (rename_i hx; exact (hx _ rfl).elim) | go_prune))))
 have hs_ := (HS.out.alloc (.cells f.cells 29))
 obtain ⟨w1, hw_⟩ : ∃ w1 : World, (w.alloc (.cells f.cells 29)) = w1 := ⟨_, rfl⟩
 rw [hw_] at hs_
 try simp only [World.size_alloc] at hs_
 have HS := H7 hs_
 rw [hw_]
 clear hw_ hs_
 have q0 := Frt.foldedC (HS.out.blockAt 0 rfl)
 have q1 := Frt.propC (HS.out.blockAt 0 rfl)
 by_cases h1 : f.folded ≤ MaxT
 case neg =>
  have e1 : decide (f.folded > 4611686018427387904) = true := decide_eq_true (by unfold MaxT at h1; omega)
  rw [decide_eq_false h1] at hR
  have HE := H7 (show R = false from by rw [← hR]; rfl)
  clear hR h1
  refine (wpIn_wide (n := 0)).1 ?_
  gi_wp2_with (exfalso; exact undefB (by assumption))
  go_wp2_with fail
  rw [HE.out]
  go_ret
  exact ⟨rfl, HS.out.low⟩
 have e1 : decide (f.folded > 4611686018427387904) = false := decide_eq_false (by unfold MaxT at h1; omega)
 rw [decide_eq_true h1] at hR
 refine (wpIn_wide (n := 0)).1 ?_
 repeat (first | (refine ldBy _ rfl rfl (HS.out.blockAt 0 rfl) ?_; simp only [Act.put, List.setIfInBounds_toArray, List.set_cons_succ, List.set_cons_zero]) | gi_step)
 refine (callsIn_wide.2 (HV.out _)).mono ?_
 rintro e w2 ⟨rfl, hb_⟩
 replace q0 := (hb_.cell (p := ⟨w.heap.size, 0, none⟩) (cell_lt q0)).trans q0
 replace q1 := (hb_.cell (p := ⟨w.heap.size, 10, none⟩) (cell_lt q1)).trans q1
 have HS := H7 (HS.out.below hb_)
 clear hb_
 clear HV
 cases hv : vecOk f.by_
 case false =>
  rw [hv] at hR
  have HE := H7 (show R = false from by rw [← hR]; rfl)
  clear hR hv h1
  gi_wp2_with (exfalso; exact undefB (by assumption))
  go_wp2_with fail
  rw [HE.out]
  go_ret
  exact ⟨rfl, HS.out.low⟩
 rw [hv] at hR
 by_cases h2 : f.prop ≤ MaxT
 case neg =>
  have e2 : decide (f.prop > 4611686018427387904) = true := decide_eq_true (by unfold MaxT at h2; omega)
  have HE := H7 (show R = false from by
   rw [← hR, decide_eq_false h2]
   have : (f.prop == 0) = false := beq_eq_false_iff_ne.2 (by unfold MaxT at h2; omega)
   rw [this]; simp)
  clear hR hv h1 h2
  gi_wp2_with (exfalso; exact undefB (by assumption))
  go_wp2_with fail
  rw [HE.out]
  go_ret
  exact ⟨rfl, HS.out.low⟩
 have e2 : decide (f.prop > 4611686018427387904) = false := decide_eq_false (by unfold MaxT at h2; omega)
 rw [decide_eq_true h2] at hR
 by_cases h3 : f.prop = 0
 case' pos =>
  have e3 : (f.prop == 0) = true := by rw [h3]; rfl
  have e5 : (f.prop != 0) = false := by rw [h3]; rfl
  have HE := H7 (show sitesAll f = R from by rw [← hR, e3]; simp)
  clear e3 hR hv h1 h2 h3
  gi_wp2_with (exfalso; exact undefB (by assumption))
 case' neg =>
  have e3 : (f.prop == 0) = false := beq_eq_false_iff_ne.2 h3
  have e5 : (f.prop != 0) = true := bne_iff_ne.2 h3
  by_cases h4 : f.prop ≤ f.folded
  case pos =>
   have e4 : decide (f.prop ≤ f.folded) = true := decide_eq_true h4
   have HE := H7 (show R = false from by
    rw [← hR, e3, decide_eq_false (show ¬ f.folded < f.prop from by omega)]; simp)
   clear e3 hR hv h1 h2 h3 h4
   gi_wp2_with (exfalso; exact undefB (by assumption))
   go_wp2_with fail
   rw [HE.out]
   go_ret
   exact ⟨rfl, HS.out.low⟩
  have e4 : decide (f.prop ≤ f.folded) = false := decide_eq_false h4
  have HE := H7 (show sitesAll f = R from by
   rw [← hR, e3, decide_eq_true (show f.folded < f.prop from by omega)]; simp)
  clear e3 hR hv h1 h2 h3 h4
  gi_wp2_with (exfalso; exact undefB (by assumption))
 all_goals
  repeat ((fail_if_success (with_reducible refine stop_at (id := 3) ?_)); (first | go_values | go_skip | go_guarded | go_step | go_upon | go_back | (simp only [Int.not_lt, Int.not_le] at *; go_simp) | (go_values <;> (try go_simp)) | (go_ite <;> go_prune <;> (try go_simp)) | (split <;> (first | (rename_i hx; exact (hx _ rfl).elim) | go_prune))))
  clear q0 q1 e1 e2 e5
  try clear e4
  refine (wpIn_wide (n := 0)).1 ?_
  repeat (first | (refine ldSites _ rfl rfl (HS.out.blockAt 0 rfl) ?_; simp only [Act.put, List.setIfInBounds_toArray, List.set_cons_succ, List.set_cons_zero]) | gi_step)
  gi_wp2_with fail
  go_wp2_with fail
  go_loopw [33] (fun i wr => ∃ k : Nat, k ≤ 9 ∧ i = .int .i64 (k : Int) ∧ (∀ j, j < k → sitOk f j = true) ∧ St w [.blk w.heap.size (.cells f.cells 29 (0, 0))] wr) (fun i _ => 9 - (intOf i).toNat)
  case atStart => exact ⟨0, by omega, rfl, fun j hj => by omega, HS.out⟩
  case round =>
   obtain ⟨k, hk, rfl, hall, hs⟩ := hrel
   clear HS
   have HS := H7 hs
   have HA := H7 hall
   clear hs hall
   by_cases hlt : k < 9
   · have HLT := H7 hlt
     obtain ⟨x, hx⟩ : ∃ x, sitOk f k = x := ⟨_, rfl⟩
     have HX := H7 hx
     have HNO := H7 (show x = false → R = false from fun h => by rw [← HE.out]; exact sitesAll_no hlt (hx.trans h))
     have HYES := H7 (show x = true → ∀ j, j < k + 1 → sitOk f j = true from fun h j hj => by
      by_cases e : j = k
      · rw [e, hx]; exact h
      · exact HA.out j (by omega))
     clear hx
     repeat ((fail_if_success (with_reducible refine stop_at (id := 5) ?_)); (first | go_values | go_skip | go_guarded | go_step | go_upon | go_back | (simp only [Int.not_lt, Int.not_le] at *; go_simp) | (go_values <;> (try go_simp)) | (go_ite <;> go_prune <;> (try go_simp)) | (split <;> (first | (rename_i hx; exact (hx _ rfl).elim) | go_prune))))
     refine (wpIn_wide (n := 0)).1 ?_
     repeat (first | (refine ixS _ _ rfl rfl rfl HLT.out ?_; simp only [Act.put, List.setIfInBounds_toArray, List.set_cons_succ, List.set_cons_zero]) | (refine nwP rfl ?_; simp only [Act.put, List.setIfInBounds_toArray, List.set_cons_succ, List.set_cons_zero]) | (refine stNewP _ _ rfl rfl rfl rfl rfl ?_; simp only [Act.put, List.setIfInBounds_toArray, List.set_cons_succ, List.set_cons_zero]) | gi_step)
     gi_wp2_with fail
     have hs_ := (HS.out.alloc (.cells (f.site k).cells 26))
     obtain ⟨w4, hw_⟩ : ∃ w4 : World, (wr.alloc (.cells (f.site k).cells 26)) = w4 := ⟨_, rfl⟩
     rw [hw_] at hs_
     try simp only [World.size_alloc] at hs_
     have HS := H7 hs_
     rw [hw_]
     clear hw_ hs_
     obtain ⟨p0, p1, -⟩ := plgCells (HS.out.blockAt 0 rfl)
     have q0 := Frt.foldedC (HS.out.blockAt 1 rfl)
     repeat ((fail_if_success (with_reducible refine stop_at (id := 6) ?_)); (first | go_values | go_skip | go_guarded | go_step | go_upon | go_back | (simp only [Int.not_lt, Int.not_le] at *; go_simp) | (go_values <;> (try go_simp)) | (go_ite <;> go_prune <;> (try go_simp)) | (split <;> (first | (rename_i hx; exact (hx _ rfl).elim) | go_prune))))
     clear hlt hk
     refine (wpIn_wide (n := 0)).1 ?_
     cases hi : (f.site k).inn with
     | false =>
      rw [hi] at p0
      have hsit := sitOk_of_out hi
      cases hb : plEq (f.site k) plZ with
      | false =>
       repeat (first | (exfalso; exact undefB (by assumption)) | (refine ldP _ rfl rfl (HS.out.blockAt 0 rfl) ?_; simp only [Act.put, List.setIfInBounds_toArray, List.set_cons_succ, List.set_cons_zero]) | (refine bdP _ rfl rfl ?_; simp only [Act.put, List.setIfInBounds_toArray, List.set_cons_succ, List.set_cons_zero]) | (refine neP' _ _ _ rfl rfl rfl hb ?_; simp only [Act.put, List.setIfInBounds_toArray, List.set_cons_succ, List.set_cons_zero]) | gi_step)
       have HF := H7 (HNO.out (HX.out.symm.trans (by rw [hsit, hb])))
       clear HNO HYES HX
       gi_wp2_with (exfalso; exact undefB (by assumption))
       go_wp2_with fail
       rw [HF.out]
       go_ret
       exact ⟨rfl, HS.out.low⟩
      | true =>
       repeat (first | (exfalso; exact undefB (by assumption)) | (refine ldP _ rfl rfl (HS.out.blockAt 0 rfl) ?_; simp only [Act.put, List.setIfInBounds_toArray, List.set_cons_succ, List.set_cons_zero]) | (refine bdP _ rfl rfl ?_; simp only [Act.put, List.setIfInBounds_toArray, List.set_cons_succ, List.set_cons_zero]) | (refine neP' _ _ _ rfl rfl rfl hb ?_; simp only [Act.put, List.setIfInBounds_toArray, List.set_cons_succ, List.set_cons_zero]) | gi_step)
       have HF := H7 (HYES.out (HX.out.symm.trans (by rw [hsit, hb])))
       clear HNO HYES HX
       gi_wp2_with (exfalso; exact undefB (by assumption))
       have HS2 := H7 HS.out.tl
       have hlt := HLT.out
       try clear p0
       try clear p1
       try clear q0
       go_wp2_with fail
       go_roundw
       case rel => exact ⟨k + 1, hlt, by simp, HF.out, HS2.out⟩
       case measure => exact frM hlt (by simp)
     | true =>
      rw [hi] at p0
      have hsit := sitOk_of_in hi
      by_cases hk0 : k = 0
      · have ek : ((k : Int) == 0) = true := by rw [hk0]; rfl
        have hsb : siteB (k : Int) = false := by rw [hk0]; rfl
        have HF := H7 (HNO.out (HX.out.symm.trans (by rw [hsit, hsb]; rfl)))
        clear HNO HYES HX
        gi_wp2_with (exfalso; exact undefB (by assumption))
        go_wp2_with fail
        rw [HF.out]
        go_ret
        exact ⟨rfl, HS.out.low⟩
      · have ek : ((k : Int) == 0) = false := beq_eq_false_iff_ne.2 (by omega)
        have hsb := siteB_pos hk0 HLT.out
        clear hk0
        repeat (first | (refine ldP _ rfl rfl (HS.out.blockAt 0 rfl) ?_; simp only [Act.put, List.setIfInBounds_toArray, List.set_cons_succ, List.set_cons_zero]) | gi_step)
        refine (callsIn_wide.2 (r18Pledge_any _ _)).mono ?_
        rintro e w5 ⟨rfl, hb_⟩
        replace p1 := (hb_.cell (p := ⟨wr.heap.size, 1, none⟩) (cell_lt p1)).trans p1
        replace q0 := (hb_.cell (p := ⟨w.heap.size, 0, none⟩) (cell_lt q0)).trans q0
        have HS := H7 (HS.out.below hb_)
        clear hb_
        cases hp : pledgeOk (f.site k) with
        | false =>
         have HF := H7 (HNO.out (HX.out.symm.trans (by rw [hsit, hsb, hp]; rfl)))
         clear HNO HYES HX
         gi_wp2_with (exfalso; exact undefB (by assumption))
         go_wp2_with fail
         rw [HF.out]
         go_ret
         exact ⟨rfl, HS.out.low⟩
        | true =>
         by_cases hfl : f.folded ≤ (f.site k).floor
         · have efl : decide ((f.site k).floor < f.folded) = false := decide_eq_false (by omega)
           have HF := H7 (HYES.out (HX.out.symm.trans (by rw [hsit, hsb, hp, decide_eq_true hfl]; rfl)))
           clear HNO HYES HX
           gi_wp2_with (exfalso; exact undefB (by assumption))
           have HS2 := H7 HS.out.tl
           have hlt := HLT.out
           try clear p0
           try clear p1
           try clear q0
           go_wp2_with fail
           go_roundw
           case rel => exact ⟨k + 1, hlt, by simp, HF.out, HS2.out⟩
           case measure => exact frM hlt (by simp)
         · have efl : decide ((f.site k).floor < f.folded) = true := decide_eq_true (by omega)
           have HF := H7 (HNO.out (HX.out.symm.trans (by rw [hsit, hsb, hp, decide_eq_false hfl]; rfl)))
           clear HNO HYES HX
           gi_wp2_with (exfalso; exact undefB (by assumption))
           go_wp2_with fail
           rw [HF.out]
           go_ret
           exact ⟨rfl, HS.out.low⟩
   · obtain rfl : k = 9 := by omega
     have HR := H7 (show R = true from by rw [← HE.out]; exact sitesAll_yes fun j hj => HA.out j hj)
     go_wp2_with fail
     rw [HR.out]
     go_ret
     exact ⟨rfl, HS.out.low⟩
/- Layer 18: the document's Register, greater, Hear. -/
/-- A site of a frontier in memory has another pledge. -/
theorem St.putSite {w0 x : World} {p : Nat} {f : Frt} {t : TypeId} {fr : Nat × Nat} {pre post : List It} {n : Nat} (h : St w0 (pre ++ .blk p (.cells f.cells t fr) :: post) x) (hpre : ∀ i ∈ pre, ∃ b ob, i = .blk b ob) (hn : n < 9) (q : Plg) :
 St w0 (pre ++ .blk p (.cells (f.put n q).cells t fr) :: post) (x.setCells p (11 + n * 12) q.l) := by
 have hp : x.heap[p]? = some (.cells f.cells t fr) := h.ok (.blk p (.cells f.cells t fr)) (List.mem_append.2 (.inr (by simp)))
 have T := turned_setCells (b := p) q.l (11 + n * 12) x
 exact St.set h hpre (frtPut_at hp hn q) (fun j hj => heap_putAt_other q.l _ hj) (T.below (Nat.le_of_lt (b7t hp)) (by rintro k rfl; exact Nat.le_refl _))
/- Layer 18: the document's Hear. -/
/- Layer 18: the document's Rise, Fold. -/
/-- The first k sites have risen. -/
def rsN (f : Frt) (k : Nat) : Frt := { f with prop := 0, site := fun j => if j < k ∧ (f.site j).inn = true then plIn f.folded else f.site j }
theorem rsN_zero (f : Frt) : rsN f 0 = { f with prop := 0 } := by
 unfold rsN
 congr 1
theorem rsN_in {f : Frt} {k : Nat} (h : (f.site k).inn = true) : (rsN f k).put k (plIn f.folded) = rsN f (k + 1) := by
 unfold rsN Frt.put
 congr 1
 funext j
 dsimp only
 by_cases e : j = k
 · subst e; rw [if_pos rfl, if_pos ⟨by omega, h⟩]
 · rw [if_neg e]
   by_cases h2 : j < k ∧ (f.site j).inn = true
   · rw [if_pos h2, if_pos ⟨by omega, h2.2⟩]
   · rw [if_neg h2, if_neg (fun h3 => h2 ⟨by omega, h3.2⟩)]
theorem rsN_out {f : Frt} {k : Nat} (h : (f.site k).inn = false) : rsN f k = rsN f (k + 1) := by
 unfold rsN
 congr 1
 funext j
 by_cases e : j = k
 · subst e; rw [if_neg (by omega), if_neg (by rw [h]; simp)]
 · by_cases h2 : j < k ∧ (f.site j).inn = true
   · rw [if_pos h2, if_pos ⟨by omega, h2.2⟩]
   · rw [if_neg h2, if_neg (fun h3 => h2 ⟨by omega, h3.2⟩)]
theorem rsN_all (f : Frt) : (rsN f 9).cells = (riseF f).cells := by
 have hc : ∀ k, k < 9 → (rsN f 9).site k = (riseF f).site k := fun k hk => by
  rw [rise_site]
  unfold rsN
  dsimp only
  by_cases h : (f.site k).inn = true
  · rw [if_pos ⟨hk, h⟩, if_pos (regL_mem.2 ⟨hk, h⟩)]
  · rw [if_neg (fun h2 => h h2.2), if_neg (fun h2 => h (regL_mem.1 h2).2)]
 refine Frt.ext_cells (rsN f 9).size (fun k hk => ?_) (fun k r hk hr => ?_)
 · rw [(rsN f 9).get_head hk]; rfl
 · rw [(rsN f 9).get hk hr, hc k hk]
set_option maxRecDepth 100000 in
set_option maxHeartbeats 4000000 in
theorem r18Rise_any (f : Frt) (w : World) : Calls Tryz.prog 35 #[.agg f.cells] w (Gives (.agg (riseF f).cells) w) := by
 have HS := H7 (St.start w)
 go_enter Tryz.func35, Tryz.ntmps35
 repeat ((fail_if_success (with_reducible refine stop_at (id := 1) ?_)); (first | go_values | go_skip | go_guarded | go_step | go_upon | go_back | (simp only [Int.not_lt, Int.not_le] at *; go_simp) | (go_values <;> (try go_simp)) | (go_ite <;> go_prune <;> (try go_simp)) | (split <;> (first | (rename_i hx; exact (hx _ rfl).elim) | go_prune))))
 rw [zeroF]
 have hs_ := ((HS.out.alloc (.cells f.cells 29)).alloc (.cells frZ.cells 29))
 obtain ⟨w1, hw_⟩ : ∃ w1 : World, ((w.alloc (.cells f.cells 29)).alloc (.cells frZ.cells 29)) = w1 := ⟨_, rfl⟩
 rw [hw_] at hs_
 try simp only [World.size_alloc] at hs_
 have HS := H7 hs_
 rw [hw_]
 clear hw_ hs_
 have c0 := Frt.propC (HS.out.blockAt 1 rfl)
 have f0 := f7b (HS.out.blockAt 1 rfl) 10
 repeat ((fail_if_success (with_reducible refine stop_at (id := 2) ?_)); (first | go_values | go_skip | go_guarded | go_step | go_upon | go_back | (simp only [Int.not_lt, Int.not_le] at *; go_simp) | (go_values <;> (try go_simp)) | (go_ite <;> go_prune <;> (try go_simp)) | (split <;> (first | (rename_i hx; exact (hx _ rfl).elim) | go_prune))))
 have hs := HS.out.putAt (pre := [.blk _ _]) (by intro i hi; exact ⟨_, _, List.mem_singleton.1 hi⟩) 10 (.int .u64 0) (frt_setProp f 0)
 simp only [List.cons_append, List.nil_append] at hs
 rw [← rsN_zero] at hs
 clear c0 f0
 have HS := H7 hs
 clear hs
 generalize w1.setCell ⟨w.heap.size, 10, none⟩ (.int .u64 0) = w2 at HS ⊢
 refine (wpIn_wide (n := 0)).1 ?_
 repeat (first | (refine ldSites _ rfl rfl (HS.out.blockAt 1 rfl) ?_; simp only [Act.put, List.setIfInBounds_toArray, List.set_cons_succ, List.set_cons_zero]) | gi_step)
 gi_wp2_with fail
 go_wp2_with fail
 go_loopw [8] (fun i wr => ∃ k : Nat, k ≤ 9 ∧ i = .int .i64 (k : Int) ∧ St w [.blk (w.heap.size + 1) (.cells frZ.cells 29 (0, 0)), .blk w.heap.size (.cells (rsN f k).cells 29 (0, 0))] wr) (fun i _ => 9 - (intOf i).toNat)
 case atStart => exact ⟨0, by omega, rfl, HS.out⟩
 case round =>
  obtain ⟨k, hk, rfl, hs⟩ := hrel
  clear HS
  have HS := H7 hs
  clear hs
  by_cases hlt : k < 9
  · have HLT := H7 hlt
    have hst : (rsN f 0).site k = f.site k := by rw [rsN_zero]
    repeat ((fail_if_success (with_reducible refine stop_at (id := 4) ?_)); (first | go_values | go_skip | go_guarded | go_step | go_upon | go_back | (simp only [Int.not_lt, Int.not_le] at *; go_simp) | (go_values <;> (try go_simp)) | (go_ite <;> go_prune <;> (try go_simp)) | (split <;> (first | (rename_i hx; exact (hx _ rfl).elim) | go_prune))))
    refine (wpIn_wide (n := 0)).1 ?_
    repeat (first | (refine ixS _ _ rfl rfl rfl HLT.out ?_; simp only [Act.put, List.setIfInBounds_toArray, List.set_cons_succ, List.set_cons_zero]) | (refine nwP rfl ?_; simp only [Act.put, List.setIfInBounds_toArray, List.set_cons_succ, List.set_cons_zero]) | (refine stNewP _ _ rfl rfl rfl rfl rfl ?_; simp only [Act.put, List.setIfInBounds_toArray, List.set_cons_succ, List.set_cons_zero]) | gi_step)
    gi_wp2_with fail
    rw [hst]
    clear hst
    have hs_ := (HS.out.alloc (.cells (f.site k).cells 26))
    obtain ⟨w4, hw_⟩ : ∃ w4 : World, (wr.alloc (.cells (f.site k).cells 26)) = w4 := ⟨_, rfl⟩
    rw [hw_] at hs_
    try simp only [World.size_alloc] at hs_
    have HS := H7 hs_
    rw [hw_]
    clear hw_ hs_
    have p0 := (plgCells (HS.out.blockAt 0 rfl)).1
    cases hi : (f.site k).inn with
    | true =>
     rw [hi] at p0
     repeat ((fail_if_success (with_reducible refine stop_at (id := 6) ?_)); (first | go_values | go_skip | go_guarded | go_step | go_upon | go_back | (simp only [Int.not_lt, Int.not_le] at *; go_simp) | (go_values <;> (try go_simp)) | (go_ite <;> go_prune <;> (try go_simp)) | (split <;> (first | (rename_i hx; exact (hx _ rfl).elim) | go_prune))))
     have c0 : w4.cell? ⟨w.heap.size, 0, none⟩ = some (.int .u64 f.folded) := Frt.foldedC (f := rsN f k) (HS.out.blockAt 2 rfl)
     refine (wpIn_wide (n := 0)).1 ?_
     repeat (first | (refine bdI _ rfl rfl ?_; simp only [Act.put, List.setIfInBounds_toArray, List.set_cons_succ, List.set_cons_zero]) | (refine stSite _ _ rfl rfl (HS.out.blockAt 2 rfl) hlt rfl ?_; simp only [Act.put, List.setIfInBounds_toArray, List.set_cons_succ, List.set_cons_zero]) | gi_step)
     gi_wp2_with fail
     have hs := HS.out.putSite (pre := [.blk _ _, .blk _ _]) (by intro i hi; simp only [List.mem_cons, List.not_mem_nil, or_false] at hi; rcases hi with rfl | rfl <;> exact ⟨_, _, rfl⟩) hlt (plIn f.folded)
     simp only [List.cons_append, List.nil_append] at hs
     rw [rsN_in hi] at hs
     have HS2 := H7 hs.tl
     clear hs c0 p0
     go_wp2_with fail
     go_roundw
     case rel => exact ⟨k + 1, hlt, by simp, HS2.out⟩
     case measure => exact frM hlt (by simp)
    | false =>
     rw [hi] at p0
     rw [rsN_out hi] at HS
     have HS2 := H7 HS.out.tl
     go_wp2_with fail
     clear p0
     go_roundw
     case rel => exact ⟨k + 1, hlt, by simp, HS2.out⟩
     case measure => exact frM hlt (by simp)
  · obtain rfl : k = 9 := by omega
    rw [rsN_all] at HS
    repeat ((fail_if_success (with_reducible refine stop_at (id := 8) ?_)); (first | go_values | go_skip | go_guarded | go_step | go_upon | go_back | (simp only [Int.not_lt, Int.not_le] at *; go_simp) | (go_values <;> (try go_simp)) | (go_ite <;> go_prune <;> (try go_simp)) | (split <;> (first | (rename_i hx; exact (hx _ rfl).elim) | go_prune))))
    refine (wpIn_wide (n := 0)).1 ?_
    repeat (first | (refine ldF _ rfl rfl (HS.out.blockAt 1 rfl) ?_; simp only [Act.put, List.setIfInBounds_toArray, List.set_cons_succ, List.set_cons_zero]) | (refine stF _ _ rfl rfl (HS.out.blockAt 0 rfl) rfl rfl ?_; simp only [Act.put, List.setIfInBounds_toArray, List.set_cons_succ, List.set_cons_zero]) | gi_step)
    gi_wp2_with fail
    have hs := HS.out.putRow (c' := (riseF f).cells) (pre := []) (by intro i hi; cases hi)
    simp only [List.nil_append] at hs
    go_wp2_with fail
    refine bodyPost_ret (resF rfl rfl (hs.blockAt 0 rfl)) rfl ⟨rfl, hs.low⟩
/-- A frontier in memory has another By. -/
theorem St.putBy {w0 x : World} {p : Nat} {f : Frt} {t : TypeId} {fr : Nat × Nat} {pre post : List It} (h : St w0 (pre ++ .blk p (.cells f.cells t fr) :: post) x) (hpre : ∀ i ∈ pre, ∃ b ob, i = .blk b ob) (v : Nat → Int) :
 St w0 (pre ++ .blk p (.cells ({ f with by_ := v } : Frt).cells t fr) :: post) (x.setCells p 1 (lit9 v).toList) := by
 have hp : x.heap[p]? = some (.cells f.cells t fr) := h.ok (.blk p (.cells f.cells t fr)) (List.mem_append.2 (.inr (by simp)))
 have T := turned_setCells (b := p) (lit9 v).toList 1 x
 exact St.set h hpre ((heap_putAt _ _ hp).trans (by rw [frt_putBy])) (fun j hj => heap_putAt_other _ _ hj) (T.below (Nat.le_of_lt (b7t hp)) (by rintro k rfl; exact Nat.le_refl _))
set_option maxRecDepth 100000 in
set_option maxHeartbeats 4000000 in
theorem r18Fold_any (f : Frt) (w : World) : Calls Tryz.prog 29 #[.agg f.cells] w (Gives (.agg (⟨f.prop, askR f, 0, f.site⟩ : Frt).cells) w) := by
 have HS := H7 (St.start w)
 go_enter Tryz.func29, Tryz.ntmps29
 repeat ((fail_if_success (with_reducible refine stop_at (id := 1) ?_)); (first | go_values | go_skip | go_guarded | go_step | go_upon | go_back | (simp only [Int.not_lt, Int.not_le] at *; go_simp) | (go_values <;> (try go_simp)) | (go_ite <;> go_prune <;> (try go_simp)) | (split <;> (first | (rename_i hx; exact (hx _ rfl).elim) | go_prune))))
 rw [zeroF]
 have hs_ := ((HS.out.alloc (.cells f.cells 29)).alloc (.cells frZ.cells 29))
 obtain ⟨w1, hw_⟩ : ∃ w1 : World, ((w.alloc (.cells f.cells 29)).alloc (.cells frZ.cells 29)) = w1 := ⟨_, rfl⟩
 rw [hw_] at hs_
 try simp only [World.size_alloc] at hs_
 have HS := H7 hs_
 rw [hw_]
 clear hw_ hs_
 refine (wpIn_wide (n := 0)).1 ?_
 apply w7v 4 (Rl := [(eqv _), (eqv _), (eqv _), (eqv _)]) (C := (fun x y => Below x.heap.size x y))
 case hm => kernel_rfl
 case hk => rfl
 case hCr => exact (fun _ => B7 _ _)
 case hCt => intro _ _ _; exact (fun h k => g7t h k)
 case hst => repeat (first | exact trivial | refine ⟨fun _ _ _ _ h => h, ?_⟩)
 case hfo => kernel_rfl
 case ht => kernel_rfl
 case hC0 => exact (g7d _)
 case hsteps =>
  refine ⟨?_, ?_, ?_, ?_, trivial⟩
  · intro a' w' hA hC hD; have s1 := hA.to 1 (by kernel_rfl) rfl; clear hA hD; refine o7p rfl ?_; intro K hK
    refine ldF _ rfl (by simp [Act.eval, s1]) ((HS.out.below hC).blockAt 1 rfl) ?_; exact hK _ _ rfl (B7 _ _)
  · intro a' w' hA hC hD; obtain ⟨u3, s3, rfl⟩ := hD ⟨0, .data⟩ (by simp) rfl _ rfl; clear hA hD; refine o7p rfl ?_; intro K hK
    gi_wp2_with fail; refine (callsIn_wide.2 (r18Asked_any f _)).mono ?_; rintro e w2 ⟨rfl, hb⟩
    exact hK _ _ rfl hb
  · intro a' w' hA hC hD; have s1 := hA.to 1 (by kernel_rfl) rfl; clear hA hD; refine o7p rfl ?_; intro K hK; gi_wp2; exact hK _ _ rfl (B7 _ _)
  · intro a' w' hA hC hD; obtain ⟨u5, s5, rfl⟩ := hD ⟨2, .data⟩ (by simp) rfl _ rfl
    have c3 := Frt.propC ((HS.out.below hC).blockAt 1 rfl)
    clear hA hD; refine o7p rfl ?_; intro K hK; gi_wp2; exact hK _ _ rfl (B7 _ _)
 case hend =>
  intro w3 hC
  simp only [EndFrom, eqv, forall_eq, Act.put, List.length_cons, List.length_nil, List.drop_succ_cons, List.drop_zero, Nat.reduceAdd, List.setIfInBounds_toArray, List.set_cons_succ, List.set_cons_zero]
  have HS := H7 (HS.out.below hC)
  clear hC
  obtain ⟨A, hA⟩ : ∃ A, askR f = A := ⟨_, rfl⟩
  rw [hA]
  simp only [vecV]
  gi_step
  gi_step
  rename_i hK_
  refine hK_ _ _ ?_
  clear hK_
  gi_step
  refine stBy (f := f) (v := A) _ _ rfl rfl (HS.out.blockAt 1 rfl) rfl ?_
  simp only [Act.put, List.setIfInBounds_toArray, List.set_cons_succ, List.set_cons_zero]
  rename_i hK_
  refine hK_ _ _ ?_
  clear hK_
  have hs := HS.out.putBy (pre := [.blk _ _]) (by intro i hi; exact ⟨_, _, List.mem_singleton.1 hi⟩) A
  simp only [List.cons_append, List.nil_append] at hs
  have HS := H7 hs
  clear hs
  generalize w3.setCells w.heap.size 1 (lit9 A).toList = w4 at HS ⊢
  have c0 : w4.cell? ⟨w.heap.size, 0, none⟩ = some (.int .u64 f.folded) := Frt.foldedC (f := { f with by_ := A }) (HS.out.blockAt 1 rfl)
  have f0 := f7b (HS.out.blockAt 1 rfl) 0
  have c10 : w4.cell? ⟨w.heap.size, 10, none⟩ = some (.int .u64 f.prop) := Frt.propC (f := { f with by_ := A }) (HS.out.blockAt 1 rfl)
  have f10 := f7b (HS.out.blockAt 1 rfl) 10
  have hs := HS.out.putAt (pre := [.blk _ _]) (by intro i hi; exact ⟨_, _, List.mem_singleton.1 hi⟩) 0 (.int .u64 f.prop) (frt_setFolded _ _)
  simp only [List.cons_append, List.nil_append] at hs
  have hs2 := hs.putAt (pre := [.blk _ _]) (by intro i hi; exact ⟨_, _, List.mem_singleton.1 hi⟩) 10 (.int .u64 0) (frt_setProp _ _)
  simp only [List.cons_append, List.nil_append] at hs2
  have HS := H7 hs2
  clear hs hs2
  gi_wp2_with fail
  clear c0 f0 c10 f10
  rw [← hA] at HS
  repeat ((fail_if_success (with_reducible refine stop_at (id := 2) ?_)); (first | go_values | go_skip | go_guarded | go_step | go_upon | go_back | (simp only [Int.not_lt, Int.not_le] at *; go_simp) | (go_values <;> (try go_simp)) | (go_ite <;> go_prune <;> (try go_simp)) | (split <;> (first | (rename_i hx; exact (hx _ rfl).elim) | go_prune))))
  refine (wpIn_wide (n := 0)).1 ?_
  repeat (first | (refine ldF _ rfl rfl (HS.out.blockAt 1 rfl) ?_; simp only [Act.put, List.setIfInBounds_toArray, List.set_cons_succ, List.set_cons_zero]) | (refine stF _ _ rfl rfl (HS.out.blockAt 0 rfl) rfl rfl ?_; simp only [Act.put, List.setIfInBounds_toArray, List.set_cons_succ, List.set_cons_zero]) | gi_step)
  gi_wp2_with fail
  have hs := HS.out.putRow (c' := (⟨f.prop, askR f, 0, f.site⟩ : Frt).cells) (pre := []) (by intro i hi; cases hi)
  simp only [List.nil_append] at hs
  go_wp2_with fail
  refine bodyPost_ret (resF rfl rfl (hs.blockAt 0 rfl)) rfl ⟨rfl, hs.low⟩
end Go.Proofs.YteklfmacnnmomaaGreat
