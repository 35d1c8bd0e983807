/- Merged texts: FrC FrD FrE FrF WithL Tile Made BoxS. -/
import Derived.Test.YteklfmacnnmomaaGreatM4
import Derived.Test.YteklfmacnnmomaaGreatM9
import Derived.RangeFuncNested
import Derived.RangeFuncBound
import Derived.RangeFuncCalls
import Derived.Test.YteklfmacnnmomaaGreatM3
import Derived.Maps.OwnIn
import Derived.Test.YteklfmacnnmomaaGreatM1
set_option linter.unusedSimpArgs false
set_option linter.unusedVariables false
/- Layer 18: need, site, pledge. -/
namespace Go.Proofs.YteklfmacnnmomaaGreat
open Go.RowKit Go.Shelf
attribute [local go_sem] Oper.semAt_some
theorem frNeed_ok (x : Int) (w : World) : Calls Tryz.prog 41 #[.bool true, .int .i64 x] w fun e w' => e = .returned (.tuple #[]) ∧ w = w' := by
 go_enter Tryz.func41, Tryz.ntmps41
 go_wp2
 go_end0
 exact ⟨rfl, rfl⟩
theorem frNeed_no (x : Int) (w : World) : Calls Tryz.prog 41 #[.bool false, .int .i64 x] w fun e w' => e = .panicked [{ v := .iface 34 (.int .i64 x), recovered := false }] ∧ w = w' := by
 go_enter Tryz.func41, Tryz.ntmps41
 go_wp2
 exact ⟨rfl, rfl, rfl⟩
/-- Is there such a site? -/
def siteB (n : Int) : Bool := decide (1 ≤ n) && decide (n ≤ 8)
theorem frSite_any (n : Int) (w : World) : Calls Tryz.prog 42 #[.int .i64 n] w fun e w' => e = .returned (.bool (siteB n)) ∧ w = w' := by
 go_enter Tryz.func42, Tryz.ntmps42
 by_cases h1 : 1 ≤ n
 · have e1 : decide (n ≥ 1) = true := decide_eq_true h1
   by_cases h2 : n ≤ 8
   · have e2 : decide (n ≤ 8) = true := decide_eq_true h2
     have e3 : siteB n = true := by simp [siteB, h1, h2]
     rw [e3]
     clear h1 h2 e3
     go_wp2_with fail
     go_ret
     exact ⟨rfl, rfl⟩
   · have e2 : decide (n ≤ 8) = false := decide_eq_false h2
     have e3 : siteB n = false := by simp [siteB, h2]
     rw [e3]
     clear h1 h2 e3
     go_wp2_with fail
     go_ret
     exact ⟨rfl, rfl⟩
 · have e1 : decide (n ≥ 1) = false := decide_eq_false h1
   have e3 : siteB n = false := by simp [siteB, h1]
   rw [e3]
   clear h1 e3
   go_wp2_with fail
   go_ret
   exact ⟨rfl, rfl⟩
/-- May a registered site have it? -/
def pledgeOk (p : Plg) : Bool := ((p.inn && decide (p.floor ≤ MaxT)) && decide (p.seq ≤ MaxT)) && vecOk p.has
set_option maxRecDepth 100000 in
set_option maxHeartbeats 2000000 in
theorem frPledge_any (p : Plg) (w : World) : Calls Tryz.prog 53 #[.agg p.cells] w (Gives (.bool (pledgeOk p)) w) := by
 have HS := H7 (St.start w)
 have HV := H7 (fun w' => vecCheck_any p.has w')
 obtain ⟨R, hR⟩ : ∃ R, pledgeOk p = R := ⟨_, rfl⟩
 rw [hR]
 unfold pledgeOk at hR
 go_enter Tryz.func53, Tryz.ntmps53
 repeat ((fail_if_success (with_reducible refine stop_at (id := 1) ?_)); (first | go_values | go_skip | go_guarded | go_step | go_upon | go_back | (simp only [Int.not_lt, Int.not_le] at *; go_simp) | (go_values <;> (try go_simp)) | (go_ite <;> go_prune <;> (try go_simp)) | (split <;> (first | (rename_i hx; exact (hx _ rfl).elim) | go_prune))))
 have hs_ := (HS.out.alloc (.cells p.cells 26))
 obtain ⟨w1, hw_⟩ : ∃ w1 : World, (w.alloc (.cells p.cells 26)) = w1 := ⟨_, rfl⟩
 rw [hw_] at hs_
 try simp only [World.size_alloc] at hs_
 have HS := H7 hs_
 rw [hw_]
 clear hw_ hs_
 obtain ⟨q0, q1, q2⟩ := plgCells (HS.out.blockAt 0 rfl)
 cases h0 : p.inn with
 | false =>
  rw [h0] at q0 hR
  have HE := H7 (show R = false from by rw [← hR]; rfl)
  clear hR h0
  refine (wpIn_wide (n := 0)).1 ?_
  gi_wp2_with (exfalso; exact undefB (by assumption))
  go_wp2_with fail
  rw [HE.out]
  go_ret
  exact ⟨rfl, HS.out.low⟩
 | true =>
  rw [h0] at q0 hR
  by_cases h1 : p.floor ≤ MaxT
  · rw [decide_eq_true h1] at hR
    have e1 : decide (p.floor ≤ 4611686018427387904) = true := decide_eq_true h1
    by_cases h2 : p.seq ≤ MaxT
    · have e2 : decide (p.seq ≤ 4611686018427387904) = true := decide_eq_true h2
      rw [decide_eq_true h2] at hR
      obtain ⟨m, hm⟩ : ∃ m, vecOk p.has = m := ⟨_, rfl⟩
      rw [hm] at HV hR
      have HE := H7 (show R = m from by rw [← hR]; rfl)
      clear hm h0 h1 h2 hR
      refine (wpIn_wide (n := 0)).1 ?_
      repeat (first | (refine ldHas _ rfl rfl (HS.out.blockAt 0 rfl) ?_; simp only [Act.put, List.setIfInBounds_toArray, List.set_cons_succ, List.set_cons_zero]) | gi_step)
      refine (callsIn_wide.2 (HV.out _)).mono ?_
      rintro e w2 ⟨rfl, hb_⟩
      have HS := H7 (HS.out.below hb_)
      clear hb_ HV
      cases m with
      | false =>
       rw [show errOf false 230 = 230 from rfl]
       gi_wp2_with (exfalso; exact undefB (by assumption))
       go_wp2_with fail
       rw [HE.out]
       go_ret
       exact ⟨rfl, HS.out.low⟩
      | true =>
       rw [show errOf true 230 = 0 from rfl]
       gi_wp2_with (exfalso; exact undefB (by assumption))
       go_wp2_with fail
       rw [HE.out]
       go_ret
       exact ⟨rfl, HS.out.low⟩
    · have e2 : decide (p.seq ≤ 4611686018427387904) = false := decide_eq_false h2
      rw [decide_eq_false h2] at hR
      have HE := H7 (show R = false from by rw [← hR]; rfl)
      clear hR h0 h1 h2
      refine (wpIn_wide (n := 0)).1 ?_
      gi_wp2_with (exfalso; exact undefB (by assumption))
      go_wp2_with fail
      rw [HE.out]
      go_ret
      exact ⟨rfl, HS.out.low⟩
  · have e1 : decide (p.floor ≤ 4611686018427387904) = false := decide_eq_false h1
    rw [decide_eq_false h1] at hR
    have HE := H7 (show R = false from by rw [← hR]; rfl)
    clear hR h0 h1
    refine (wpIn_wide (n := 0)).1 ?_
    gi_wp2_with (exfalso; exact undefB (by assumption))
    go_wp2_with fail
    rw [HE.out]
    go_ret
    exact ⟨rfl, HS.out.low⟩
/- Layer 18: frontier.Check. -/
def propOk (f : Frt) : Bool := f.prop == 0 || (decide (f.folded < f.prop) && decide (f.prop ≤ MaxT))
def sitOk (f : Frt) (k : Nat) : Bool := plEq (f.site k) plZ || ((siteB k && pledgeOk (f.site k)) && decide (f.folded ≤ (f.site k).floor))
def sitesAll (f : Frt) : Bool := (List.range 9).all (sitOk f)
/-- May a frontier be? -/
def Frt.okB (f : Frt) : Bool := ((decide (f.folded ≤ MaxT) && vecOk f.by_) && propOk f) && sitesAll f
theorem sitesAll_no {f : Frt} {k : Nat} (hk : k < 9) (h : sitOk f k = false) : sitesAll f = false := by
 unfold sitesAll
 rw [List.all_eq_false]
 exact ⟨k, List.mem_range.2 hk, by simp [h]⟩
theorem sitesAll_yes {f : Frt} (h : ∀ k, k < 9 → sitOk f k = true) : sitesAll f = true := by
 unfold sitesAll
 rw [List.all_eq_true]
 exact fun k hk => h k (List.mem_range.1 hk)
theorem frM {n k : Nat} {X : Int} (h : k < n) (hX : X = (k : Int) + 1) : n - (intOf (.int .i64 X)).toNat < n - (intOf (.int .i64 (k : Int))).toNat := by
 subst hX
 simp [intOf]
 omega
set_option maxRecDepth 100000 in
set_option maxHeartbeats 4000000 in
theorem frCheck_any (f : Frt) (w : World) : Calls Tryz.prog 21 #[.agg f.cells] w (Gives (.int .i64 (errOf f.okB 280)) w) := by
 have HS := H7 (St.start w)
 have HV := H7 (fun w' => vecCheck_any f.by_ w')
 obtain ⟨E, hE⟩ : ∃ E, errOf f.okB 280 = E := ⟨_, rfl⟩
 obtain ⟨b1, h1⟩ : ∃ b, decide (f.folded > 4611686018427387904) = b := ⟨_, rfl⟩
 obtain ⟨b2, h2⟩ : ∃ b, vecOk f.by_ = b := ⟨_, rfl⟩
 obtain ⟨b3, h3⟩ : ∃ b, propOk f = b := ⟨_, rfl⟩
 rw [h2] at HV
 rw [hE]
 unfold Frt.okB at hE
 rw [h2, h3, show decide (f.folded ≤ MaxT) = !b1 from by rw [← h1]; by_cases h : f.folded ≤ MaxT <;> simp [h] <;> (unfold MaxT at h; omega)] at hE
 have HE := H7 hE
 have H2 := H7 h2
 clear hE h2
 go_enter Tryz.func21, Tryz.ntmps21
 repeat ((fail_if_success (with_reducible refine stop_at (id := 1) ?_)); (first | go_values | go_skip | go_guarded | go_step | go_upon | go_back | (simp only [Int.not_lt, Int.not_le] at *; go_simp) | (go_values <;> (try go_simp)) | (go_ite <;> go_prune <;> (try go_simp)) | (split <;> (first | (rename_i hx; exact (hx _ rfl).elim) | go_prune))))
 have hs_ := (HS.out.alloc (.cells f.cells 29))
 obtain ⟨w1, hw_⟩ : ∃ w1 : World, (w.alloc (.cells f.cells 29)) = w1 := ⟨_, rfl⟩
 rw [hw_] at hs_
 try simp only [World.size_alloc] at hs_
 have HS := H7 hs_
 rw [hw_]
 clear hw_ hs_
 obtain ⟨q0, qp⟩ := And.intro (Frt.foldedC (HS.out.blockAt 0 rfl)) (Frt.propC (HS.out.blockAt 0 rfl))
 have key : (((f.prop == 0) = true ∧ b3 = true) ∨ ((f.prop == 0) = false ∧ decide (f.prop > f.folded) = true ∧ decide (f.prop ≤ 4611686018427387904) = true ∧ b3 = true)) ∨
  (((f.prop == 0) = false ∧ decide (f.prop > f.folded) = false ∧ b3 = false) ∨ ((f.prop == 0) = false ∧ decide (f.prop > f.folded) = true ∧ decide (f.prop ≤ 4611686018427387904) = false ∧ b3 = false)) := by
  subst h3
  unfold propOk MaxT
  cases f.prop == 0
  · by_cases ha : f.folded < f.prop
    · by_cases hb : f.prop ≤ 4611686018427387904
      · exact .inl (.inr ⟨rfl, by simp [ha], by simp [hb], by simp [ha, hb]⟩)
      · exact .inr (.inr ⟨rfl, by simp [ha], by simp [hb], by simp [ha, hb]⟩)
    · exact .inr (.inl ⟨rfl, by simp [ha], by simp [ha]⟩)
  · exact .inl (.inl ⟨rfl, rfl⟩)
 clear h3
 rcases key with hk | hk
 · rcases hk with ⟨e1, rfl⟩ | ⟨e1, e2, e3, rfl⟩
   all_goals
    refine (wpIn_wide (n := 0)).1 ?_
    gi_wp2_with (exfalso; exact undefB (by assumption))
    clear e1
    try clear e2
    try clear e3
    repeat ((fail_if_success (with_reducible refine stop_at (id := 2) ?_)); (first | go_values | go_skip | go_guarded | go_step | go_upon | go_back | (simp only [Int.not_lt, Int.not_le] at *; go_simp) | (go_values <;> (try go_simp)) | (go_ite <;> go_prune <;> (try go_simp)) | (split <;> (first | (rename_i hx; exact (hx _ rfl).elim) | go_prune))))
    refine (wpIn_wide (n := 0)).1 ?_
    cases b1 with
    | true =>
     gi_wp2_with (exfalso; exact undefB (by assumption))
     clear q0 qp
     go_wp2_with fail
     rw [show E = 280 from HE.out.symm]
     go_ret
     exact ⟨rfl, HS.out.low⟩
    | false =>
     repeat (first | (refine ldBy _ rfl rfl (HS.out.blockAt 0 rfl) ?_; simp only [Act.put, List.setIfInBounds_toArray, List.set_cons_succ, List.set_cons_zero]) | gi_step)
     refine (callsIn_wide.2 (HV.out _)).mono ?_
     rintro e w2 ⟨rfl, hb_⟩
     have HS := H7 (HS.out.below hb_)
     clear hb_ HV q0 qp h1
     cases b2 with
     | false =>
      rw [show errOf false 230 = 230 from rfl]
      gi_wp2_with (exfalso; exact undefB (by assumption))
      go_wp2_with fail
      rw [show E = 280 from HE.out.symm]
      go_ret
      exact ⟨rfl, HS.out.low⟩
     | true =>
      rw [show errOf true 230 = 0 from rfl]
      gi_wp2_with (exfalso; exact undefB (by assumption))
      repeat ((fail_if_success (with_reducible refine stop_at (id := 4) ?_)); (first | go_values | go_skip | go_guarded | go_step | go_upon | go_back | (simp only [Int.not_lt, Int.not_le] at *; go_simp) | (go_values <;> (try go_simp)) | (go_ite <;> go_prune <;> (try go_simp)) | (split <;> (first | (rename_i hx; exact (hx _ rfl).elim) | go_prune))))
      refine (wpIn_wide (n := 0)).1 ?_
      repeat (first | (refine ldSites _ rfl rfl (HS.out.blockAt 0 rfl) ?_; simp only [Act.put, List.setIfInBounds_toArray, List.set_cons_succ, List.set_cons_zero]) | gi_step)
      gi_wp2_with fail
      go_wp2_with fail
      go_loopw [36] (fun i wr => ∃ k : Nat, k ≤ 9 ∧ i = .int .i64 (k : Int) ∧ St w [.blk w.heap.size (.cells f.cells 29 (0, 0))] wr ∧ ∀ j, j < k → sitOk f j = true) (fun i _ => 9 - (intOf i).toNat)
      case atStart => exact ⟨0, by omega, rfl, HS.out, fun j h => by omega⟩
      case round =>
       obtain ⟨k, hk, rfl, hs, hall⟩ := hrel
       clear HS
       have HS := H7 hs
       have HA := H7 hall
       clear hs hall
       by_cases hlt : k < 9
       · have HLT := H7 hlt
         repeat ((fail_if_success (with_reducible refine stop_at (id := 6) ?_)); (first | go_values | go_skip | go_guarded | go_step | go_upon | go_back | (simp only [Int.not_lt, Int.not_le] at *; go_simp) | (go_values <;> (try go_simp)) | (go_ite <;> go_prune <;> (try go_simp)) | (split <;> (first | (rename_i hx; exact (hx _ rfl).elim) | go_prune))))
         refine (wpIn_wide (n := 0)).1 ?_
         repeat (first | (refine ixS _ _ rfl rfl rfl HLT.out ?_; simp only [Act.put, List.setIfInBounds_toArray, List.set_cons_succ, List.set_cons_zero]) | (refine nwP rfl ?_; simp only [Act.put, List.setIfInBounds_toArray, List.set_cons_succ, List.set_cons_zero]) | (refine stNewP _ _ rfl rfl rfl rfl rfl ?_; simp only [Act.put, List.setIfInBounds_toArray, List.set_cons_succ, List.set_cons_zero]) | gi_step)
         have hs_ := (HS.out.alloc (.cells (f.site k).cells 26))
         obtain ⟨w4, hw_⟩ : ∃ w4 : World, (wr.alloc (.cells (f.site k).cells 26)) = w4 := ⟨_, rfl⟩
         rw [hw_] at hs_
         try simp only [World.size_alloc] at hs_
         have HS := H7 hs_
         rw [hw_]
         clear hw_ hs_
         obtain ⟨z, hz⟩ : ∃ z, plEq (f.site k) plZ = z := ⟨_, rfl⟩
         refine (wpIn_wide (n := 0)).1 ?_
         cases z with
         | true =>
          repeat (first | (refine ldP _ rfl rfl (HS.out.blockAt 0 rfl) ?_; simp only [Act.put, List.setIfInBounds_toArray, List.set_cons_succ, List.set_cons_zero]) | (refine neP' _ _ _ rfl rfl rfl hz ?_; simp only [Act.put, List.setIfInBounds_toArray, List.set_cons_succ, List.set_cons_zero]) | (refine bdP _ rfl rfl ?_; simp only [Act.put, List.setIfInBounds_toArray, List.set_cons_succ, List.set_cons_zero]) | gi_step)
          gi_wp2_with (exfalso; exact undefB (by assumption))
          have hk9 := HLT.out
          go_wp2_with fail
          go_roundw
          case rel => exact ⟨k + 1, by omega, by simp, HS.out.tl, fun j hj => by
           rcases Nat.lt_succ_iff_lt_or_eq.1 hj with h | rfl
           · exact HA.out j h
           · unfold sitOk; rw [hz]; rfl⟩
          case measure => exact frM hk9 (by simp)
         | false =>
          obtain ⟨u, hu⟩ : ∃ z, siteB (k : Int) = z := ⟨_, rfl⟩
          obtain ⟨v, hv⟩ : ∃ z, pledgeOk (f.site k) = z := ⟨_, rfl⟩
          obtain ⟨x, hx⟩ : ∃ z, decide ((f.site k).floor < f.folded) = z := ⟨_, rfl⟩
          have hx' : decide (f.folded ≤ (f.site k).floor) = !x := by rw [← hx]; by_cases h : f.folded ≤ (f.site k).floor <;> simp [h] <;> omega
          have HX := H7 hx'
          have HX2 := H7 hx
          clear hx' hx
          repeat (first | (refine ldP _ rfl rfl (HS.out.blockAt 0 rfl) ?_; simp only [Act.put, List.setIfInBounds_toArray, List.set_cons_succ, List.set_cons_zero]) | (refine neP' _ _ _ rfl rfl rfl hz ?_; simp only [Act.put, List.setIfInBounds_toArray, List.set_cons_succ, List.set_cons_zero]) | (refine bdP _ rfl rfl ?_; simp only [Act.put, List.setIfInBounds_toArray, List.set_cons_succ, List.set_cons_zero]) | gi_step)
          refine (callsIn_wide.2 (frSite_any _ _)).mono ?_
          rintro e w5 ⟨rfl, rfl⟩
          rw [hu]
          cases u with
          | false =>
           gi_wp2_with (exfalso; exact undefB (by assumption))
           go_wp2_with fail
           rw [show E = 280 from by rw [← HE.out, sitesAll_no HLT.out (by unfold sitOk; rw [hz, hu]; rfl)]; rfl]
           go_ret
           exact ⟨rfl, HS.out.low⟩
          | true =>
           simp only []; go_at_K
           repeat (first | (refine ldP _ rfl rfl (HS.out.blockAt 0 rfl) ?_; simp only [Act.put, List.setIfInBounds_toArray, List.set_cons_succ, List.set_cons_zero]) | (refine neP' _ _ _ rfl rfl rfl hz ?_; simp only [Act.put, List.setIfInBounds_toArray, List.set_cons_succ, List.set_cons_zero]) | (refine bdP _ rfl rfl ?_; simp only [Act.put, List.setIfInBounds_toArray, List.set_cons_succ, List.set_cons_zero]) | gi_step)
           refine (callsIn_wide.2 (frPledge_any _ _)).mono ?_
           rintro e w5 ⟨rfl, hb_⟩
           have HS := H7 (HS.out.below hb_)
           clear hb_
           rw [hv]
           cases v with
           | false =>
            gi_wp2_with (exfalso; exact undefB (by assumption))
            go_wp2_with fail
            rw [show E = 280 from by rw [← HE.out, sitesAll_no HLT.out (by unfold sitOk; rw [hz, hu, hv]; rfl)]; rfl]
            go_ret
            exact ⟨rfl, HS.out.low⟩
           | true =>
            obtain ⟨-, q1, -⟩ := plgCells (HS.out.blockAt 0 rfl)
            have q0 := Frt.foldedC (HS.out.blockAt 1 rfl)
            have hx := HX2.out
            cases x with
            | true =>
             gi_wp2_with (exfalso; exact undefB (by assumption))
             clear q0 q1 hx
             go_wp2_with fail
             rw [show E = 280 from by rw [← HE.out, sitesAll_no HLT.out (by unfold sitOk; rw [hz, hu, hv, HX.out]; rfl)]; rfl]
             go_ret
             exact ⟨rfl, HS.out.low⟩
            | false =>
             gi_wp2_with (exfalso; exact undefB (by assumption))
             clear q0 q1 hx
             have hk9 := HLT.out
             go_wp2_with fail
             go_roundw
             case rel => exact ⟨k + 1, by omega, by simp, HS.out.tl, fun j hj => by
              rcases Nat.lt_succ_iff_lt_or_eq.1 hj with h | rfl
              · exact HA.out j h
              · unfold sitOk; rw [hz, hu, hv, HX.out]; rfl⟩
             case measure => exact frM hk9 (by simp)
       · obtain rfl : k = 9 := by omega
         go_wp2_with fail
         rw [show E = 0 from by rw [← HE.out, sitesAll_yes HA.out]; rfl]
         go_ret
         exact ⟨rfl, HS.out.low⟩
 · rcases hk with ⟨e1, e2, rfl⟩ | ⟨e1, e2, e3, rfl⟩
   all_goals
    refine (wpIn_wide (n := 0)).1 ?_
    gi_wp2_with (exfalso; exact undefB (by assumption))
    clear e1 e2
    try clear e3
    repeat ((fail_if_success (with_reducible refine stop_at (id := 2) ?_)); (first | go_values | go_skip | go_guarded | go_step | go_upon | go_back | (simp only [Int.not_lt, Int.not_le] at *; go_simp) | (go_values <;> (try go_simp)) | (go_ite <;> go_prune <;> (try go_simp)) | (split <;> (first | (rename_i hx; exact (hx _ rfl).elim) | go_prune))))
    refine (wpIn_wide (n := 0)).1 ?_
    cases b1 with
    | true =>
     gi_wp2_with (exfalso; exact undefB (by assumption))
     clear q0 qp
     go_wp2_with fail
     rw [show E = 280 from HE.out.symm]
     go_ret
     exact ⟨rfl, HS.out.low⟩
    | false =>
     repeat (first | (refine ldBy _ rfl rfl (HS.out.blockAt 0 rfl) ?_; simp only [Act.put, List.setIfInBounds_toArray, List.set_cons_succ, List.set_cons_zero]) | gi_step)
     refine (callsIn_wide.2 (HV.out _)).mono ?_
     rintro e w2 ⟨rfl, hb_⟩
     have HS := H7 (HS.out.below hb_)
     clear hb_ HV q0 qp h1
     cases b2 with
     | false =>
      rw [show errOf false 230 = 230 from rfl]
      gi_wp2_with (exfalso; exact undefB (by assumption))
      go_wp2_with fail
      rw [show E = 280 from HE.out.symm]
      go_ret
      exact ⟨rfl, HS.out.low⟩
     | true =>
      rw [show errOf true 230 = 0 from rfl]
      gi_wp2_with (exfalso; exact undefB (by assumption))
      go_wp2_with fail
      rw [show E = 280 from HE.out.symm]
      go_ret
      exact ⟨rfl, HS.out.low⟩
/- Layer 18: the iterator over the registered sites. -/
/-- The registered sites. -/
def regL (f : Frt) : List Nat := (List.range 9).filter fun k => (f.site k).inn
/-- How many there are below a number. -/
def cntR (f : Frt) (k : Nat) : Nat := ((List.range k).filter fun j => (f.site j).inn).length
theorem cntR_yes {f : Frt} {k : Nat} (h : (f.site k).inn = true) : cntR f (k + 1) = cntR f k + 1 := by
 unfold cntR
 rw [List.range_succ, List.filter_append, List.length_append]
 simp [h]
theorem cntR_no {f : Frt} {k : Nat} (h : (f.site k).inn = false) : cntR f (k + 1) = cntR f k := by
 unfold cntR
 rw [List.range_succ, List.filter_append, List.length_append]
 simp [h]
theorem cntR_9 (f : Frt) : cntR f 9 = (regL f).length := rfl
theorem regL_at {f : Frt} {k : Nat} (hk : k < 9) (h : (f.site k).inn = true) : (regL f)[cntR f k]? = some k := by
 have e : List.range 9 = List.range k ++ k :: List.range' (k + 1) (8 - k) := by
  match k, hk with
  | 0, _ => rfl
  | 1, _ => rfl
  | 2, _ => rfl
  | 3, _ => rfl
  | 4, _ => rfl
  | 5, _ => rfl
  | 6, _ => rfl
  | 7, _ => rfl
  | 8, _ => rfl
 unfold regL cntR
 rw [e, List.filter_append, List.getElem?_append_right (Nat.le_refl _), Nat.sub_self, List.filter_cons, if_pos h]
 rfl
theorem cntR_lt {f : Frt} {k : Nat} (hk : k < 9) (h : (f.site k).inn = true) : cntR f k < (regL f).length := (List.getElem?_eq_some_iff.1 (regL_at hk h)).1
theorem regL_mem {f : Frt} {k : Nat} : k ∈ regL f ↔ k < 9 ∧ (f.site k).inn = true := by
 unfold regL
 rw [List.mem_filter, List.mem_range]
def regN (f : Frt) (x : Fin (regL f).length) : Nat := (regL f)[x.1]
theorem regN_lt (f : Frt) (x : Fin (regL f).length) : regN f x < 9 := (regL_mem.1 (List.getElem_mem x.2)).1
theorem regN_in (f : Frt) (x : Fin (regL f).length) : (f.site (regN f x)).inn = true := (regL_mem.1 (List.getElem_mem x.2)).2
/-- What is told of one. -/
def regArgs (f : Frt) (x : Fin (regL f).length) : Array Value := #[.int .i64 ((regN f x : Nat) : Int), .agg (f.site (regN f x)).cells]
theorem regN_at {f : Frt} {k : Nat} (hk : k < 9) (h : (f.site k).inn = true) : regN f ⟨cntR f k, cntR_lt hk h⟩ = k := by
 have := regL_at hk h
 rw [List.getElem?_eq_some_iff] at this
 exact this.2
set_option maxRecDepth 100000 in
set_option maxHeartbeats 2000000 in
theorem reg1_in (n : Nat) (hn : 1 ≤ n) (l B : Nat) (f : Frt) (J Jx : List (Fin (regL f).length) → World → Prop) (hJd : ∀ pre x y, J pre x → Below x.heap.size x y → J pre y)
 (hY : ∀ pre x W, J pre W → pre.length < (regL f).length → YieldAt Fence.wide (n - 1) Tryz.prog l (regArgs f x) W fun e W' =>
  (e = .returned (.bool true) ∧ J (pre ++ [x]) W' ∧ KeepsAt [] W W') ∨ (e = .returned (.bool false) ∧ Jx (pre ++ [x]) W'))
 (W : World) (hB : W.heap[B]? = some (.cells f.cells 29 (0, 0))) (h0 : J [] W) :
 CallsIn Fence.wide n Tryz.prog 87 #[.func (.yield l) #[] #[], .pointer (some ⟨B, 0, none⟩)] W fun e W' => (∃ v, e = .returned v) ∧
  ((∃ ys, ys = List.finRange (regL f).length ∧ J ys W') ∨ (∃ pre, pre <+: List.finRange (regL f).length ∧ Jx pre W')) := by
 have HY := H7 hY
 have HJ := H7 hJd
 have HB := H7 hB
 have H0 := H7 h0
 clear hY hJd hB h0
 refine callsIn_of_wp Tryz.func87 rfl trivial ?_ rfl
 simp only [Tryz.ntmps87, List.size_toArray, List.length_cons, List.length_nil, Nat.reduceAdd, Nat.reduceSub, Array.replicate_succ, Array.replicate_zero, List.push_toArray, List.append_toArray, List.nil_append, List.cons_append]
 gi_wp2
 apply wpIn_scope
 gi_wp2
 apply wpIn_label
 repeat (first | (refine ldSites _ rfl rfl HB.out ?_; simp only [Act.put, List.setIfInBounds_toArray, List.set_cons_succ, List.set_cons_zero]) | gi_step)
 gi_wp2
 gi_loopw [7] (fun i wr => ∃ k : Nat, k ≤ 9 ∧ i = .int .i64 (k : Int) ∧ J (firsts (regL f).length (cntR f k)) wr) (fun i _ => 9 - (intOf i).toNat)
 case atStart => exact ⟨0, by omega, rfl, H0.out⟩
 case round =>
  obtain ⟨k, hk, rfl, hJs⟩ := hrel
  have HJS := H7 hJs
  clear hJs
  by_cases hlt : k < 9
  · have HLT := H7 hlt
    have q0 := (plgCells (p := f.site k) (newBlock wr (.cells (f.site k).cells 26) wr.heap.size rfl)).1
    have HJ4 := H7 (HJ.out _ _ _ HJS.out ((B7 _ _).alloc (Nat.le_refl _) (.cells (f.site k).cells 26)))
    have HP := H7 (newBlock wr (.cells (f.site k).cells 26) wr.heap.size rfl)
    clear HJS
    cases hi : (f.site k).inn with
    | false =>
     rw [hi] at q0
     have hc := H7 (cntR_no hi)
     clear hi
     repeat (first | (refine ixS _ _ rfl rfl rfl HLT.out ?_; simp only [Act.put, List.setIfInBounds_toArray, List.set_cons_succ, List.set_cons_zero]) | (refine nwP rfl ?_; simp only [Act.put, List.setIfInBounds_toArray, List.set_cons_succ, List.set_cons_zero]) | (refine stNewP _ _ rfl rfl rfl rfl rfl ?_; simp only [Act.put, List.setIfInBounds_toArray, List.set_cons_succ, List.set_cons_zero]) | go_values | gi_guarded | gi_step | gi_upon | gi_back | (simp only [Int.not_lt, Int.not_le] at *; go_simp) | (go_values <;> (try go_simp)) | (go_ite <;> go_prune <;> (try go_simp)) | (split <;> (first | (rename_i hx; exact (hx _ rfl).elim) | go_prune)) | gi_step)
     go_roundw
     case rel => exact ⟨k + 1, HLT.out, by simp, by rw [hc.out]; exact HJ4.out⟩
     case measure => exact frM HLT.out (by simp)
    | true =>
     rw [hi] at q0
     obtain ⟨fn, tmps, assign, body, hy, hR⟩ := HY.out _ (⟨cntR f k, cntR_lt HLT.out hi⟩ : Fin (regL f).length) _ HJ4.out (by rw [firsts_length (Nat.le_of_lt (cntR_lt HLT.out hi))]; exact cntR_lt HLT.out hi)
     have hs := firsts_succ (N := (regL f).length) (k := cntR f k) (cntR_lt HLT.out hi)
     rw [hs] at hR
     have hc := cntR_yes hi
     unfold regArgs at hy
     rw [regN_at HLT.out hi] at hy
     rw [← hc] at hR
     clear hs hc hi
     repeat (first | (refine ldP _ rfl rfl HP.out ?_; simp only [Act.put, List.setIfInBounds_toArray, List.set_cons_succ, List.set_cons_zero]) | (refine ixS _ _ rfl rfl rfl HLT.out ?_; simp only [Act.put, List.setIfInBounds_toArray, List.set_cons_succ, List.set_cons_zero]) | (refine nwP rfl ?_; simp only [Act.put, List.setIfInBounds_toArray, List.set_cons_succ, List.set_cons_zero]) | (refine stNewP _ _ rfl rfl rfl rfl rfl ?_; simp only [Act.put, List.setIfInBounds_toArray, List.set_cons_succ, List.set_cons_zero]) | go_values | gi_guarded | gi_step | gi_upon | gi_back | (simp only [Int.not_lt, Int.not_le] at *; go_simp) | (go_values <;> (try go_simp)))
     refine hR.mono ?_
     rintro e W3 (⟨rfl, hJ3, -⟩ | ⟨rfl, hJx3⟩)
     · have HJ3 := H7 hJ3
       clear hJ3 hR hy
       gi_wp2
       go_roundw
       case rel => exact ⟨k + 1, HLT.out, by simp, HJ3.out⟩
       case measure => exact frM HLT.out (by simp)
     · have HJ3 := H7 hJx3
       clear hJx3 hR hy
       gi_wp2; rw [Exit.noGoto_normal]
       go_end0
       exact ⟨⟨_, rfl⟩, .inr ⟨_, firsts_prefix _ _, HJ3.out⟩⟩
  · obtain rfl : k = 9 := by omega
    gi_wp2; rw [Exit.noGoto_normal]
    go_end0
    exact ⟨⟨_, rfl⟩, .inl ⟨_, firsts_all _, by have := HJS.out; rw [cntR_9] at this; exact this⟩⟩
theorem registered_any (f : Frt) (w : World) : Calls Tryz.prog 73 #[.agg f.cells] w fun e w' =>
 e = .returned (.func (.func 87) #[] #[.pointer (some ⟨w.heap.size, 0, none⟩)]) ∧ w.alloc (.cells f.cells 29) = w' := by
 have hmf : ∀ (fn : Fn) (first cap : Array Value) (w : World), (Instr.makeFunc fn first cap).run Tryz.prog w = .ok (.func fn first cap) w := fun _ _ _ _ => rfl
 go_enter Tryz.func73, Tryz.ntmps73
 go_wp2_with fail
 go_ret
 exact ⟨rfl, rfl⟩
theorem reg_iter (B : Nat) (f : Frt) (w : World) (hB : w.heap[B]? = some (.cells f.cells 29 (0, 0))) :
 Iter Tryz.prog 87 #[.pointer (some ⟨B, 0, none⟩)] (regL f).length (regArgs f) [] w := by
 intro n hn1 l J Jx W hW hJ _ hY h0
 exact reg1_in n hn1 l B f J Jx (fun pre x y h hb => hJ pre x y none h (below_grown hb) (by simp)) hY W ((hW.block B (b7t hB)).trans hB) h0
/- Layer 18: asked. -/
theorem range_iterF {P : Program} {n : Nat} {g : Operand} {ps : Array Tmp} {assign body : Code} {Q : Exit → Act → World → Prop} {a : Act} {w : World}
 {gf : Nat} {lb : Array Value} {N : Nat} {bs : List Nat} {encs : Fin N → Array Value} {w0 : World} (hit : Iter P gf lb N encs bs w0) (hn : 2 ≤ n)
 (hg : a.eval g = .func (.func gf) #[] lb) (eg : ∀ args w, (callFunc gf args).run P w = .ok (.enter gf args) w)
 (hn0 : ∀ b ∈ bs, b < w.heap.size) (hb0 : Below w0.heap.size w0 w) (hps : ∀ x, (encs x).size = ps.size) (pargs : Fin N → List (Tmp × Value)) (hpa : ∀ x, (ps.zip (encs x)).toList = pargs x)
 (I : List (Fin N) → World → Prop) (Ix : Code → List (Fin N) → World → Prop) (hI : OwnFrom w.heap.size I) (hIx : ∀ c, OwnFrom w.heap.size (Ix c)) (h0 : I [] w)
 (Ax : Fin N → Act → World → Prop) (hAx : ∀ x a', OwnFrom w.heap.size (fun (_ : Unit) W => Ax x a' W))
 (hassign : ∀ (l : Nat) (pre : List (Fin N)) (x : Fin N) (W : World) (K : Act → World → Prop), I pre W → (∀ a' W', KeepsFrom w.heap.size W W' → KeepsAt bs W W' → I pre W' → Ax x a' W' → K a' W') →
  assign.wpIn (Fence.wide.inRound l) (n - 1 - 1) P (Exit.then K (fun _ _ _ => False)) (loopAct a (pargs x)) W)
 (hbody : ∀ (l : Nat) (pre : List (Fin N)) (x : Fin N) (a' : Act) (W : World), I pre W → Ax x a' W → pre.length < N → body.wpIn (Fence.wide.inRound l) (n - 1 - 1) P (ownPostG w.heap.size (KeepsAt bs) I Ix (pre ++ [x]) W) a' W)
 (hdone : ∀ (D : Nat) (W : World), w.heap.size ≤ D → I (List.finRange N) W → W.heap[D]? = some (.deferred (some [])) → Q .normal { a with defers := { target := .collected D, args := #[] } :: a.defers } W)
 (hstop : ∀ (D : Nat) (c : Code) (pre : List (Fin N)) (W : World), w.heap.size ≤ D → pre <+: List.finRange N → Ix c pre W → W.heap[D]? = some (.deferred (some [])) → c.wpIn Fence.wide n P Q { a with defers := { target := .collected D, args := #[] } :: a.defers } W) :
 (Code.rangeFunc g ps assign body).wpIn Fence.wide n P Q a w :=
 wpIn_rangeFunc_ownH rfl (by omega) hg trivial eg (hit (n - 1) (by omega)) (fun h k => h.trans k) (keepsAt_b hn0) hb0 hps I Ix hI hIx h0 Ax hAx (fun l pre x W K hI hK => by
  have h := hassign l pre x W K hI hK
  unfold loopAct at h
  rw [← Array.foldl_toList, hpa x]
  exact h) (fun l pre x a' W _ _ h1 h2 h3 => hbody l pre x a' W h1 h2 h3) (fun D xs W h e => by subst e; exact hdone D W h) hstop
theorem keepsFrom_belowF {B : Nat} {x y : World} (h : Below x.heap.size x y) : KeepsFrom B x y := (show KeepsOthers x y from ⟨h.size, fun j o hj _ => (h.block j (b7t hj)).trans hj⟩).from B
/-- What is asked for. -/
def askF (f : Frt) : Nat → Int := fun s => if (f.site s).inn = true then (f.site s).seq else 0
def askTo (f : Frt) (pre : List (Fin (regL f).length)) : Nat → Int := fun s => if (pre.any fun x => regN f x == s) = true then (f.site s).seq else 0
theorem askTo_nil (f : Frt) : askTo f [] = fun _ => 0 := rfl
theorem askTo_snoc (f : Frt) (pre : List (Fin (regL f).length)) (x : Fin (regL f).length) : upd (askTo f pre) (regN f x) (f.site (regN f x)).seq = askTo f (pre ++ [x]) := by
 funext s
 unfold upd askTo
 rw [List.any_append]
 by_cases h : s = regN f x
 · subst h; simp
 · have : (regN f x == s) = false := by rw [beq_eq_false_iff_ne]; exact fun e => h e.symm
   rw [if_neg h]
   simp [this]
theorem askTo_all (f : Frt) : lit9 (askTo f (List.finRange (regL f).length)) = lit9 (askF f) := lit9_ext fun s hs => by
 unfold askTo askF
 by_cases h : (f.site s).inn = true
 · rw [if_pos h, if_pos]
   rw [List.any_eq_true]
   exact ⟨⟨cntR f s, cntR_lt hs h⟩, List.mem_finRange _, by rw [beq_iff_eq]; exact regN_at hs h⟩
 · rw [if_neg h, if_neg]
   rw [List.any_eq_true]
   rintro ⟨x, -, hx⟩
   rw [beq_iff_eq] at hx
   exact h (by rw [← hx]; exact regN_in f x)
set_option maxRecDepth 100000 in
set_option maxHeartbeats 2000000 in
theorem asked_any (f : Frt) (w : World) : Calls Tryz.prog 54 #[.agg f.cells] w (Gives (vecV (askF f)) w) := by
 refine (callsIn_wide (n := 10)).1 ?_
 refine callsIn_of_wp_marks Tryz.func54 rfl trivial ?_ rfl
 simp only [Tryz.ntmps54, List.size_toArray, List.length_cons, List.length_nil, Nat.reduceAdd, Nat.reduceSub, Array.replicate_succ, Array.replicate_zero, List.push_toArray, List.append_toArray, List.nil_append, List.cons_append]
 have HS := H7 (St.start w)
 repeat ((fail_if_success (with_reducible refine stop_atI (id := 2) ?_)); (first | go_values | gi_guarded | gi_step | gi_upon | gi_back | (simp only [Int.not_lt, Int.not_le] at *; go_simp) | (go_values <;> (try go_simp)) | (go_ite <;> go_prune <;> (try go_simp)) | (split <;> (first | (rename_i hx; exact (hx _ rfl).elim) | go_prune))))
 rw [show (#[.int .u64 0, .int .u64 0, .int .u64 0, .int .u64 0, .int .u64 0, .int .u64 0, .int .u64 0, .int .u64 0, .int .u64 0] : Array Value) = lit9 (fun _ => 0) from rfl]
 have hs_ := (((HS.out.alloc (.cells f.cells 29)).alloc (.cells (lit9 fun _ => 0) 24)).alloc (.cells (lit9 fun _ => 0) 24))
 obtain ⟨w1, hw_⟩ : ∃ w1 : World, (((w.alloc (.cells f.cells 29)).alloc (.cells (lit9 fun _ => 0) 24)).alloc (.cells (lit9 fun _ => 0) 24)) = w1 := ⟨_, rfl⟩
 rw [hw_] at hs_
 try simp only [World.size_alloc] at hs_
 have HS := H7 hs_
 rw [hw_]
 clear hw_ hs_
 repeat (first | (refine ldF _ rfl rfl (HS.out.blockAt 2 rfl) ?_; simp only [Act.put, List.setIfInBounds_toArray, List.set_cons_succ, List.set_cons_zero]) | gi_step)
 refine (callsIn_wide.2 (registered_any f _)).mono ?_
 rintro e w2 ⟨rfl, rfl⟩
 gi_wp2_with fail
 have hs_ := HS.out.alloc (.cells f.cells 29 (0, 0))
 have hz := HS.out.lt 0 rfl
 obtain ⟨g, hg⟩ : ∃ g, w1.heap.size = g := ⟨_, rfl⟩
 obtain ⟨w3, hw3⟩ : ∃ w3, w1.alloc (.cells f.cells 29) = w3 := ⟨_, rfl⟩
 have hz3 : w3.heap.size = g + 1 := by rw [← hw3, ← hg]; simp
 rw [hg] at hs_ hz ⊢
 rw [hw3] at hs_ ⊢
 have HS := H7 hs_
 have HZ := H7 (And.intro hz hz3)
 clear hs_ hw3 hg hz hz3
 refine range_iterF (gf := 87) (lb := #[.pointer (some ⟨g, 0, none⟩)]) (w0 := w3)
  (reg_iter g f _ (HS.out.blockAt 0 rfl)) (by omega) rfl (enters_of Tryz.func87 (by kernel_rfl) rfl) (by intro c hc; cases hc) (B7 _ _) (fun _ => rfl)
  (fun x => [(8, .int .i64 ((regN f x : Nat) : Int)), (9, .agg (f.site (regN f x)).cells)]) (fun _ => by simp [regArgs])
  (fun pre W => St w [.blk (w.heap.size + 1 + 1) (.cells (lit9 (askTo f pre)) 24 (0, 0)), .blk (w.heap.size + 1) (.cells (lit9 fun _ => 0) 24 (0, 0)), .blk w.heap.size (.cells f.cells 29 (0, 0))] W)
  (fun _ _ _ => False)
  (ownFrom_St _ (by have := HS.out.low.size; exact this) (by intro s b o h; simp only [List.mem_cons, It.blk.injEq, List.not_mem_nil, or_false] at h; rcases h with ⟨-, rfl⟩ | ⟨-, rfl⟩ | ⟨-, rfl⟩ <;> rfl))
  (fun c => ownFrom_pure _ _)
  (by rw [askTo_nil]; exact HS.out.tl)
  (fun x a' W => ∃ p : Nat, a' = ⟨#[.agg f.cells, .pointer (some ⟨w.heap.size, 0, none⟩), .pointer (some ⟨w.heap.size + 1, 0, none⟩), .pointer (some ⟨w.heap.size + 1 + 1, 0, none⟩), .int .i64 ((regN f x : Nat) : Int), .pointer (some ⟨p, 0, none⟩), .agg f.cells, .func (.func 87) #[] #[.pointer (some ⟨g, 0, none⟩)], .int .i64 ((regN f x : Nat) : Int), .agg (f.site (regN f x)).cells, undef, undef, undef, undef, undef], []⟩ ∧ W.cell? ⟨p, 2, none⟩ = some (.int .u64 (f.site (regN f x)).seq))
  ?hAx ?assign ?body ?done ?stop
 case hAx =>
  rintro x a' s X Y row ⟨p, e, q⟩ hg hr
  exact ⟨p, e, ownFrom_cell (β := Unit) _ _ () X Y row q hg hr⟩
 case assign =>
  rintro l pre x W K hI hK
  simp only [loopAct, List.foldl, List.cons_append, List.nil_append] at hK ⊢
  have HK := H7 hK
  have HI := H7 hI
  clear hK hI
  repeat ((fail_if_success (with_reducible refine stop_atI (id := 4) ?_)); (first | go_values | gi_guarded | gi_step | gi_upon | gi_back | (simp only [Int.not_lt, Int.not_le] at *; go_simp) | (go_values <;> (try go_simp)) | (go_ite <;> go_prune <;> (try go_simp)) | (split <;> (first | (rename_i hx; exact (hx _ rfl).elim) | go_prune))))
  repeat (first | (refine nwP rfl ?_; simp only [Act.put, List.setIfInBounds_toArray, List.set_cons_succ, List.set_cons_zero]) | (refine stNewP _ _ rfl rfl rfl rfl rfl ?_; simp only [Act.put, List.setIfInBounds_toArray, List.set_cons_succ, List.set_cons_zero]) | gi_step)
  gi_wp2_with fail
  have hb : Below W.heap.size W (W.alloc (.cells (f.site (regN f x)).cells 26)) := (B7 _ _).alloc (Nat.le_refl _) _
  exact HK.out _ _ (keepsFrom_belowF hb) (fun b h => by cases h) (HI.out.below hb) ⟨W.heap.size, rfl, (plgCells (newBlock W (.cells (f.site (regN f x)).cells 26) _ rfl)).2.2⟩
 case body =>
  rintro l pre x a' W hI ⟨p, rfl, q⟩ hlt
  have hv := hI.blockAt 0 rfl
  have c0 := c7b hv (lit9_get _ _ (regN_lt f x))
  have f0 := f7b hv (regN f x)
  have hlt9 := regN_lt f x
  have hI2 := hI.putAt (pre := []) (by intro i hi; cases hi) (regN f x) (.int .u64 (f.site (regN f x)).seq) (lit9_set _ _ _ (regN_lt f x))
  rw [askTo_snoc] at hI2
  have HI := H7 hI2
  clear hI hv hI2
  gi_wp2_with fail
  exact ⟨(KeepsOthers.setCell _ _ _).from _, (fun b h => by cases h), HI.out⟩
 case done =>
  rintro D W hD hI hK
  rw [askTo_all] at hI
  have HI := H7 hI
  have HK := H7 hK
  clear hI hK
  repeat ((fail_if_success (with_reducible refine stop_atI (id := 6) ?_)); (first | go_values | gi_guarded | gi_step | gi_upon | gi_back | (simp only [Int.not_lt, Int.not_le] at *; go_simp) | (go_values <;> (try go_simp)) | (go_ite <;> go_prune <;> (try go_simp)) | (split <;> (first | (rename_i hx; exact (hx _ rfl).elim) | go_prune))))
  repeat (first | (refine ldV _ rfl rfl (HI.out.blockAt 0 rfl) ?_; simp only [Act.put, List.setIfInBounds_toArray, List.set_cons_succ, List.set_cons_zero]) | (refine stV _ _ rfl rfl (HI.out.blockAt 1 rfl) rfl rfl ?_; simp only [Act.put, List.setIfInBounds_toArray, List.set_cons_succ, List.set_cons_zero]) | gi_step)
  have hI2 := HI.out.putRow (c' := lit9 (askF f)) (pre := [.blk (w.heap.size + 1 + 1) (.cells (lit9 (askF f)) 24 (0, 0))]) (by intro i hi; exact ⟨_, _, List.mem_singleton.1 hi⟩)
  have HK2 := H7 ((setRow_other W (w.heap.size + 1) D (lit9 (askF f)) (by have := HZ.out; omega)).trans HK.out)
  generalize W.setRow (w.heap.size + 1) (lit9 (askF f)) = W2 at hI2 HK2 ⊢
  gi_wp2_with fail
  refine ret_marked rfl HK2.out (v := vecV (askF f)) ?_ ⟨rfl, below_putObj hI2.low HK2.out (by have := HZ.out; omega) _⟩
  refine resVf rfl rfl (b := w.heap.size + 1) (t := 24) (fr := (0, 0)) ?_
  exact ((grownBy_putObj' W2 D (.deferred none)).block _ (hI2.lt 1 rfl) (by have := HZ.out; intro e; cases e; omega)).trans (hI2.blockAt 1 rfl)
 case stop =>
  rintro D c pre W hD _ hx hK
  exact hx.elim
end Go.Proofs.YteklfmacnnmomaaGreat
/- Layer 5: canvases with dots, plain. -/
namespace Go.Proofs.YteklfmacnnmomaaGreat
end Go.Proofs.YteklfmacnnmomaaGreat
/- Layer 4: a pixel of a tile is put; a tile with one place. -/
namespace Go.Proofs.YteklfmacnnmomaaGreat
open Go.RowKit Go.Shelf
attribute [local go_sem] Oper.semAt_some
/- Layer 5: what tiles come to: pointers; what pointers come to: tiles. -/
section
variable {α : Type} {w0 x y : World} {its : List It} {base : Nat} {e : TypeId} {k : Nat} {enc : α → List Value} {v : Value} {L : List α} {P : Program} {t : TypeId} {bytes : Nat}
/-- append(row, q); where the row lies then, and what has turned. -/
theorem wpList_app1l {ops : Array Oper} {rest : List Oper} {o : Oper} {a : Act} {Q : Exit → Act → World → Prop} (R : RowT P t e k bytes) (hk : ∀ q, (enc q).length = k) (h1 : ∀ q, ∀ u ∈ enc q, u.oneCell' = true)
 (HO : StO w0 its base e k enc v L x) (hb : Below x.heap.size x y) (q : α) (n : Nat) (hn : L.length = n) (hmax : n < 1000000000) (hby : bytes ≤ 1000)
 (s u : Operand) (hgd : o.guard = none) (ho : o.op = .call { callee := .builtin .append, args := #[s, u], argTypes := #[t, t] })
 (hs : a.eval s = v) (g : Nat) (hu : a.eval u = .slice (some ⟨g, 0, none⟩) 1 1) (hg : y.heap.size = g)
 (h : ∀ v' w', StO w0 its base e k enc v' (L ++ [q]) w' → (∃ ad cap, v' = .slice (some ad) (n + 1) cap) → y.grownBy w' v.ownBlock → (v'.ownBlock = v.ownBlock ∨ ∃ b, v'.ownBlock = some b ∧ y.heap.size < b) → wpList P ops Q rest (a.put o.dst v') w') :
 wpList P ops Q (o :: rest) a (y.alloc (.cells (enc q).toArray e (0, 0))) := by
 obtain ⟨i, z, hi, hz0, hz1, hz2, hz3⟩ := R.info
 subst hn
 subst hg
 have HY := HO.below hb
 have hbytes : (L.length + 1) * bytes ≤ 140737488355328 := Nat.le_trans (Nat.mul_le_mul (show L.length + 1 ≤ 1000000000 by omega) hby) (by omega)
 refine wpList_append_own_at _ hgd s u t ho base e i z k bytes R.un hi hz0 hz1 hz2 hz3 R.pos v L.length _ hs (HY.row.alloc _) ⟨y.heap.size, 0, none⟩ 1 1 (enc q) hu (by rw [hk, Nat.one_mul])
  (fun j x hx => cells_of_block (newBlock y (.cells (enc q).toArray e (0, 0)) _ rfl) j x (by simpa using hx)) (h1 q) (by unfold maxLen; omega) hbytes (by have := HY.hi; simp; omega) ?_
 intro v' w' hown hgrow _ hloc
 refine h v' w' ⟨(HY.st.below ((B7 _ _).alloc (Nat.le_refl _) _)).grown (fun j e => (HY.row.lt j e).1) HY.low HY.top hgrow, ?_, HY.low, HY.top, ?_⟩ ?_ (grownTrans (World.grownBy_alloc y _ _) hgrow) ?_
 · rw [List.length_append, List.flatMap_append]; simpa using hown
 · have := hgrow.size; have := HY.hi; simp at *; omega
 · rcases hown.2 with ⟨_, h0⟩ | ⟨g, cap, cur, rfl, _⟩
   · omega
   · exact ⟨_, cap, rfl⟩
 · rcases hloc with h | h
   · exact .inl h
   · exact .inr ⟨_, h, by simp⟩
/-- append(row, q) in a fence; where the row lies then. -/
theorem wpListIn_app1l {F : Fence} {N : Nat} {ops : Array Oper} {rest : List Oper} {o : Oper} {a : Act} {Q : Exit → Act → World → Prop} (R : RowT P t e k bytes) (hk : ∀ q, (enc q).length = k) (h1 : ∀ q, ∀ u ∈ enc q, u.oneCell' = true)
 (HO : StO w0 its base e k enc v L x) (hb : Below x.heap.size x y) (q : α) (n : Nat) (hn : L.length = n) (hmax : n < 1000000000) (hby : bytes ≤ 1000)
 (s u : Operand) (hgd : o.guard = none) (ho : o.op = .call { callee := .builtin .append, args := #[s, u], argTypes := #[t, t] })
 (hs : a.eval s = v) (g : Nat) (hu : a.eval u = .slice (some ⟨g, 0, none⟩) 1 1) (hg : y.heap.size = g)
 (h : ∀ v' w', StO w0 its base e k enc v' (L ++ [q]) w' → (∃ ad cap, v' = .slice (some ad) (n + 1) cap) → y.grownBy w' v.ownBlock → (v'.ownBlock = v.ownBlock ∨ ∃ b, v'.ownBlock = some b ∧ y.heap.size < b) → wpListIn F N P ops Q rest (a.put o.dst v') w') :
 wpListIn F N P ops Q (o :: rest) a (y.alloc (.cells (enc q).toArray e (0, 0))) := by
 obtain ⟨i, z, hi, hz0, hz1, hz2, hz3⟩ := R.info
 subst hn
 subst hg
 have HY := HO.below hb
 have hbytes : (L.length + 1) * bytes ≤ 140737488355328 := Nat.le_trans (Nat.mul_le_mul (show L.length + 1 ≤ 1000000000 by omega) hby) (by omega)
 refine wpListIn_append_own_at _ hgd s u t ho base e i z k bytes R.un hi hz0 hz1 hz2 hz3 R.pos v L.length _ hs (HY.row.alloc _) ⟨y.heap.size, 0, none⟩ 1 1 (enc q) hu (by rw [hk, Nat.one_mul])
  (fun j x hx => cells_of_block (newBlock y (.cells (enc q).toArray e (0, 0)) _ rfl) j x (by simpa using hx)) (h1 q) (by unfold maxLen; omega) hbytes (by have := HY.hi; simp; omega) ?_
 intro v' w' hown hgrow _ hloc
 refine h v' w' ⟨(HY.st.below ((B7 _ _).alloc (Nat.le_refl _) _)).grown (fun j e => (HY.row.lt j e).1) HY.low HY.top hgrow, ?_, HY.low, HY.top, ?_⟩ ?_ (grownTrans (World.grownBy_alloc y _ _) hgrow) ?_
 · rw [List.length_append, List.flatMap_append]; simpa using hown
 · have := hgrow.size; have := HY.hi; simp at *; omega
 · rcases hown.2 with ⟨_, h0⟩ | ⟨g, cap, cur, rfl, _⟩
   · omega
   · exact ⟨_, cap, rfl⟩
 · rcases hloc with h | h
   · exact .inl h
   · exact .inr ⟨_, h, by simp⟩
end
/-- Pointers to tiles. -/
structure TP (w : World) (qs : List Nat) (ts : List TileT) : Prop where
 len : qs.length = ts.length
 at_ : ∀ (i q : Nat) (t : TileT), qs[i]? = some q → ts[i]? = some t → w.heap[q]? = some (Obj.cells (encT t).toArray 209 (0, 0))
theorem TP.get {w : World} {qs : List Nat} {ts : List TileT} (h : TP w qs ts) {i q : Nat} (hq : qs[i]? = some q) : ∃ t, ts[i]? = some t ∧ w.heap[q]? = some (Obj.cells (encT t).toArray 209 (0, 0)) := by
 have hi := (List.getElem?_eq_some_iff.1 hq).1
 have : i < ts.length := by rw [← h.len]; exact hi
 exact ⟨_, List.getElem?_eq_getElem this, h.at_ i q _ hq (List.getElem?_eq_getElem this)⟩
theorem TP.nil (w : World) : TP w [] [] := ⟨rfl, fun i q t h => by simp at h⟩
theorem TP.kept {w w' : World} {qs : List Nat} {ts : List TileT} {row : Option Nat} (h : TP w qs ts) (hg : w.grownBy w' row) (hr : ∀ b, row = some b → ∃ cs f, w.heap[b]? = some (.cells cs 210 f)) : TP w' qs ts := by
 refine ⟨h.len, fun i q t hq ht => ?_⟩
 have h1 := h.at_ i q t hq ht
 refine (hg.block q (b7t h1) fun e => ?_).trans h1
 obtain ⟨cs, f, h2⟩ := hr q e.symm
 rw [h2] at h1
 simp at h1
theorem TP.below {w w' : World} {qs : List Nat} {ts : List TileT} (h : TP w qs ts) (hb : Below w.heap.size w w') : TP w' qs ts := h.kept (below_grown hb) (fun _ e => by cases e)
theorem ownsRow_typed {w : World} {base : Nat} {e : TypeId} {k n : Nat} {v : Value} {xs : List Value} (h : w.ownsRow base e k v n xs) : ∀ b, v.ownBlock = some b → ∃ cs f, w.heap[b]? = some (.cells cs e f) := by
 intro b hb
 rcases h.2 with ⟨rfl, _⟩ | ⟨g, cap, cur, rfl, _, hg, _⟩
 · simp [Value.ownBlock] at hb
 · simp only [Value.ownBlock, Option.some.injEq] at hb
   subst hb
   exact ⟨cur, _, hg⟩
end Go.Proofs.YteklfmacnnmomaaGreat
/- A row of the call's own that is held in a box: what rounds of an iterator do with it. -/
namespace Go.Proofs.YteklfmacnnmomaaGreat
open Go.RowKit Go.Shelf
section
variable {α : Type}
structure BoxS (w0 : World) (its : List It) (N B : Nat) (tS e : TypeId) (k : Nat) (enc : α → List Value) (v : Value) (L : List α) (x : World) : Prop where
 o : StO w0 its N e k enc v L x
 at_ : x.heap[B]? = some (.cells #[v] tS (0, 0))
 lo : ∀ i ∈ its, i.top ≤ B
 hb : w0.heap.size ≤ B ∧ B < N
variable {w0 x y z : World} {its : List It} {N B : Nat} {tS e : TypeId} {k : Nat} {enc : α → List Value} {v v' : Value} {L L' : List α}
theorem StO.otherT {base : Nat} {M : List α} (h : StO w0 its base e k enc v M x) {T : Nat} (hT : w0.heap.size ≤ T) (ht : ∀ i ∈ its, i.top ≤ T) (hn : v.ownBlock ≠ some T) (hg : x.grownBy y (some T)) : StO w0 its base e k enc v M y :=
 ⟨h.st.grown (base := T) (row := some T) (fun j e => by cases e; exact Nat.le_refl _) hT ht hg, h.row.kept hg (.inr hn), h.low, h.top, Nat.le_trans h.hi hg.size⟩
theorem BoxS.below (h : BoxS w0 its N B tS e k enc v L x) (hb : Below x.heap.size x y) : BoxS w0 its N B tS e k enc v L y :=
 ⟨h.o.below hb, (hb.block B (b7t h.at_)).trans h.at_, h.lo, h.hb⟩
theorem BoxS.nb (h : BoxS w0 its N B tS e k enc v L x) : v.ownBlock ≠ some B := fun e => by
 have := (h.o.row.lt B e).1
 have := h.hb.2
 omega
theorem BoxS.push (h : BoxS w0 its N B tS e k enc v L x) (hy : Below x.heap.size x y) (ho : StO w0 its N e k enc v' L' z) (hg : y.grownBy z v.ownBlock) : BoxS w0 its N B tS e k enc v' L' (z.setCell ⟨B, 0, none⟩ v') := by
 have h2 := h.below hy
 have hz := (hg.block B (b7t h2.at_) (fun e => h.nb e.symm)).trans h2.at_
 refine ⟨ho.otherT h.hb.1 h.lo (fun e => ?_) (g7c z B 0 v'), h7s hz v', h.lo, h.hb⟩
 have := (ho.row.lt B e).1
 have := h.hb.2
 omega
/-- Which block the box's row lies in. -/
def ownBox (B : Nat) (tS : TypeId) (W : World) (q : Nat) : Prop := ∃ v : Value, W.heap[B]? = some (.cells #[v] tS (0, 0)) ∧ v.ownBlock = some q
theorem BoxS.own (h : BoxS w0 its N B tS e k enc v L x) (q : Nat) : ownBox B tS x q ↔ v.ownBlock = some q := by
 constructor
 · rintro ⟨u, hu, hq⟩
   rw [h.at_] at hu
   simp only [Option.some.injEq, Obj.cells.injEq, Array.mk.injEq, List.cons.injEq, and_true] at hu
   rw [hu]; exact hq
 · intro hq; exact ⟨v, h.at_, hq⟩
theorem BoxS.wf (h : BoxS w0 its N B tS e k enc v L x) : ∀ q, ownBox B tS x q → q < x.heap.size := fun q hq => (h.o.row.lt q ((h.own q).1 hq)).2
theorem BoxS.keepsFrom {N0 : Nat} (h : BoxS w0 its N B tS e k enc v L x) (hy : Below x.heap.size x y) (hg : y.grownBy z v.ownBlock) : KeepsFrom N0 x (z.setCell ⟨B, 0, none⟩ v') := by
 refine ((KeepsFrom.of_grownBy (row := none) (below_grown hy) (fun _ e => by cases e)).trans ((KeepsOthers.of_grownBy hg fun j o hj ho => ?_).from N0)).trans ((KeepsOthers.setCell z _ _).from N0)
 obtain ⟨cs, f, hc⟩ := ownsRow_typed (ownsRow_below h.o.row hy) j hj
 rw [hc] at ho
 cases ho
 rfl
theorem ownFrom_StO {β : Type} {N0 : Nat} (v : β → Value) (L : β → List α) (hB : w0.heap.size ≤ N0) (hc : ∀ b o, .blk b o ∈ its → o.isCells = true) : OwnFrom N0 (fun s W => StO w0 its N e k enc (v s) (L s) W) := by
 intro s W W' row h hg hr
 refine ⟨ownFrom_St (fun _ : β => its) hB (fun _ => hc) s W W' row h.st hg hr, h.row.kept hg ?_, h.low, h.top, Nat.le_trans h.hi hg.size⟩
 cases hv : (v s).ownBlock with
 | none => exact .inl rfl
 | some b =>
  refine .inr fun e => ?_
  obtain ⟨o, ho, hoc⟩ := (hr b e.symm).2
  obtain ⟨cs, f, hc⟩ := ownsRow_typed h.row b hv
  rw [hc] at ho
  cases ho
  cases hoc
theorem ownFrom_BoxS {β : Type} {N0 : Nat} (L : β → List α) (hB : w0.heap.size ≤ N0) (hc : ∀ b o, .blk b o ∈ its → o.isCells = true) : OwnFrom N0 (fun s W => ∃ v, BoxS w0 its N B tS e k enc v (L s) W) := by
 rintro s W W' row ⟨v, h⟩ hg hr
 refine ⟨v, ownFrom_StO (fun _ : β => v) L hB hc s W W' row h.o hg hr, (grownBy_keeps_cells hg (fun r e => (hr r e).2) h.at_ rfl).trans h.at_, h.lo, h.hb⟩
end
/-- A block that lies there. -/
structure BlkA (b : Nat) (o : Obj) (w : World) : Prop where
 at_ : w.heap[b]? = some o
theorem BlkA.below {b : Nat} {o : Obj} {w w' : World} (h : BlkA b o w) (hb : Below w.heap.size w w') : BlkA b o w' := ⟨(hb.block b (b7t h.at_)).trans h.at_⟩
end Go.Proofs.YteklfmacnnmomaaGreat
