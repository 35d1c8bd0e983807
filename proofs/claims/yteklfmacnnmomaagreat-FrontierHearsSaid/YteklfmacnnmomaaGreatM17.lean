/- Merged texts: FrY FrYb FrWa RevR FrWb FrZ. -/
import Derived.Test.YteklfmacnnmomaaGreatM16
import Derived.Test.YteklfmacnnmomaaGreatM1
import Derived.Shelf.SlicesQ.Reverse
set_option linter.unusedSimpArgs false
set_option linter.unusedVariables false
/- Layer 18: the document's Register, greater, Hear. -/
namespace Go.Proofs.YteklfmacnnmomaaGreat
open Go.RowKit Go.Shelf
attribute [local go_sem] Oper.semAt_some
def regW (f : Frt) (n : Int) : Frt := f.put n.toNat (plIn (if 0 < f.prop then f.prop else f.folded))
theorem regW_eq {f : Frt} (h : f.okB = true) (n : Int) (h0 : 0 ≤ f.folded) (h1 : 0 ≤ f.prop) : regW f n = regF f n := by
 obtain ⟨-, -, hp, -⟩ := okB_parts h
 unfold regW regF
 congr 1
 by_cases e : f.prop = 0
 · rw [if_neg (by omega)]
   congr 1
   omega
 · have := prop_gt h e
   rw [if_pos (by omega)]
   congr 1
   omega
theorem siteOk_siteB (n : Int) : siteOk n = siteB n := by
 unfold siteOk siteB
 exact Bool.decide_and ..
/-- A site of a frontier in memory has another pledge. -/
theorem St.putSite {w0 x : World} {p : Nat} {f : Frt} {t : TypeId} {fr : Nat × Nat} {pre post : List It} {n : Nat} (h : St w0 (pre ++ .blk p (.cells f.cells t fr) :: post) x) (hpre : ∀ i ∈ pre, ∃ b ob, i = .blk b ob) (hn : n < 9) (q : Plg) :
 St w0 (pre ++ .blk p (.cells (f.put n q).cells t fr) :: post) (x.setCells p (11 + n * 12) q.l) := by
 have hp : x.heap[p]? = some (.cells f.cells t fr) := h.ok (.blk p (.cells f.cells t fr)) (List.mem_append.2 (.inr (by simp)))
 have T := turned_setCells (b := p) q.l (11 + n * 12) x
 exact St.set h hpre (frtPut_at hp hn q) (fun j hj => heap_putAt_other q.l _ hj) (T.below (Nat.le_of_lt (b7t hp)) (by rintro k rfl; exact Nat.le_refl _))
set_option maxRecDepth 100000 in
set_option maxHeartbeats 4000000 in
theorem r18Register_any (f : Frt) (n : Int) (w : World) : Calls Tryz.prog 12 #[.agg f.cells, .int .i64 n] w (Gives (.tuple #[.agg (if regE f n = 0 then regW f n else frZ).cells, .int .i64 (regE f n)]) w) := by
 have HS := H7 (St.start w)
 obtain ⟨RF, hRF⟩ : ∃ RF, (if regE f n = 0 then regW f n else frZ) = RF := ⟨_, rfl⟩
 obtain ⟨E, hRE⟩ : ∃ E, regE f n = E := ⟨_, rfl⟩
 rw [hRF, hRE]
 rw [hRE] at hRF
 have HR := H7 hRF
 have HE := H7 hRE
 clear hRF hRE
 go_enter Tryz.func12, Tryz.ntmps12
 repeat ((fail_if_success (with_reducible refine stop_at (id := 1) ?_)); (first | go_values | go_skip | go_guarded | go_step | go_upon | go_back | (simp only [Int.not_lt, Int.not_le] at *; go_simp) | (go_values <;> (try go_simp)) | (go_ite <;> go_prune <;> (try go_simp)) | (split <;> (first | (rename_i hx; exact (hx _ rfl).elim) | go_prune))))
 rw [zeroF]
 have hs_ := ((HS.out.alloc (.cells f.cells 29)).alloc (.cells frZ.cells 29))
 obtain ⟨w1, hw_⟩ : ∃ w1 : World, ((w.alloc (.cells f.cells 29)).alloc (.cells frZ.cells 29)) = w1 := ⟨_, rfl⟩
 rw [hw_] at hs_
 try simp only [World.size_alloc] at hs_
 have HS := H7 hs_
 rw [hw_]
 clear hw_ hs_
 go_wp2_with fail
 refine (refSite_any n _).mono ?_
 rintro e w2 ⟨rfl, rfl⟩
 rw [siteOk_siteB]
 cases hb : siteB n with
 | false =>
  have HE := H7 (show E = 2 from by rw [← HE.out]; unfold regE; rw [hb]; rfl)
  have HR := H7 (show RF = frZ from by rw [← HR.out, HE.out]; rfl)
  repeat ((fail_if_success (with_reducible refine stop_at (id := 2) ?_)); (first | go_values | go_skip | go_guarded | go_step | go_upon | go_back | (simp only [Int.not_lt, Int.not_le] at *; go_simp) | (go_values <;> (try go_simp)) | (go_ite <;> go_prune <;> (try go_simp)) | (split <;> (first | (rename_i hx; exact (hx _ rfl).elim) | go_prune))))
  refine (wpIn_wide (n := 0)).1 ?_
  repeat (first | (refine bdF _ rfl rfl ?_; simp only [Act.put, List.setIfInBounds_toArray, List.set_cons_succ, List.set_cons_zero]) | (refine stF _ _ rfl rfl (HS.out.blockAt 0 rfl) rfl rfl ?_; simp only [Act.put, List.setIfInBounds_toArray, List.set_cons_succ, List.set_cons_zero]) | gi_step)
  gi_wp2_with fail
  have hs := HS.out.putRow (c' := frZ.cells) (pre := []) (by intro i hi; cases hi)
  simp only [List.nil_append] at hs
  rw [HE.out, HR.out]
  go_wp2_with fail
  refine bodyPost_ret (resFt rfl rfl rfl (hs.blockAt 0 rfl)) rfl ⟨rfl, hs.low⟩
 | true =>
  obtain ⟨k, rfl, hk1, hk9⟩ := siteB_nat hb
  have HK := H7 hk9
  repeat ((fail_if_success (with_reducible refine stop_at (id := 3) ?_)); (first | go_values | go_skip | go_guarded | go_step | go_upon | go_back | (simp only [Int.not_lt, Int.not_le] at *; go_simp) | (go_values <;> (try go_simp)) | (go_ite <;> go_prune <;> (try go_simp)) | (split <;> (first | (rename_i hx; exact (hx _ rfl).elim) | go_prune))))
  cases hi : (f.site k).inn with
  | true =>
   have c0 := Frt.cell0 (HS.out.blockAt 1 rfl) hk9 (show (f.site k).l[0]? = some (.bool true) from by rw [← hi]; rfl)
   have HE := H7 (show E = 5 from by rw [← HE.out]; unfold regE; rw [hb, Int.toNat_natCast, hi]; rfl)
   have HR := H7 (show RF = frZ from by rw [← HR.out, HE.out]; rfl)
   repeat ((fail_if_success (with_reducible refine stop_at (id := 4) ?_)); (first | go_values | go_skip | go_guarded | go_step | go_upon | go_back | (simp only [Int.not_lt, Int.not_le] at *; go_simp) | (go_values <;> (try go_simp)) | (go_ite <;> go_prune <;> (try go_simp)) | (split <;> (first | (rename_i hx; exact (hx _ rfl).elim) | go_prune))))
   refine (wpIn_wide (n := 0)).1 ?_
   repeat (first | (refine bdF _ rfl rfl ?_; simp only [Act.put, List.setIfInBounds_toArray, List.set_cons_succ, List.set_cons_zero]) | (refine stF _ _ rfl rfl (HS.out.blockAt 0 rfl) rfl rfl ?_; simp only [Act.put, List.setIfInBounds_toArray, List.set_cons_succ, List.set_cons_zero]) | gi_step)
   gi_wp2_with fail
   have hs := HS.out.putRow (c' := frZ.cells) (pre := []) (by intro i hi; cases hi)
   simp only [List.nil_append] at hs
   rw [HE.out, HR.out]
   go_wp2_with fail
   refine bodyPost_ret (resFt rfl rfl rfl (hs.blockAt 0 rfl)) rfl ⟨rfl, hs.low⟩
  | false =>
   have c0 := Frt.cell0 (HS.out.blockAt 1 rfl) hk9 (show (f.site k).l[0]? = some (.bool false) from by rw [← hi]; rfl)
   have HE := H7 (show E = 0 from by rw [← HE.out]; unfold regE; rw [hb, Int.toNat_natCast, hi]; rfl)
   have HR := H7 (show RF = regW f k from by rw [← HR.out, HE.out]; rfl)
   repeat ((fail_if_success (with_reducible refine stop_at (id := 5) ?_)); (first | go_values | go_skip | go_guarded | go_step | go_upon | go_back | (simp only [Int.not_lt, Int.not_le] at *; go_simp) | (go_values <;> (try go_simp)) | (go_ite <;> go_prune <;> (try go_simp)) | (split <;> (first | (rename_i hx; exact (hx _ rfl).elim) | go_prune))))
   have c1 := Frt.foldedC (HS.out.blockAt 1 rfl)
   refine (wpIn_wide (n := 0)).1 ?_
   repeat (first | (refine bdI _ rfl rfl ?_; simp only [Act.put, List.setIfInBounds_toArray, List.set_cons_succ, List.set_cons_zero]) | (refine stSite _ _ rfl rfl (HS.out.blockAt 1 rfl) hk9 rfl ?_; simp only [Act.put, List.setIfInBounds_toArray, List.set_cons_succ, List.set_cons_zero]) | gi_step)
   gi_wp2_with fail
   clear c0 c1
   have hs := HS.out.putSite (pre := [.blk _ _]) (by intro i hi; exact ⟨_, _, List.mem_singleton.1 hi⟩) hk9 (plIn f.folded)
   simp only [List.cons_append, List.nil_append] at hs
   have HS := H7 hs
   clear hs
   generalize w1.setCells w.heap.size (11 + k * 12) (plIn f.folded).l = w2 at HS ⊢
   have c2 : w2.cell? ⟨w.heap.size, 10, none⟩ = some (.int .u64 f.prop) := Frt.propC (f := f.put k (plIn f.folded)) (HS.out.blockAt 1 rfl)
   by_cases hp : 0 < f.prop
   case' pos =>
    have ep : decide (f.prop > 0) = true := decide_eq_true hp
    have HR := H7 (show RF = f.put k (plIn f.prop) from by rw [HR.out]; unfold regW; rw [if_pos hp, Int.toNat_natCast])
    clear hp
    have c3 := putCell hk9 (plIn f.folded) (HS.out.blockAt 1 rfl) (r := 1) rfl
    have f3 := f7b (HS.out.blockAt 1 rfl) (11 + k * 12 + 1)
    repeat ((fail_if_success (with_reducible refine stop_at (id := 8) ?_)); (first | go_values | go_skip | go_guarded | go_step | go_upon | go_back | (simp only [Int.not_lt, Int.not_le] at *; go_simp) | (go_values <;> (try go_simp)) | (go_ite <;> go_prune <;> (try go_simp)) | (split <;> (first | (rename_i hx; exact (hx _ rfl).elim) | go_prune))))
    have hs := HS.out.putAt (pre := [.blk _ _]) (by intro i hi; exact ⟨_, _, List.mem_singleton.1 hi⟩) (11 + k * 12 + 1) (.int .u64 f.prop) (frt_floor2 hk9 _ _)
    simp only [List.cons_append, List.nil_append] at hs
    have HS := H7 (show St w [.blk (w.heap.size + 1) (.cells frZ.cells 29 (0, 0)), .blk w.heap.size (.cells RF.cells 29 (0, 0))] _ from by rw [HR.out]; exact hs)
    clear hs c2 c3 f3
   case' neg =>
    have ep : decide (f.prop > 0) = false := decide_eq_false hp
    have HR := H7 (show RF = f.put k (plIn f.folded) from by rw [HR.out]; unfold regW; rw [if_neg hp, Int.toNat_natCast])
    clear hp
    repeat ((fail_if_success (with_reducible refine stop_at (id := 8) ?_)); (first | go_values | go_skip | go_guarded | go_step | go_upon | go_back | (simp only [Int.not_lt, Int.not_le] at *; go_simp) | (go_values <;> (try go_simp)) | (go_ite <;> go_prune <;> (try go_simp)) | (split <;> (first | (rename_i hx; exact (hx _ rfl).elim) | go_prune))))
    have HS := H7 (show St w [.blk (w.heap.size + 1) (.cells frZ.cells 29 (0, 0)), .blk w.heap.size (.cells RF.cells 29 (0, 0))] _ from by rw [HR.out]; exact HS.out)
    clear c2
   all_goals
    refine (wpIn_wide (n := 0)).1 ?_
    repeat (first | (refine ldF _ rfl rfl (HS.out.blockAt 1 rfl) ?_; simp only [Act.put, List.setIfInBounds_toArray, List.set_cons_succ, List.set_cons_zero]) | (refine stF _ _ rfl rfl (HS.out.blockAt 0 rfl) rfl rfl ?_; simp only [Act.put, List.setIfInBounds_toArray, List.set_cons_succ, List.set_cons_zero]) | gi_step)
    gi_wp2_with fail
    have hs := HS.out.putRow (c' := RF.cells) (pre := []) (by intro i hi; cases hi)
    simp only [List.nil_append] at hs
    rw [HE.out]
    go_wp2_with fail
    refine bodyPost_ret (resFt rfl rfl rfl (hs.blockAt 0 rfl)) rfl ⟨rfl, hs.low⟩
/-- Of each site the greater number, of the first k. -/
def grN (a b : Nat → Int) (k : Nat) : Nat → Int := fun s => if s < k then max (a s) (b s) else a s
theorem grN_succ (a b : Nat → Int) (k : Nat) : upd (grN a b k) k (max (a k) (b k)) = grN a b (k + 1) := by
 funext s
 unfold upd grN
 by_cases h : s = k
 · subst h; simp
 · rw [if_neg h]
   by_cases h2 : s < k
   · rw [if_pos h2, if_pos (by omega)]
   · rw [if_neg h2, if_neg (by omega)]
theorem grN_same {a b : Nat → Int} {k : Nat} (h : b k ≤ a k) : grN a b (k + 1) = grN a b k := by
 funext s
 unfold grN
 by_cases h1 : s < k
 · rw [if_pos h1, if_pos (by omega)]
 · by_cases h2 : s = k
   · subst h2; rw [if_pos (by omega), if_neg h1]; omega
   · rw [if_neg h1, if_neg (by omega)]
theorem grN_at (a b : Nat → Int) (k : Nat) : grN a b k k = a k := by unfold grN; rw [if_neg (by omega)]
theorem grN_all (a b : Nat → Int) : lit9 (grN a b 9) = lit9 (fun s => max (a s) (b s)) := lit9_ext fun s hs => by unfold grN; rw [if_pos hs]
set_option maxRecDepth 100000 in
set_option maxHeartbeats 2000000 in
theorem r18Greater_any (a b : Nat → Int) (w : World) : Calls Tryz.prog 46 #[vecV a, vecV b] w (Gives (vecV (fun s => max (a s) (b s))) w) := by
 have HS := H7 (St.start w)
 go_enter Tryz.func46, Tryz.ntmps46
 simp only [vecV]
 repeat ((fail_if_success (with_reducible refine stop_at (id := 1) ?_)); (first | go_values | go_skip | go_guarded | go_step | go_upon | go_back | (simp only [Int.not_lt, Int.not_le] at *; go_simp) | (go_values <;> (try go_simp)) | (go_ite <;> go_prune <;> (try go_simp)) | (split <;> (first | (rename_i hx; exact (hx _ rfl).elim) | go_prune))))
 rw [show (#[.int .u64 0, .int .u64 0, .int .u64 0, .int .u64 0, .int .u64 0, .int .u64 0, .int .u64 0, .int .u64 0, .int .u64 0] : Array Value) = lit9 (fun _ => 0) from rfl]
 have hs_ := (((HS.out.alloc (.cells (lit9 a) 24)).alloc (.cells (lit9 b) 24)).alloc (.cells (lit9 fun _ => 0) 24))
 obtain ⟨w1, hw_⟩ : ∃ w1 : World, (((w.alloc (.cells (lit9 a) 24)).alloc (.cells (lit9 b) 24)).alloc (.cells (lit9 fun _ => 0) 24)) = w1 := ⟨_, rfl⟩
 rw [hw_] at hs_
 try simp only [World.size_alloc] at hs_
 have HS := H7 hs_
 rw [hw_]
 clear hw_ hs_
 refine (wpIn_wide (n := 0)).1 ?_
 repeat (first | (refine ldV _ rfl rfl (HS.out.blockAt 1 rfl) ?_; simp only [Act.put, List.setIfInBounds_toArray, List.set_cons_succ, List.set_cons_zero]) | gi_step)
 gi_wp2_with fail
 go_wp2_with fail
 go_loopw [8] (fun i wr => ∃ k : Nat, k ≤ 9 ∧ i = .int .i64 (k : Int) ∧ St w [.blk (w.heap.size + 1 + 1) (.cells (lit9 fun _ => 0) 24 (0, 0)), .blk (w.heap.size + 1) (.cells (lit9 b) 24 (0, 0)), .blk w.heap.size (.cells (lit9 (grN a b k)) 24 (0, 0))] wr) (fun i _ => 9 - (intOf i).toNat)
 case atStart => exact ⟨0, by omega, rfl, HS.out⟩
 case round =>
  obtain ⟨k, hk, rfl, hs⟩ := hrel
  clear HS
  have HS := H7 hs
  clear hs
  by_cases hlt : k < 9
  · have HLT := H7 hlt
    have hv := HS.out.blockAt 2 rfl
    have c0 := c7b hv (lit9_get _ _ HLT.out)
    rw [grN_at] at c0
    have f0 := f7b hv k
    have hix := run_index9 b k HLT.out
    clear hv
    by_cases hgt : b k > a k
    · have eg : decide (b k > a k) = true := decide_eq_true hgt
      have HM := H7 (show max (a k) (b k) = b k from by omega)
      clear hgt
      have hs := HS.out.putAt (pre := [.blk _ _, .blk _ _]) (by intro i hi; simp only [List.mem_cons, List.not_mem_nil, or_false] at hi; rcases hi with rfl | rfl <;> exact ⟨_, _, rfl⟩) k (.int .u64 (b k)) (lit9_set _ _ _ HLT.out)
      rw [← HM.out, grN_succ, HM.out] at hs
      simp only [List.cons_append, List.nil_append] at hs
      have HS2 := H7 hs
      clear hs
      go_wp2_with fail
      go_roundw
      case rel => exact ⟨k + 1, hlt, by simp, HS2.out⟩
      case measure => exact frM hlt (by simp)
    · have eg : decide (b k > a k) = false := decide_eq_false hgt
      rw [← grN_same (show b k ≤ a k from by omega)] at HS
      clear hgt
      go_wp2_with fail
      go_roundw
      case rel => exact ⟨k + 1, hlt, by simp, HS.out⟩
      case measure => exact frM hlt (by simp)
  · obtain rfl : k = 9 := by omega
    rw [grN_all] at HS
    repeat ((fail_if_success (with_reducible refine stop_at (id := 7) ?_)); (first | go_values | go_skip | go_guarded | go_step | go_upon | go_back | (simp only [Int.not_lt, Int.not_le] at *; go_simp) | (go_values <;> (try go_simp)) | (go_ite <;> go_prune <;> (try go_simp)) | (split <;> (first | (rename_i hx; exact (hx _ rfl).elim) | go_prune))))
    refine (wpIn_wide (n := 0)).1 ?_
    repeat (first | (refine ldV _ rfl rfl (HS.out.blockAt 2 rfl) ?_; simp only [Act.put, List.setIfInBounds_toArray, List.set_cons_succ, List.set_cons_zero]) | (refine stV _ _ rfl rfl (HS.out.blockAt 0 rfl) rfl rfl ?_; simp only [Act.put, List.setIfInBounds_toArray, List.set_cons_succ, List.set_cons_zero]) | gi_step)
    gi_wp2_with fail
    have hs := HS.out.putRow (c' := lit9 (fun s => max (a s) (b s))) (pre := []) (by intro i hi; cases hi)
    simp only [List.nil_append] at hs
    go_wp2_with fail
    refine bodyPost_ret (resVf rfl rfl (hs.blockAt 0 rfl)) rfl ⟨rfl, hs.low⟩
/- Layer 18: the document's Hear. -/
theorem stPHas {F : Fence} {n : Nat} {w : World} {o : Oper} {a : Act} {K : Act → World → Prop} {Q : Exit → Act → World → Prop} (x y : Operand) (ho : o.op = .store 24 x y) {b : Nat} (hx : a.eval x = .pointer (some ⟨b, 3, none⟩)) {t : TypeId} {p : Plg} {v : Nat → Int} (hg : w.heap[b]? = some (.cells p.cells t (0, 0))) (hy : a.eval y = .agg (lit9 v)) (hK : K (a.put o.dst undef) (w.setCells b 3 (lit9 v).toList)) : o.wpIn F n Tryz.prog a w K Q :=
 opIn_store_mid 24 x y ho b 3 (lit9 v) hx hy (there_of_block hg (by rw [lit9_size, p.size]; omega)) (size_V v) (lit9_one v) hK
theorem plg_has (p : Plg) (v : Nat → Int) : putAt p.cells 3 (lit9 v).toList = ({ p with has := v } : Plg).cells := by
 obtain ⟨a, b, c, d⟩ := p
 simp only [Plg.cells, Plg.l, lit9, putAt, List.setIfInBounds_toArray, List.set_cons_succ, List.set_cons_zero]
theorem St.putHas {w0 x : World} {b : Nat} {p : Plg} {t : TypeId} {fr : Nat × Nat} {pre post : List It} (h : St w0 (pre ++ .blk b (.cells p.cells t fr) :: post) x) (hpre : ∀ i ∈ pre, ∃ b ob, i = .blk b ob) (v : Nat → Int) :
 St w0 (pre ++ .blk b (.cells ({ p with has := v } : Plg).cells t fr) :: post) (x.setCells b 3 (lit9 v).toList) := by
 have hp : x.heap[b]? = some (.cells p.cells t fr) := h.ok (.blk b (.cells p.cells t fr)) (List.mem_append.2 (.inr (by simp)))
 have T := turned_setCells (b := b) (lit9 v).toList 3 x
 exact St.set h hpre ((heap_putAt _ _ hp).trans (by rw [plg_has])) (fun j hj => heap_putAt_other _ _ hj) (T.below (Nat.le_of_lt (b7t hp)) (by rintro k rfl; exact Nat.le_refl _))
theorem St.setG {w0 x y : World} {pre post : List It} {p : Nat} {o o' : Obj} (h : St w0 (pre ++ .blk p o :: post) x) (hpre : ∀ i ∈ pre, ∃ b ob, i = .blk b ob) (hp : y.heap[p]? = some o') (hne : ∀ k ob, k ≠ p → x.heap[k]? = some ob → y.heap[k]? = some ob) (hl : Below p x y) :
 St w0 (pre ++ .blk p o' :: post) y := by
 obtain ⟨h1, h2, h3⟩ := St.ord_low h.ord
 refine ⟨h.low.trans (hl.mono h1), fun i hi => ?_, St.ord_set h.ord, fun i hi => ?_⟩
 · rcases List.mem_append.1 hi with hi | hi
   · obtain ⟨b, ob, rfl⟩ := hpre i hi
     have := h3 b ob hi
     exact hne b ob (by omega) (h.ok _ (List.mem_append.2 (.inl hi)))
   · rcases List.mem_cons.1 hi with rfl | hi
     · exact hp
     · have ht := h2 i hi
       have hok := h.ok i (List.mem_append.2 (.inr (by simp [hi])))
       cases i with
       | blk b ob => exact hne b ob (by simp [It.top] at ht; omega) hok
       | row v n size c hi' =>
        refine ⟨?_, hok.2⟩
        rcases hok.1 with e | ⟨b, off, cap, rfl, hlt, hc⟩
        · exact .inl e
        · by_cases hn : n = 0
          · subst hn
            exact .inr ⟨b, off, cap, rfl, Nat.lt_of_lt_of_le hlt hl.size, fun j hj => by omega⟩
          · have hb := (hok.2 _ _ _ rfl).resolve_left hn
            simp [It.top] at ht
            exact .inr ⟨b, off, cap, rfl, Nat.lt_of_lt_of_le hlt hl.size, fun j hj => (hl.cell (p := ⟨b, off + j, none⟩) (show b < p by simp at hb; omega)).trans (hc j hj)⟩
 · have : i.top ≤ x.heap.size := by
    rcases List.mem_append.1 hi with hi | hi
    · exact h.top i (List.mem_append.2 (.inl hi))
    · rcases List.mem_cons.1 hi with rfl | hi
      · exact h.top (.blk p o) (by simp)
      · exact h.top i (List.mem_append.2 (.inr (by simp [hi])))
   exact Nat.le_trans this hl.size
/-- The newest block has been turned. -/
theorem St.setT {w0 x y : World} {b : Nat} {o o' : Obj} {post : List It} (h : St w0 (.blk b o :: post) x) (T : Turned (fun j => j = b) x y) (hb : y.heap[b]? = some o') : St w0 (.blk b o' :: post) y := by
 have hp : x.heap[b]? = some o := h.ok (.blk b o) (by simp)
 exact St.setG (pre := []) h (by intro i hi; cases hi) hb (fun k ob hk hx => (T.block k (b7t hx) hk).trans hx) (T.below (Nat.le_of_lt (b7t hp)) (by rintro k rfl; exact Nat.le_refl _))
theorem plg_floor (p : Plg) (x : Int) : p.cells.setIfInBounds 1 (.int .u64 x) = ({ p with floor := x } : Plg).cells := rfl
theorem plg_seq (p : Plg) (x : Int) : p.cells.setIfInBounds 2 (.int .u64 x) = ({ p with seq := x } : Plg).cells := rfl
set_option maxRecDepth 100000 in
set_option maxHeartbeats 4000000 in
theorem r18Hear_any (f : Frt) (n : Int) (p : Plg) (w : World) : Calls Tryz.prog 13 #[.agg f.cells, .int .i64 n, .agg p.cells] w (Gives (.tuple #[.agg (if hearE f n p = 0 then hearF f n p else frZ).cells, .int .i64 (hearE f n p)]) w) := by
 have HS := H7 (St.start w)
 obtain ⟨RF, hRF⟩ : ∃ RF, (if hearE f n p = 0 then hearF f n p else frZ) = RF := ⟨_, rfl⟩
 obtain ⟨E, hRE⟩ : ∃ E, hearE f n p = E := ⟨_, rfl⟩
 rw [hRF, hRE]
 rw [hRE] at hRF
 have HR := H7 hRF
 have HE := H7 hRE
 clear hRF hRE
 go_enter Tryz.func13, Tryz.ntmps13
 repeat ((fail_if_success (with_reducible refine stop_at (id := 1) ?_)); (first | go_values | go_skip | go_guarded | go_step | go_upon | go_back | (simp only [Int.not_lt, Int.not_le] at *; go_simp) | (go_values <;> (try go_simp)) | (go_ite <;> go_prune <;> (try go_simp)) | (split <;> (first | (rename_i hx; exact (hx _ rfl).elim) | go_prune))))
 rw [zeroF]
 have hs_ := (((HS.out.alloc (.cells f.cells 29)).alloc (.cells p.cells 26)).alloc (.cells frZ.cells 29))
 obtain ⟨w1, hw_⟩ : ∃ w1 : World, (((w.alloc (.cells f.cells 29)).alloc (.cells p.cells 26)).alloc (.cells frZ.cells 29)) = w1 := ⟨_, rfl⟩
 rw [hw_] at hs_
 try simp only [World.size_alloc] at hs_
 have HS := H7 hs_
 rw [hw_]
 clear hw_ hs_
 refine (wpIn_wide (n := 0)).1 ?_
 repeat gi_step
 refine (callsIn_wide.2 (refSite_any n _)).mono ?_
 rintro e w2 ⟨rfl, rfl⟩
 rw [siteOk_siteB]
 cases hb : siteB n with
 | false =>
  have HE := H7 (show E = 2 from by rw [← HE.out]; unfold hearE; rw [hb]; rfl)
  have HR := H7 (show RF = frZ from by rw [← HR.out, HE.out]; rfl)
  gi_wp2_with (exfalso; exact undefB (by assumption))
  repeat ((fail_if_success (with_reducible refine stop_at (id := 2) ?_)); (first | go_values | go_skip | go_guarded | go_step | go_upon | go_back | (simp only [Int.not_lt, Int.not_le] at *; go_simp) | (go_values <;> (try go_simp)) | (go_ite <;> go_prune <;> (try go_simp)) | (split <;> (first | (rename_i hx; exact (hx _ rfl).elim) | go_prune))))
  refine (wpIn_wide (n := 0)).1 ?_
  repeat (first | (refine bdF _ rfl rfl ?_; simp only [Act.put, List.setIfInBounds_toArray, List.set_cons_succ, List.set_cons_zero]) | (refine stF _ _ rfl rfl (HS.out.blockAt 0 rfl) rfl rfl ?_; simp only [Act.put, List.setIfInBounds_toArray, List.set_cons_succ, List.set_cons_zero]) | gi_step)
  gi_wp2_with fail
  have hs := HS.out.putRow (c' := frZ.cells) (pre := []) (by intro i hi; cases hi)
  simp only [List.nil_append] at hs
  rw [HE.out, HR.out]
  go_wp2_with fail
  refine bodyPost_ret (resFt rfl rfl rfl (hs.blockAt 0 rfl)) rfl ⟨rfl, hs.low⟩
 | true =>
  obtain ⟨k, rfl, hk1, hk9⟩ := siteB_nat hb
  have HK := H7 hk9
  simp only []; go_at_K
  repeat (first | (refine ldP _ rfl rfl (HS.out.blockAt 1 rfl) ?_; simp only [Act.put, List.setIfInBounds_toArray, List.set_cons_succ, List.set_cons_zero]) | gi_step)
  refine (callsIn_wide.2 (r18Pledge_any p _)).mono ?_
  rintro e w2 ⟨rfl, hb_⟩
  have HS := H7 (HS.out.below hb_)
  clear hb_
  cases hpo : pledgeOk p with
  | false =>
   have HE := H7 (show E = 2 from by rw [← HE.out]; unfold hearE; rw [hb, hpo]; rfl)
   have HR := H7 (show RF = frZ from by rw [← HR.out, HE.out]; rfl)
   gi_wp2_with (exfalso; exact undefB (by assumption))
   repeat ((fail_if_success (with_reducible refine stop_at (id := 2) ?_)); (first | go_values | go_skip | go_guarded | go_step | go_upon | go_back | (simp only [Int.not_lt, Int.not_le] at *; go_simp) | (go_values <;> (try go_simp)) | (go_ite <;> go_prune <;> (try go_simp)) | (split <;> (first | (rename_i hx; exact (hx _ rfl).elim) | go_prune))))
   refine (wpIn_wide (n := 0)).1 ?_
   repeat (first | (refine bdF _ rfl rfl ?_; simp only [Act.put, List.setIfInBounds_toArray, List.set_cons_succ, List.set_cons_zero]) | (refine stF _ _ rfl rfl (HS.out.blockAt 0 rfl) rfl rfl ?_; simp only [Act.put, List.setIfInBounds_toArray, List.set_cons_succ, List.set_cons_zero]) | gi_step)
   gi_wp2_with fail
   have hs := HS.out.putRow (c' := frZ.cells) (pre := []) (by intro i hi; cases hi)
   simp only [List.nil_append] at hs
   rw [HE.out, HR.out]
   go_wp2_with fail
   refine bodyPost_ret (resFt rfl rfl rfl (hs.blockAt 0 rfl)) rfl ⟨rfl, hs.low⟩
  | true =>
   gi_wp2_with (exfalso; exact undefB (by assumption))
   repeat ((fail_if_success (with_reducible refine stop_at (id := 3) ?_)); (first | go_values | go_skip | go_guarded | go_step | go_upon | go_back | (simp only [Int.not_lt, Int.not_le] at *; go_simp) | (go_values <;> (try go_simp)) | (go_ite <;> go_prune <;> (try go_simp)) | (split <;> (first | (rename_i hx; exact (hx _ rfl).elim) | go_prune))))
   cases hi : (f.site k).inn with
   | false =>
    have c0 := Frt.cell0 (HS.out.blockAt 2 rfl) hk9 (show (f.site k).l[0]? = some (.bool false) from by rw [← hi]; rfl)
    have HE := H7 (show E = 4 from by rw [← HE.out]; unfold hearE; rw [hb, hpo, Int.toNat_natCast, hi]; rfl)
    have HR := H7 (show RF = frZ from by rw [← HR.out, HE.out]; rfl)
    repeat ((fail_if_success (with_reducible refine stop_at (id := 4) ?_)); (first | go_values | go_skip | go_guarded | go_step | go_upon | go_back | (simp only [Int.not_lt, Int.not_le] at *; go_simp) | (go_values <;> (try go_simp)) | (go_ite <;> go_prune <;> (try go_simp)) | (split <;> (first | (rename_i hx; exact (hx _ rfl).elim) | go_prune))))
    refine (wpIn_wide (n := 0)).1 ?_
    repeat (first | (refine bdF _ rfl rfl ?_; simp only [Act.put, List.setIfInBounds_toArray, List.set_cons_succ, List.set_cons_zero]) | (refine stF _ _ rfl rfl (HS.out.blockAt 0 rfl) rfl rfl ?_; simp only [Act.put, List.setIfInBounds_toArray, List.set_cons_succ, List.set_cons_zero]) | gi_step)
    gi_wp2_with fail
    have hs := HS.out.putRow (c' := frZ.cells) (pre := []) (by intro i hi; cases hi)
    simp only [List.nil_append] at hs
    rw [HE.out, HR.out]
    go_wp2_with fail
    refine bodyPost_ret (resFt rfl rfl rfl (hs.blockAt 0 rfl)) rfl ⟨rfl, hs.low⟩
   | true =>
    have c0 := Frt.cell0 (HS.out.blockAt 2 rfl) hk9 (show (f.site k).l[0]? = some (.bool true) from by rw [← hi]; rfl)
    have HE := H7 (show E = 0 from by rw [← HE.out]; unfold hearE; rw [hb, hpo, Int.toNat_natCast, hi]; rfl)
    have HR := H7 (show RF = f.put k (hearP (f.site k) p) from by rw [← HR.out, HE.out]; unfold hearF; rw [Int.toNat_natCast]; rfl)
    repeat ((fail_if_success (with_reducible refine stop_at (id := 5) ?_)); (first | go_values | go_skip | go_guarded | go_step | go_upon | go_back | (simp only [Int.not_lt, Int.not_le] at *; go_simp) | (go_values <;> (try go_simp)) | (go_ite <;> go_prune <;> (try go_simp)) | (split <;> (first | (rename_i hx; exact (hx _ rfl).elim) | go_prune))))
    clear c0 hi hb hpo
    obtain ⟨q, hq⟩ : ∃ q, f.site k = q := ⟨_, rfl⟩
    refine (wpIn_wide (n := 0)).1 ?_
    repeat (first | (refine ldSite _ rfl rfl (HS.out.blockAt 2 rfl) hk9 ?_; simp only [Act.put, List.setIfInBounds_toArray, List.set_cons_succ, List.set_cons_zero]) | (refine nwP rfl ?_; simp only [Act.put, List.setIfInBounds_toArray, List.set_cons_succ, List.set_cons_zero]) | (refine stNewP _ _ rfl rfl rfl rfl rfl ?_; simp only [Act.put, List.setIfInBounds_toArray, List.set_cons_succ, List.set_cons_zero]) | gi_step)
    gi_wp2_with fail
    rw [hq] at HR ⊢
    have hs_ := (HS.out.alloc (.cells q.cells 26))
    obtain ⟨w3, hw_⟩ : ∃ w3 : World, (w2.alloc (.cells q.cells 26)) = w3 := ⟨_, rfl⟩
    rw [hw_] at hs_
    try simp only [World.size_alloc] at hs_
    have HS := H7 hs_
    rw [hw_]
    clear hw_ hs_
    repeat ((fail_if_success (with_reducible refine stop_at (id := 6) ?_)); (first | go_values | go_skip | go_guarded | go_step | go_upon | go_back | (simp only [Int.not_lt, Int.not_le] at *; go_simp) | (go_values <;> (try go_simp)) | (go_ite <;> go_prune <;> (try go_simp)) | (split <;> (first | (rename_i hx; exact (hx _ rfl).elim) | go_prune))))
    refine (wpIn_wide (n := 0)).1 ?_
    repeat (first | (refine ldHas _ rfl rfl (HS.out.blockAt 0 rfl) ?_; simp only [Act.put, List.setIfInBounds_toArray, List.set_cons_succ, List.set_cons_zero]) | (refine ldHas _ rfl rfl (HS.out.blockAt 2 rfl) ?_; simp only [Act.put, List.setIfInBounds_toArray, List.set_cons_succ, List.set_cons_zero]) | gi_step)
    refine (callsIn_wide.2 (r18Greater_any q.has p.has _)).mono ?_
    rintro e w4 ⟨rfl, hb_⟩
    have HS := H7 (HS.out.below hb_)
    clear hb_
    obtain ⟨J, hJ⟩ : ∃ J, (fun s => max (q.has s) (p.has s)) = J := ⟨_, rfl⟩
    rw [hJ]
    have HJ := H7 hJ
    clear hJ
    simp only [vecV]
    go_at_K
    repeat (first | (refine stPHas _ _ rfl rfl (HS.out.blockAt 0 rfl) rfl ?_; simp only [Act.put, List.setIfInBounds_toArray, List.set_cons_succ, List.set_cons_zero]) | gi_step)
    gi_wp2_with fail
    have hs := HS.out.putHas (pre := []) (by intro i hi; cases hi) J
    simp only [List.nil_append] at hs
    have HS := H7 hs
    clear hs
    generalize w4.setCells w2.heap.size 3 (lit9 J).toList = w5 at HS ⊢
    have HG := H7 (show w.heap.size + 1 ≠ w2.heap.size from by have h1 := HS.out.ord; simp [ItOrd, It.top] at h1; omega)
    generalize w2.heap.size = g at HS HG ⊢
    have d1 : w5.cell? ⟨g, 1, none⟩ = some (.int .u64 q.floor) := (plgCells (HS.out.blockAt 0 rfl)).2.1
    have d2 : w5.cell? ⟨w.heap.size + 1, 1, none⟩ = some (.int .u64 p.floor) := (plgCells (HS.out.blockAt 2 rfl)).2.1
    by_cases hf : p.floor > q.floor
    case' neg =>
     have ef : decide (p.floor > q.floor) = false := decide_eq_false hf
     have HRR := H7 (show hearP q p = { q with has := J } from by rw [← HJ.out]; unfold hearP; rw [if_neg hf, if_neg hf])
     clear hf
     repeat ((fail_if_success (with_reducible refine stop_at (id := 9) ?_)); (first | go_values | go_skip | go_guarded | go_step | go_upon | go_back | (simp only [Int.not_lt, Int.not_le] at *; go_simp) | (go_values <;> (try go_simp)) | (go_ite <;> go_prune <;> (try go_simp)) | (split <;> (first | (rename_i hx; exact (hx _ rfl).elim) | go_prune))))
     rw [← HRR.out] at HS
     clear d1 d2 ef
    case' pos =>
     have ef : decide (p.floor > q.floor) = true := decide_eq_true hf
     have HRR := H7 (show hearP q p = { q with has := J, floor := p.floor, seq := p.seq } from by rw [← HJ.out]; unfold hearP; rw [if_pos hf, if_pos hf])
     clear hf
     repeat ((fail_if_success (with_reducible refine stop_at (id := 8) ?_)); (first | go_values | go_skip | go_guarded | go_step | go_upon | go_back | (simp only [Int.not_lt, Int.not_le] at *; go_simp) | (go_values <;> (try go_simp)) | (go_ite <;> go_prune <;> (try go_simp)) | (split <;> (first | (rename_i hx; exact (hx _ rfl).elim) | go_prune))))
     clear d1 d2 ef
     refine (wpIn_wide (n := 0)).1 ?_
     apply wp_region_store 6 5 (fun b_ w_ => w_.heap[g]? = some (.cells ({ q with has := J, floor := cond b_ p.floor q.floor } : Plg).cells 26 (0, 0))) (Rl := [(eqv _), (eqv _), (eqv _), (eqv _), (eqv _), (fun v_ w_ => True)]) (C := (fun x y => Turned (fun j => j = g) x y)) (C0 := (fun x y => Below x.heap.size x y))
     case hm => kernel_rfl
     case hk => rfl
     case hCr => exact (fun x => Turned.refl _ x)
     case hCt => intro _ _ _; exact (fun h k => h.two k)
     case h00 => exact (fun x => B7 _ x)
     case h0C => intro _ _; exact fun h => Turned.ofBelow _ h
     case hst => repeat (first | exact trivial | refine ⟨fun _ _ _ _ h => h, ?_⟩)
     case hfo => kernel_rfl
     case ht => kernel_rfl
     case hC0 => exact (⟨rfl, rfl, rfl, Nat.le_refl _, fun _ _ _ => rfl⟩)
     case hsk => decide
     case hso => decide
     case hsg => rfl
     case hsteps =>
      refine ⟨?_, ?_, ?_, ?_, ?_, ?_, trivial⟩
      · intro a' w' b_ hA hC hJ hB1 hB2 hD
        obtain rfl := hB1 (by kernel_rfl)
        clear hB1 hB2
        have s5 := hA.to 5 (by kernel_rfl) rfl; clear hA hD; refine o7p rfl ?_; intro K hK; gi_wp2; exact hK _ _ rfl ⟨(fun x => B7 _ x) _, hJ⟩
      · intro a' w' b_ hA hC hJ hB1 hB2 hD
        obtain rfl := hB1 (by kernel_rfl)
        clear hB1 hB2
        obtain ⟨u40, s40, rfl⟩ := hD ⟨0, .data⟩ (by simp) rfl _ rfl
        have c1 := (plgCells ((hC.block _ (HS.out.lt 2 rfl) HG.out).trans (HS.out.blockAt 2 rfl))).2.1
        clear hA hD; refine o7p rfl ?_; intro K hK; gi_wp2; exact hK _ _ rfl ⟨(fun x => B7 _ x) _, hJ⟩
      · intro a' w' b_ hA hC hJ hB1 hB2 hD
        skip
        clear hB1 hB2
        have s5 := hA.to 5 (by kernel_rfl) rfl; clear hA hD; refine o7p rfl ?_; intro K hK; gi_wp2; exact hK _ _ rfl ⟨(fun x => B7 _ x) _, hJ⟩
      · intro a' w' b_ hA hC hJ hB1 hB2 hD
        skip
        clear hB1 hB2
        obtain ⟨u42, s42, rfl⟩ := hD ⟨2, .data⟩ (by simp) rfl _ rfl
        have c3 := (plgCells ((hC.block _ (HS.out.lt 2 rfl) HG.out).trans (HS.out.blockAt 2 rfl))).2.2
        clear hA hD; refine o7p rfl ?_; intro K hK; gi_wp2; exact hK _ _ rfl ⟨(fun x => B7 _ x) _, hJ⟩
      · intro a' w' b_ hA hC hJ hB1 hB2 hD
        obtain rfl := hB1 (by kernel_rfl)
        clear hB1 hB2
        have s8 := hA.to 8 (by kernel_rfl) rfl; clear hA hD; refine o7p rfl ?_; intro K hK; gi_wp2; exact hK _ _ rfl ⟨(fun x => B7 _ x) _, hJ⟩
      · intro a' w' b_ hA hC hJ hB1 hB2 hD
        obtain rfl := hB2 rfl
        clear hB1 hB2
        obtain ⟨u44, s44, rfl⟩ := hD ⟨4, .data⟩ (by simp) rfl _ rfl; obtain ⟨u41, s41, rfl⟩ := hD ⟨1, .data⟩ (by simp) rfl _ rfl
        have c8 := (plgCells hJ).2.1; have f8 := f7b hJ 1
        clear hA hD; refine o7p rfl ?_; intro K hK; gi_wp2; exact hK undef _ trivial ⟨Turned.one, by have h := h7s (k := 1) hJ (.int .u64 p.floor); rw [plg_floor] at h; exact h⟩
     case hJ0 => exact HS.out.blockAt 0 rfl
     case' hend =>
      intro w8 hC hJ
      simp only [EndFrom, eqv, forall_eq, Act.put, List.length_cons, List.length_nil, List.drop_succ_cons, List.drop_zero, Nat.reduceAdd, List.setIfInBounds_toArray, List.set_cons_succ, List.set_cons_zero]
      intro v8 _
      have c8 := (plgCells hJ).2.2
      have f8 := f7b hJ 2
      have h := h7s (k := 2) hJ (.int .u64 p.seq)
      rw [plg_seq] at h
      have HS := H7 (show St w [.blk g (.cells (hearP q p).cells 26 (0, 0)), .blk (w.heap.size + 1 + 1) (.cells frZ.cells 29 (0, 0)), .blk (w.heap.size + 1) (.cells p.cells 26 (0, 0)), .blk w.heap.size (.cells f.cells 29 (0, 0))] _ from by
       rw [HRR.out]
       exact HS.out.setT (hC.two (Turned.one (o := 2) (v := .int .u64 p.seq))) h)
      clear h hC hJ
      gi_wp2_with fail
      clear c8 f8
      repeat ((fail_if_success (with_reducible refine stop_at (id := 9) ?_)); (first | go_values | go_skip | go_guarded | go_step | go_upon | go_back | (simp only [Int.not_lt, Int.not_le] at *; go_simp) | (go_values <;> (try go_simp)) | (go_ite <;> go_prune <;> (try go_simp)) | (split <;> (first | (rename_i hx; exact (hx _ rfl).elim) | go_prune))))
    all_goals
     clear HRR HJ HG
     generalize hearP q p = r at HS HR
     refine (wpIn_wide (n := 0)).1 ?_
     repeat (first | (refine ldP _ rfl rfl (HS.out.blockAt 0 rfl) ?_; simp only [Act.put, List.setIfInBounds_toArray, List.set_cons_succ, List.set_cons_zero]) | (refine stSite (p := r) _ _ rfl rfl (HS.out.blockAt 3 rfl) HK.out rfl ?_; simp only [Act.put, List.setIfInBounds_toArray, List.set_cons_succ, List.set_cons_zero]) | gi_step)
     gi_wp2_with fail
     have hs := HS.out.putSite (pre := [.blk _ _, .blk _ _, .blk _ _]) (by intro i hi; simp only [List.mem_cons, List.not_mem_nil, or_false] at hi; rcases hi with rfl | rfl | rfl <;> exact ⟨_, _, rfl⟩) HK.out r
     simp only [List.cons_append, List.nil_append] at hs
     rw [← HR.out] at hs
     have HS := H7 hs
     clear hs
     generalize World.setCells _ w.heap.size (11 + k * 12) r.l = w9 at HS ⊢
     repeat ((fail_if_success (with_reducible refine stop_at (id := 10) ?_)); (first | go_values | go_skip | go_guarded | go_step | go_upon | go_back | (simp only [Int.not_lt, Int.not_le] at *; go_simp) | (go_values <;> (try go_simp)) | (go_ite <;> go_prune <;> (try go_simp)) | (split <;> (first | (rename_i hx; exact (hx _ rfl).elim) | go_prune))))
     refine (wpIn_wide (n := 0)).1 ?_
     repeat (first | (refine ldF _ rfl rfl (HS.out.blockAt 3 rfl) ?_; simp only [Act.put, List.setIfInBounds_toArray, List.set_cons_succ, List.set_cons_zero]) | (refine stF _ _ rfl rfl (HS.out.blockAt 1 rfl) rfl rfl ?_; simp only [Act.put, List.setIfInBounds_toArray, List.set_cons_succ, List.set_cons_zero]) | gi_step)
     gi_wp2_with fail
     have hs := HS.out.putRow (c' := RF.cells) (pre := [.blk _ _]) (by intro i hi; exact ⟨_, _, List.mem_singleton.1 hi⟩)
     simp only [List.cons_append, List.nil_append] at hs
     rw [HE.out]
     go_wp2_with fail
     refine bodyPost_ret (resFt rfl rfl rfl (hs.blockAt 1 rfl)) rfl ⟨rfl, hs.low⟩
end Go.Proofs.YteklfmacnnmomaaGreat
/- Layer 18: what is heard, one after the other (plain laws). -/
namespace Go.Proofs.YteklfmacnnmomaaGreat
open Go.RowKit Go.Shelf
def hstep (n : Int) (f : Frt) (p : Plg) : Frt := if trE f (hearE f n p) = 0 then hearF f n p else f
/-- The pledge of one site. -/
def hq (q p : Plg) : Plg := if pledgeOk p = true then hearP q p else q
/- slices.Reverse at any row; what lies beside it. -/
section
variable {α : Type} [Inhabited α] {P : Program} {ρ : Ren}
end
end Go.Proofs.YteklfmacnnmomaaGreat
/- Layer 18: rows of pledges; the closure that hears them. -/
namespace Go.Proofs.YteklfmacnnmomaaGreat
open Go.RowKit Go.Shelf
attribute [local go_sem] Oper.semAt_some
theorem ldPr {F : Fence} {n : Nat} {w : World} {o : Oper} {a : Act} {K : Act → World → Prop} {Q : Exit → Act → World → Prop} (x : Operand) (ho : o.op = .load 26 x) {b off : Nat} (hx : a.eval x = .pointer (some ⟨b, off, none⟩)) {p : Plg} (hg : w.rangeAt b off p.l) (hK : K (a.put o.dst (.agg p.cells)) w) : o.wpIn F n Tryz.prog a w K Q :=
 opIn_load_mid 26 x ho b off hx p.l _ hg Tryz.underlying26 rfl (size_Pl _) hK
theorem pCells {w : World} {a : Option Addr} {n cap : Nat} {l : List Plg} (hn : l.length = n) (h : Elems w (.slice a n cap) n 12 (rowC Plg.l l)) (k : Nat) (x : Plg) (hx : l[k]? = some x) :
 ∃ b off, a = some ⟨b, off, none⟩ ∧ b < w.heap.size ∧ w.rangeAt b (off + k * 12) x.l := by
 subst hn
 have hk := (List.getElem?_eq_some_iff.1 hx).1
 obtain ⟨e, h0⟩ | ⟨b, off, cap', e, hlt, hc⟩ := h
 · omega
 · cases e
   exact ⟨b, off, rfl, hlt, rowElem (enc := Plg.l) Plg.len hc hx⟩
/- Layer 18: the law FrontierHears. -/
theorem want_reg {G : Frt} (hb : G.okB = true) (h0 : 0 ≤ G.folded) (h1 : 0 ≤ G.prop) (x : Int) (w : World) :
 Calls Tryz.prog 12 #[.agg G.cells, .int .i64 x] w (Gives (.tuple #[.agg (trF G (regF G x) (regE G x)).cells, .int .i64 (trE G (regE G x))]) w) := by
 have h := r18Register_any G x w
 rw [regW_eq hb x h0 h1] at h
 unfold trF trE
 rw [if_pos hb]
 exact h
theorem want_hear {G : Frt} (hb : G.okB = true) (x : Int) (p : Plg) (w : World) :
 Calls Tryz.prog 13 #[.agg G.cells, .int .i64 x, .agg p.cells] w (Gives (.tuple #[.agg (trF G (hearF G x p) (hearE G x p)).cells, .int .i64 (trE G (hearE G x p))]) w) := by
 have h := r18Hear_any G x p w
 unfold trF trE
 rw [if_pos hb]
 exact h
theorem tr_bad {G F : Frt} {e : Int} (hb : G.okB = false) : trE G e = 280 ∧ trF G F e = frZ := by
 have : trE G e = 280 := by unfold trE; rw [hb]; rfl
 exact ⟨this, by unfold trF; rw [this]; rfl⟩
set_option maxRecDepth 100000 in
set_option maxHeartbeats 8000000 in
theorem frontierHears_any (f : Frt) (a1 : Option Addr) (n c1 : Nat) (S : List Int) (hS : S.length = n) (a2 : Option Addr) (m c2 : Nat) (l : List Plg) (hl : l.length = m) (h0 : 0 ≤ f.folded) (h1 : 0 ≤ f.prop) (w : World) (he1 : Elems w (.slice a1 n c1) n 1 (rowC encZ S)) (he2 : Elems w (.slice a2 m c2) m 12 (rowC Plg.l l)) :
 Calls Tryz.prog 3 #[.agg f.cells, .slice a1 n c1, .slice a2 m c2] w (Gives (.bool true) w) := by
 have HS := H7 (St.start w)
 have HE1 := H7 (fun w' (hb : Below w.heap.size w w') => he1.below hb)
 have HE2 := H7 (fun w' (hb : Below w.heap.size w w') => he2.below hb)
 have HL := H7 (And.intro hS hl)
 have H0 := H7 (And.intro h0 h1)
 clear hS hl h0 h1 he1 he2
 go_enter Tryz.func3, Tryz.ntmps3
 repeat ((fail_if_success (with_reducible refine stop_at (id := 1) ?_)); (first | go_values | go_skip | go_guarded | go_step | go_upon | go_back | (simp only [Int.not_lt, Int.not_le] at *; go_simp) | (go_values <;> (try go_simp)) | (go_ite <;> go_prune <;> (try go_simp)) | (split <;> (first | (rename_i hx; exact (hx _ rfl).elim) | go_prune))))
 have hs_ := (HS.out.alloc (.cells f.cells 29))
 obtain ⟨w1, hw_⟩ : ∃ w1 : World, (w.alloc (.cells f.cells 29)) = w1 := ⟨_, rfl⟩
 rw [hw_] at hs_
 try simp only [World.size_alloc] at hs_
 have HS := H7 hs_
 rw [hw_]
 clear hw_ hs_
 go_wp2_with fail
 refine (wakes18_any _).mono ?_
 rintro e w2 ⟨rfl, hb_⟩
 have HS := H7 (HS.out.below hb_)
 clear hb_
 repeat ((fail_if_success (with_reducible refine stop_at (id := 3) ?_)); (first | go_values | go_skip | go_guarded | go_step | go_upon | go_back | (simp only [Int.not_lt, Int.not_le] at *; go_simp) | (go_values <;> (try go_simp)) | (go_ite <;> go_prune <;> (try go_simp)) | (split <;> (first | (rename_i hx; exact (hx _ rfl).elim) | go_prune))))
 refine (wpIn_wide (n := 0)).1 ?_
 repeat (first | (refine ldF _ rfl rfl (HS.out.blockAt 0 rfl) ?_; simp only [Act.put, List.setIfInBounds_toArray, List.set_cons_succ, List.set_cons_zero]) | (refine nwF rfl ?_; simp only [Act.put, List.setIfInBounds_toArray, List.set_cons_succ, List.set_cons_zero]) | (refine stNewF _ _ rfl rfl rfl rfl rfl ?_; simp only [Act.put, List.setIfInBounds_toArray, List.set_cons_succ, List.set_cons_zero]) | gi_step)
 gi_wp2_with fail
 have hs_ := (HS.out.alloc (.cells f.cells 29))
 obtain ⟨w3, hw_⟩ : ∃ w3 : World, (w2.alloc (.cells f.cells 29)) = w3 := ⟨_, rfl⟩
 rw [hw_] at hs_
 try simp only [World.size_alloc] at hs_
 have HS := H7 hs_
 rw [hw_]
 clear hw_ hs_
 generalize w2.heap.size = g at HS ⊢
 go_wp2_with fail
 go_loopw [25] (fun i wr => ∃ (k : Nat) (G : Frt), k ≤ n ∧ k ≤ 10 ∧ i = .int .i64 (k : Int) ∧ 0 ≤ G.folded ∧ 0 ≤ G.prop ∧ St w [.blk g (.cells G.cells 29 (0, 0)), .blk w.heap.size (.cells f.cells 29 (0, 0))] wr) (fun i _ => n - (intOf i).toNat)
 case atStart => exact ⟨0, f, by omega, by omega, rfl, H0.out.1, H0.out.2, HS.out⟩
 case round =>
  obtain ⟨k, G, hk, hk10, rfl, hG1, hG2, hs⟩ := hrel
  clear HS
  have HS := H7 hs
  have HG := H7 (And.intro hG1 hG2)
  clear hs hG1 hG2
  by_cases hlt : k < n
  · obtain ⟨x, hx⟩ : ∃ x, S[k]? = some x := ⟨_, List.getElem?_eq_getElem (by rw [HL.out.1]; exact hlt)⟩
    obtain ⟨b1, o1, rfl, hb1, hc1⟩ := zCells HL.out.1 (HE1.out wr HS.out.low) k x hx
    clear hx hb1
    by_cases h9 : k = 10
    · subst h9
      go_wp2_with fail
      go_ret
      exact ⟨rfl, HS.out.low⟩
    · have HLT := H7 (And.intro hlt (And.intro hk10 h9))
      have h9' : ((k : Int) == 10) = false := beq_eq_false_iff_ne.2 (by omega)
      repeat ((fail_if_success (with_reducible refine stop_at (id := 8) ?_)); (first | go_values | go_skip | go_guarded | go_step | go_upon | go_back | (simp only [Int.not_lt, Int.not_le] at *; go_simp) | (go_values <;> (try go_simp)) | (go_ite <;> go_prune <;> (try go_simp)) | (split <;> (first | (rename_i hx; exact (hx _ rfl).elim) | go_prune))))
      clear hc1 h9' hlt hk hk10 h9
      obtain ⟨ok, hok⟩ : ∃ ok, G.okB = ok := ⟨_, rfl⟩
      have HOK := H7 hok
      refine (wpIn_wide (n := 0)).1 ?_
      repeat (first | (refine ldF _ rfl rfl (HS.out.blockAt 0 rfl) ?_; simp only [Act.put, List.setIfInBounds_toArray, List.set_cons_succ, List.set_cons_zero]) | gi_step)
      refine (callsIn_wide.2 (r18Right_any G _)).mono ?_
      rintro e w4 ⟨rfl, hb_⟩
      rw [hok]
      clear hok
      have HS := H7 (HS.out.below hb_)
      clear hb_
      gi_wp2_with fail
      repeat ((fail_if_success (with_reducible refine stop_at (id := 9) ?_)); (first | go_values | go_skip | go_guarded | go_step | go_upon | go_back | (simp only [Int.not_lt, Int.not_le] at *; go_simp) | (go_values <;> (try go_simp)) | (go_ite <;> go_prune <;> (try go_simp)) | (split <;> (first | (rename_i hx; exact (hx _ rfl).elim) | go_prune))))
      refine (wpIn_wide (n := 0)).1 ?_
      repeat (first | (refine ldF _ rfl rfl (HS.out.blockAt 0 rfl) ?_; simp only [Act.put, List.setIfInBounds_toArray, List.set_cons_succ, List.set_cons_zero]) | gi_step)
      have hr := register_any G x w4
      have HWR := H7 (fun (h : ok = true) w' => want_reg (HOK.out.trans h) HG.out.1 HG.out.2 x w')
      have HBR := H7 (fun (h : ok = false) => tr_bad (F := regF G x) (e := regE G x) (HOK.out.trans h))
      have HNR := H7 (show trE G (regE G x) = 0 → 0 ≤ (trF G (regF G x) (regE G x)).folded ∧ 0 ≤ (trF G (regF G x) (regE G x)).prop from fun h => by rw [trF_ok h]; exact HG.out)
      generalize trF G (regF G x) (regE G x) = R at hr HWR HBR HNR
      generalize trE G (regE G x) = E at hr HWR HBR HNR
      refine (callsIn_wide.2 hr).mono ?_
      rintro e w5 ⟨rfl, hb_⟩
      have HS := H7 (HS.out.below hb_)
      clear hb_
      clear hr
      simp only []; go_at_K
      repeat (first | (refine nwF rfl ?_; simp only [Act.put, List.setIfInBounds_toArray, List.set_cons_succ, List.set_cons_zero]) | (refine stNewF _ _ rfl rfl rfl rfl rfl ?_; simp only [Act.put, List.setIfInBounds_toArray, List.set_cons_succ, List.set_cons_zero]) | gi_step)
      gi_wp2_with fail
      have hs_ := (HS.out.alloc (.cells R.cells 29))
      obtain ⟨w6, hw_⟩ : ∃ w6 : World, (w5.alloc (.cells R.cells 29)) = w6 := ⟨_, rfl⟩
      rw [hw_] at hs_
      try simp only [World.size_alloc] at hs_
      have HS := H7 hs_
      rw [hw_]
      clear hw_ hs_
      repeat ((fail_if_success (with_reducible refine stop_at (id := 11) ?_)); (first | go_values | go_skip | go_guarded | go_step | go_upon | go_back | (simp only [Int.not_lt, Int.not_le] at *; go_simp) | (go_values <;> (try go_simp)) | (go_ite <;> go_prune <;> (try go_simp)) | (split <;> (first | (rename_i hx; exact (hx _ rfl).elim) | go_prune))))
      rw [show (#[.bool false, .int .u64 0, .int .u64 0, .int .u64 0, .int .u64 0, .int .u64 0, .int .u64 0, .int .u64 0, .int .u64 0, .int .u64 0, .int .u64 0, .int .u64 0] : Array Value) = plZ.cells from rfl]
      have hs_ := (HS.out.alloc (.cells plZ.cells 26))
      obtain ⟨w7, hw_⟩ : ∃ w7 : World, (w6.alloc (.cells plZ.cells 26)) = w7 := ⟨_, rfl⟩
      rw [hw_] at hs_
      try simp only [World.size_alloc] at hs_
      have HS := H7 hs_
      rw [hw_]
      clear hw_ hs_
      by_cases hm : k < m
      case' pos =>
       obtain ⟨P, hP⟩ : ∃ p, l[k]? = some p := ⟨_, List.getElem?_eq_getElem (by rw [HL.out.2]; exact hm)⟩
       obtain ⟨b3, o3, rfl, hb3, hc3⟩ := pCells HL.out.2 (HE2.out w7 HS.out.low) k P hP
       have HC3 := H7 hc3
       clear hP hb3 hc3
       repeat ((fail_if_success (with_reducible refine stop_at (id := 12) ?_)); (first | go_values | go_skip | go_guarded | go_step | go_upon | go_back | (simp only [Int.not_lt, Int.not_le] at *; go_simp) | (go_values <;> (try go_simp)) | (go_ite <;> go_prune <;> (try go_simp)) | (split <;> (first | (rename_i hx; exact (hx _ rfl).elim) | go_prune))))
       have hm' := hm
       clear hm
       refine (wpIn_wide (n := 0)).1 ?_
       repeat (first | (refine ldPr _ rfl rfl HC3.out ?_; simp only [Act.put, List.setIfInBounds_toArray, List.set_cons_succ, List.set_cons_zero]) | (refine stP (f := P) _ _ rfl rfl (HS.out.blockAt 0 rfl) rfl rfl ?_; simp only [Act.put, List.setIfInBounds_toArray, List.set_cons_succ, List.set_cons_zero]) | gi_step)
       gi_wp2_with fail
       have hs := HS.out.putRow (c' := P.cells) (pre := []) (by intro i hi; cases hi)
       simp only [List.nil_append] at hs
       have HS := H7 hs
       clear hs HC3 hm'
       generalize w7.setRow w6.heap.size P.cells = w8 at HS ⊢
       repeat ((fail_if_success (with_reducible refine stop_at (id := 13) ?_)); (first | go_values | go_skip | go_guarded | go_step | go_upon | go_back | (simp only [Int.not_lt, Int.not_le] at *; go_simp) | (go_values <;> (try go_simp)) | (go_ite <;> go_prune <;> (try go_simp)) | (split <;> (first | (rename_i hx; exact (hx _ rfl).elim) | go_prune))))
      case' neg =>
       obtain ⟨P, hP⟩ : ∃ P, P = plZ := ⟨_, rfl⟩
       rw [← hP] at HS
       clear hP
       obtain ⟨w8, hw8⟩ : ∃ w8, w7 = w8 := ⟨_, rfl⟩
       rw [hw8] at HS ⊢
       clear hw8
       repeat ((fail_if_success (with_reducible refine stop_at (id := 13) ?_)); (first | go_values | go_skip | go_guarded | go_step | go_upon | go_back | (simp only [Int.not_lt, Int.not_le] at *; go_simp) | (go_values <;> (try go_simp)) | (go_ite <;> go_prune <;> (try go_simp)) | (split <;> (first | (rename_i hx; exact (hx _ rfl).elim) | go_prune))))
       clear hm
      all_goals
       refine (wpIn_wide (n := 0)).1 ?_
       repeat (first | (refine ldF _ rfl rfl (HS.out.blockAt 2 rfl) ?_; simp only [Act.put, List.setIfInBounds_toArray, List.set_cons_succ, List.set_cons_zero]) | (refine ldP _ rfl rfl (HS.out.blockAt 0 rfl) ?_; simp only [Act.put, List.setIfInBounds_toArray, List.set_cons_succ, List.set_cons_zero]) | gi_step)
       have hh := hear0_any G x P w8
       have HWH := H7 (fun (h : ok = true) w' => want_hear (HOK.out.trans h) x P w')
       have HBH := H7 (fun (h : ok = false) => tr_bad (F := hearF G x P) (e := hearE G x P) (HOK.out.trans h))
       have HNH := H7 (show trE G (hearE G x P) = 0 → 0 ≤ (trF G (hearF G x P) (hearE G x P)).folded ∧ 0 ≤ (trF G (hearF G x P) (hearE G x P)).prop from fun h => by rw [trF_ok h]; exact HG.out)
       generalize trF G (hearF G x P) (hearE G x P) = H at hh HWH HBH HNH
       generalize trE G (hearE G x P) = D at hh HWH HBH HNH
       refine (callsIn_wide.2 hh).mono ?_
       rintro e w9 ⟨rfl, hb_⟩
       have HS := H7 (HS.out.below hb_)
       clear hb_
       clear hh
       simp only []; go_at_K
       repeat (first | (refine nwF rfl ?_; simp only [Act.put, List.setIfInBounds_toArray, List.set_cons_succ, List.set_cons_zero]) | (refine stNewF _ _ rfl rfl rfl rfl rfl ?_; simp only [Act.put, List.setIfInBounds_toArray, List.set_cons_succ, List.set_cons_zero]) | gi_step)
       gi_wp2_with fail
       have hs_ := (HS.out.alloc (.cells H.cells 29))
       obtain ⟨wa, hw_⟩ : ∃ wa : World, (w9.alloc (.cells H.cells 29)) = wa := ⟨_, rfl⟩
       rw [hw_] at hs_
       try simp only [World.size_alloc] at hs_
       have HS := H7 hs_
       rw [hw_]
       clear hw_ hs_
       repeat ((fail_if_success (with_reducible refine stop_at (id := 15) ?_)); (first | go_values | go_skip | go_guarded | go_step | go_upon | go_back | (simp only [Int.not_lt, Int.not_le] at *; go_simp) | (go_values <;> (try go_simp)) | (go_ite <;> go_prune <;> (try go_simp)) | (split <;> (first | (rename_i hx; exact (hx _ rfl).elim) | go_prune))))
       rw [zeroF]
       have hs_ := ((HS.out.alloc (.cells frZ.cells 29)).alloc (.cells frZ.cells 29))
       obtain ⟨wb, hw_⟩ : ∃ wb : World, ((wa.alloc (.cells frZ.cells 29)).alloc (.cells frZ.cells 29)) = wb := ⟨_, rfl⟩
       rw [hw_] at hs_
       try simp only [World.size_alloc] at hs_
       have HS := H7 hs_
       rw [hw_]
       clear hw_ hs_
       have hee1 := frEq_self R
       have hee2 := frEq_self H
       cases ok
       case' true =>
        repeat ((fail_if_success (with_reducible refine stop_at (id := 17) ?_)); (first | go_values | go_skip | go_guarded | go_step | go_upon | go_back | (simp only [Int.not_lt, Int.not_le] at *; go_simp) | (go_values <;> (try go_simp)) | (go_ite <;> go_prune <;> (try go_simp)) | (split <;> (first | (rename_i hx; exact (hx _ rfl).elim) | go_prune))))
        refine (wpIn_wide (n := 0)).1 ?_
        repeat (first | (refine ldF _ rfl rfl (HS.out.blockAt 5 rfl) ?_; simp only [Act.put, List.setIfInBounds_toArray, List.set_cons_succ, List.set_cons_zero]) | gi_step)
        refine (callsIn_wide.2 (HWR.out (by first | rfl | trivial) _)).mono ?_
        rintro e wc ⟨rfl, hb_⟩
        have HS := H7 (HS.out.below hb_)
        clear hb_
        simp only []; go_at_K
        repeat (first | (refine stF _ _ rfl rfl (HS.out.blockAt 1 rfl) rfl rfl ?_; simp only [Act.put, List.setIfInBounds_toArray, List.set_cons_succ, List.set_cons_zero]) | gi_step)
        gi_wp2_with fail
        have hs := HS.out.putRow (c' := R.cells) (pre := [.blk _ _]) (by intro i hi; exact ⟨_, _, List.mem_singleton.1 hi⟩)
        simp only [List.cons_append, List.nil_append] at hs
        have HS := H7 hs
        clear hs
        generalize wc.setRow wa.heap.size R.cells = wd at HS ⊢
        repeat ((fail_if_success (with_reducible refine stop_at (id := 18) ?_)); (first | go_values | go_skip | go_guarded | go_step | go_upon | go_back | (simp only [Int.not_lt, Int.not_le] at *; go_simp) | (go_values <;> (try go_simp)) | (go_ite <;> go_prune <;> (try go_simp)) | (split <;> (first | (rename_i hx; exact (hx _ rfl).elim) | go_prune))))
        refine (wpIn_wide (n := 0)).1 ?_
        repeat (first | (refine ldF _ rfl rfl (HS.out.blockAt 5 rfl) ?_; simp only [Act.put, List.setIfInBounds_toArray, List.set_cons_succ, List.set_cons_zero]) | (refine ldP _ rfl rfl (HS.out.blockAt 3 rfl) ?_; simp only [Act.put, List.setIfInBounds_toArray, List.set_cons_succ, List.set_cons_zero]) | gi_step)
        refine (callsIn_wide.2 (HWH.out (by first | rfl | trivial) _)).mono ?_
        rintro e we ⟨rfl, hb_⟩
        have HS := H7 (HS.out.below hb_)
        clear hb_
        simp only []; go_at_K
        repeat (first | (refine stF _ _ rfl rfl (HS.out.blockAt 0 rfl) rfl rfl ?_; simp only [Act.put, List.setIfInBounds_toArray, List.set_cons_succ, List.set_cons_zero]) | gi_step)
        gi_wp2_with fail
        have hs := HS.out.putRow (c' := H.cells) (pre := []) (by intro i hi; cases hi)
        simp only [List.nil_append] at hs
        have HS := H7 hs
        clear hs
        generalize we.setRow (wa.heap.size + 1) H.cells = wf at HS ⊢
        repeat ((fail_if_success (with_reducible refine stop_at (id := 19) ?_)); (first | go_values | go_skip | go_guarded | go_step | go_upon | go_back | (simp only [Int.not_lt, Int.not_le] at *; go_simp) | (go_values <;> (try go_simp)) | (go_ite <;> go_prune <;> (try go_simp)) | (split <;> (first | (rename_i hx; exact (hx _ rfl).elim) | go_prune))))
       case' false =>
        obtain ⟨ra, rb⟩ := HBR.out rfl
        obtain ⟨rc, rd⟩ := HBH.out rfl
        have e1 : (E != 280) = false := by rw [ra]; rfl
        have e2 : (D != 280) = false := by rw [rc]; rfl
        have HS := H7 (show St w [.blk (wa.heap.size + 1) (.cells H.cells 29 (0, 0)), .blk wa.heap.size (.cells R.cells 29 (0, 0)), .blk w9.heap.size (.cells H.cells 29 (0, 0)), .blk w6.heap.size (.cells P.cells 26 (0, 0)), .blk w5.heap.size (.cells R.cells 29 (0, 0)), .blk g (.cells G.cells 29 (0, 0)), .blk w.heap.size (.cells f.cells 29 (0, 0))] wb from by have h := HS.out; rw [rb, rd] at h ⊢; exact h)
        clear ra rb rc rd
        repeat ((fail_if_success (with_reducible refine stop_at (id := 19) ?_)); (first | go_values | go_skip | go_guarded | go_step | go_upon | go_back | (simp only [Int.not_lt, Int.not_le] at *; go_simp) | (go_values <;> (try go_simp)) | (go_ite <;> go_prune <;> (try go_simp)) | (split <;> (first | (rename_i hx; exact (hx _ rfl).elim) | go_prune))))
       all_goals
        clear HWR HWH HBR HBH HOK
        refine (wpIn_wide (n := 0)).1 ?_
        repeat (first | (refine ldF _ rfl rfl (HS.out.blockAt 4 rfl) ?_; simp only [Act.put, List.setIfInBounds_toArray, List.set_cons_succ, List.set_cons_zero]) | (refine ldF _ rfl rfl (HS.out.blockAt 1 rfl) ?_; simp only [Act.put, List.setIfInBounds_toArray, List.set_cons_succ, List.set_cons_zero]) | (refine neF' _ _ _ rfl rfl rfl hee1 ?_; simp only [Act.put, List.setIfInBounds_toArray, List.set_cons_succ, List.set_cons_zero]) | (refine ldF _ rfl rfl (HS.out.blockAt 2 rfl) ?_; simp only [Act.put, List.setIfInBounds_toArray, List.set_cons_succ, List.set_cons_zero]) | (refine ldF _ rfl rfl (HS.out.blockAt 0 rfl) ?_; simp only [Act.put, List.setIfInBounds_toArray, List.set_cons_succ, List.set_cons_zero]) | (refine neF' _ _ _ rfl rfl rfl hee2 ?_; simp only [Act.put, List.setIfInBounds_toArray, List.set_cons_succ, List.set_cons_zero]) | gi_step)
        gi_wp2_with fail
        try clear e1
        try clear e2
        clear hee1 hee2
        repeat ((fail_if_success (with_reducible refine stop_at (id := 21) ?_)); (first | go_values | go_skip | go_guarded | go_step | go_upon | go_back | (simp only [Int.not_lt, Int.not_le] at *; go_simp) | (go_values <;> (try go_simp)) | (go_ite <;> go_prune <;> (try go_simp)) | (split <;> (first | (rename_i hx; exact (hx _ rfl).elim) | go_prune))))
        by_cases hE : E = 0
        · have e3 : (E == 0) = true := by rw [hE]; rfl
          repeat ((fail_if_success (with_reducible refine stop_at (id := 22) ?_)); (first | go_values | go_skip | go_guarded | go_step | go_upon | go_back | (simp only [Int.not_lt, Int.not_le] at *; go_simp) | (go_values <;> (try go_simp)) | (go_ite <;> go_prune <;> (try go_simp)) | (split <;> (first | (rename_i hx; exact (hx _ rfl).elim) | go_prune))))
          clear e3
          refine (wpIn_wide (n := 0)).1 ?_
          repeat (first | (refine ldF _ rfl rfl (HS.out.blockAt 4 rfl) ?_; simp only [Act.put, List.setIfInBounds_toArray, List.set_cons_succ, List.set_cons_zero]) | (refine stF _ _ rfl rfl (HS.out.blockAt 5 rfl) rfl rfl ?_; simp only [Act.put, List.setIfInBounds_toArray, List.set_cons_succ, List.set_cons_zero]) | gi_step)
          gi_wp2_with fail
          have hs := HS.out.putRow (c' := R.cells) (pre := [.blk _ _, .blk _ _, .blk _ _, .blk _ _, .blk _ _]) (by intro i hi; simp only [List.mem_cons, List.not_mem_nil, or_false] at hi; rcases hi with rfl | rfl | rfl | rfl | rfl <;> exact ⟨_, _, rfl⟩)
          simp only [List.cons_append, List.nil_append] at hs
          have HS := H7 hs
          clear hs
          have HS2 := H7 HS.out.tl.tl.tl.tl.tl
          obtain ⟨hlt, hk10, h9⟩ := HLT.out
          go_wp2_with fail
          go_roundw
          case rel => exact ⟨k + 1, R, hlt, by omega, by simp, (HNR.out hE).1, (HNR.out hE).2, HS2.out⟩
          case measure => exact frM hlt (by simp)
        · have e3 : (E == 0) = false := beq_eq_false_iff_ne.2 hE
          clear hE
          by_cases hD : D = 0
          · have e4 : (D == 0) = true := by rw [hD]; rfl
            repeat ((fail_if_success (with_reducible refine stop_at (id := 24) ?_)); (first | go_values | go_skip | go_guarded | go_step | go_upon | go_back | (simp only [Int.not_lt, Int.not_le] at *; go_simp) | (go_values <;> (try go_simp)) | (go_ite <;> go_prune <;> (try go_simp)) | (split <;> (first | (rename_i hx; exact (hx _ rfl).elim) | go_prune))))
            clear e3 e4
            refine (wpIn_wide (n := 0)).1 ?_
            repeat (first | (refine ldF _ rfl rfl (HS.out.blockAt 2 rfl) ?_; simp only [Act.put, List.setIfInBounds_toArray, List.set_cons_succ, List.set_cons_zero]) | (refine stF _ _ rfl rfl (HS.out.blockAt 5 rfl) rfl rfl ?_; simp only [Act.put, List.setIfInBounds_toArray, List.set_cons_succ, List.set_cons_zero]) | gi_step)
            gi_wp2_with fail
            have hs := HS.out.putRow (c' := H.cells) (pre := [.blk _ _, .blk _ _, .blk _ _, .blk _ _, .blk _ _]) (by intro i hi; simp only [List.mem_cons, List.not_mem_nil, or_false] at hi; rcases hi with rfl | rfl | rfl | rfl | rfl <;> exact ⟨_, _, rfl⟩)
            simp only [List.cons_append, List.nil_append] at hs
            have HS := H7 hs
            clear hs
            have HS2 := H7 HS.out.tl.tl.tl.tl.tl
            obtain ⟨hlt, hk10, h9⟩ := HLT.out
            go_wp2_with fail
            go_roundw
            case rel => exact ⟨k + 1, H, hlt, by omega, by simp, (HNH.out hD).1, (HNH.out hD).2, HS2.out⟩
            case measure => exact frM hlt (by simp)
          · have e4 : (D == 0) = false := beq_eq_false_iff_ne.2 hD
            clear hD
            have HS2 := H7 HS.out.tl.tl.tl.tl.tl
            obtain ⟨hlt, hk10, h9⟩ := HLT.out
            go_wp2_with fail
            go_roundw
            case rel => exact ⟨k + 1, G, hlt, by omega, by simp, HG.out.1, HG.out.2, HS2.out⟩
            case measure => exact frM hlt (by simp)
  · obtain rfl : k = n := by omega
    go_wp2_with fail
    go_ret
    exact ⟨rfl, HS.out.low⟩
end Go.Proofs.YteklfmacnnmomaaGreat
