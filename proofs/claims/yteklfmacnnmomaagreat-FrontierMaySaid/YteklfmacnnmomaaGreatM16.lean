/- Merged texts: FrS FrT VecJ VecK VecL VecM VecN VecW Bounds RefA RefB FrV IdC. -/
import Derived.Test.YteklfmacnnmomaaGreatM15
import Derived.Test.YteklfmacnnmomaaGreatM3
import Derived.Test.YteklfmacnnmomaaGreatM1
import Derived.Test.YteklfmacnnmomaaGreatM6
set_option linter.unusedSimpArgs false
set_option linter.unusedVariables false
/- Layer 18: wakes. -/
namespace Go.Proofs.YteklfmacnnmomaaGreat
open Go.RowKit Go.Shelf
attribute [local go_sem] Oper.semAt_some
theorem opIn_bs {F : Fence} {n : Nat} {P : Program} {w w' : World} {o : Oper} {a : Act} {K : Act → World → Prop} {Q : Exit → Act → World → Prop} (t : TypeId) (len : Nat) (parts : Array (Nat × Operand)) (ho : o.op = .buildSlice t len parts) {v : Value} (hr : (Instr.buildSlice t len (parts.map fun (i, x) => (i, a.eval x))).run P w = .ok v w') (hK : K (a.put o.dst v) w') : o.wpIn F n P a w K Q := by
 unfold Oper.wpIn
 refine ⟨?_, ?_⟩
 · simp [Oper.about, ho]
 · rw [Oper.semAt_plain F _ _ (by rw [ho]; intro c hc; cases hc)]
   simp only [execOp, ho, Sem.run_bind, hr, Result.andThen_ok]
   exact hK
theorem run_bs3 (w : World) : (Instr.buildSlice 39 3 #[(0, .agg ((markO 3 1 1).cells nilS)), (1, .agg ((markO 5 1 2).cells nilS)), (2, .agg ((markO 8 2 1).cells nilS))]).run Tryz.prog w = .ok (.slice (some ⟨w.heap.size, 0, none⟩) 3 3) (w.alloc (.cells (wkOps.flatMap encO).toArray 51)) := by kernel_rfl
theorem opIn_bs3 {F : Fence} {n : Nat} {w : World} {o : Oper} {a : Act} {K : Act → World → Prop} {Q : Exit → Act → World → Prop} (x y z : Operand) (ho : o.op = .buildSlice 39 3 #[(0, x), (1, y), (2, z)]) (hx : a.eval x = .agg ((markO 3 1 1).cells nilS)) (hy : a.eval y = .agg ((markO 5 1 2).cells nilS)) (hz : a.eval z = .agg ((markO 8 2 1).cells nilS))
 (hK : K (a.put o.dst (.slice (some ⟨w.heap.size, 0, none⟩) 3 3)) (w.alloc (.cells (wkOps.flatMap encO).toArray 51))) : o.wpIn F n Tryz.prog a w K Q := by
 refine opIn_bs _ _ _ ho ?_ hK
 simp only [List.map_toArray, List.map_cons, List.map_nil, hx, hy, hz]
 exact run_bs3 w
theorem built_log (g : Nat) : Tryz.prog.built 41 [(2, .slice (some ⟨g, 0, none⟩) 3 3)] = some (wkLog.cells (.slice (some ⟨g, 0, none⟩) 3 3)) := by kernel_rfl
theorem opIn_bdLog {F : Fence} {n : Nat} {w : World} {o : Oper} {a : Act} {K : Act → World → Prop} {Q : Exit → Act → World → Prop} (x : Operand) (ho : o.op = .build 41 #[(2, x)]) {g : Nat} (hx : a.eval x = .slice (some ⟨g, 0, none⟩) 3 3) (hK : K (a.put o.dst (.agg (wkLog.cells (.slice (some ⟨g, 0, none⟩) 3 3)))) w) : o.wpIn F n Tryz.prog a w K Q :=
 opIn_build _ _ ho _ (by simp only [List.map_toArray, List.map_cons, List.map_nil, hx]; exact built_log g) hK
theorem zero_L : (Tryz.prog.info? 41).map (·.zero) = some (some (.agg (wkLog.cells nilS))) := by kernel_rfl
theorem one_L (g : Nat) : (wkLog.cells (.slice (some ⟨g, 0, none⟩) 3 3)).all (·.oneCell') = true := by kernel_rfl
set_option maxRecDepth 100000 in
theorem mark_any (t s q : Int) (w : World) : Calls Tryz.prog 37 #[.int .u64 t, .int .i64 s, .int .u64 q] w (Gives (.agg ((markO t s q).cells nilS)) w) := by
 have HS := H7 (St.start w)
 go_enter Tryz.func37, Tryz.ntmps37
 repeat ((fail_if_success (with_reducible refine stop_at (id := 1) ?_)); (first | go_values | go_skip | go_guarded | go_step | go_upon | go_back | (simp only [Int.not_lt, Int.not_le] at *; go_simp) | (go_values <;> (try go_simp)) | (go_ite <;> go_prune <;> (try go_simp)) | (split <;> (first | (rename_i hx; exact (hx _ rfl).elim) | go_prune))))
 rw [← opZ.eq_1]
 have hs_ := (HS.out.alloc (.cells opZ 51))
 obtain ⟨w1, hw_⟩ : ∃ w1 : World, (w.alloc (.cells opZ 51)) = w1 := ⟨_, rfl⟩
 rw [hw_] at hs_
 try simp only [World.size_alloc] at hs_
 have HS := H7 hs_
 rw [hw_]
 clear hw_ hs_
 refine (wpIn_wide (n := 0)).1 ?_
 repeat (first | (refine opIn_build 51 _ rfl _ (by simpa [Act.eval] using built_mark t s q) ?_; simp only [Act.put, List.setIfInBounds_toArray, List.set_cons_succ, List.set_cons_zero]) | (refine opIn_store 51 _ _ rfl w.heap.size 51 opZ ((markO t s q).cells nilS) rfl rfl (HS.out.blockAt 0 rfl) (by kernel_rfl) rfl (by unfold OpT.cells nilS; rw [List.all_toArray]; rfl) ?_; simp only [Act.put, List.setIfInBounds_toArray, List.set_cons_succ, List.set_cons_zero]) | gi_step)
 gi_wp2_with fail
 have hs := HS.out.putRow (c' := (markO t s q).cells nilS) (pre := []) (by intro i hi; cases hi)
 simp only [List.nil_append] at hs
 go_wp2_with fail
 refine bodyPost_ret (resOne rfl rfl (hs.blockAt 0 rfl) Tryz.underlying51 rfl (by kernel_rfl)) rfl ⟨rfl, hs.low⟩
theorem wkLogV {g : Nat} {w : World} {f : Nat × Nat} (h : w.heap[g]? = some (.cells (wkOps.flatMap encO).toArray 51 f)) : LogV wkLog (.slice (some ⟨g, 0, none⟩) 3 3) w := by
 refine ⟨_, 3, rfl, ⟨rfl, .inr ⟨g, 0, 3, rfl, b7t h, fun j hj => ?_⟩, fun x hx => ?_⟩, by decide, fun s _ => Int.le_refl _⟩
 · rw [Nat.zero_add]
   refine c7b h ?_
   rw [List.getElem?_toArray]
   unfold rowC
   have hl : (wkOps.flatMap encO).length = 57 := rfl
   rw [show wkLog.ops = wkOps from rfl, List.getElem?_eq_getElem (by rw [hl]; exact hj)]
   rfl
 · have hp : ∀ t s q : Int, OkO w (markO t s q, nilS) := fun t s q => ⟨⟨none, 0, rfl, Nat.le_refl _, .inl ⟨rfl, rfl⟩⟩, by show (0 : Nat) ≤ _; omega⟩
   rcases List.mem_cons.1 hx with rfl | hx
   · exact hp _ _ _
   rcases List.mem_cons.1 hx with rfl | hx
   · exact hp _ _ _
   rcases List.mem_cons.1 hx with rfl | hx
   · exact hp _ _ _
   cases hx
theorem built_wkV : Tryz.prog.built 24 [(1, .int .u64 2), (2, .int .u64 1)] = some (lit9 wkV18) := by kernel_rfl
theorem built_wkU : Tryz.prog.built 24 [(1, .int .u64 1), (2, .int .u64 1)] = some (lit9 wkU18) := by kernel_rfl
theorem built_pl (x y : Int) (v : Nat → Int) : Tryz.prog.built 26 [(0, .bool true), (1, .int .u64 x), (2, .int .u64 y), (3, .agg (lit9 v))] = some (Plg.cells ⟨true, x, y, v⟩) := by kernel_rfl
section
variable {F : Fence} {n : Nat} {w : World} {o : Oper} {a : Act} {K : Act → World → Prop} {Q : Exit → Act → World → Prop}
theorem opIn_bdVV (ho : o.op = .build 24 #[(1, .const (.int .u64 2)), (2, .const (.int .u64 1))]) (hK : K (a.put o.dst (.agg (lit9 wkV18))) w) : o.wpIn F n Tryz.prog a w K Q :=
 opIn_build _ _ ho _ (by simp only [List.map_toArray, List.map_cons, List.map_nil]; exact built_wkV) hK
theorem opIn_bdVU (ho : o.op = .build 24 #[(1, .const (.int .u64 1)), (2, .const (.int .u64 1))]) (hK : K (a.put o.dst (.agg (lit9 wkU18))) w) : o.wpIn F n Tryz.prog a w K Q :=
 opIn_build _ _ ho _ (by simp only [List.map_toArray, List.map_cons, List.map_nil]; exact built_wkU) hK
theorem opIn_bdP4 (z : Operand) {x y : Int} (ho : o.op = .build 26 #[(0, .const (.bool true)), (1, .const (.int .u64 x)), (2, .const (.int .u64 y)), (3, z)]) {v : Nat → Int} (hz : a.eval z = .agg (lit9 v)) (hK : K (a.put o.dst (.agg (Plg.cells ⟨true, x, y, v⟩))) w) : o.wpIn F n Tryz.prog a w K Q :=
 opIn_build _ _ ho _ (by simp only [List.map_toArray, List.map_cons, List.map_nil, hz]; exact built_pl x y v) hK
end
theorem RowH.setRowH {N n b : Nat} {l : List Int} {sv : Value} {w : World} (h : RowH N n l sv w) (hb : b < N) (cells : Array Value) : RowH N n l sv (w.setRow b cells) := by
 refine ⟨h.len, h.own.kept (row := some b) ⟨rfl, rfl, rfl, by simp, fun k _ hk => setRow_other _ _ _ _ (fun e => hk (by rw [e]))⟩ ?_⟩
 refine .inr fun e => ?_
 have := (h.own.lt b e).1
 omega
theorem flatLenZ (l : List Int) : (l.flatMap encZ).length = l.length := by
 induction l with
 | nil => rfl
 | cons a l ih => rw [List.flatMap_cons, List.length_append, ih]; simp [encZ]; omega
theorem elZ_of {w : World} {g c : Nat} {l : List Int} {t : TypeId} {f : Nat × Nat} (h : w.heap[g]? = some (.cells (l.flatMap encZ).toArray t f)) : Elems w (.slice (some ⟨g, 0, none⟩) l.length c) l.length 1 (rowC encZ l) :=
 .inr ⟨g, 0, c, rfl, b7t h, fun j hj => by
  rw [Nat.zero_add]
  refine c7b h ?_
  rw [List.getElem?_toArray]
  have hl := flatLenZ l
  rw [Nat.mul_one] at hj
  unfold rowC
  rw [List.getElem?_eq_getElem (by rw [hl]; exact hj)]
  rfl⟩
theorem vecEq_self (v : Nat → Int) : vecEq v v = true := by unfold vecEq; simp
theorem trF_ok {f f' : Frt} {er : Int} (h : trE f er = 0) : trF f f' er = f' := by unfold trF; rw [if_pos h]
theorem trF_no {f f' : Frt} {er : Int} (h : trE f er ≠ 0) : trF f f' er = frZ := by unfold trF; rw [if_neg h]
set_option maxRecDepth 100000 in
set_option maxHeartbeats 800000 in
theorem wakes18_any (w : World) : Calls Tryz.prog 8 #[] w (Gives (.bool true) w) := by
 have C1 := H7 (fun w' => show Calls Tryz.prog 10 #[.agg frZ.cells, .int .i64 1] w' (Gives (.tuple #[.agg wkF1.cells, .int .i64 0]) w') from by have h := register_any frZ 1 w'; rw [trF_ok wk1, wk1] at h; exact h)
 have C2 := H7 (fun w' => show Calls Tryz.prog 10 #[.agg wkF1.cells, .int .i64 2] w' (Gives (.tuple #[.agg wkF2.cells, .int .i64 0]) w') from by have h := register_any wkF1 2 w'; rw [trF_ok wk2, wk2] at h; exact h)
 have C3n := H7 (fun (g : Nat) w' (hl : LogV wkLog (.slice (some ⟨g, 0, none⟩) 3 3) w') => show Calls Tryz.prog 15 #[.agg wkF2.cells, .agg (wkLog.cells (.slice (some ⟨g, 0, none⟩) 3 3)), .int .i64 3] w' (Gives (.tuple #[.agg frZ.cells, .int .i64 4]) w') from by have h := propose_any wkF2 wkLog _ 3 (by decide) w' hl; rw [trF_no (by rw [wk3n]; decide), wk3n] at h; exact h)
 have C3 := H7 (fun (g : Nat) w' (hl : LogV wkLog (.slice (some ⟨g, 0, none⟩) 3 3) w') => show Calls Tryz.prog 15 #[.agg wkF2.cells, .agg (wkLog.cells (.slice (some ⟨g, 0, none⟩) 3 3)), .int .i64 1] w' (Gives (.tuple #[.agg wkF3.cells, .int .i64 0]) w') from by have h := propose_any wkF2 wkLog _ 1 (by decide) w' hl; rw [trF_ok wk3, wk3] at h; exact h)
 have C4 := H7 (fun w' => show Calls Tryz.prog 11 #[.agg wkF3.cells, .int .i64 1, .agg wkPl1.cells] w' (Gives (.tuple #[.agg wkF4.cells, .int .i64 0]) w') from by have h := hear0_any wkF3 1 wkPl1 w'; rw [trF_ok wk4, wk4] at h; exact h)
 have C5 := H7 (fun w' => show Calls Tryz.prog 11 #[.agg wkF4.cells, .int .i64 2, .agg wkPl2.cells] w' (Gives (.tuple #[.agg wkF5.cells, .int .i64 0]) w') from by have h := hear0_any wkF4 2 wkPl2 w'; rw [trF_ok wk5, wk5] at h; exact h)
 have C5w := H7 (fun w' => show Calls Tryz.prog 31 #[.agg wkF5.cells, .agg (lit9 wkV18)] w' (GivesRow 3 1 1 ([(2 : Int)].flatMap encZ) w') from by have h := waits_any wkF5 wkV18 w'; rw [wk5w] at h; exact h)
 have C6 := H7 (fun w' => show Calls Tryz.prog 11 #[.agg wkF5.cells, .int .i64 2, .agg wkPl3.cells] w' (Gives (.tuple #[.agg wkF6.cells, .int .i64 0]) w') from by have h := hear0_any wkF5 2 wkPl3 w'; rw [trF_ok wk6, wk6] at h; exact h)
 have C6r := H7 (fun w' => show Calls Tryz.prog 24 #[.agg wkF6.cells, .agg (lit9 wkV18)] w' (Gives (.tuple #[.agg (lit9 wkV18), .bool true]) w') from by have h := ready_any wkF6 wkV18 w'; unfold readyV vecV at h; rw [wk6r, if_pos rfl, wk6v] at h; exact h)
 have C7 := H7 (fun w' => show Calls Tryz.prog 25 #[.agg wkF6.cells, .agg (lit9 wkV18)] w' (Gives (.tuple #[.agg wkF7.cells, .int .i64 0]) w') from by have h := fold_any wkF6 wkV18 w'; rw [trF_ok wk7, wk7] at h; exact h)
 have C8 := H7 (fun w' => show Calls Tryz.prog 36 #[.agg wkF7.cells, .slice none 0 0] w' (GivesRow 3 1 2 ([(1 : Int), 2].flatMap encZ) w') from by have h := sitesF_any wkF7 none 0 0 [] rfl (by decide) w' (.inl ⟨rfl, rfl⟩); rw [wk7s] at h; exact h)
 have D1 := H7 wk7f
 have D2 := H7 wk7b
 generalize wkF1 = F1 at *
 generalize wkF2 = F2 at *
 generalize wkF3 = F3 at *
 generalize wkF4 = F4 at *
 generalize wkF5 = F5 at *
 generalize wkF6 = F6 at *
 generalize wkF7 = F7 at *
 have HS := H7 (St.start w)
 go_enter Tryz.func8, Tryz.ntmps8
 repeat ((fail_if_success (with_reducible refine stop_at (id := 1) ?_)); (first | go_values | go_skip | go_guarded | go_step | go_upon | go_back | (simp only [Int.not_lt, Int.not_le] at *; go_simp) | (go_values <;> (try go_simp)) | (go_ite <;> go_prune <;> (try go_simp)) | (split <;> (first | (rename_i hx; exact (hx _ rfl).elim) | go_prune))))
 refine (wpIn_wide (n := 0)).1 ?_
 repeat gi_step
 refine (callsIn_wide.2 (frNew_any _)).mono ?_
 rintro e w1 ⟨rfl, hb_⟩
 have HS := H7 (HS.out.below hb_)
 clear hb_
 simp only []
 go_at_K
 repeat gi_step
 refine (callsIn_wide.2 (C1.out _)).mono ?_
 rintro e w2 ⟨rfl, hb_⟩
 have HS := H7 (HS.out.below hb_)
 clear hb_
 simp only []
 go_at_K
 repeat (first | (refine nwF rfl ?_; simp only [Act.put, List.setIfInBounds_toArray, List.set_cons_succ, List.set_cons_zero]) | (refine stNewF _ _ rfl rfl rfl rfl rfl ?_; simp only [Act.put, List.setIfInBounds_toArray, List.set_cons_succ, List.set_cons_zero]) | gi_step)
 gi_wp2_with fail
 have hs_ := (HS.out.alloc (.cells F1.cells 29))
 obtain ⟨w3, hw_⟩ : ∃ w3 : World, (w2.alloc (.cells F1.cells 29)) = w3 := ⟨_, rfl⟩
 rw [hw_] at hs_
 try simp only [World.size_alloc] at hs_
 have HS := H7 hs_
 rw [hw_]
 clear hw_ hs_
 repeat ((fail_if_success (with_reducible refine stop_at (id := 2) ?_)); (first | go_values | go_skip | go_guarded | go_step | go_upon | go_back | (simp only [Int.not_lt, Int.not_le] at *; go_simp) | (go_values <;> (try go_simp)) | (go_ite <;> go_prune <;> (try go_simp)) | (split <;> (first | (rename_i hx; exact (hx _ rfl).elim) | go_prune))))
 refine (wpIn_wide (n := 0)).1 ?_
 repeat (first | (refine ldF _ rfl rfl (HS.out.blockAt 0 rfl) ?_; simp only [Act.put, List.setIfInBounds_toArray, List.set_cons_succ, List.set_cons_zero]) | gi_step)
 refine (callsIn_wide.2 (C2.out _)).mono ?_
 rintro e w4 ⟨rfl, hb_⟩
 have HS := H7 (HS.out.below hb_)
 clear hb_
 simp only []
 go_at_K
 repeat (first | (refine stF _ _ rfl rfl (HS.out.blockAt 0 rfl) rfl rfl ?_; simp only [Act.put, List.setIfInBounds_toArray, List.set_cons_succ, List.set_cons_zero]) | gi_step)
 gi_wp2_with fail
 have hs := HS.out.putRow (c' := F2.cells) (pre := []) (by intro i hi; cases hi)
 simp only [List.cons_append, List.nil_append] at hs
 revert hs
 generalize World.setRow w4 _ F2.cells = w5
 intro hs
 have HS := H7 hs
 clear hs
 repeat ((fail_if_success (with_reducible refine stop_at (id := 3) ?_)); (first | go_values | go_skip | go_guarded | go_step | go_upon | go_back | (simp only [Int.not_lt, Int.not_le] at *; go_simp) | (go_values <;> (try go_simp)) | (go_ite <;> go_prune <;> (try go_simp)) | (split <;> (first | (rename_i hx; exact (hx _ rfl).elim) | go_prune))))
 refine (wpIn_wide (n := 0)).1 ?_
 repeat gi_step
 refine (callsIn_wide.2 (mark_any 3 1 1 _)).mono ?_
 rintro e w6 ⟨rfl, hb_⟩
 have HS := H7 (HS.out.below hb_)
 clear hb_
 simp only []
 go_at_K
 repeat gi_step
 refine (callsIn_wide.2 (mark_any 5 1 2 _)).mono ?_
 rintro e w7 ⟨rfl, hb_⟩
 have HS := H7 (HS.out.below hb_)
 clear hb_
 simp only []
 go_at_K
 repeat gi_step
 refine (callsIn_wide.2 (mark_any 8 2 1 _)).mono ?_
 rintro e w8 ⟨rfl, hb_⟩
 have HS := H7 (HS.out.below hb_)
 clear hb_
 simp only []
 go_at_K
 repeat (first | (refine opIn_bs3 _ _ _ rfl rfl rfl rfl ?_; simp only [Act.put, List.setIfInBounds_toArray, List.set_cons_succ, List.set_cons_zero]) | (refine opIn_bdLog _ rfl rfl ?_; simp only [Act.put, List.setIfInBounds_toArray, List.set_cons_succ, List.set_cons_zero]) | (refine opIn_alloc _ rfl _ zero_L ?_; simp only [Act.put, List.setIfInBounds_toArray, List.set_cons_succ, List.set_cons_zero]) | (refine opIn_storeNew 41 _ _ rfl _ _ _ _ rfl rfl rfl (size_L wkLog _) rfl (one_L _) ?_; simp only [Act.put, List.setIfInBounds_toArray, List.set_cons_succ, List.set_cons_zero]) | gi_step)
 gi_wp2_with fail
 have hs_ := (HS.out.alloc (.cells (wkOps.flatMap encO).toArray 51))
 obtain ⟨w9, hw_⟩ : ∃ w9 : World, (w8.alloc (.cells (wkOps.flatMap encO).toArray 51)) = w9 := ⟨_, rfl⟩
 rw [hw_] at hs_
 try simp only [World.size_alloc] at hs_
 have HS := H7 hs_
 rw [hw_]
 clear hw_ hs_
 have hs_ := (HS.out.alloc (.cells (wkLog.cells (.slice (some ⟨w8.heap.size, 0, none⟩) 3 3)) 41))
 obtain ⟨w10, hw_⟩ : ∃ w10 : World, (w9.alloc (.cells (wkLog.cells (.slice (some ⟨w8.heap.size, 0, none⟩) 3 3)) 41)) = w10 := ⟨_, rfl⟩
 rw [hw_] at hs_
 try simp only [World.size_alloc] at hs_
 have HS := H7 hs_
 rw [hw_]
 clear hw_ hs_
 repeat ((fail_if_success (with_reducible refine stop_at (id := 4) ?_)); (first | go_values | go_skip | go_guarded | go_step | go_upon | go_back | (simp only [Int.not_lt, Int.not_le] at *; go_simp) | (go_values <;> (try go_simp)) | (go_ite <;> go_prune <;> (try go_simp)) | (split <;> (first | (rename_i hx; exact (hx _ rfl).elim) | go_prune))))
 refine (wpIn_wide (n := 0)).1 ?_
 repeat (first | (refine ldF _ rfl rfl (HS.out.blockAt 2 rfl) ?_; simp only [Act.put, List.setIfInBounds_toArray, List.set_cons_succ, List.set_cons_zero]) | (refine ldL _ rfl rfl (HS.out.blockAt 0 rfl) ?_; simp only [Act.put, List.setIfInBounds_toArray, List.set_cons_succ, List.set_cons_zero]) | gi_step)
 refine (callsIn_wide.2 (C3n.out _ _ (wkLogV (HS.out.blockAt 1 rfl)))).mono ?_
 rintro e w11 ⟨rfl, hb_⟩
 have HS := H7 (HS.out.below hb_)
 clear hb_
 simp only []
 go_at_K
 repeat (first | (refine nwF rfl ?_; simp only [Act.put, List.setIfInBounds_toArray, List.set_cons_succ, List.set_cons_zero]) | (refine stNewF _ _ rfl rfl rfl rfl rfl ?_; simp only [Act.put, List.setIfInBounds_toArray, List.set_cons_succ, List.set_cons_zero]) | gi_step)
 gi_wp2_with fail
 have hs_ := (HS.out.alloc (.cells frZ.cells 29))
 obtain ⟨w12, hw_⟩ : ∃ w12 : World, (w11.alloc (.cells frZ.cells 29)) = w12 := ⟨_, rfl⟩
 rw [hw_] at hs_
 try simp only [World.size_alloc] at hs_
 have HS := H7 hs_
 rw [hw_]
 clear hw_ hs_
 repeat ((fail_if_success (with_reducible refine stop_at (id := 5) ?_)); (first | go_values | go_skip | go_guarded | go_step | go_upon | go_back | (simp only [Int.not_lt, Int.not_le] at *; go_simp) | (go_values <;> (try go_simp)) | (go_ite <;> go_prune <;> (try go_simp)) | (split <;> (first | (rename_i hx; exact (hx _ rfl).elim) | go_prune))))
 refine (wpIn_wide (n := 0)).1 ?_
 repeat (first | (refine ldF _ rfl rfl (HS.out.blockAt 3 rfl) ?_; simp only [Act.put, List.setIfInBounds_toArray, List.set_cons_succ, List.set_cons_zero]) | (refine ldL _ rfl rfl (HS.out.blockAt 1 rfl) ?_; simp only [Act.put, List.setIfInBounds_toArray, List.set_cons_succ, List.set_cons_zero]) | gi_step)
 refine (callsIn_wide.2 (C3.out _ _ (wkLogV (HS.out.blockAt 2 rfl)))).mono ?_
 rintro e w13 ⟨rfl, hb_⟩
 have HS := H7 (HS.out.below hb_)
 clear hb_
 simp only []
 go_at_K
 repeat (first | (refine stF _ _ rfl rfl (HS.out.blockAt 3 rfl) rfl rfl ?_; simp only [Act.put, List.setIfInBounds_toArray, List.set_cons_succ, List.set_cons_zero]) | gi_step)
 gi_wp2_with fail
 have hs := HS.out.putRow (c' := F3.cells) (pre := [.blk _ _, .blk _ _, .blk _ _]) (by intro i hi; simp only [List.mem_cons, List.not_mem_nil, or_false] at hi; rcases hi with rfl | rfl | rfl <;> exact ⟨_, _, rfl⟩)
 simp only [List.cons_append, List.nil_append] at hs
 revert hs
 generalize World.setRow w13 _ F3.cells = w14
 intro hs
 have HS := H7 hs
 clear hs
 repeat ((fail_if_success (with_reducible refine stop_at (id := 6) ?_)); (first | go_values | go_skip | go_guarded | go_step | go_upon | go_back | (simp only [Int.not_lt, Int.not_le] at *; go_simp) | (go_values <;> (try go_simp)) | (go_ite <;> go_prune <;> (try go_simp)) | (split <;> (first | (rename_i hx; exact (hx _ rfl).elim) | go_prune))))
 refine (wpIn_wide (n := 0)).1 ?_
 repeat (first | (refine opIn_bdVV rfl ?_; simp only [Act.put, List.setIfInBounds_toArray, List.set_cons_succ, List.set_cons_zero]) | (refine nwV rfl ?_; simp only [Act.put, List.setIfInBounds_toArray, List.set_cons_succ, List.set_cons_zero]) | (refine stNewV _ _ rfl rfl rfl rfl rfl ?_; simp only [Act.put, List.setIfInBounds_toArray, List.set_cons_succ, List.set_cons_zero]) | gi_step)
 gi_wp2_with fail
 have hs_ := (HS.out.alloc (.cells (lit9 wkV18) 24))
 obtain ⟨w15, hw_⟩ : ∃ w15 : World, (w14.alloc (.cells (lit9 wkV18) 24)) = w15 := ⟨_, rfl⟩
 rw [hw_] at hs_
 try simp only [World.size_alloc] at hs_
 have HS := H7 hs_
 rw [hw_]
 clear hw_ hs_
 repeat ((fail_if_success (with_reducible refine stop_at (id := 7) ?_)); (first | go_values | go_skip | go_guarded | go_step | go_upon | go_back | (simp only [Int.not_lt, Int.not_le] at *; go_simp) | (go_values <;> (try go_simp)) | (go_ite <;> go_prune <;> (try go_simp)) | (split <;> (first | (rename_i hx; exact (hx _ rfl).elim) | go_prune))))
 refine (wpIn_wide (n := 0)).1 ?_
 repeat (first | (refine ldF _ rfl rfl (HS.out.blockAt 4 rfl) ?_; simp only [Act.put, List.setIfInBounds_toArray, List.set_cons_succ, List.set_cons_zero]) | (refine ldV _ rfl rfl (HS.out.blockAt 0 rfl) ?_; simp only [Act.put, List.setIfInBounds_toArray, List.set_cons_succ, List.set_cons_zero]) | (refine opIn_bdP4 (x := 5) (y := 2) _ rfl rfl ?_; simp only [Act.put, List.setIfInBounds_toArray, List.set_cons_succ, List.set_cons_zero]) | gi_step)
 refine (callsIn_wide.2 (C4.out _)).mono ?_
 rintro e w16 ⟨rfl, hb_⟩
 have HS := H7 (HS.out.below hb_)
 clear hb_
 simp only []
 go_at_K
 repeat (first | (refine stF _ _ rfl rfl (HS.out.blockAt 4 rfl) rfl rfl ?_; simp only [Act.put, List.setIfInBounds_toArray, List.set_cons_succ, List.set_cons_zero]) | gi_step)
 gi_wp2_with fail
 have hs := HS.out.putRow (c' := F4.cells) (pre := [.blk _ _, .blk _ _, .blk _ _, .blk _ _]) (by intro i hi; simp only [List.mem_cons, List.not_mem_nil, or_false] at hi; rcases hi with rfl | rfl | rfl | rfl <;> exact ⟨_, _, rfl⟩)
 simp only [List.cons_append, List.nil_append] at hs
 revert hs
 generalize World.setRow w16 _ F4.cells = w17
 intro hs
 have HS := H7 hs
 clear hs
 repeat ((fail_if_success (with_reducible refine stop_at (id := 8) ?_)); (first | go_values | go_skip | go_guarded | go_step | go_upon | go_back | (simp only [Int.not_lt, Int.not_le] at *; go_simp) | (go_values <;> (try go_simp)) | (go_ite <;> go_prune <;> (try go_simp)) | (split <;> (first | (rename_i hx; exact (hx _ rfl).elim) | go_prune))))
 refine (wpIn_wide (n := 0)).1 ?_
 repeat (first | (refine ldF _ rfl rfl (HS.out.blockAt 4 rfl) ?_; simp only [Act.put, List.setIfInBounds_toArray, List.set_cons_succ, List.set_cons_zero]) | (refine opIn_bdVU rfl ?_; simp only [Act.put, List.setIfInBounds_toArray, List.set_cons_succ, List.set_cons_zero]) | (refine opIn_bdP4 (x := 6) (y := 1) _ rfl rfl ?_; simp only [Act.put, List.setIfInBounds_toArray, List.set_cons_succ, List.set_cons_zero]) | gi_step)
 refine (callsIn_wide.2 (C5.out _)).mono ?_
 rintro e w18 ⟨rfl, hb_⟩
 have HS := H7 (HS.out.below hb_)
 clear hb_
 simp only []
 go_at_K
 repeat (first | (refine stF _ _ rfl rfl (HS.out.blockAt 4 rfl) rfl rfl ?_; simp only [Act.put, List.setIfInBounds_toArray, List.set_cons_succ, List.set_cons_zero]) | gi_step)
 gi_wp2_with fail
 have hs := HS.out.putRow (c' := F5.cells) (pre := [.blk _ _, .blk _ _, .blk _ _, .blk _ _]) (by intro i hi; simp only [List.mem_cons, List.not_mem_nil, or_false] at hi; rcases hi with rfl | rfl | rfl | rfl <;> exact ⟨_, _, rfl⟩)
 simp only [List.cons_append, List.nil_append] at hs
 revert hs
 generalize World.setRow w18 _ F5.cells = w19
 intro hs
 have HS := H7 hs
 clear hs
 repeat ((fail_if_success (with_reducible refine stop_at (id := 9) ?_)); (first | go_values | go_skip | go_guarded | go_step | go_upon | go_back | (simp only [Int.not_lt, Int.not_le] at *; go_simp) | (go_values <;> (try go_simp)) | (go_ite <;> go_prune <;> (try go_simp)) | (split <;> (first | (rename_i hx; exact (hx _ rfl).elim) | go_prune))))
 refine (wpIn_wide (n := 0)).1 ?_
 repeat (first | (refine ldF _ rfl rfl (HS.out.blockAt 4 rfl) ?_; simp only [Act.put, List.setIfInBounds_toArray, List.set_cons_succ, List.set_cons_zero]) | (refine ldV _ rfl rfl (HS.out.blockAt 0 rfl) ?_; simp only [Act.put, List.setIfInBounds_toArray, List.set_cons_succ, List.set_cons_zero]) | gi_step)
 refine (callsIn_wide.2 (C5w.out _)).mono ?_
 rintro e w20 ⟨sv, rfl, hrow, hb_⟩
 have hz_ := HS.out.lt 4 rfl
 have HS := H7 (HS.out.below hb_)
 clear hb_
 have hr_ : RowH w19.heap.size 1 [2] sv w20 := ⟨rfl, hrow⟩
 have HZ9 := H7 hz_
 clear hz_
 obtain ⟨ra, rc, rfl⟩ := hr_.shape
 have HR := H7 hr_
 clear hrow hr_
 gi_wp2_with fail
 repeat ((fail_if_success (with_reducible refine stop_at (id := 10) ?_)); (first | go_values | go_skip | go_guarded | go_step | go_upon | go_back | (simp only [Int.not_lt, Int.not_le] at *; go_simp) | (go_values <;> (try go_simp)) | (go_ite <;> go_prune <;> (try go_simp)) | (split <;> (first | (rename_i hx; exact (hx _ rfl).elim) | go_prune))))
 refine (wpIn_wide (n := 0)).1 ?_
 repeat (first | (refine ldF _ rfl rfl (HS.out.blockAt 4 rfl) ?_; simp only [Act.put, List.setIfInBounds_toArray, List.set_cons_succ, List.set_cons_zero]) | (refine ldV _ rfl rfl (HS.out.blockAt 0 rfl) ?_; simp only [Act.put, List.setIfInBounds_toArray, List.set_cons_succ, List.set_cons_zero]) | (refine opIn_bdP4 (x := 6) (y := 9) _ rfl rfl ?_; simp only [Act.put, List.setIfInBounds_toArray, List.set_cons_succ, List.set_cons_zero]) | gi_step)
 refine (callsIn_wide.2 (C6.out _)).mono ?_
 rintro e w21 ⟨rfl, hb_⟩
 have HS := H7 (HS.out.below hb_)
 have HR := H7 (HR.out.below hb_)
 clear hb_
 simp only []
 go_at_K
 repeat (first | (refine stF _ _ rfl rfl (HS.out.blockAt 4 rfl) rfl rfl ?_; simp only [Act.put, List.setIfInBounds_toArray, List.set_cons_succ, List.set_cons_zero]) | gi_step)
 gi_wp2_with fail
 have hs := HS.out.putRow (c' := F6.cells) (pre := [.blk _ _, .blk _ _, .blk _ _, .blk _ _]) (by intro i hi; simp only [List.mem_cons, List.not_mem_nil, or_false] at hi; rcases hi with rfl | rfl | rfl | rfl <;> exact ⟨_, _, rfl⟩)
 simp only [List.cons_append, List.nil_append] at hs
 have hHR_ := HR.out.setRowH HZ9.out (F6.cells)
 revert hs hHR_
 generalize World.setRow w21 _ F6.cells = w22
 intro hs hHR_
 have HS := H7 hs
 have HR := H7 hHR_
 clear hs hHR_
 repeat ((fail_if_success (with_reducible refine stop_at (id := 11) ?_)); (first | go_values | go_skip | go_guarded | go_step | go_upon | go_back | (simp only [Int.not_lt, Int.not_le] at *; go_simp) | (go_values <;> (try go_simp)) | (go_ite <;> go_prune <;> (try go_simp)) | (split <;> (first | (rename_i hx; exact (hx _ rfl).elim) | go_prune))))
 refine (wpIn_wide (n := 0)).1 ?_
 repeat (first | (refine ldF _ rfl rfl (HS.out.blockAt 4 rfl) ?_; simp only [Act.put, List.setIfInBounds_toArray, List.set_cons_succ, List.set_cons_zero]) | (refine ldV _ rfl rfl (HS.out.blockAt 0 rfl) ?_; simp only [Act.put, List.setIfInBounds_toArray, List.set_cons_succ, List.set_cons_zero]) | gi_step)
 refine (callsIn_wide.2 (C6r.out _)).mono ?_
 rintro e w23 ⟨rfl, hb_⟩
 have HS := H7 (HS.out.below hb_)
 have HR := H7 (HR.out.below hb_)
 clear hb_
 simp only []
 go_at_K
 repeat (first | (refine nwV rfl ?_; simp only [Act.put, List.setIfInBounds_toArray, List.set_cons_succ, List.set_cons_zero]) | (refine stNewV _ _ rfl rfl rfl rfl rfl ?_; simp only [Act.put, List.setIfInBounds_toArray, List.set_cons_succ, List.set_cons_zero]) | gi_step)
 gi_wp2_with fail
 have hs_ := (HS.out.alloc (.cells (lit9 wkV18) 24))
 have hk_HR := HR.out.below ((B7 _ _).alloc (by exact Nat.le_refl _) (.cells (lit9 wkV18) 24))
 obtain ⟨w24, hw_⟩ : ∃ w24 : World, (w23.alloc (.cells (lit9 wkV18) 24)) = w24 := ⟨_, rfl⟩
 rw [hw_] at hs_ hk_HR
 try simp only [World.size_alloc] at hs_
 have HS := H7 hs_
 have HR := H7 hk_HR
 rw [hw_]
 clear hw_ hs_ hk_HR
 repeat ((fail_if_success (with_reducible refine stop_at (id := 12) ?_)); (first | go_values | go_skip | go_guarded | go_step | go_upon | go_back | (simp only [Int.not_lt, Int.not_le] at *; go_simp) | (go_values <;> (try go_simp)) | (go_ite <;> go_prune <;> (try go_simp)) | (split <;> (first | (rename_i hx; exact (hx _ rfl).elim) | go_prune))))
 refine (wpIn_wide (n := 0)).1 ?_
 repeat (first | (refine ldF _ rfl rfl (HS.out.blockAt 5 rfl) ?_; simp only [Act.put, List.setIfInBounds_toArray, List.set_cons_succ, List.set_cons_zero]) | (refine ldV _ rfl rfl (HS.out.blockAt 1 rfl) ?_; simp only [Act.put, List.setIfInBounds_toArray, List.set_cons_succ, List.set_cons_zero]) | gi_step)
 refine (callsIn_wide.2 (C7.out _)).mono ?_
 rintro e w25 ⟨rfl, hb_⟩
 have HS := H7 (HS.out.below hb_)
 have HR := H7 (HR.out.below hb_)
 clear hb_
 simp only []
 go_at_K
 repeat (first | (refine stF _ _ rfl rfl (HS.out.blockAt 5 rfl) rfl rfl ?_; simp only [Act.put, List.setIfInBounds_toArray, List.set_cons_succ, List.set_cons_zero]) | gi_step)
 gi_wp2_with fail
 have hs := HS.out.putRow (c' := F7.cells) (pre := [.blk _ _, .blk _ _, .blk _ _, .blk _ _, .blk _ _]) (by intro i hi; simp only [List.mem_cons, List.not_mem_nil, or_false] at hi; rcases hi with rfl | rfl | rfl | rfl | rfl <;> exact ⟨_, _, rfl⟩)
 simp only [List.cons_append, List.nil_append] at hs
 have hHR_ := HR.out.setRowH HZ9.out (F7.cells)
 revert hs hHR_
 generalize World.setRow w25 _ F7.cells = w26
 intro hs hHR_
 have HS := H7 hs
 have HR := H7 hHR_
 clear hs hHR_
 repeat ((fail_if_success (with_reducible refine stop_at (id := 13) ?_)); (first | go_values | go_skip | go_guarded | go_step | go_upon | go_back | (simp only [Int.not_lt, Int.not_le] at *; go_simp) | (go_values <;> (try go_simp)) | (go_ite <;> go_prune <;> (try go_simp)) | (split <;> (first | (rename_i hx; exact (hx _ rfl).elim) | go_prune))))
 refine (wpIn_wide (n := 0)).1 ?_
 repeat gi_step
 have hs_ := (HS.out.alloc (.cells #[.int .i64 2] 3))
 have hk_HR := HR.out.below ((B7 _ _).alloc (by exact Nat.le_refl _) (.cells #[.int .i64 2] 3))
 obtain ⟨w27, hw_⟩ : ∃ w27 : World, (w26.alloc (.cells #[.int .i64 2] 3)) = w27 := ⟨_, rfl⟩
 rw [hw_] at hs_ hk_HR
 try simp only [World.size_alloc] at hs_
 have HS := H7 hs_
 have HR := H7 hk_HR
 rw [hw_]
 clear hw_ hs_ hk_HR
 refine (callsIn_wide.2 (eqZ_any _ _ 1 1 _ 1 [2] [2] rfl rfl (by decide) _ HR.out.el (elZ_of (l := [2]) (HS.out.blockAt 0 rfl)))).mono ?_
 rintro e w28 ⟨rfl, hb_⟩
 have HS := H7 (HS.out.below hb_)
 have HR := H7 (HR.out.below hb_)
 clear hb_
 rw [show decide (([2] : List Int) = [2]) = true from rfl]
 have q := Frt.foldedC (HS.out.blockAt 6 rfl)
 rw [D1.out] at q
 simp only []
 go_at_K
 repeat (first | (refine ldV _ rfl rfl (HS.out.blockAt 1 rfl) ?_; simp only [Act.put, List.setIfInBounds_toArray, List.set_cons_succ, List.set_cons_zero]) | (refine ldV _ rfl rfl (HS.out.blockAt 2 rfl) ?_; simp only [Act.put, List.setIfInBounds_toArray, List.set_cons_succ, List.set_cons_zero]) | (refine ldBy _ rfl rfl (HS.out.blockAt 6 rfl) ?_; simp only [Act.put, List.setIfInBounds_toArray, List.set_cons_succ, List.set_cons_zero]) | (refine ldF _ rfl rfl (HS.out.blockAt 6 rfl) ?_; simp only [Act.put, List.setIfInBounds_toArray, List.set_cons_succ, List.set_cons_zero]) | (refine eqV' _ _ _ rfl rfl rfl (vecEq_self wkV18) ?_; simp only [Act.put, List.setIfInBounds_toArray, List.set_cons_succ, List.set_cons_zero]) | (refine eqV' _ _ _ rfl rfl rfl D2.out ?_; simp only [Act.put, List.setIfInBounds_toArray, List.set_cons_succ, List.set_cons_zero]) | gi_step)
 clear q
 refine (callsIn_wide.2 (C8.out _)).mono ?_
 rintro e w29 ⟨sv, rfl, hrow, hb_⟩
 have hz_ := HS.out.lt 6 rfl
 have HS := H7 (HS.out.below hb_)
 have HR := H7 (HR.out.below hb_)
 clear hb_
 have hr_ : RowH w28.heap.size 2 [1, 2] sv w29 := ⟨rfl, hrow⟩
 clear hz_
 obtain ⟨sa, sc, rfl⟩ := hr_.shape
 have HR2 := H7 hr_
 clear hrow hr_
 simp only []
 go_at_K
 repeat gi_step
 have hs_ := (HS.out.alloc (.cells #[.int .i64 1, .int .i64 2] 3))
 have hk_HR := HR.out.below ((B7 _ _).alloc (by exact Nat.le_refl _) (.cells #[.int .i64 1, .int .i64 2] 3))
 have hk_HR2 := HR2.out.below ((B7 _ _).alloc (by exact Nat.le_refl _) (.cells #[.int .i64 1, .int .i64 2] 3))
 obtain ⟨w30, hw_⟩ : ∃ w30 : World, (w29.alloc (.cells #[.int .i64 1, .int .i64 2] 3)) = w30 := ⟨_, rfl⟩
 rw [hw_] at hs_ hk_HR hk_HR2
 try simp only [World.size_alloc] at hs_
 have HS := H7 hs_
 have HR := H7 hk_HR
 have HR2 := H7 hk_HR2
 rw [hw_]
 clear hw_ hs_ hk_HR hk_HR2
 refine (callsIn_wide.2 (eqZ_any _ _ 2 2 _ 2 [1, 2] [1, 2] rfl rfl (by decide) _ HR2.out.el (elZ_of (l := [1, 2]) (HS.out.blockAt 0 rfl)))).mono ?_
 rintro e w31 ⟨rfl, hb_⟩
 have HS := H7 (HS.out.below hb_)
 have HR := H7 (HR.out.below hb_)
 have HR2 := H7 (HR2.out.below hb_)
 clear hb_
 rw [show decide (([1, 2] : List Int) = [1, 2]) = true from rfl]
 gi_wp2_with (exfalso; exact undefB (by assumption))
 go_wp2_with fail
 go_ret
 exact ⟨rfl, HS.out.low⟩
end Go.Proofs.YteklfmacnnmomaaGreat
/- Layer 18: plain laws of frontiers. -/
namespace Go.Proofs.YteklfmacnnmomaaGreat
open Go.RowKit Go.Shelf
theorem okB_parts {f : Frt} (h : f.okB = true) : f.folded ≤ MaxT ∧ vecOk f.by_ = true ∧ propOk f = true ∧ ∀ k, k < 9 → sitOk f k = true := by
 unfold Frt.okB at h
 rw [Bool.and_eq_true, Bool.and_eq_true, Bool.and_eq_true, decide_eq_true_eq] at h
 exact ⟨h.1.1.1, h.1.1.2, h.1.2, fun k hk => List.all_eq_true.1 h.2 k (List.mem_range.2 hk)⟩
theorem plEq_in {p : Plg} (h : p.inn = true) : plEq p plZ = false := by
 unfold plEq
 rw [h]; rfl
theorem sitOk_in {f : Frt} {k : Nat} (h : sitOk f k = true) (hi : (f.site k).inn = true) : siteB (k : Int) = true ∧ pledgeOk (f.site k) = true ∧ f.folded ≤ (f.site k).floor := by
 unfold sitOk at h
 rw [plEq_in hi, Bool.false_or, Bool.and_eq_true, Bool.and_eq_true, decide_eq_true_eq] at h
 exact ⟨h.1.1, h.1.2, h.2⟩
theorem sitOk_out {f : Frt} {k : Nat} (h : sitOk f k = true) (hi : (f.site k).inn = false) : plEq (f.site k) plZ = true := by
 unfold sitOk at h
 rw [Bool.or_eq_true] at h
 rcases h with h | h
 · exact h
 · rw [Bool.and_eq_true, Bool.and_eq_true] at h
   have := h.1.2
   unfold pledgeOk at this
   rw [hi] at this
   cases this
theorem rise_site (f : Frt) (k : Nat) : (riseF f).site k = if k ∈ regL f then plIn f.folded else f.site k := rfl
theorem okB_site0 {f : Frt} (h : f.okB = true) : (f.site 0).inn = false := by
 cases hx : (f.site 0).inn
 · rfl
 · have := (sitOk_in ((okB_parts h).2.2.2 0 (by omega)) hx).1
   cases this
/- Package vector: take. -/
/- Package vector: With. -/
end Go.Proofs.YteklfmacnnmomaaGreat
/- Package vector: Lacks. -/
namespace Go.Proofs.YteklfmacnnmomaaGreat
open Go.RowKit Go.Shelf
attribute [local go_sem] Oper.semAt_some
structure StrT where
 site : Int
 fr : Int
 upto : Int
def StrT.cells (s : StrT) : List Value := [.int .i64 s.site, .int .u64 s.fr, .int .u64 s.upto]
end Go.Proofs.YteklfmacnnmomaaGreat
/- Package vector: Many; the library's Equal on rows of stretches. -/
namespace Go.Proofs.YteklfmacnnmomaaGreat
open Go.RowKit Go.Shelf
/- The library's Equal on rows of stretches. -/
/- The statements' first lines: the layer does something. -/
/- VectorBounds: the plain law, and the walk. -/
theorem covers_iff (x y : Nat → Int) : covers x y = true ↔ vecOk x = true ∧ vecOk y = true ∧ ∀ k, k < 9 → y k ≤ x k := by
 unfold covers
 simp only [Bool.and_eq_true, vecEq_iff, and_assoc]
 refine and_congr_right fun _ => and_congr_right fun _ => forall_congr' fun k => imp_congr_right fun _ => ?_
 omega
theorem vecOk_iff (v : Nat → Int) : vecOk v = true ↔ v 0 = 0 ∧ ∀ k, 1 ≤ k → k < 9 → v k ≤ MaxT := by
 unfold vecOk
 rw [Bool.and_eq_true, sitesOk_iff, decide_eq_true_iff]
section plain
variable {a b c : Nat → Int}
end plain
end Go.Proofs.YteklfmacnnmomaaGreat
/- The document's answer for vectors: Right. -/
namespace Go.Proofs.YteklfmacnnmomaaGreat
open Go.RowKit Go.Shelf
/-- What Right asks of one site. -/
def siteRight (v : Nat → Int) (k : Nat) : Prop := v k ≤ MaxT ∧ (k = 0 → v k = 0)
theorem right_iff (v : Nat → Int) : vecOk v = true ↔ ∀ k, k < 9 → siteRight v k := by
 rw [vecOk_iff]
 unfold siteRight MaxT
 constructor
 · rintro ⟨h0, h⟩ k hk
   rcases Nat.eq_zero_or_pos k with rfl | h1
   · omega
   · have := h k h1 hk; omega
 · intro h
   refine ⟨(h 0 (by omega)).2 rfl, fun k h1 h9 => (h k h9).1⟩
set_option maxRecDepth 100000 in
set_option maxHeartbeats 1000000 in
theorem right_any (v : Nat → Int) (w : World) : Calls Tryz.prog 23 #[vecV v] w (Gives (.bool (vecOk v)) w) := by
 go_enter Tryz.func23, Tryz.ntmps23
 simp only [vecV, lit9]
 go_wp2_with fail
 have hB : Below w.heap.size w (w.alloc (.cells (lit9 v) 24)) := (B7 _ _).alloc (Nat.le_refl _) _
 have HB := H7 hB
 clear hB
 go_loopw [6] (fun i wr => ∃ k : Nat, k ≤ 9 ∧ i = .int .i64 k ∧ (∀ j, j < k → siteRight v j) ∧ Below w.heap.size w wr) (fun i _ => 9 - (intOf i).toNat)
 case atStart => exact ⟨0, Nat.zero_le _, rfl, (fun j hj => absurd hj (by omega)), HB.out⟩
 case round =>
  obtain ⟨k, hk, rfl, hall, hb⟩ := hrel
  clear HB
  have HB := H7 hb
  have Hall := H7 hall
  clear hb hall
  by_cases hk9 : k < 9
  · obtain ⟨i0, hin, _, hz1, _⟩ := info_parts info22
    have hg := fun w => run_index_int w 24 22 9 .u64 i0 Tryz.underlying24 Tryz.underlying22 hin hz1 _ k _ hk9 (lit9_get v k hk9)
    unfold lit9 at hg
    have hki : (k : Int) < 9 := by omega
    by_cases h1 : 4611686018427387904 < v k
    · have hno : vecOk v = false := by
       cases h : vecOk v with
       | false => rfl
       | true => have := ((right_iff v).1 h k hk9).1; unfold MaxT at this; omega
      have Hno := H7 hno
      clear hno
      go_wp2_with fail
      go_ret
      exact ⟨by rw [Hno.out]; rfl, HB.out⟩
    · have h1' : ¬ 4611686018427387904 < v k := h1
      by_cases h2 : k = 0
      · subst h2
        have hg0 : ∀ w, (Instr.index 24 (.agg (lit9 v)) (.int .i64 0)).run Tryz.prog w = .ok (.int .u64 (v 0)) w := fun w => run_index9 v 0 (by omega) w
        unfold lit9 at hg0
        clear hg
        by_cases h3 : v 0 = 0
        · rw [h3] at hg0
          go_wp2_with fail
          go_roundw
          case rel => exact ⟨1, by omega, by go_num, fun j hj => by rw [show j = 0 from by omega]; unfold siteRight MaxT; omega, HB.out⟩
          case measure => simp [intOf]
        · have hno : vecOk v = false := by
           cases h : vecOk v with
           | false => rfl
           | true => have := ((right_iff v).1 h 0 hk9).2 rfl; omega
          have Hno := H7 hno
          clear hno
          go_wp2_with fail
          go_ret
          exact ⟨by rw [Hno.out]; rfl, HB.out⟩
      · have h2i : ¬ (k : Int) = 0 := by omega
        go_wp2_with fail
        go_roundw
        case rel => exact ⟨k + 1, by omega, by go_num, fun j hj => by rcases Nat.lt_or_eq_of_le (Nat.lt_succ_iff.1 hj) with h | rfl; exact Hall.out j h; unfold siteRight MaxT; omega, HB.out⟩
        case measure => simp [intOf]; omega
  · obtain rfl : k = 9 := by omega
    have hyes : vecOk v = true := (right_iff v).2 Hall.out
    have Hyes := H7 hyes
    clear hyes
    go_wp2_with fail
    go_ret
    exact ⟨by rw [Hyes.out]; rfl, HB.out⟩
/- The document's answer for vectors: Covers. -/
set_option maxRecDepth 100000 in
set_option maxHeartbeats 1000000 in
theorem refCovers_any (a b : Nat → Int) (w : World) : Calls Tryz.prog 56 #[vecV a, vecV b] w (Gives (.bool (covers a b)) w) := by
 go_enter Tryz.func56, Tryz.ntmps56
 simp only [vecV, lit9]
 go_wp2_with fail
 have hB : Below w.heap.size w ((w.alloc (.cells (lit9 a) 24)).alloc (.cells (lit9 b) 24)) := ((B7 _ _).alloc (Nat.le_refl _) _).alloc (by simp) _
 have ha := heap_alloc_keeps (World.alloc_heap_new w (.cells (lit9 a) 24)) (.cells (lit9 b) 24)
 have hb := newBlock (w.alloc (.cells (lit9 a) 24)) (.cells (lit9 b) 24) (w.heap.size + 1) (by simp)
 have HB := H7 hB
 have HA := H7 ha
 have Hb := H7 hb
 clear hB ha hb
 go_loopw [8] (fun i wr => ∃ k : Nat, k ≤ 9 ∧ i = .int .i64 k ∧ (∀ j, j < k → b j ≤ a j) ∧ Below w.heap.size w wr ∧ wr.heap[w.heap.size]? = some (.cells (lit9 a) 24 (0, 0)) ∧ wr.heap[w.heap.size + 1]? = some (.cells (lit9 b) 24 (0, 0))) (fun i _ => 9 - (intOf i).toNat)
 case atStart => exact ⟨0, Nat.zero_le _, rfl, (fun j hj => absurd hj (by omega)), HB.out, HA.out, Hb.out⟩
 case round =>
  obtain ⟨k, hk, rfl, hall, hB, ha, hb⟩ := hrel
  clear HB HA Hb
  have HB := H7 hB
  have HA := H7 ha
  have Hb := H7 hb
  have Hall := H7 hall
  clear hB ha hb hall
  by_cases hk9 : k < 9
  · have hg := fun w => run_index9 b k hk9 w
    unfold lit9 at hg
    have ck := c7b HA.out (lit9_get a k hk9)
    have hki : (k : Int) < 9 := by omega
    by_cases h1 : a k < b k
    · have hno : covers a b = false := by
       cases h : covers a b with
       | false => rfl
       | true => have := ((covers_iff a b).1 h).2.2 k hk9; omega
      have Hno := H7 hno
      clear hno
      go_wp2_with fail
      go_ret
      exact ⟨by rw [Hno.out]; rfl, HB.out⟩
    · go_wp2_with fail
      go_roundw
      case rel => exact ⟨k + 1, by omega, by go_num, fun j hj => by rcases Nat.lt_or_eq_of_le (Nat.lt_succ_iff.1 hj) with h | rfl; exact Hall.out j h; omega, HB.out, HA.out, Hb.out⟩
      case measure => simp [intOf]; omega
  · obtain rfl : k = 9 := by omega
    have ha := HA.out
    have hb := Hb.out
    obtain ⟨a0, a1, a2, a3, a4, a5, a6, a7, a8⟩ := vec9 ha
    clear ha hb
    have hcov : covers a b = (vecOk a && vecOk b) := by
     rw [Bool.eq_iff_iff, covers_iff, Bool.and_eq_true]
     exact ⟨fun h => ⟨h.1, h.2.1⟩, fun h => ⟨h.1, h.2, Hall.out⟩⟩
    have Hcov := H7 hcov
    clear hcov
    go_wp2_with fail
    refine (right_any a _).mono ?_
    rintro e w2 ⟨rfl, hb2⟩
    have hb := (hb2.block _ (b7t Hb.out)).trans Hb.out
    have HB := H7 (HB.out.trans (hb2.mono HB.out.size))
    obtain ⟨b0, b1, b2, b3, b4, b5, b6, b7, b8⟩ := vec9 hb
    clear a0 a1 a2 a3 a4 a5 a6 a7 a8 hb hb2
    cases hva : vecOk a
    · go_wp2_with fail
      go_ret
      exact ⟨by rw [Hcov.out, hva]; rfl, HB.out⟩
    · go_wp2_with fail
      refine (right_any b _).mono ?_
      rintro e w3 ⟨rfl, hb3⟩
      go_wp2_with fail
      go_ret
      exact ⟨by rw [Hcov.out, hva]; rfl, HB.out.trans (hb3.mono HB.out.size)⟩
end Go.Proofs.YteklfmacnnmomaaGreat
/- Layer 18: the document's Pledge, Asked. -/
namespace Go.Proofs.YteklfmacnnmomaaGreat
open Go.RowKit Go.Shelf
attribute [local go_sem] Oper.semAt_some
set_option maxRecDepth 100000 in
set_option maxHeartbeats 2000000 in
theorem r18Pledge_any (p : Plg) (w : World) : Calls Tryz.prog 38 #[.agg p.cells] w (Gives (.bool (pledgeOk p)) w) := by
 have HS := H7 (St.start w)
 have HV := H7 (fun w' => right_any p.has w')
 obtain ⟨R, hR⟩ : ∃ R, pledgeOk p = R := ⟨_, rfl⟩
 rw [hR]
 unfold pledgeOk at hR
 go_enter Tryz.func38, Tryz.ntmps38
 repeat ((fail_if_success (with_reducible refine stop_at (id := 1) ?_)); (first | go_values | go_skip | go_guarded | go_step | go_upon | go_back | (simp only [Int.not_lt, Int.not_le] at *; go_simp) | (go_values <;> (try go_simp)) | (go_ite <;> go_prune <;> (try go_simp)) | (split <;> (first | (rename_i hx; exact (hx _ rfl).elim) | go_prune))))
 have hs_ := (HS.out.alloc (.cells p.cells 26))
 obtain ⟨w1, hw_⟩ : ∃ w1 : World, (w.alloc (.cells p.cells 26)) = w1 := ⟨_, rfl⟩
 rw [hw_] at hs_
 try simp only [World.size_alloc] at hs_
 have HS := H7 hs_
 rw [hw_]
 clear hw_ hs_
 obtain ⟨q0, q1, q2⟩ := plgCells (HS.out.blockAt 0 rfl)
 cases h0 : p.inn with
 | false =>
  rw [h0] at q0 hR
  have HE := H7 (show R = false from by rw [← hR]; rfl)
  clear hR h0
  refine (wpIn_wide (n := 0)).1 ?_
  gi_wp2_with (exfalso; exact undefB (by assumption))
  go_wp2_with fail
  rw [HE.out]
  go_ret
  exact ⟨rfl, HS.out.low⟩
 | true =>
  rw [h0] at q0 hR
  by_cases h1 : p.floor ≤ MaxT
  · rw [decide_eq_true h1] at hR
    have e1 : decide (p.floor ≤ 4611686018427387904) = true := decide_eq_true h1
    by_cases h2 : p.seq ≤ MaxT
    · have e2 : decide (p.seq ≤ 4611686018427387904) = true := decide_eq_true h2
      rw [decide_eq_true h2] at hR
      obtain ⟨m, hm⟩ : ∃ m, vecOk p.has = m := ⟨_, rfl⟩
      rw [hm] at HV hR
      have HE := H7 (show R = m from by rw [← hR]; rfl)
      clear hm h0 h1 h2 hR
      refine (wpIn_wide (n := 0)).1 ?_
      repeat (first | (refine ldHas _ rfl rfl (HS.out.blockAt 0 rfl) ?_; simp only [Act.put, List.setIfInBounds_toArray, List.set_cons_succ, List.set_cons_zero]) | gi_step)
      refine (callsIn_wide.2 (HV.out _)).mono ?_
      rintro e w2 ⟨rfl, hb_⟩
      have HS := H7 (HS.out.below hb_)
      clear hb_ HV
      gi_wp2_with (exfalso; exact undefB (by assumption))
      go_wp2_with fail
      rw [HE.out]
      go_ret
      exact ⟨rfl, HS.out.low⟩
    · have e2 : decide (p.seq ≤ 4611686018427387904) = false := decide_eq_false h2
      rw [decide_eq_false h2] at hR
      have HE := H7 (show R = false from by rw [← hR]; rfl)
      clear hR h0 h1 h2
      refine (wpIn_wide (n := 0)).1 ?_
      gi_wp2_with (exfalso; exact undefB (by assumption))
      go_wp2_with fail
      rw [HE.out]
      go_ret
      exact ⟨rfl, HS.out.low⟩
  · have e1 : decide (p.floor ≤ 4611686018427387904) = false := decide_eq_false h1
    rw [decide_eq_false h1] at hR
    have HE := H7 (show R = false from by rw [← hR]; rfl)
    clear hR h0 h1
    refine (wpIn_wide (n := 0)).1 ?_
    gi_wp2_with (exfalso; exact undefB (by assumption))
    go_wp2_with fail
    rw [HE.out]
    go_ret
    exact ⟨rfl, HS.out.low⟩
/-- What the first k sites ask for. -/
def askN (f : Frt) (k : Nat) : Nat → Int := fun s => if s < k then (f.site s).seq else 0
theorem askN_succ (f : Frt) (k : Nat) : upd (askN f k) k (f.site k).seq = askN f (k + 1) := by
 funext s
 unfold upd askN
 by_cases h : s = k
 · subst h; simp
 · rw [if_neg h]
   by_cases h2 : s < k
   · rw [if_pos h2, if_pos (by omega)]
   · rw [if_neg h2, if_neg (by omega)]
def askR (f : Frt) : Nat → Int := fun s => (f.site s).seq
theorem askN_all (f : Frt) : lit9 (askN f 9) = lit9 (askR f) := lit9_ext fun s hs => by unfold askN askR; rw [if_pos hs]
set_option maxRecDepth 100000 in
set_option maxHeartbeats 2000000 in
theorem r18Asked_any (f : Frt) (w : World) : Calls Tryz.prog 28 #[.agg f.cells] w (Gives (vecV (askR f)) w) := by
 have HS := H7 (St.start w)
 go_enter Tryz.func28, Tryz.ntmps28
 repeat ((fail_if_success (with_reducible refine stop_at (id := 2) ?_)); (first | go_values | go_skip | go_guarded | go_step | go_upon | go_back | (simp only [Int.not_lt, Int.not_le] at *; go_simp) | (go_values <;> (try go_simp)) | (go_ite <;> go_prune <;> (try go_simp)) | (split <;> (first | (rename_i hx; exact (hx _ rfl).elim) | go_prune))))
 rw [show (#[.int .u64 0, .int .u64 0, .int .u64 0, .int .u64 0, .int .u64 0, .int .u64 0, .int .u64 0, .int .u64 0, .int .u64 0] : Array Value) = lit9 (fun _ => 0) from rfl]
 have hs_ := (((HS.out.alloc (.cells f.cells 29)).alloc (.cells (lit9 fun _ => 0) 24)).alloc (.cells (lit9 fun _ => 0) 24))
 obtain ⟨w1, hw_⟩ : ∃ w1 : World, (((w.alloc (.cells f.cells 29)).alloc (.cells (lit9 fun _ => 0) 24)).alloc (.cells (lit9 fun _ => 0) 24)) = w1 := ⟨_, rfl⟩
 rw [hw_] at hs_
 try simp only [World.size_alloc] at hs_
 have HS := H7 hs_
 rw [hw_]
 clear hw_ hs_
 refine (wpIn_wide (n := 0)).1 ?_
 repeat (first | (refine ldSites _ rfl rfl (HS.out.blockAt 2 rfl) ?_; simp only [Act.put, List.setIfInBounds_toArray, List.set_cons_succ, List.set_cons_zero]) | gi_step)
 gi_wp2_with fail
 go_wp2_with fail
 go_loopw [8] (fun i wr => ∃ k : Nat, k ≤ 9 ∧ i = .int .i64 (k : Int) ∧ St w [.blk (w.heap.size + 1 + 1) (.cells (lit9 (askN f k)) 24 (0, 0)), .blk (w.heap.size + 1) (.cells (lit9 fun _ => 0) 24 (0, 0)), .blk w.heap.size (.cells f.cells 29 (0, 0))] wr) (fun i _ => 9 - (intOf i).toNat)
 case atStart => exact ⟨0, by omega, rfl, HS.out⟩
 case round =>
  obtain ⟨k, hk, rfl, hs⟩ := hrel
  clear HS
  have HS := H7 hs
  clear hs
  by_cases hlt : k < 9
  · have HLT := H7 hlt
    repeat ((fail_if_success (with_reducible refine stop_at (id := 4) ?_)); (first | go_values | go_skip | go_guarded | go_step | go_upon | go_back | (simp only [Int.not_lt, Int.not_le] at *; go_simp) | (go_values <;> (try go_simp)) | (go_ite <;> go_prune <;> (try go_simp)) | (split <;> (first | (rename_i hx; exact (hx _ rfl).elim) | go_prune))))
    refine (wpIn_wide (n := 0)).1 ?_
    repeat (first | (refine ixS _ _ rfl rfl rfl HLT.out ?_; simp only [Act.put, List.setIfInBounds_toArray, List.set_cons_succ, List.set_cons_zero]) | (refine nwP rfl ?_; simp only [Act.put, List.setIfInBounds_toArray, List.set_cons_succ, List.set_cons_zero]) | (refine stNewP _ _ rfl rfl rfl rfl rfl ?_; simp only [Act.put, List.setIfInBounds_toArray, List.set_cons_succ, List.set_cons_zero]) | gi_step)
    gi_wp2_with fail
    have hs_ := (HS.out.alloc (.cells (f.site k).cells 26))
    obtain ⟨w4, hw_⟩ : ∃ w4 : World, (wr.alloc (.cells (f.site k).cells 26)) = w4 := ⟨_, rfl⟩
    rw [hw_] at hs_
    try simp only [World.size_alloc] at hs_
    have HS := H7 hs_
    rw [hw_]
    clear hw_ hs_
    have c2 := (plgCells (HS.out.blockAt 0 rfl)).2.2
    have hv := HS.out.blockAt 1 rfl
    have c0 := c7b hv (lit9_get _ _ HLT.out)
    have f0 := f7b hv k
    have hs := HS.out.putAt (pre := [.blk _ _]) (by intro i hi; exact ⟨_, _, List.mem_singleton.1 hi⟩) k (.int .u64 (f.site k).seq) (lit9_set _ _ _ HLT.out)
    rw [askN_succ] at hs
    simp only [List.cons_append, List.nil_append] at hs
    have HS2 := H7 hs.tl
    clear hs hv
    go_wp2_with fail
    go_roundw
    case rel => exact ⟨k + 1, HLT.out, by simp, HS2.out⟩
    case measure => exact frM HLT.out (by simp)
  · obtain rfl : k = 9 := by omega
    rw [askN_all] at HS
    repeat ((fail_if_success (with_reducible refine stop_at (id := 7) ?_)); (first | go_values | go_skip | go_guarded | go_step | go_upon | go_back | (simp only [Int.not_lt, Int.not_le] at *; go_simp) | (go_values <;> (try go_simp)) | (go_ite <;> go_prune <;> (try go_simp)) | (split <;> (first | (rename_i hx; exact (hx _ rfl).elim) | go_prune))))
    refine (wpIn_wide (n := 0)).1 ?_
    repeat (first | (refine ldV _ rfl rfl (HS.out.blockAt 0 rfl) ?_; simp only [Act.put, List.setIfInBounds_toArray, List.set_cons_succ, List.set_cons_zero]) | (refine stV _ _ rfl rfl (HS.out.blockAt 1 rfl) rfl rfl ?_; simp only [Act.put, List.setIfInBounds_toArray, List.set_cons_succ, List.set_cons_zero]) | gi_step)
    gi_wp2_with fail
    have hs := HS.out.putRow (c' := lit9 (askR f)) (pre := [.blk _ _]) (by intro i hi; exact ⟨_, _, List.mem_singleton.1 hi⟩)
    simp only [List.cons_append, List.nil_append] at hs
    go_wp2_with fail
    refine bodyPost_ret (resVf rfl rfl (hs.blockAt 1 rfl)) rfl ⟨rfl, hs.low⟩
end Go.Proofs.YteklfmacnnmomaaGreat
/- The document's answer for ids: Right, Less. Package ident: Less. -/
namespace Go.Proofs.YteklfmacnnmomaaGreat
open Go.RowKit Go.Shelf
end Go.Proofs.YteklfmacnnmomaaGreat
