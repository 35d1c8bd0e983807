/- Merged texts: FrS FrT. -/
import Derived.Test.YteklfmacnnmomaaGreatM15
set_option linter.unusedSimpArgs false
set_option linter.unusedVariables false
/- Layer 18: wakes. -/
namespace Go.Proofs.YteklfmacnnmomaaGreat
open Go.RowKit Go.Shelf
attribute [local go_sem] Oper.semAt_some
theorem opIn_bs {F : Fence} {n : Nat} {P : Program} {w w' : World} {o : Oper} {a : Act} {K : Act → World → Prop} {Q : Exit → Act → World → Prop} (t : TypeId) (len : Nat) (parts : Array (Nat × Operand)) (ho : o.op = .buildSlice t len parts) {v : Value} (hr : (Instr.buildSlice t len (parts.map fun (i, x) => (i, a.eval x))).run P w = .ok v w') (hK : K (a.put o.dst v) w') : o.wpIn F n P a w K Q := by
 unfold Oper.wpIn
 refine ⟨?_, ?_⟩
 · simp [Oper.about, ho]
 · rw [Oper.semAt_plain F _ _ (by rw [ho]; intro c hc; cases hc)]
   simp only [execOp, ho, Sem.run_bind, hr, Result.andThen_ok]
   exact hK
theorem run_bs3 (w : World) : (Instr.buildSlice 39 3 #[(0, .agg ((markO 3 1 1).cells nilS)), (1, .agg ((markO 5 1 2).cells nilS)), (2, .agg ((markO 8 2 1).cells nilS))]).run Tryz.prog w = .ok (.slice (some ⟨w.heap.size, 0, none⟩) 3 3) (w.alloc (.cells (wkOps.flatMap encO).toArray 51)) := by kernel_rfl
theorem opIn_bs3 {F : Fence} {n : Nat} {w : World} {o : Oper} {a : Act} {K : Act → World → Prop} {Q : Exit → Act → World → Prop} (x y z : Operand) (ho : o.op = .buildSlice 39 3 #[(0, x), (1, y), (2, z)]) (hx : a.eval x = .agg ((markO 3 1 1).cells nilS)) (hy : a.eval y = .agg ((markO 5 1 2).cells nilS)) (hz : a.eval z = .agg ((markO 8 2 1).cells nilS))
 (hK : K (a.put o.dst (.slice (some ⟨w.heap.size, 0, none⟩) 3 3)) (w.alloc (.cells (wkOps.flatMap encO).toArray 51))) : o.wpIn F n Tryz.prog a w K Q := by
 refine opIn_bs _ _ _ ho ?_ hK
 simp only [List.map_toArray, List.map_cons, List.map_nil, hx, hy, hz]
 exact run_bs3 w
theorem built_log (g : Nat) : Tryz.prog.built 41 [(2, .slice (some ⟨g, 0, none⟩) 3 3)] = some (wkLog.cells (.slice (some ⟨g, 0, none⟩) 3 3)) := by kernel_rfl
theorem opIn_bdLog {F : Fence} {n : Nat} {w : World} {o : Oper} {a : Act} {K : Act → World → Prop} {Q : Exit → Act → World → Prop} (x : Operand) (ho : o.op = .build 41 #[(2, x)]) {g : Nat} (hx : a.eval x = .slice (some ⟨g, 0, none⟩) 3 3) (hK : K (a.put o.dst (.agg (wkLog.cells (.slice (some ⟨g, 0, none⟩) 3 3)))) w) : o.wpIn F n Tryz.prog a w K Q :=
 opIn_build _ _ ho _ (by simp only [List.map_toArray, List.map_cons, List.map_nil, hx]; exact built_log g) hK
theorem zero_L : (Tryz.prog.info? 41).map (·.zero) = some (some (.agg (wkLog.cells nilS))) := by kernel_rfl
theorem one_L (g : Nat) : (wkLog.cells (.slice (some ⟨g, 0, none⟩) 3 3)).all (·.oneCell') = true := by kernel_rfl
set_option maxRecDepth 100000 in
theorem mark_any (t s q : Int) (w : World) : Calls Tryz.prog 37 #[.int .u64 t, .int .i64 s, .int .u64 q] w (Gives (.agg ((markO t s q).cells nilS)) w) := by
 have HS := H7 (St.start w)
 go_enter Tryz.func37, Tryz.ntmps37
 repeat ((fail_if_success (with_reducible refine stop_at (id := 1) ?_)); (first | go_values | go_skip | go_guarded | go_step | go_upon | go_back | (simp only [Int.not_lt, Int.not_le] at *; go_simp) | (go_values <;> (try go_simp)) | (go_ite <;> go_prune <;> (try go_simp)) | (split <;> (first | (rename_i hx; exact (hx _ rfl).elim) | go_prune))))
 rw [← opZ.eq_1]
 have hs_ := (HS.out.alloc (.cells opZ 51))
 obtain ⟨w1, hw_⟩ : ∃ w1 : World, (w.alloc (.cells opZ 51)) = w1 := ⟨_, rfl⟩
 rw [hw_] at hs_
 try simp only [World.size_alloc] at hs_
 have HS := H7 hs_
 rw [hw_]
 clear hw_ hs_
 refine (wpIn_wide (n := 0)).1 ?_
 repeat (first | (refine opIn_build 51 _ rfl _ (by simpa [Act.eval] using built_mark t s q) ?_; simp only [Act.put, List.setIfInBounds_toArray, List.set_cons_succ, List.set_cons_zero]) | (refine opIn_store 51 _ _ rfl w.heap.size 51 opZ ((markO t s q).cells nilS) rfl rfl (HS.out.blockAt 0 rfl) (by kernel_rfl) rfl (by unfold OpT.cells nilS; rw [List.all_toArray]; rfl) ?_; simp only [Act.put, List.setIfInBounds_toArray, List.set_cons_succ, List.set_cons_zero]) | gi_step)
 gi_wp2_with fail
 have hs := HS.out.putRow (c' := (markO t s q).cells nilS) (pre := []) (by intro i hi; cases hi)
 simp only [List.nil_append] at hs
 go_wp2_with fail
 refine bodyPost_ret (resOne rfl rfl (hs.blockAt 0 rfl) Tryz.underlying51 rfl (by kernel_rfl)) rfl ⟨rfl, hs.low⟩
theorem wkLogV {g : Nat} {w : World} {f : Nat × Nat} (h : w.heap[g]? = some (.cells (wkOps.flatMap encO).toArray 51 f)) : LogV wkLog (.slice (some ⟨g, 0, none⟩) 3 3) w := by
 refine ⟨_, 3, rfl, ⟨rfl, .inr ⟨g, 0, 3, rfl, b7t h, fun j hj => ?_⟩, fun x hx => ?_⟩, by decide, fun s _ => Int.le_refl _⟩
 · rw [Nat.zero_add]
   refine c7b h ?_
   rw [List.getElem?_toArray]
   unfold rowC
   have hl : (wkOps.flatMap encO).length = 57 := rfl
   rw [show wkLog.ops = wkOps from rfl, List.getElem?_eq_getElem (by rw [hl]; exact hj)]
   rfl
 · have hp : ∀ t s q : Int, OkO w (markO t s q, nilS) := fun t s q => ⟨⟨none, 0, rfl, Nat.le_refl _, .inl ⟨rfl, rfl⟩⟩, by show (0 : Nat) ≤ _; omega⟩
   rcases List.mem_cons.1 hx with rfl | hx
   · exact hp _ _ _
   rcases List.mem_cons.1 hx with rfl | hx
   · exact hp _ _ _
   rcases List.mem_cons.1 hx with rfl | hx
   · exact hp _ _ _
   cases hx
theorem built_wkV : Tryz.prog.built 24 [(1, .int .u64 2), (2, .int .u64 1)] = some (lit9 wkV18) := by kernel_rfl
theorem built_wkU : Tryz.prog.built 24 [(1, .int .u64 1), (2, .int .u64 1)] = some (lit9 wkU18) := by kernel_rfl
theorem built_pl (x y : Int) (v : Nat → Int) : Tryz.prog.built 26 [(0, .bool true), (1, .int .u64 x), (2, .int .u64 y), (3, .agg (lit9 v))] = some (Plg.cells ⟨true, x, y, v⟩) := by kernel_rfl
section
variable {F : Fence} {n : Nat} {w : World} {o : Oper} {a : Act} {K : Act → World → Prop} {Q : Exit → Act → World → Prop}
theorem opIn_bdVV (ho : o.op = .build 24 #[(1, .const (.int .u64 2)), (2, .const (.int .u64 1))]) (hK : K (a.put o.dst (.agg (lit9 wkV18))) w) : o.wpIn F n Tryz.prog a w K Q :=
 opIn_build _ _ ho _ (by simp only [List.map_toArray, List.map_cons, List.map_nil]; exact built_wkV) hK
theorem opIn_bdVU (ho : o.op = .build 24 #[(1, .const (.int .u64 1)), (2, .const (.int .u64 1))]) (hK : K (a.put o.dst (.agg (lit9 wkU18))) w) : o.wpIn F n Tryz.prog a w K Q :=
 opIn_build _ _ ho _ (by simp only [List.map_toArray, List.map_cons, List.map_nil]; exact built_wkU) hK
theorem opIn_bdP4 (z : Operand) {x y : Int} (ho : o.op = .build 26 #[(0, .const (.bool true)), (1, .const (.int .u64 x)), (2, .const (.int .u64 y)), (3, z)]) {v : Nat → Int} (hz : a.eval z = .agg (lit9 v)) (hK : K (a.put o.dst (.agg (Plg.cells ⟨true, x, y, v⟩))) w) : o.wpIn F n Tryz.prog a w K Q :=
 opIn_build _ _ ho _ (by simp only [List.map_toArray, List.map_cons, List.map_nil, hz]; exact built_pl x y v) hK
end
theorem RowH.setRowH {N n b : Nat} {l : List Int} {sv : Value} {w : World} (h : RowH N n l sv w) (hb : b < N) (cells : Array Value) : RowH N n l sv (w.setRow b cells) := by
 refine ⟨h.len, h.own.kept (row := some b) ⟨rfl, rfl, rfl, by simp, fun k _ hk => setRow_other _ _ _ _ (fun e => hk (by rw [e]))⟩ ?_⟩
 refine .inr fun e => ?_
 have := (h.own.lt b e).1
 omega
theorem flatLenZ (l : List Int) : (l.flatMap encZ).length = l.length := by
 induction l with
 | nil => rfl
 | cons a l ih => rw [List.flatMap_cons, List.length_append, ih]; simp [encZ]; omega
theorem elZ_of {w : World} {g c : Nat} {l : List Int} {t : TypeId} {f : Nat × Nat} (h : w.heap[g]? = some (.cells (l.flatMap encZ).toArray t f)) : Elems w (.slice (some ⟨g, 0, none⟩) l.length c) l.length 1 (rowC encZ l) :=
 .inr ⟨g, 0, c, rfl, b7t h, fun j hj => by
  rw [Nat.zero_add]
  refine c7b h ?_
  rw [List.getElem?_toArray]
  have hl := flatLenZ l
  rw [Nat.mul_one] at hj
  unfold rowC
  rw [List.getElem?_eq_getElem (by rw [hl]; exact hj)]
  rfl⟩
theorem vecEq_self (v : Nat → Int) : vecEq v v = true := by unfold vecEq; simp
theorem trF_ok {f f' : Frt} {er : Int} (h : trE f er = 0) : trF f f' er = f' := by unfold trF; rw [if_pos h]
theorem trF_no {f f' : Frt} {er : Int} (h : trE f er ≠ 0) : trF f f' er = frZ := by unfold trF; rw [if_neg h]
set_option maxRecDepth 100000 in
set_option maxHeartbeats 800000 in
theorem wakes18_any (w : World) : Calls Tryz.prog 8 #[] w (Gives (.bool true) w) := by
 have C1 := H7 (fun w' => show Calls Tryz.prog 10 #[.agg frZ.cells, .int .i64 1] w' (Gives (.tuple #[.agg wkF1.cells, .int .i64 0]) w') from by have h := register_any frZ 1 w'; rw [trF_ok wk1, wk1] at h; exact h)
 have C2 := H7 (fun w' => show Calls Tryz.prog 10 #[.agg wkF1.cells, .int .i64 2] w' (Gives (.tuple #[.agg wkF2.cells, .int .i64 0]) w') from by have h := register_any wkF1 2 w'; rw [trF_ok wk2, wk2] at h; exact h)
 have C3n := H7 (fun (g : Nat) w' (hl : LogV wkLog (.slice (some ⟨g, 0, none⟩) 3 3) w') => show Calls Tryz.prog 15 #[.agg wkF2.cells, .agg (wkLog.cells (.slice (some ⟨g, 0, none⟩) 3 3)), .int .i64 3] w' (Gives (.tuple #[.agg frZ.cells, .int .i64 4]) w') from by have h := propose_any wkF2 wkLog _ 3 (by decide) w' hl; rw [trF_no (by rw [wk3n]; decide), wk3n] at h; exact h)
 have C3 := H7 (fun (g : Nat) w' (hl : LogV wkLog (.slice (some ⟨g, 0, none⟩) 3 3) w') => show Calls Tryz.prog 15 #[.agg wkF2.cells, .agg (wkLog.cells (.slice (some ⟨g, 0, none⟩) 3 3)), .int .i64 1] w' (Gives (.tuple #[.agg wkF3.cells, .int .i64 0]) w') from by have h := propose_any wkF2 wkLog _ 1 (by decide) w' hl; rw [trF_ok wk3, wk3] at h; exact h)
 have C4 := H7 (fun w' => show Calls Tryz.prog 11 #[.agg wkF3.cells, .int .i64 1, .agg wkPl1.cells] w' (Gives (.tuple #[.agg wkF4.cells, .int .i64 0]) w') from by have h := hear0_any wkF3 1 wkPl1 w'; rw [trF_ok wk4, wk4] at h; exact h)
 have C5 := H7 (fun w' => show Calls Tryz.prog 11 #[.agg wkF4.cells, .int .i64 2, .agg wkPl2.cells] w' (Gives (.tuple #[.agg wkF5.cells, .int .i64 0]) w') from by have h := hear0_any wkF4 2 wkPl2 w'; rw [trF_ok wk5, wk5] at h; exact h)
 have C5w := H7 (fun w' => show Calls Tryz.prog 31 #[.agg wkF5.cells, .agg (lit9 wkV18)] w' (GivesRow 3 1 1 ([(2 : Int)].flatMap encZ) w') from by have h := waits_any wkF5 wkV18 w'; rw [wk5w] at h; exact h)
 have C6 := H7 (fun w' => show Calls Tryz.prog 11 #[.agg wkF5.cells, .int .i64 2, .agg wkPl3.cells] w' (Gives (.tuple #[.agg wkF6.cells, .int .i64 0]) w') from by have h := hear0_any wkF5 2 wkPl3 w'; rw [trF_ok wk6, wk6] at h; exact h)
 have C6r := H7 (fun w' => show Calls Tryz.prog 24 #[.agg wkF6.cells, .agg (lit9 wkV18)] w' (Gives (.tuple #[.agg (lit9 wkV18), .bool true]) w') from by have h := ready_any wkF6 wkV18 w'; unfold readyV vecV at h; rw [wk6r, if_pos rfl, wk6v] at h; exact h)
 have C7 := H7 (fun w' => show Calls Tryz.prog 25 #[.agg wkF6.cells, .agg (lit9 wkV18)] w' (Gives (.tuple #[.agg wkF7.cells, .int .i64 0]) w') from by have h := fold_any wkF6 wkV18 w'; rw [trF_ok wk7, wk7] at h; exact h)
 have C8 := H7 (fun w' => show Calls Tryz.prog 36 #[.agg wkF7.cells, .slice none 0 0] w' (GivesRow 3 1 2 ([(1 : Int), 2].flatMap encZ) w') from by have h := sitesF_any wkF7 none 0 0 [] rfl (by decide) w' (.inl ⟨rfl, rfl⟩); rw [wk7s] at h; exact h)
 have D1 := H7 wk7f
 have D2 := H7 wk7b
 generalize wkF1 = F1 at *
 generalize wkF2 = F2 at *
 generalize wkF3 = F3 at *
 generalize wkF4 = F4 at *
 generalize wkF5 = F5 at *
 generalize wkF6 = F6 at *
 generalize wkF7 = F7 at *
 have HS := H7 (St.start w)
 go_enter Tryz.func8, Tryz.ntmps8
 repeat ((fail_if_success (with_reducible refine stop_at (id := 1) ?_)); (first | go_values | go_skip | go_guarded | go_step | go_upon | go_back | (simp only [Int.not_lt, Int.not_le] at *; go_simp) | (go_values <;> (try go_simp)) | (go_ite <;> go_prune <;> (try go_simp)) | (split <;> (first | (rename_i hx; exact (hx _ rfl).elim) | go_prune))))
 refine (wpIn_wide (n := 0)).1 ?_
 repeat gi_step
 refine (callsIn_wide.2 (frNew_any _)).mono ?_
 rintro e w1 ⟨rfl, hb_⟩
 have HS := H7 (HS.out.below hb_)
 clear hb_
 simp only []
 go_at_K
 repeat gi_step
 refine (callsIn_wide.2 (C1.out _)).mono ?_
 rintro e w2 ⟨rfl, hb_⟩
 have HS := H7 (HS.out.below hb_)
 clear hb_
 simp only []
 go_at_K
 repeat (first | (refine nwF rfl ?_; simp only [Act.put, List.setIfInBounds_toArray, List.set_cons_succ, List.set_cons_zero]) | (refine stNewF _ _ rfl rfl rfl rfl rfl ?_; simp only [Act.put, List.setIfInBounds_toArray, List.set_cons_succ, List.set_cons_zero]) | gi_step)
 gi_wp2_with fail
 have hs_ := (HS.out.alloc (.cells F1.cells 29))
 obtain ⟨w3, hw_⟩ : ∃ w3 : World, (w2.alloc (.cells F1.cells 29)) = w3 := ⟨_, rfl⟩
 rw [hw_] at hs_
 try simp only [World.size_alloc] at hs_
 have HS := H7 hs_
 rw [hw_]
 clear hw_ hs_
 repeat ((fail_if_success (with_reducible refine stop_at (id := 2) ?_)); (first | go_values | go_skip | go_guarded | go_step | go_upon | go_back | (simp only [Int.not_lt, Int.not_le] at *; go_simp) | (go_values <;> (try go_simp)) | (go_ite <;> go_prune <;> (try go_simp)) | (split <;> (first | (rename_i hx; exact (hx _ rfl).elim) | go_prune))))
 refine (wpIn_wide (n := 0)).1 ?_
 repeat (first | (refine ldF _ rfl rfl (HS.out.blockAt 0 rfl) ?_; simp only [Act.put, List.setIfInBounds_toArray, List.set_cons_succ, List.set_cons_zero]) | gi_step)
 refine (callsIn_wide.2 (C2.out _)).mono ?_
 rintro e w4 ⟨rfl, hb_⟩
 have HS := H7 (HS.out.below hb_)
 clear hb_
 simp only []
 go_at_K
 repeat (first | (refine stF _ _ rfl rfl (HS.out.blockAt 0 rfl) rfl rfl ?_; simp only [Act.put, List.setIfInBounds_toArray, List.set_cons_succ, List.set_cons_zero]) | gi_step)
 gi_wp2_with fail
 have hs := HS.out.putRow (c' := F2.cells) (pre := []) (by intro i hi; cases hi)
 simp only [List.cons_append, List.nil_append] at hs
 revert hs
 generalize World.setRow w4 _ F2.cells = w5
 intro hs
 have HS := H7 hs
 clear hs
 repeat ((fail_if_success (with_reducible refine stop_at (id := 3) ?_)); (first | go_values | go_skip | go_guarded | go_step | go_upon | go_back | (simp only [Int.not_lt, Int.not_le] at *; go_simp) | (go_values <;> (try go_simp)) | (go_ite <;> go_prune <;> (try go_simp)) | (split <;> (first | (rename_i hx; exact (hx _ rfl).elim) | go_prune))))
 refine (wpIn_wide (n := 0)).1 ?_
 repeat gi_step
 refine (callsIn_wide.2 (mark_any 3 1 1 _)).mono ?_
 rintro e w6 ⟨rfl, hb_⟩
 have HS := H7 (HS.out.below hb_)
 clear hb_
 simp only []
 go_at_K
 repeat gi_step
 refine (callsIn_wide.2 (mark_any 5 1 2 _)).mono ?_
 rintro e w7 ⟨rfl, hb_⟩
 have HS := H7 (HS.out.below hb_)
 clear hb_
 simp only []
 go_at_K
 repeat gi_step
 refine (callsIn_wide.2 (mark_any 8 2 1 _)).mono ?_
 rintro e w8 ⟨rfl, hb_⟩
 have HS := H7 (HS.out.below hb_)
 clear hb_
 simp only []
 go_at_K
 repeat (first | (refine opIn_bs3 _ _ _ rfl rfl rfl rfl ?_; simp only [Act.put, List.setIfInBounds_toArray, List.set_cons_succ, List.set_cons_zero]) | (refine opIn_bdLog _ rfl rfl ?_; simp only [Act.put, List.setIfInBounds_toArray, List.set_cons_succ, List.set_cons_zero]) | (refine opIn_alloc _ rfl _ zero_L ?_; simp only [Act.put, List.setIfInBounds_toArray, List.set_cons_succ, List.set_cons_zero]) | (refine opIn_storeNew 41 _ _ rfl _ _ _ _ rfl rfl rfl (size_L wkLog _) rfl (one_L _) ?_; simp only [Act.put, List.setIfInBounds_toArray, List.set_cons_succ, List.set_cons_zero]) | gi_step)
 gi_wp2_with fail
 have hs_ := (HS.out.alloc (.cells (wkOps.flatMap encO).toArray 51))
 obtain ⟨w9, hw_⟩ : ∃ w9 : World, (w8.alloc (.cells (wkOps.flatMap encO).toArray 51)) = w9 := ⟨_, rfl⟩
 rw [hw_] at hs_
 try simp only [World.size_alloc] at hs_
 have HS := H7 hs_
 rw [hw_]
 clear hw_ hs_
 have hs_ := (HS.out.alloc (.cells (wkLog.cells (.slice (some ⟨w8.heap.size, 0, none⟩) 3 3)) 41))
 obtain ⟨w10, hw_⟩ : ∃ w10 : World, (w9.alloc (.cells (wkLog.cells (.slice (some ⟨w8.heap.size, 0, none⟩) 3 3)) 41)) = w10 := ⟨_, rfl⟩
 rw [hw_] at hs_
 try simp only [World.size_alloc] at hs_
 have HS := H7 hs_
 rw [hw_]
 clear hw_ hs_
 repeat ((fail_if_success (with_reducible refine stop_at (id := 4) ?_)); (first | go_values | go_skip | go_guarded | go_step | go_upon | go_back | (simp only [Int.not_lt, Int.not_le] at *; go_simp) | (go_values <;> (try go_simp)) | (go_ite <;> go_prune <;> (try go_simp)) | (split <;> (first | (rename_i hx; exact (hx _ rfl).elim) | go_prune))))
 refine (wpIn_wide (n := 0)).1 ?_
 repeat (first | (refine ldF _ rfl rfl (HS.out.blockAt 2 rfl) ?_; simp only [Act.put, List.setIfInBounds_toArray, List.set_cons_succ, List.set_cons_zero]) | (refine ldL _ rfl rfl (HS.out.blockAt 0 rfl) ?_; simp only [Act.put, List.setIfInBounds_toArray, List.set_cons_succ, List.set_cons_zero]) | gi_step)
 refine (callsIn_wide.2 (C3n.out _ _ (wkLogV (HS.out.blockAt 1 rfl)))).mono ?_
 rintro e w11 ⟨rfl, hb_⟩
 have HS := H7 (HS.out.below hb_)
 clear hb_
 simp only []
 go_at_K
 repeat (first | (refine nwF rfl ?_; simp only [Act.put, List.setIfInBounds_toArray, List.set_cons_succ, List.set_cons_zero]) | (refine stNewF _ _ rfl rfl rfl rfl rfl ?_; simp only [Act.put, List.setIfInBounds_toArray, List.set_cons_succ, List.set_cons_zero]) | gi_step)
 gi_wp2_with fail
 have hs_ := (HS.out.alloc (.cells frZ.cells 29))
 obtain ⟨w12, hw_⟩ : ∃ w12 : World, (w11.alloc (.cells frZ.cells 29)) = w12 := ⟨_, rfl⟩
 rw [hw_] at hs_
 try simp only [World.size_alloc] at hs_
 have HS := H7 hs_
 rw [hw_]
 clear hw_ hs_
 repeat ((fail_if_success (with_reducible refine stop_at (id := 5) ?_)); (first | go_values | go_skip | go_guarded | go_step | go_upon | go_back | (simp only [Int.not_lt, Int.not_le] at *; go_simp) | (go_values <;> (try go_simp)) | (go_ite <;> go_prune <;> (try go_simp)) | (split <;> (first | (rename_i hx; exact (hx _ rfl).elim) | go_prune))))
 refine (wpIn_wide (n := 0)).1 ?_
 repeat (first | (refine ldF _ rfl rfl (HS.out.blockAt 3 rfl) ?_; simp only [Act.put, List.setIfInBounds_toArray, List.set_cons_succ, List.set_cons_zero]) | (refine ldL _ rfl rfl (HS.out.blockAt 1 rfl) ?_; simp only [Act.put, List.setIfInBounds_toArray, List.set_cons_succ, List.set_cons_zero]) | gi_step)
 refine (callsIn_wide.2 (C3.out _ _ (wkLogV (HS.out.blockAt 2 rfl)))).mono ?_
 rintro e w13 ⟨rfl, hb_⟩
 have HS := H7 (HS.out.below hb_)
 clear hb_
 simp only []
 go_at_K
 repeat (first | (refine stF _ _ rfl rfl (HS.out.blockAt 3 rfl) rfl rfl ?_; simp only [Act.put, List.setIfInBounds_toArray, List.set_cons_succ, List.set_cons_zero]) | gi_step)
 gi_wp2_with fail
 have hs := HS.out.putRow (c' := F3.cells) (pre := [.blk _ _, .blk _ _, .blk _ _]) (by intro i hi; simp only [List.mem_cons, List.not_mem_nil, or_false] at hi; rcases hi with rfl | rfl | rfl <;> exact ⟨_, _, rfl⟩)
 simp only [List.cons_append, List.nil_append] at hs
 revert hs
 generalize World.setRow w13 _ F3.cells = w14
 intro hs
 have HS := H7 hs
 clear hs
 repeat ((fail_if_success (with_reducible refine stop_at (id := 6) ?_)); (first | go_values | go_skip | go_guarded | go_step | go_upon | go_back | (simp only [Int.not_lt, Int.not_le] at *; go_simp) | (go_values <;> (try go_simp)) | (go_ite <;> go_prune <;> (try go_simp)) | (split <;> (first | (rename_i hx; exact (hx _ rfl).elim) | go_prune))))
 refine (wpIn_wide (n := 0)).1 ?_
 repeat (first | (refine opIn_bdVV rfl ?_; simp only [Act.put, List.setIfInBounds_toArray, List.set_cons_succ, List.set_cons_zero]) | (refine nwV rfl ?_; simp only [Act.put, List.setIfInBounds_toArray, List.set_cons_succ, List.set_cons_zero]) | (refine stNewV _ _ rfl rfl rfl rfl rfl ?_; simp only [Act.put, List.setIfInBounds_toArray, List.set_cons_succ, List.set_cons_zero]) | gi_step)
 gi_wp2_with fail
 have hs_ := (HS.out.alloc (.cells (lit9 wkV18) 24))
 obtain ⟨w15, hw_⟩ : ∃ w15 : World, (w14.alloc (.cells (lit9 wkV18) 24)) = w15 := ⟨_, rfl⟩
 rw [hw_] at hs_
 try simp only [World.size_alloc] at hs_
 have HS := H7 hs_
 rw [hw_]
 clear hw_ hs_
 repeat ((fail_if_success (with_reducible refine stop_at (id := 7) ?_)); (first | go_values | go_skip | go_guarded | go_step | go_upon | go_back | (simp only [Int.not_lt, Int.not_le] at *; go_simp) | (go_values <;> (try go_simp)) | (go_ite <;> go_prune <;> (try go_simp)) | (split <;> (first | (rename_i hx; exact (hx _ rfl).elim) | go_prune))))
 refine (wpIn_wide (n := 0)).1 ?_
 repeat (first | (refine ldF _ rfl rfl (HS.out.blockAt 4 rfl) ?_; simp only [Act.put, List.setIfInBounds_toArray, List.set_cons_succ, List.set_cons_zero]) | (refine ldV _ rfl rfl (HS.out.blockAt 0 rfl) ?_; simp only [Act.put, List.setIfInBounds_toArray, List.set_cons_succ, List.set_cons_zero]) | (refine opIn_bdP4 (x := 5) (y := 2) _ rfl rfl ?_; simp only [Act.put, List.setIfInBounds_toArray, List.set_cons_succ, List.set_cons_zero]) | gi_step)
 refine (callsIn_wide.2 (C4.out _)).mono ?_
 rintro e w16 ⟨rfl, hb_⟩
 have HS := H7 (HS.out.below hb_)
 clear hb_
 simp only []
 go_at_K
 repeat (first | (refine stF _ _ rfl rfl (HS.out.blockAt 4 rfl) rfl rfl ?_; simp only [Act.put, List.setIfInBounds_toArray, List.set_cons_succ, List.set_cons_zero]) | gi_step)
 gi_wp2_with fail
 have hs := HS.out.putRow (c' := F4.cells) (pre := [.blk _ _, .blk _ _, .blk _ _, .blk _ _]) (by intro i hi; simp only [List.mem_cons, List.not_mem_nil, or_false] at hi; rcases hi with rfl | rfl | rfl | rfl <;> exact ⟨_, _, rfl⟩)
 simp only [List.cons_append, List.nil_append] at hs
 revert hs
 generalize World.setRow w16 _ F4.cells = w17
 intro hs
 have HS := H7 hs
 clear hs
 repeat ((fail_if_success (with_reducible refine stop_at (id := 8) ?_)); (first | go_values | go_skip | go_guarded | go_step | go_upon | go_back | (simp only [Int.not_lt, Int.not_le] at *; go_simp) | (go_values <;> (try go_simp)) | (go_ite <;> go_prune <;> (try go_simp)) | (split <;> (first | (rename_i hx; exact (hx _ rfl).elim) | go_prune))))
 refine (wpIn_wide (n := 0)).1 ?_
 repeat (first | (refine ldF _ rfl rfl (HS.out.blockAt 4 rfl) ?_; simp only [Act.put, List.setIfInBounds_toArray, List.set_cons_succ, List.set_cons_zero]) | (refine opIn_bdVU rfl ?_; simp only [Act.put, List.setIfInBounds_toArray, List.set_cons_succ, List.set_cons_zero]) | (refine opIn_bdP4 (x := 6) (y := 1) _ rfl rfl ?_; simp only [Act.put, List.setIfInBounds_toArray, List.set_cons_succ, List.set_cons_zero]) | gi_step)
 refine (callsIn_wide.2 (C5.out _)).mono ?_
 rintro e w18 ⟨rfl, hb_⟩
 have HS := H7 (HS.out.below hb_)
 clear hb_
 simp only []
 go_at_K
 repeat (first | (refine stF _ _ rfl rfl (HS.out.blockAt 4 rfl) rfl rfl ?_; simp only [Act.put, List.setIfInBounds_toArray, List.set_cons_succ, List.set_cons_zero]) | gi_step)
 gi_wp2_with fail
 have hs := HS.out.putRow (c' := F5.cells) (pre := [.blk _ _, .blk _ _, .blk _ _, .blk _ _]) (by intro i hi; simp only [List.mem_cons, List.not_mem_nil, or_false] at hi; rcases hi with rfl | rfl | rfl | rfl <;> exact ⟨_, _, rfl⟩)
 simp only [List.cons_append, List.nil_append] at hs
 revert hs
 generalize World.setRow w18 _ F5.cells = w19
 intro hs
 have HS := H7 hs
 clear hs
 repeat ((fail_if_success (with_reducible refine stop_at (id := 9) ?_)); (first | go_values | go_skip | go_guarded | go_step | go_upon | go_back | (simp only [Int.not_lt, Int.not_le] at *; go_simp) | (go_values <;> (try go_simp)) | (go_ite <;> go_prune <;> (try go_simp)) | (split <;> (first | (rename_i hx; exact (hx _ rfl).elim) | go_prune))))
 refine (wpIn_wide (n := 0)).1 ?_
 repeat (first | (refine ldF _ rfl rfl (HS.out.blockAt 4 rfl) ?_; simp only [Act.put, List.setIfInBounds_toArray, List.set_cons_succ, List.set_cons_zero]) | (refine ldV _ rfl rfl (HS.out.blockAt 0 rfl) ?_; simp only [Act.put, List.setIfInBounds_toArray, List.set_cons_succ, List.set_cons_zero]) | gi_step)
 refine (callsIn_wide.2 (C5w.out _)).mono ?_
 rintro e w20 ⟨sv, rfl, hrow, hb_⟩
 have hz_ := HS.out.lt 4 rfl
 have HS := H7 (HS.out.below hb_)
 clear hb_
 have hr_ : RowH w19.heap.size 1 [2] sv w20 := ⟨rfl, hrow⟩
 have HZ9 := H7 hz_
 clear hz_
 obtain ⟨ra, rc, rfl⟩ := hr_.shape
 have HR := H7 hr_
 clear hrow hr_
 gi_wp2_with fail
 repeat ((fail_if_success (with_reducible refine stop_at (id := 10) ?_)); (first | go_values | go_skip | go_guarded | go_step | go_upon | go_back | (simp only [Int.not_lt, Int.not_le] at *; go_simp) | (go_values <;> (try go_simp)) | (go_ite <;> go_prune <;> (try go_simp)) | (split <;> (first | (rename_i hx; exact (hx _ rfl).elim) | go_prune))))
 refine (wpIn_wide (n := 0)).1 ?_
 repeat (first | (refine ldF _ rfl rfl (HS.out.blockAt 4 rfl) ?_; simp only [Act.put, List.setIfInBounds_toArray, List.set_cons_succ, List.set_cons_zero]) | (refine ldV _ rfl rfl (HS.out.blockAt 0 rfl) ?_; simp only [Act.put, List.setIfInBounds_toArray, List.set_cons_succ, List.set_cons_zero]) | (refine opIn_bdP4 (x := 6) (y := 9) _ rfl rfl ?_; simp only [Act.put, List.setIfInBounds_toArray, List.set_cons_succ, List.set_cons_zero]) | gi_step)
 refine (callsIn_wide.2 (C6.out _)).mono ?_
 rintro e w21 ⟨rfl, hb_⟩
 have HS := H7 (HS.out.below hb_)
 have HR := H7 (HR.out.below hb_)
 clear hb_
 simp only []
 go_at_K
 repeat (first | (refine stF _ _ rfl rfl (HS.out.blockAt 4 rfl) rfl rfl ?_; simp only [Act.put, List.setIfInBounds_toArray, List.set_cons_succ, List.set_cons_zero]) | gi_step)
 gi_wp2_with fail
 have hs := HS.out.putRow (c' := F6.cells) (pre := [.blk _ _, .blk _ _, .blk _ _, .blk _ _]) (by intro i hi; simp only [List.mem_cons, List.not_mem_nil, or_false] at hi; rcases hi with rfl | rfl | rfl | rfl <;> exact ⟨_, _, rfl⟩)
 simp only [List.cons_append, List.nil_append] at hs
 have hHR_ := HR.out.setRowH HZ9.out (F6.cells)
 revert hs hHR_
 generalize World.setRow w21 _ F6.cells = w22
 intro hs hHR_
 have HS := H7 hs
 have HR := H7 hHR_
 clear hs hHR_
 repeat ((fail_if_success (with_reducible refine stop_at (id := 11) ?_)); (first | go_values | go_skip | go_guarded | go_step | go_upon | go_back | (simp only [Int.not_lt, Int.not_le] at *; go_simp) | (go_values <;> (try go_simp)) | (go_ite <;> go_prune <;> (try go_simp)) | (split <;> (first | (rename_i hx; exact (hx _ rfl).elim) | go_prune))))
 refine (wpIn_wide (n := 0)).1 ?_
 repeat (first | (refine ldF _ rfl rfl (HS.out.blockAt 4 rfl) ?_; simp only [Act.put, List.setIfInBounds_toArray, List.set_cons_succ, List.set_cons_zero]) | (refine ldV _ rfl rfl (HS.out.blockAt 0 rfl) ?_; simp only [Act.put, List.setIfInBounds_toArray, List.set_cons_succ, List.set_cons_zero]) | gi_step)
 refine (callsIn_wide.2 (C6r.out _)).mono ?_
 rintro e w23 ⟨rfl, hb_⟩
 have HS := H7 (HS.out.below hb_)
 have HR := H7 (HR.out.below hb_)
 clear hb_
 simp only []
 go_at_K
 repeat (first | (refine nwV rfl ?_; simp only [Act.put, List.setIfInBounds_toArray, List.set_cons_succ, List.set_cons_zero]) | (refine stNewV _ _ rfl rfl rfl rfl rfl ?_; simp only [Act.put, List.setIfInBounds_toArray, List.set_cons_succ, List.set_cons_zero]) | gi_step)
 gi_wp2_with fail
 have hs_ := (HS.out.alloc (.cells (lit9 wkV18) 24))
 have hk_HR := HR.out.below ((B7 _ _).alloc (by exact Nat.le_refl _) (.cells (lit9 wkV18) 24))
 obtain ⟨w24, hw_⟩ : ∃ w24 : World, (w23.alloc (.cells (lit9 wkV18) 24)) = w24 := ⟨_, rfl⟩
 rw [hw_] at hs_ hk_HR
 try simp only [World.size_alloc] at hs_
 have HS := H7 hs_
 have HR := H7 hk_HR
 rw [hw_]
 clear hw_ hs_ hk_HR
 repeat ((fail_if_success (with_reducible refine stop_at (id := 12) ?_)); (first | go_values | go_skip | go_guarded | go_step | go_upon | go_back | (simp only [Int.not_lt, Int.not_le] at *; go_simp) | (go_values <;> (try go_simp)) | (go_ite <;> go_prune <;> (try go_simp)) | (split <;> (first | (rename_i hx; exact (hx _ rfl).elim) | go_prune))))
 refine (wpIn_wide (n := 0)).1 ?_
 repeat (first | (refine ldF _ rfl rfl (HS.out.blockAt 5 rfl) ?_; simp only [Act.put, List.setIfInBounds_toArray, List.set_cons_succ, List.set_cons_zero]) | (refine ldV _ rfl rfl (HS.out.blockAt 1 rfl) ?_; simp only [Act.put, List.setIfInBounds_toArray, List.set_cons_succ, List.set_cons_zero]) | gi_step)
 refine (callsIn_wide.2 (C7.out _)).mono ?_
 rintro e w25 ⟨rfl, hb_⟩
 have HS := H7 (HS.out.below hb_)
 have HR := H7 (HR.out.below hb_)
 clear hb_
 simp only []
 go_at_K
 repeat (first | (refine stF _ _ rfl rfl (HS.out.blockAt 5 rfl) rfl rfl ?_; simp only [Act.put, List.setIfInBounds_toArray, List.set_cons_succ, List.set_cons_zero]) | gi_step)
 gi_wp2_with fail
 have hs := HS.out.putRow (c' := F7.cells) (pre := [.blk _ _, .blk _ _, .blk _ _, .blk _ _, .blk _ _]) (by intro i hi; simp only [List.mem_cons, List.not_mem_nil, or_false] at hi; rcases hi with rfl | rfl | rfl | rfl | rfl <;> exact ⟨_, _, rfl⟩)
 simp only [List.cons_append, List.nil_append] at hs
 have hHR_ := HR.out.setRowH HZ9.out (F7.cells)
 revert hs hHR_
 generalize World.setRow w25 _ F7.cells = w26
 intro hs hHR_
 have HS := H7 hs
 have HR := H7 hHR_
 clear hs hHR_
 repeat ((fail_if_success (with_reducible refine stop_at (id := 13) ?_)); (first | go_values | go_skip | go_guarded | go_step | go_upon | go_back | (simp only [Int.not_lt, Int.not_le] at *; go_simp) | (go_values <;> (try go_simp)) | (go_ite <;> go_prune <;> (try go_simp)) | (split <;> (first | (rename_i hx; exact (hx _ rfl).elim) | go_prune))))
 refine (wpIn_wide (n := 0)).1 ?_
 repeat gi_step
 have hs_ := (HS.out.alloc (.cells #[.int .i64 2] 3))
 have hk_HR := HR.out.below ((B7 _ _).alloc (by exact Nat.le_refl _) (.cells #[.int .i64 2] 3))
 obtain ⟨w27, hw_⟩ : ∃ w27 : World, (w26.alloc (.cells #[.int .i64 2] 3)) = w27 := ⟨_, rfl⟩
 rw [hw_] at hs_ hk_HR
 try simp only [World.size_alloc] at hs_
 have HS := H7 hs_
 have HR := H7 hk_HR
 rw [hw_]
 clear hw_ hs_ hk_HR
 refine (callsIn_wide.2 (eqZ_any _ _ 1 1 _ 1 [2] [2] rfl rfl (by decide) _ HR.out.el (elZ_of (l := [2]) (HS.out.blockAt 0 rfl)))).mono ?_
 rintro e w28 ⟨rfl, hb_⟩
 have HS := H7 (HS.out.below hb_)
 have HR := H7 (HR.out.below hb_)
 clear hb_
 rw [show decide (([2] : List Int) = [2]) = true from rfl]
 have q := Frt.foldedC (HS.out.blockAt 6 rfl)
 rw [D1.out] at q
 simp only []
 go_at_K
 repeat (first | (refine ldV _ rfl rfl (HS.out.blockAt 1 rfl) ?_; simp only [Act.put, List.setIfInBounds_toArray, List.set_cons_succ, List.set_cons_zero]) | (refine ldV _ rfl rfl (HS.out.blockAt 2 rfl) ?_; simp only [Act.put, List.setIfInBounds_toArray, List.set_cons_succ, List.set_cons_zero]) | (refine ldBy _ rfl rfl (HS.out.blockAt 6 rfl) ?_; simp only [Act.put, List.setIfInBounds_toArray, List.set_cons_succ, List.set_cons_zero]) | (refine ldF _ rfl rfl (HS.out.blockAt 6 rfl) ?_; simp only [Act.put, List.setIfInBounds_toArray, List.set_cons_succ, List.set_cons_zero]) | (refine eqV' _ _ _ rfl rfl rfl (vecEq_self wkV18) ?_; simp only [Act.put, List.setIfInBounds_toArray, List.set_cons_succ, List.set_cons_zero]) | (refine eqV' _ _ _ rfl rfl rfl D2.out ?_; simp only [Act.put, List.setIfInBounds_toArray, List.set_cons_succ, List.set_cons_zero]) | gi_step)
 clear q
 refine (callsIn_wide.2 (C8.out _)).mono ?_
 rintro e w29 ⟨sv, rfl, hrow, hb_⟩
 have hz_ := HS.out.lt 6 rfl
 have HS := H7 (HS.out.below hb_)
 have HR := H7 (HR.out.below hb_)
 clear hb_
 have hr_ : RowH w28.heap.size 2 [1, 2] sv w29 := ⟨rfl, hrow⟩
 clear hz_
 obtain ⟨sa, sc, rfl⟩ := hr_.shape
 have HR2 := H7 hr_
 clear hrow hr_
 simp only []
 go_at_K
 repeat gi_step
 have hs_ := (HS.out.alloc (.cells #[.int .i64 1, .int .i64 2] 3))
 have hk_HR := HR.out.below ((B7 _ _).alloc (by exact Nat.le_refl _) (.cells #[.int .i64 1, .int .i64 2] 3))
 have hk_HR2 := HR2.out.below ((B7 _ _).alloc (by exact Nat.le_refl _) (.cells #[.int .i64 1, .int .i64 2] 3))
 obtain ⟨w30, hw_⟩ : ∃ w30 : World, (w29.alloc (.cells #[.int .i64 1, .int .i64 2] 3)) = w30 := ⟨_, rfl⟩
 rw [hw_] at hs_ hk_HR hk_HR2
 try simp only [World.size_alloc] at hs_
 have HS := H7 hs_
 have HR := H7 hk_HR
 have HR2 := H7 hk_HR2
 rw [hw_]
 clear hw_ hs_ hk_HR hk_HR2
 refine (callsIn_wide.2 (eqZ_any _ _ 2 2 _ 2 [1, 2] [1, 2] rfl rfl (by decide) _ HR2.out.el (elZ_of (l := [1, 2]) (HS.out.blockAt 0 rfl)))).mono ?_
 rintro e w31 ⟨rfl, hb_⟩
 have HS := H7 (HS.out.below hb_)
 have HR := H7 (HR.out.below hb_)
 have HR2 := H7 (HR2.out.below hb_)
 clear hb_
 rw [show decide (([1, 2] : List Int) = [1, 2]) = true from rfl]
 gi_wp2_with (exfalso; exact undefB (by assumption))
 go_wp2_with fail
 go_ret
 exact ⟨rfl, HS.out.low⟩
end Go.Proofs.YteklfmacnnmomaaGreat
/- Layer 18: plain laws of frontiers. -/
namespace Go.Proofs.YteklfmacnnmomaaGreat
open Go.RowKit Go.Shelf
theorem okB_parts {f : Frt} (h : f.okB = true) : f.folded ≤ MaxT ∧ vecOk f.by_ = true ∧ propOk f = true ∧ ∀ k, k < 9 → sitOk f k = true := by
 unfold Frt.okB at h
 rw [Bool.and_eq_true, Bool.and_eq_true, Bool.and_eq_true, decide_eq_true_eq] at h
 exact ⟨h.1.1.1, h.1.1.2, h.1.2, fun k hk => List.all_eq_true.1 h.2 k (List.mem_range.2 hk)⟩
theorem okB_mk {f : Frt} (h1 : f.folded ≤ MaxT) (h2 : vecOk f.by_ = true) (h3 : propOk f = true) (h4 : ∀ k, k < 9 → sitOk f k = true) : f.okB = true := by
 unfold Frt.okB
 rw [decide_eq_true h1, h2, h3, sitesAll_yes h4]
 rfl
theorem plEq_in {p : Plg} (h : p.inn = true) : plEq p plZ = false := by
 unfold plEq
 rw [h]; rfl
theorem sitOk_in {f : Frt} {k : Nat} (h : sitOk f k = true) (hi : (f.site k).inn = true) : siteB (k : Int) = true ∧ pledgeOk (f.site k) = true ∧ f.folded ≤ (f.site k).floor := by
 unfold sitOk at h
 rw [plEq_in hi, Bool.false_or, Bool.and_eq_true, Bool.and_eq_true, decide_eq_true_eq] at h
 exact ⟨h.1.1, h.1.2, h.2⟩
theorem sitOk_out {f : Frt} {k : Nat} (h : sitOk f k = true) (hi : (f.site k).inn = false) : plEq (f.site k) plZ = true := by
 unfold sitOk at h
 rw [Bool.or_eq_true] at h
 rcases h with h | h
 · exact h
 · rw [Bool.and_eq_true, Bool.and_eq_true] at h
   have := h.1.2
   unfold pledgeOk at this
   rw [hi] at this
   cases this
theorem sitOk_mk {f : Frt} {k : Nat} (h1 : siteB (k : Int) = true) (h2 : pledgeOk (f.site k) = true) (h3 : f.folded ≤ (f.site k).floor) : sitOk f k = true := by
 unfold sitOk
 rw [h1, h2, decide_eq_true h3]
 simp
theorem sitOk_mk0 {f : Frt} {k : Nat} (h : plEq (f.site k) plZ = true) : sitOk f k = true := by
 unfold sitOk
 rw [h]; rfl
theorem vecOk_zero : vecOk (fun _ => 0) = true := by decide
theorem pledgeOk_in {x : Int} (h : x ≤ MaxT) : pledgeOk (plIn x) = true := by
 unfold pledgeOk plIn
 rw [vecOk_zero, decide_eq_true h, decide_eq_true (show (0 : Int) ≤ MaxT from by unfold MaxT; omega)]
 rfl
theorem rise_site (f : Frt) (k : Nat) : (riseF f).site k = if k ∈ regL f then plIn f.folded else f.site k := rfl
theorem rise_inn (f : Frt) (k : Nat) (hk : k < 9) : ((riseF f).site k).inn = (f.site k).inn := by
 rw [rise_site]
 split
 · rename_i h
   exact (regL_mem.1 h).2.symm
 · rfl
theorem regL_rise (f : Frt) : regL (riseF f) = regL f := by
 unfold regL
 exact List.filter_congr fun k hk => rise_inn f k (List.mem_range.1 hk)
theorem okB_rise {f : Frt} (h : f.okB = true) : (riseF f).okB = true := by
 obtain ⟨h1, h2, -, h4⟩ := okB_parts h
 refine okB_mk h1 h2 rfl fun k hk => ?_
 by_cases hm : k ∈ regL f
 · have hi := (regL_mem.1 hm).2
   have h5 := sitOk_in (h4 k hk) hi
   have hs : (riseF f).site k = plIn f.folded := by rw [rise_site, if_pos hm]
   exact sitOk_mk h5.1 (by rw [hs]; exact pledgeOk_in h1) (by rw [hs]; exact Int.le_refl _)
 · have hi : (f.site k).inn = false := by
    cases hx : (f.site k).inn
    · rfl
    · exact absurd (regL_mem.2 ⟨hk, hx⟩) hm
   have hs : (riseF f).site k = f.site k := by rw [rise_site, if_neg hm]
   exact sitOk_mk0 (by rw [hs]; exact sitOk_out (h4 k hk) hi)
theorem okB_site0 {f : Frt} (h : f.okB = true) : (f.site 0).inn = false := by
 cases hx : (f.site 0).inn
 · rfl
 · have := (sitOk_in ((okB_parts h).2.2.2 0 (by omega)) hx).1
   cases this
theorem vecOk_ask {f : Frt} (h : f.okB = true) : vecOk (askF f) = true := by
 unfold vecOk
 rw [Bool.and_eq_true, decide_eq_true_eq, sitesOk_iff]
 refine ⟨by unfold askF; rw [okB_site0 h]; rfl, fun k h1 h9 => ?_⟩
 unfold askF
 split
 · rename_i hi
   have := (okB_has h h9 hi).1
   unfold pledgeOk at this
   simp only [Bool.and_eq_true, decide_eq_true_eq] at this
   exact this.1.2
 · unfold MaxT; omega
theorem ready_parts {f : Frt} {S : Nat → Int} (h : readyB f S = true) : f.okB = true ∧ vecOk S = true ∧ f.prop ≠ 0 ∧ waitsL f S = [] ∧ ∀ k, k ∈ regL f → waitB f (askF f) S k = false := by
 unfold readyB at h
 rw [Bool.and_eq_true, List.isEmpty_iff] at h
 obtain ⟨hm, hw⟩ := h
 have hm2 := hm
 unfold mayB at hm2
 simp only [Bool.and_eq_true, Bool.not_eq_true', beq_eq_false_iff_ne] at hm2
 refine ⟨hm2.1.1, hm2.1.2, hm2.2, hw, fun k hk => ?_⟩
 unfold waitsL at hw
 rw [if_pos hm] at hw
 unfold waitL at hw
 have := List.filter_eq_nil_iff.1 hw (k : Int) (List.mem_map.2 ⟨k, hk, rfl⟩)
 simpa using this
theorem prop_gt {f : Frt} (h : f.okB = true) (hp : f.prop ≠ 0) : f.folded < f.prop ∧ f.prop ≤ MaxT := by
 have := (okB_parts h).2.2.1
 unfold propOk at this
 simp only [Bool.or_eq_true, Bool.and_eq_true, beq_iff_eq, decide_eq_true_eq] at this
 exact this.resolve_left hp
theorem okB_fold {f : Frt} {S : Nat → Int} (h : readyB f S = true) : (foldF f).okB = true ∧ f.folded < f.prop := by
 obtain ⟨ho, hS, hp, hw, hall⟩ := ready_parts h
 obtain ⟨h1, h2⟩ := prop_gt ho hp
 obtain ⟨-, -, -, h4⟩ := okB_parts ho
 refine ⟨okB_mk h2 (vecOk_ask ho) rfl fun k hk => ?_, h1⟩
 have hs : (foldF f).site k = f.site k := rfl
 cases hi : (f.site k).inn
 · exact sitOk_mk0 (by rw [hs]; exact sitOk_out (h4 k hk) hi)
 · have h5 := sitOk_in (h4 k hk) hi
   have h6 := hall k (regL_mem.2 ⟨hk, hi⟩)
   unfold waitB at h6
   simp only [Bool.or_eq_false_iff, decide_eq_false_iff_not] at h6
   refine sitOk_mk h5.1 (by rw [hs]; exact h5.2.1) ?_
   rw [hs]
   show f.prop ≤ _
   omega
theorem okB_reg {f : Frt} {k : Nat} (h : f.okB = true) (hb : siteB (k : Int) = true) (hk : k < 9) : (regF f k).okB = true := by
 obtain ⟨h1, h2, h3, h4⟩ := okB_parts h
 unfold regF
 rw [Int.toNat_natCast]
 have hmax : max f.folded f.prop ≤ MaxT := by
  by_cases hp : f.prop = 0
  · rw [hp]; unfold MaxT at h1 ⊢; omega
  · have := (prop_gt h hp).2
    omega
 refine okB_mk h1 h2 h3 fun j hj => ?_
 by_cases e : j = k
 · subst e
   refine sitOk_mk hb ?_ ?_
   · rw [Frt.put_at]; exact pledgeOk_in hmax
   · rw [Frt.put_at]; show f.folded ≤ max _ _; omega
 · unfold sitOk
   rw [Frt.put_ne f _ e]
   exact h4 j hj
theorem sites_one {f : Frt} (h : f.okB = true) (s : Int) : (sitesL f [s]).length = if s ∈ natI (regL f) then 1 else 0 := by
 unfold sitesL
 rw [if_pos h, if_neg (by simp), List.filter_cons]
 split <;> rename_i hx <;> simp at hx ⊢ <;> simp [hx]
theorem mem_natI {l : List Nat} {s : Int} : s ∈ natI l ↔ ∃ k : Nat, s = (k : Int) ∧ k ∈ l := by
 unfold natI
 rw [List.mem_map]
 constructor
 · rintro ⟨k, hk, rfl⟩; exact ⟨k, rfl, hk⟩
 · rintro ⟨k, rfl, hk⟩; exact ⟨k, hk, rfl⟩
/-- Whether a site can be registered, and whether it is. -/
theorem reg_there {f : Frt} (h : f.okB = true) (s : Int) : (trE f (regE f s) == 5) = decide (s ∈ natI (regL f)) := by
 unfold trE regE
 rw [if_pos h]
 cases hb : siteB s
 · rw [if_pos rfl]
   have : ¬ s ∈ natI (regL f) := fun hm => by
    obtain ⟨k, rfl, hk⟩ := mem_natI.1 hm
    obtain ⟨h9, hi⟩ := regL_mem.1 hk
    have := (sitOk_in ((okB_parts h).2.2.2 k h9) hi).1
    rw [hb] at this; cases this
   rw [decide_eq_false this]; rfl
 · obtain ⟨k, rfl, h1, h9⟩ := siteB_nat hb
   rw [if_neg (by decide), Int.toNat_natCast]
   cases hi : (f.site k).inn
   · rw [if_neg (by decide)]
     have : ¬ (k : Int) ∈ natI (regL f) := fun hm => by
      obtain ⟨j, hj, hk⟩ := mem_natI.1 hm
      obtain rfl : k = j := by omega
      rw [(regL_mem.1 hk).2] at hi; cases hi
     rw [decide_eq_false this]; rfl
   · rw [if_pos rfl, decide_eq_true (mem_natI.2 ⟨k, rfl, regL_mem.2 ⟨h9, hi⟩⟩)]; rfl
theorem reg_ok {f : Frt} (h : f.okB = true) {s : Int} (h0 : trE f (regE f s) = 0) : ∃ k : Nat, s = (k : Int) ∧ k < 9 ∧ (regF f s).okB = true ∧ s ∈ natI (regL (regF f s)) ∧ ((regF f s).site k).floor = max f.folded f.prop := by
 unfold trE regE at h0
 rw [if_pos h] at h0
 cases hb : siteB s
 · rw [hb, if_pos rfl] at h0; cases h0
 · obtain ⟨k, rfl, h1, h9⟩ := siteB_nat hb
   have hp : (regF f (k : Int)).site k = plIn (max f.folded f.prop) := by unfold regF; rw [Int.toNat_natCast, Frt.put_at]
   refine ⟨k, rfl, h9, okB_reg h hb h9, mem_natI.2 ⟨k, rfl, regL_mem.2 ⟨h9, by rw [hp]; rfl⟩⟩, by rw [hp]; rfl⟩
end Go.Proofs.YteklfmacnnmomaaGreat
