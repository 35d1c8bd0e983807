/- Merged texts: FrS FrT FrWa RevR FrWb. -/
import Derived.Test.YteklfmacnnmomaaGreatM15
import Derived.Test.YteklfmacnnmomaaGreatM1
import Derived.Shelf.SlicesQ.Reverse
set_option linter.unusedSimpArgs false
set_option linter.unusedVariables false
/- Layer 18: wakes. -/
namespace Go.Proofs.YteklfmacnnmomaaGreat
open Go.RowKit Go.Shelf
attribute [local go_sem] Oper.semAt_some
theorem opIn_bs {F : Fence} {n : Nat} {P : Program} {w w' : World} {o : Oper} {a : Act} {K : Act → World → Prop} {Q : Exit → Act → World → Prop} (t : TypeId) (len : Nat) (parts : Array (Nat × Operand)) (ho : o.op = .buildSlice t len parts) {v : Value} (hr : (Instr.buildSlice t len (parts.map fun (i, x) => (i, a.eval x))).run P w = .ok v w') (hK : K (a.put o.dst v) w') : o.wpIn F n P a w K Q := by
 unfold Oper.wpIn
 refine ⟨?_, ?_⟩
 · simp [Oper.about, ho]
 · rw [Oper.semAt_plain F _ _ (by rw [ho]; intro c hc; cases hc)]
   simp only [execOp, ho, Sem.run_bind, hr, Result.andThen_ok]
   exact hK
theorem run_bs3 (w : World) : (Instr.buildSlice 39 3 #[(0, .agg ((markO 3 1 1).cells nilS)), (1, .agg ((markO 5 1 2).cells nilS)), (2, .agg ((markO 8 2 1).cells nilS))]).run Tryz.prog w = .ok (.slice (some ⟨w.heap.size, 0, none⟩) 3 3) (w.alloc (.cells (wkOps.flatMap encO).toArray 51)) := by kernel_rfl
theorem opIn_bs3 {F : Fence} {n : Nat} {w : World} {o : Oper} {a : Act} {K : Act → World → Prop} {Q : Exit → Act → World → Prop} (x y z : Operand) (ho : o.op = .buildSlice 39 3 #[(0, x), (1, y), (2, z)]) (hx : a.eval x = .agg ((markO 3 1 1).cells nilS)) (hy : a.eval y = .agg ((markO 5 1 2).cells nilS)) (hz : a.eval z = .agg ((markO 8 2 1).cells nilS))
 (hK : K (a.put o.dst (.slice (some ⟨w.heap.size, 0, none⟩) 3 3)) (w.alloc (.cells (wkOps.flatMap encO).toArray 51))) : o.wpIn F n Tryz.prog a w K Q := by
 refine opIn_bs _ _ _ ho ?_ hK
 simp only [List.map_toArray, List.map_cons, List.map_nil, hx, hy, hz]
 exact run_bs3 w
theorem built_log (g : Nat) : Tryz.prog.built 41 [(2, .slice (some ⟨g, 0, none⟩) 3 3)] = some (wkLog.cells (.slice (some ⟨g, 0, none⟩) 3 3)) := by kernel_rfl
theorem opIn_bdLog {F : Fence} {n : Nat} {w : World} {o : Oper} {a : Act} {K : Act → World → Prop} {Q : Exit → Act → World → Prop} (x : Operand) (ho : o.op = .build 41 #[(2, x)]) {g : Nat} (hx : a.eval x = .slice (some ⟨g, 0, none⟩) 3 3) (hK : K (a.put o.dst (.agg (wkLog.cells (.slice (some ⟨g, 0, none⟩) 3 3)))) w) : o.wpIn F n Tryz.prog a w K Q :=
 opIn_build _ _ ho _ (by simp only [List.map_toArray, List.map_cons, List.map_nil, hx]; exact built_log g) hK
theorem zero_L : (Tryz.prog.info? 41).map (·.zero) = some (some (.agg (wkLog.cells nilS))) := by kernel_rfl
theorem one_L (g : Nat) : (wkLog.cells (.slice (some ⟨g, 0, none⟩) 3 3)).all (·.oneCell') = true := by kernel_rfl
set_option maxRecDepth 100000 in
theorem mark_any (t s q : Int) (w : World) : Calls Tryz.prog 37 #[.int .u64 t, .int .i64 s, .int .u64 q] w (Gives (.agg ((markO t s q).cells nilS)) w) := by
 have HS := H7 (St.start w)
 go_enter Tryz.func37, Tryz.ntmps37
 repeat ((fail_if_success (with_reducible refine stop_at (id := 1) ?_)); (first | go_values | go_skip | go_guarded | go_step | go_upon | go_back | (simp only [Int.not_lt, Int.not_le] at *; go_simp) | (go_values <;> (try go_simp)) | (go_ite <;> go_prune <;> (try go_simp)) | (split <;> (first | (rename_i hx; exact (hx _ rfl).elim) | go_prune))))
 rw [← opZ.eq_1]
 have hs_ := (HS.out.alloc (.cells opZ 51))
 obtain ⟨w1, hw_⟩ : ∃ w1 : World, (w.alloc (.cells opZ 51)) = w1 := ⟨_, rfl⟩
 rw [hw_] at hs_
 try simp only [World.size_alloc] at hs_
 have HS := H7 hs_
 rw [hw_]
 clear hw_ hs_
 refine (wpIn_wide (n := 0)).1 ?_
 repeat (first | (refine opIn_build 51 _ rfl _ (by simpa [Act.eval] using built_mark t s q) ?_; simp only [Act.put, List.setIfInBounds_toArray, List.set_cons_succ, List.set_cons_zero]) | (refine opIn_store 51 _ _ rfl w.heap.size 51 opZ ((markO t s q).cells nilS) rfl rfl (HS.out.blockAt 0 rfl) (by kernel_rfl) rfl (by unfold OpT.cells nilS; rw [List.all_toArray]; rfl) ?_; simp only [Act.put, List.setIfInBounds_toArray, List.set_cons_succ, List.set_cons_zero]) | gi_step)
 gi_wp2_with fail
 have hs := HS.out.putRow (c' := (markO t s q).cells nilS) (pre := []) (by intro i hi; cases hi)
 simp only [List.nil_append] at hs
 go_wp2_with fail
 refine bodyPost_ret (resOne rfl rfl (hs.blockAt 0 rfl) Tryz.underlying51 rfl (by kernel_rfl)) rfl ⟨rfl, hs.low⟩
theorem wkLogV {g : Nat} {w : World} {f : Nat × Nat} (h : w.heap[g]? = some (.cells (wkOps.flatMap encO).toArray 51 f)) : LogV wkLog (.slice (some ⟨g, 0, none⟩) 3 3) w := by
 refine ⟨_, 3, rfl, ⟨rfl, .inr ⟨g, 0, 3, rfl, b7t h, fun j hj => ?_⟩, fun x hx => ?_⟩, by decide, fun s _ => Int.le_refl _⟩
 · rw [Nat.zero_add]
   refine c7b h ?_
   rw [List.getElem?_toArray]
   unfold rowC
   have hl : (wkOps.flatMap encO).length = 57 := rfl
   rw [show wkLog.ops = wkOps from rfl, List.getElem?_eq_getElem (by rw [hl]; exact hj)]
   rfl
 · have hp : ∀ t s q : Int, OkO w (markO t s q, nilS) := fun t s q => ⟨⟨none, 0, rfl, Nat.le_refl _, .inl ⟨rfl, rfl⟩⟩, by show (0 : Nat) ≤ _; omega⟩
   rcases List.mem_cons.1 hx with rfl | hx
   · exact hp _ _ _
   rcases List.mem_cons.1 hx with rfl | hx
   · exact hp _ _ _
   rcases List.mem_cons.1 hx with rfl | hx
   · exact hp _ _ _
   cases hx
theorem built_wkV : Tryz.prog.built 24 [(1, .int .u64 2), (2, .int .u64 1)] = some (lit9 wkV18) := by kernel_rfl
theorem built_wkU : Tryz.prog.built 24 [(1, .int .u64 1), (2, .int .u64 1)] = some (lit9 wkU18) := by kernel_rfl
theorem built_pl (x y : Int) (v : Nat → Int) : Tryz.prog.built 26 [(0, .bool true), (1, .int .u64 x), (2, .int .u64 y), (3, .agg (lit9 v))] = some (Plg.cells ⟨true, x, y, v⟩) := by kernel_rfl
section
variable {F : Fence} {n : Nat} {w : World} {o : Oper} {a : Act} {K : Act → World → Prop} {Q : Exit → Act → World → Prop}
theorem opIn_bdVV (ho : o.op = .build 24 #[(1, .const (.int .u64 2)), (2, .const (.int .u64 1))]) (hK : K (a.put o.dst (.agg (lit9 wkV18))) w) : o.wpIn F n Tryz.prog a w K Q :=
 opIn_build _ _ ho _ (by simp only [List.map_toArray, List.map_cons, List.map_nil]; exact built_wkV) hK
theorem opIn_bdVU (ho : o.op = .build 24 #[(1, .const (.int .u64 1)), (2, .const (.int .u64 1))]) (hK : K (a.put o.dst (.agg (lit9 wkU18))) w) : o.wpIn F n Tryz.prog a w K Q :=
 opIn_build _ _ ho _ (by simp only [List.map_toArray, List.map_cons, List.map_nil]; exact built_wkU) hK
theorem opIn_bdP4 (z : Operand) {x y : Int} (ho : o.op = .build 26 #[(0, .const (.bool true)), (1, .const (.int .u64 x)), (2, .const (.int .u64 y)), (3, z)]) {v : Nat → Int} (hz : a.eval z = .agg (lit9 v)) (hK : K (a.put o.dst (.agg (Plg.cells ⟨true, x, y, v⟩))) w) : o.wpIn F n Tryz.prog a w K Q :=
 opIn_build _ _ ho _ (by simp only [List.map_toArray, List.map_cons, List.map_nil, hz]; exact built_pl x y v) hK
end
theorem RowH.setRowH {N n b : Nat} {l : List Int} {sv : Value} {w : World} (h : RowH N n l sv w) (hb : b < N) (cells : Array Value) : RowH N n l sv (w.setRow b cells) := by
 refine ⟨h.len, h.own.kept (row := some b) ⟨rfl, rfl, rfl, by simp, fun k _ hk => setRow_other _ _ _ _ (fun e => hk (by rw [e]))⟩ ?_⟩
 refine .inr fun e => ?_
 have := (h.own.lt b e).1
 omega
theorem flatLenZ (l : List Int) : (l.flatMap encZ).length = l.length := by
 induction l with
 | nil => rfl
 | cons a l ih => rw [List.flatMap_cons, List.length_append, ih]; simp [encZ]; omega
theorem elZ_of {w : World} {g c : Nat} {l : List Int} {t : TypeId} {f : Nat × Nat} (h : w.heap[g]? = some (.cells (l.flatMap encZ).toArray t f)) : Elems w (.slice (some ⟨g, 0, none⟩) l.length c) l.length 1 (rowC encZ l) :=
 .inr ⟨g, 0, c, rfl, b7t h, fun j hj => by
  rw [Nat.zero_add]
  refine c7b h ?_
  rw [List.getElem?_toArray]
  have hl := flatLenZ l
  rw [Nat.mul_one] at hj
  unfold rowC
  rw [List.getElem?_eq_getElem (by rw [hl]; exact hj)]
  rfl⟩
theorem vecEq_self (v : Nat → Int) : vecEq v v = true := by unfold vecEq; simp
theorem trF_ok {f f' : Frt} {er : Int} (h : trE f er = 0) : trF f f' er = f' := by unfold trF; rw [if_pos h]
theorem trF_no {f f' : Frt} {er : Int} (h : trE f er ≠ 0) : trF f f' er = frZ := by unfold trF; rw [if_neg h]
set_option maxRecDepth 100000 in
set_option maxHeartbeats 800000 in
theorem wakes18_any (w : World) : Calls Tryz.prog 8 #[] w (Gives (.bool true) w) := by
 have C1 := H7 (fun w' => show Calls Tryz.prog 10 #[.agg frZ.cells, .int .i64 1] w' (Gives (.tuple #[.agg wkF1.cells, .int .i64 0]) w') from by have h := register_any frZ 1 w'; rw [trF_ok wk1, wk1] at h; exact h)
 have C2 := H7 (fun w' => show Calls Tryz.prog 10 #[.agg wkF1.cells, .int .i64 2] w' (Gives (.tuple #[.agg wkF2.cells, .int .i64 0]) w') from by have h := register_any wkF1 2 w'; rw [trF_ok wk2, wk2] at h; exact h)
 have C3n := H7 (fun (g : Nat) w' (hl : LogV wkLog (.slice (some ⟨g, 0, none⟩) 3 3) w') => show Calls Tryz.prog 15 #[.agg wkF2.cells, .agg (wkLog.cells (.slice (some ⟨g, 0, none⟩) 3 3)), .int .i64 3] w' (Gives (.tuple #[.agg frZ.cells, .int .i64 4]) w') from by have h := propose_any wkF2 wkLog _ 3 (by decide) w' hl; rw [trF_no (by rw [wk3n]; decide), wk3n] at h; exact h)
 have C3 := H7 (fun (g : Nat) w' (hl : LogV wkLog (.slice (some ⟨g, 0, none⟩) 3 3) w') => show Calls Tryz.prog 15 #[.agg wkF2.cells, .agg (wkLog.cells (.slice (some ⟨g, 0, none⟩) 3 3)), .int .i64 1] w' (Gives (.tuple #[.agg wkF3.cells, .int .i64 0]) w') from by have h := propose_any wkF2 wkLog _ 1 (by decide) w' hl; rw [trF_ok wk3, wk3] at h; exact h)
 have C4 := H7 (fun w' => show Calls Tryz.prog 11 #[.agg wkF3.cells, .int .i64 1, .agg wkPl1.cells] w' (Gives (.tuple #[.agg wkF4.cells, .int .i64 0]) w') from by have h := hear0_any wkF3 1 wkPl1 w'; rw [trF_ok wk4, wk4] at h; exact h)
 have C5 := H7 (fun w' => show Calls Tryz.prog 11 #[.agg wkF4.cells, .int .i64 2, .agg wkPl2.cells] w' (Gives (.tuple #[.agg wkF5.cells, .int .i64 0]) w') from by have h := hear0_any wkF4 2 wkPl2 w'; rw [trF_ok wk5, wk5] at h; exact h)
 have C5w := H7 (fun w' => show Calls Tryz.prog 31 #[.agg wkF5.cells, .agg (lit9 wkV18)] w' (GivesRow 3 1 1 ([(2 : Int)].flatMap encZ) w') from by have h := waits_any wkF5 wkV18 w'; rw [wk5w] at h; exact h)
 have C6 := H7 (fun w' => show Calls Tryz.prog 11 #[.agg wkF5.cells, .int .i64 2, .agg wkPl3.cells] w' (Gives (.tuple #[.agg wkF6.cells, .int .i64 0]) w') from by have h := hear0_any wkF5 2 wkPl3 w'; rw [trF_ok wk6, wk6] at h; exact h)
 have C6r := H7 (fun w' => show Calls Tryz.prog 24 #[.agg wkF6.cells, .agg (lit9 wkV18)] w' (Gives (.tuple #[.agg (lit9 wkV18), .bool true]) w') from by have h := ready_any wkF6 wkV18 w'; unfold readyV vecV at h; rw [wk6r, if_pos rfl, wk6v] at h; exact h)
 have C7 := H7 (fun w' => show Calls Tryz.prog 25 #[.agg wkF6.cells, .agg (lit9 wkV18)] w' (Gives (.tuple #[.agg wkF7.cells, .int .i64 0]) w') from by have h := fold_any wkF6 wkV18 w'; rw [trF_ok wk7, wk7] at h; exact h)
 have C8 := H7 (fun w' => show Calls Tryz.prog 36 #[.agg wkF7.cells, .slice none 0 0] w' (GivesRow 3 1 2 ([(1 : Int), 2].flatMap encZ) w') from by have h := sitesF_any wkF7 none 0 0 [] rfl (by decide) w' (.inl ⟨rfl, rfl⟩); rw [wk7s] at h; exact h)
 have D1 := H7 wk7f
 have D2 := H7 wk7b
 generalize wkF1 = F1 at *
 generalize wkF2 = F2 at *
 generalize wkF3 = F3 at *
 generalize wkF4 = F4 at *
 generalize wkF5 = F5 at *
 generalize wkF6 = F6 at *
 generalize wkF7 = F7 at *
 have HS := H7 (St.start w)
 go_enter Tryz.func8, Tryz.ntmps8
 repeat ((fail_if_success (with_reducible refine stop_at (id := 1) ?_)); (first | go_values | go_skip | go_guarded | go_step | go_upon | go_back | (simp only [Int.not_lt, Int.not_le] at *; go_simp) | (go_values <;> (try go_simp)) | (go_ite <;> go_prune <;> (try go_simp)) | (split <;> (first | (rename_i hx; exact (hx _ rfl).elim) | go_prune))))
 refine (wpIn_wide (n := 0)).1 ?_
 repeat gi_step
 refine (callsIn_wide.2 (frNew_any _)).mono ?_
 rintro e w1 ⟨rfl, hb_⟩
 have HS := H7 (HS.out.below hb_)
 clear hb_
 simp only []
 go_at_K
 repeat gi_step
 refine (callsIn_wide.2 (C1.out _)).mono ?_
 rintro e w2 ⟨rfl, hb_⟩
 have HS := H7 (HS.out.below hb_)
 clear hb_
 simp only []
 go_at_K
 repeat (first | (refine nwF rfl ?_; simp only [Act.put, List.setIfInBounds_toArray, List.set_cons_succ, List.set_cons_zero]) | (refine stNewF _ _ rfl rfl rfl rfl rfl ?_; simp only [Act.put, List.setIfInBounds_toArray, List.set_cons_succ, List.set_cons_zero]) | gi_step)
 gi_wp2_with fail
 have hs_ := (HS.out.alloc (.cells F1.cells 29))
 obtain ⟨w3, hw_⟩ : ∃ w3 : World, (w2.alloc (.cells F1.cells 29)) = w3 := ⟨_, rfl⟩
 rw [hw_] at hs_
 try simp only [World.size_alloc] at hs_
 have HS := H7 hs_
 rw [hw_]
 clear hw_ hs_
 repeat ((fail_if_success (with_reducible refine stop_at (id := 2) ?_)); (first | go_values | go_skip | go_guarded | go_step | go_upon | go_back | (simp only [Int.not_lt, Int.not_le] at *; go_simp) | (go_values <;> (try go_simp)) | (go_ite <;> go_prune <;> (try go_simp)) | (split <;> (first | (rename_i hx; exact (hx _ rfl).elim) | go_prune))))
 refine (wpIn_wide (n := 0)).1 ?_
 repeat (first | (refine ldF _ rfl rfl (HS.out.blockAt 0 rfl) ?_; simp only [Act.put, List.setIfInBounds_toArray, List.set_cons_succ, List.set_cons_zero]) | gi_step)
 refine (callsIn_wide.2 (C2.out _)).mono ?_
 rintro e w4 ⟨rfl, hb_⟩
 have HS := H7 (HS.out.below hb_)
 clear hb_
 simp only []
 go_at_K
 repeat (first | (refine stF _ _ rfl rfl (HS.out.blockAt 0 rfl) rfl rfl ?_; simp only [Act.put, List.setIfInBounds_toArray, List.set_cons_succ, List.set_cons_zero]) | gi_step)
 gi_wp2_with fail
 have hs := HS.out.putRow (c' := F2.cells) (pre := []) (by intro i hi; cases hi)
 simp only [List.cons_append, List.nil_append] at hs
 revert hs
 generalize World.setRow w4 _ F2.cells = w5
 intro hs
 have HS := H7 hs
 clear hs
 repeat ((fail_if_success (with_reducible refine stop_at (id := 3) ?_)); (first | go_values | go_skip | go_guarded | go_step | go_upon | go_back | (simp only [Int.not_lt, Int.not_le] at *; go_simp) | (go_values <;> (try go_simp)) | (go_ite <;> go_prune <;> (try go_simp)) | (split <;> (first | (rename_i hx; exact (hx _ rfl).elim) | go_prune))))
 refine (wpIn_wide (n := 0)).1 ?_
 repeat gi_step
 refine (callsIn_wide.2 (mark_any 3 1 1 _)).mono ?_
 rintro e w6 ⟨rfl, hb_⟩
 have HS := H7 (HS.out.below hb_)
 clear hb_
 simp only []
 go_at_K
 repeat gi_step
 refine (callsIn_wide.2 (mark_any 5 1 2 _)).mono ?_
 rintro e w7 ⟨rfl, hb_⟩
 have HS := H7 (HS.out.below hb_)
 clear hb_
 simp only []
 go_at_K
 repeat gi_step
 refine (callsIn_wide.2 (mark_any 8 2 1 _)).mono ?_
 rintro e w8 ⟨rfl, hb_⟩
 have HS := H7 (HS.out.below hb_)
 clear hb_
 simp only []
 go_at_K
 repeat (first | (refine opIn_bs3 _ _ _ rfl rfl rfl rfl ?_; simp only [Act.put, List.setIfInBounds_toArray, List.set_cons_succ, List.set_cons_zero]) | (refine opIn_bdLog _ rfl rfl ?_; simp only [Act.put, List.setIfInBounds_toArray, List.set_cons_succ, List.set_cons_zero]) | (refine opIn_alloc _ rfl _ zero_L ?_; simp only [Act.put, List.setIfInBounds_toArray, List.set_cons_succ, List.set_cons_zero]) | (refine opIn_storeNew 41 _ _ rfl _ _ _ _ rfl rfl rfl (size_L wkLog _) rfl (one_L _) ?_; simp only [Act.put, List.setIfInBounds_toArray, List.set_cons_succ, List.set_cons_zero]) | gi_step)
 gi_wp2_with fail
 have hs_ := (HS.out.alloc (.cells (wkOps.flatMap encO).toArray 51))
 obtain ⟨w9, hw_⟩ : ∃ w9 : World, (w8.alloc (.cells (wkOps.flatMap encO).toArray 51)) = w9 := ⟨_, rfl⟩
 rw [hw_] at hs_
 try simp only [World.size_alloc] at hs_
 have HS := H7 hs_
 rw [hw_]
 clear hw_ hs_
 have hs_ := (HS.out.alloc (.cells (wkLog.cells (.slice (some ⟨w8.heap.size, 0, none⟩) 3 3)) 41))
 obtain ⟨w10, hw_⟩ : ∃ w10 : World, (w9.alloc (.cells (wkLog.cells (.slice (some ⟨w8.heap.size, 0, none⟩) 3 3)) 41)) = w10 := ⟨_, rfl⟩
 rw [hw_] at hs_
 try simp only [World.size_alloc] at hs_
 have HS := H7 hs_
 rw [hw_]
 clear hw_ hs_
 repeat ((fail_if_success (with_reducible refine stop_at (id := 4) ?_)); (first | go_values | go_skip | go_guarded | go_step | go_upon | go_back | (simp only [Int.not_lt, Int.not_le] at *; go_simp) | (go_values <;> (try go_simp)) | (go_ite <;> go_prune <;> (try go_simp)) | (split <;> (first | (rename_i hx; exact (hx _ rfl).elim) | go_prune))))
 refine (wpIn_wide (n := 0)).1 ?_
 repeat (first | (refine ldF _ rfl rfl (HS.out.blockAt 2 rfl) ?_; simp only [Act.put, List.setIfInBounds_toArray, List.set_cons_succ, List.set_cons_zero]) | (refine ldL _ rfl rfl (HS.out.blockAt 0 rfl) ?_; simp only [Act.put, List.setIfInBounds_toArray, List.set_cons_succ, List.set_cons_zero]) | gi_step)
 refine (callsIn_wide.2 (C3n.out _ _ (wkLogV (HS.out.blockAt 1 rfl)))).mono ?_
 rintro e w11 ⟨rfl, hb_⟩
 have HS := H7 (HS.out.below hb_)
 clear hb_
 simp only []
 go_at_K
 repeat (first | (refine nwF rfl ?_; simp only [Act.put, List.setIfInBounds_toArray, List.set_cons_succ, List.set_cons_zero]) | (refine stNewF _ _ rfl rfl rfl rfl rfl ?_; simp only [Act.put, List.setIfInBounds_toArray, List.set_cons_succ, List.set_cons_zero]) | gi_step)
 gi_wp2_with fail
 have hs_ := (HS.out.alloc (.cells frZ.cells 29))
 obtain ⟨w12, hw_⟩ : ∃ w12 : World, (w11.alloc (.cells frZ.cells 29)) = w12 := ⟨_, rfl⟩
 rw [hw_] at hs_
 try simp only [World.size_alloc] at hs_
 have HS := H7 hs_
 rw [hw_]
 clear hw_ hs_
 repeat ((fail_if_success (with_reducible refine stop_at (id := 5) ?_)); (first | go_values | go_skip | go_guarded | go_step | go_upon | go_back | (simp only [Int.not_lt, Int.not_le] at *; go_simp) | (go_values <;> (try go_simp)) | (go_ite <;> go_prune <;> (try go_simp)) | (split <;> (first | (rename_i hx; exact (hx _ rfl).elim) | go_prune))))
 refine (wpIn_wide (n := 0)).1 ?_
 repeat (first | (refine ldF _ rfl rfl (HS.out.blockAt 3 rfl) ?_; simp only [Act.put, List.setIfInBounds_toArray, List.set_cons_succ, List.set_cons_zero]) | (refine ldL _ rfl rfl (HS.out.blockAt 1 rfl) ?_; simp only [Act.put, List.setIfInBounds_toArray, List.set_cons_succ, List.set_cons_zero]) | gi_step)
 refine (callsIn_wide.2 (C3.out _ _ (wkLogV (HS.out.blockAt 2 rfl)))).mono ?_
 rintro e w13 ⟨rfl, hb_⟩
 have HS := H7 (HS.out.below hb_)
 clear hb_
 simp only []
 go_at_K
 repeat (first | (refine stF _ _ rfl rfl (HS.out.blockAt 3 rfl) rfl rfl ?_; simp only [Act.put, List.setIfInBounds_toArray, List.set_cons_succ, List.set_cons_zero]) | gi_step)
 gi_wp2_with fail
 have hs := HS.out.putRow (c' := F3.cells) (pre := [.blk _ _, .blk _ _, .blk _ _]) (by intro i hi; simp only [List.mem_cons, List.not_mem_nil, or_false] at hi; rcases hi with rfl | rfl | rfl <;> exact ⟨_, _, rfl⟩)
 simp only [List.cons_append, List.nil_append] at hs
 revert hs
 generalize World.setRow w13 _ F3.cells = w14
 intro hs
 have HS := H7 hs
 clear hs
 repeat ((fail_if_success (with_reducible refine stop_at (id := 6) ?_)); (first | go_values | go_skip | go_guarded | go_step | go_upon | go_back | (simp only [Int.not_lt, Int.not_le] at *; go_simp) | (go_values <;> (try go_simp)) | (go_ite <;> go_prune <;> (try go_simp)) | (split <;> (first | (rename_i hx; exact (hx _ rfl).elim) | go_prune))))
 refine (wpIn_wide (n := 0)).1 ?_
 repeat (first | (refine opIn_bdVV rfl ?_; simp only [Act.put, List.setIfInBounds_toArray, List.set_cons_succ, List.set_cons_zero]) | (refine nwV rfl ?_; simp only [Act.put, List.setIfInBounds_toArray, List.set_cons_succ, List.set_cons_zero]) | (refine stNewV _ _ rfl rfl rfl rfl rfl ?_; simp only [Act.put, List.setIfInBounds_toArray, List.set_cons_succ, List.set_cons_zero]) | gi_step)
 gi_wp2_with fail
 have hs_ := (HS.out.alloc (.cells (lit9 wkV18) 24))
 obtain ⟨w15, hw_⟩ : ∃ w15 : World, (w14.alloc (.cells (lit9 wkV18) 24)) = w15 := ⟨_, rfl⟩
 rw [hw_] at hs_
 try simp only [World.size_alloc] at hs_
 have HS := H7 hs_
 rw [hw_]
 clear hw_ hs_
 repeat ((fail_if_success (with_reducible refine stop_at (id := 7) ?_)); (first | go_values | go_skip | go_guarded | go_step | go_upon | go_back | (simp only [Int.not_lt, Int.not_le] at *; go_simp) | (go_values <;> (try go_simp)) | (go_ite <;> go_prune <;> (try go_simp)) | (split <;> (first | (rename_i hx; exact (hx _ rfl).elim) | go_prune))))
 refine (wpIn_wide (n := 0)).1 ?_
 repeat (first | (refine ldF _ rfl rfl (HS.out.blockAt 4 rfl) ?_; simp only [Act.put, List.setIfInBounds_toArray, List.set_cons_succ, List.set_cons_zero]) | (refine ldV _ rfl rfl (HS.out.blockAt 0 rfl) ?_; simp only [Act.put, List.setIfInBounds_toArray, List.set_cons_succ, List.set_cons_zero]) | (refine opIn_bdP4 (x := 5) (y := 2) _ rfl rfl ?_; simp only [Act.put, List.setIfInBounds_toArray, List.set_cons_succ, List.set_cons_zero]) | gi_step)
 refine (callsIn_wide.2 (C4.out _)).mono ?_
 rintro e w16 ⟨rfl, hb_⟩
 have HS := H7 (HS.out.below hb_)
 clear hb_
 simp only []
 go_at_K
 repeat (first | (refine stF _ _ rfl rfl (HS.out.blockAt 4 rfl) rfl rfl ?_; simp only [Act.put, List.setIfInBounds_toArray, List.set_cons_succ, List.set_cons_zero]) | gi_step)
 gi_wp2_with fail
 have hs := HS.out.putRow (c' := F4.cells) (pre := [.blk _ _, .blk _ _, .blk _ _, .blk _ _]) (by intro i hi; simp only [List.mem_cons, List.not_mem_nil, or_false] at hi; rcases hi with rfl | rfl | rfl | rfl <;> exact ⟨_, _, rfl⟩)
 simp only [List.cons_append, List.nil_append] at hs
 revert hs
 generalize World.setRow w16 _ F4.cells = w17
 intro hs
 have HS := H7 hs
 clear hs
 repeat ((fail_if_success (with_reducible refine stop_at (id := 8) ?_)); (first | go_values | go_skip | go_guarded | go_step | go_upon | go_back | (simp only [Int.not_lt, Int.not_le] at *; go_simp) | (go_values <;> (try go_simp)) | (go_ite <;> go_prune <;> (try go_simp)) | (split <;> (first | (rename_i hx; exact (hx _ rfl).elim) | go_prune))))
 refine (wpIn_wide (n := 0)).1 ?_
 repeat (first | (refine ldF _ rfl rfl (HS.out.blockAt 4 rfl) ?_; simp only [Act.put, List.setIfInBounds_toArray, List.set_cons_succ, List.set_cons_zero]) | (refine opIn_bdVU rfl ?_; simp only [Act.put, List.setIfInBounds_toArray, List.set_cons_succ, List.set_cons_zero]) | (refine opIn_bdP4 (x := 6) (y := 1) _ rfl rfl ?_; simp only [Act.put, List.setIfInBounds_toArray, List.set_cons_succ, List.set_cons_zero]) | gi_step)
 refine (callsIn_wide.2 (C5.out _)).mono ?_
 rintro e w18 ⟨rfl, hb_⟩
 have HS := H7 (HS.out.below hb_)
 clear hb_
 simp only []
 go_at_K
 repeat (first | (refine stF _ _ rfl rfl (HS.out.blockAt 4 rfl) rfl rfl ?_; simp only [Act.put, List.setIfInBounds_toArray, List.set_cons_succ, List.set_cons_zero]) | gi_step)
 gi_wp2_with fail
 have hs := HS.out.putRow (c' := F5.cells) (pre := [.blk _ _, .blk _ _, .blk _ _, .blk _ _]) (by intro i hi; simp only [List.mem_cons, List.not_mem_nil, or_false] at hi; rcases hi with rfl | rfl | rfl | rfl <;> exact ⟨_, _, rfl⟩)
 simp only [List.cons_append, List.nil_append] at hs
 revert hs
 generalize World.setRow w18 _ F5.cells = w19
 intro hs
 have HS := H7 hs
 clear hs
 repeat ((fail_if_success (with_reducible refine stop_at (id := 9) ?_)); (first | go_values | go_skip | go_guarded | go_step | go_upon | go_back | (simp only [Int.not_lt, Int.not_le] at *; go_simp) | (go_values <;> (try go_simp)) | (go_ite <;> go_prune <;> (try go_simp)) | (split <;> (first | (rename_i hx; exact (hx _ rfl).elim) | go_prune))))
 refine (wpIn_wide (n := 0)).1 ?_
 repeat (first | (refine ldF _ rfl rfl (HS.out.blockAt 4 rfl) ?_; simp only [Act.put, List.setIfInBounds_toArray, List.set_cons_succ, List.set_cons_zero]) | (refine ldV _ rfl rfl (HS.out.blockAt 0 rfl) ?_; simp only [Act.put, List.setIfInBounds_toArray, List.set_cons_succ, List.set_cons_zero]) | gi_step)
 refine (callsIn_wide.2 (C5w.out _)).mono ?_
 rintro e w20 ⟨sv, rfl, hrow, hb_⟩
 have hz_ := HS.out.lt 4 rfl
 have HS := H7 (HS.out.below hb_)
 clear hb_
 have hr_ : RowH w19.heap.size 1 [2] sv w20 := ⟨rfl, hrow⟩
 have HZ9 := H7 hz_
 clear hz_
 obtain ⟨ra, rc, rfl⟩ := hr_.shape
 have HR := H7 hr_
 clear hrow hr_
 gi_wp2_with fail
 repeat ((fail_if_success (with_reducible refine stop_at (id := 10) ?_)); (first | go_values | go_skip | go_guarded | go_step | go_upon | go_back | (simp only [Int.not_lt, Int.not_le] at *; go_simp) | (go_values <;> (try go_simp)) | (go_ite <;> go_prune <;> (try go_simp)) | (split <;> (first | (rename_i hx; exact (hx _ rfl).elim) | go_prune))))
 refine (wpIn_wide (n := 0)).1 ?_
 repeat (first | (refine ldF _ rfl rfl (HS.out.blockAt 4 rfl) ?_; simp only [Act.put, List.setIfInBounds_toArray, List.set_cons_succ, List.set_cons_zero]) | (refine ldV _ rfl rfl (HS.out.blockAt 0 rfl) ?_; simp only [Act.put, List.setIfInBounds_toArray, List.set_cons_succ, List.set_cons_zero]) | (refine opIn_bdP4 (x := 6) (y := 9) _ rfl rfl ?_; simp only [Act.put, List.setIfInBounds_toArray, List.set_cons_succ, List.set_cons_zero]) | gi_step)
 refine (callsIn_wide.2 (C6.out _)).mono ?_
 rintro e w21 ⟨rfl, hb_⟩
 have HS := H7 (HS.out.below hb_)
 have HR := H7 (HR.out.below hb_)
 clear hb_
 simp only []
 go_at_K
 repeat (first | (refine stF _ _ rfl rfl (HS.out.blockAt 4 rfl) rfl rfl ?_; simp only [Act.put, List.setIfInBounds_toArray, List.set_cons_succ, List.set_cons_zero]) | gi_step)
 gi_wp2_with fail
 have hs := HS.out.putRow (c' := F6.cells) (pre := [.blk _ _, .blk _ _, .blk _ _, .blk _ _]) (by intro i hi; simp only [List.mem_cons, List.not_mem_nil, or_false] at hi; rcases hi with rfl | rfl | rfl | rfl <;> exact ⟨_, _, rfl⟩)
 simp only [List.cons_append, List.nil_append] at hs
 have hHR_ := HR.out.setRowH HZ9.out (F6.cells)
 revert hs hHR_
 generalize World.setRow w21 _ F6.cells = w22
 intro hs hHR_
 have HS := H7 hs
 have HR := H7 hHR_
 clear hs hHR_
 repeat ((fail_if_success (with_reducible refine stop_at (id := 11) ?_)); (first | go_values | go_skip | go_guarded | go_step | go_upon | go_back | (simp only [Int.not_lt, Int.not_le] at *; go_simp) | (go_values <;> (try go_simp)) | (go_ite <;> go_prune <;> (try go_simp)) | (split <;> (first | (rename_i hx; exact (hx _ rfl).elim) | go_prune))))
 refine (wpIn_wide (n := 0)).1 ?_
 repeat (first | (refine ldF _ rfl rfl (HS.out.blockAt 4 rfl) ?_; simp only [Act.put, List.setIfInBounds_toArray, List.set_cons_succ, List.set_cons_zero]) | (refine ldV _ rfl rfl (HS.out.blockAt 0 rfl) ?_; simp only [Act.put, List.setIfInBounds_toArray, List.set_cons_succ, List.set_cons_zero]) | gi_step)
 refine (callsIn_wide.2 (C6r.out _)).mono ?_
 rintro e w23 ⟨rfl, hb_⟩
 have HS := H7 (HS.out.below hb_)
 have HR := H7 (HR.out.below hb_)
 clear hb_
 simp only []
 go_at_K
 repeat (first | (refine nwV rfl ?_; simp only [Act.put, List.setIfInBounds_toArray, List.set_cons_succ, List.set_cons_zero]) | (refine stNewV _ _ rfl rfl rfl rfl rfl ?_; simp only [Act.put, List.setIfInBounds_toArray, List.set_cons_succ, List.set_cons_zero]) | gi_step)
 gi_wp2_with fail
 have hs_ := (HS.out.alloc (.cells (lit9 wkV18) 24))
 have hk_HR := HR.out.below ((B7 _ _).alloc (by exact Nat.le_refl _) (.cells (lit9 wkV18) 24))
 obtain ⟨w24, hw_⟩ : ∃ w24 : World, (w23.alloc (.cells (lit9 wkV18) 24)) = w24 := ⟨_, rfl⟩
 rw [hw_] at hs_ hk_HR
 try simp only [World.size_alloc] at hs_
 have HS := H7 hs_
 have HR := H7 hk_HR
 rw [hw_]
 clear hw_ hs_ hk_HR
 repeat ((fail_if_success (with_reducible refine stop_at (id := 12) ?_)); (first | go_values | go_skip | go_guarded | go_step | go_upon | go_back | (simp only [Int.not_lt, Int.not_le] at *; go_simp) | (go_values <;> (try go_simp)) | (go_ite <;> go_prune <;> (try go_simp)) | (split <;> (first | (rename_i hx; exact (hx _ rfl).elim) | go_prune))))
 refine (wpIn_wide (n := 0)).1 ?_
 repeat (first | (refine ldF _ rfl rfl (HS.out.blockAt 5 rfl) ?_; simp only [Act.put, List.setIfInBounds_toArray, List.set_cons_succ, List.set_cons_zero]) | (refine ldV _ rfl rfl (HS.out.blockAt 1 rfl) ?_; simp only [Act.put, List.setIfInBounds_toArray, List.set_cons_succ, List.set_cons_zero]) | gi_step)
 refine (callsIn_wide.2 (C7.out _)).mono ?_
 rintro e w25 ⟨rfl, hb_⟩
 have HS := H7 (HS.out.below hb_)
 have HR := H7 (HR.out.below hb_)
 clear hb_
 simp only []
 go_at_K
 repeat (first | (refine stF _ _ rfl rfl (HS.out.blockAt 5 rfl) rfl rfl ?_; simp only [Act.put, List.setIfInBounds_toArray, List.set_cons_succ, List.set_cons_zero]) | gi_step)
 gi_wp2_with fail
 have hs := HS.out.putRow (c' := F7.cells) (pre := [.blk _ _, .blk _ _, .blk _ _, .blk _ _, .blk _ _]) (by intro i hi; simp only [List.mem_cons, List.not_mem_nil, or_false] at hi; rcases hi with rfl | rfl | rfl | rfl | rfl <;> exact ⟨_, _, rfl⟩)
 simp only [List.cons_append, List.nil_append] at hs
 have hHR_ := HR.out.setRowH HZ9.out (F7.cells)
 revert hs hHR_
 generalize World.setRow w25 _ F7.cells = w26
 intro hs hHR_
 have HS := H7 hs
 have HR := H7 hHR_
 clear hs hHR_
 repeat ((fail_if_success (with_reducible refine stop_at (id := 13) ?_)); (first | go_values | go_skip | go_guarded | go_step | go_upon | go_back | (simp only [Int.not_lt, Int.not_le] at *; go_simp) | (go_values <;> (try go_simp)) | (go_ite <;> go_prune <;> (try go_simp)) | (split <;> (first | (rename_i hx; exact (hx _ rfl).elim) | go_prune))))
 refine (wpIn_wide (n := 0)).1 ?_
 repeat gi_step
 have hs_ := (HS.out.alloc (.cells #[.int .i64 2] 3))
 have hk_HR := HR.out.below ((B7 _ _).alloc (by exact Nat.le_refl _) (.cells #[.int .i64 2] 3))
 obtain ⟨w27, hw_⟩ : ∃ w27 : World, (w26.alloc (.cells #[.int .i64 2] 3)) = w27 := ⟨_, rfl⟩
 rw [hw_] at hs_ hk_HR
 try simp only [World.size_alloc] at hs_
 have HS := H7 hs_
 have HR := H7 hk_HR
 rw [hw_]
 clear hw_ hs_ hk_HR
 refine (callsIn_wide.2 (eqZ_any _ _ 1 1 _ 1 [2] [2] rfl rfl (by decide) _ HR.out.el (elZ_of (l := [2]) (HS.out.blockAt 0 rfl)))).mono ?_
 rintro e w28 ⟨rfl, hb_⟩
 have HS := H7 (HS.out.below hb_)
 have HR := H7 (HR.out.below hb_)
 clear hb_
 rw [show decide (([2] : List Int) = [2]) = true from rfl]
 have q := Frt.foldedC (HS.out.blockAt 6 rfl)
 rw [D1.out] at q
 simp only []
 go_at_K
 repeat (first | (refine ldV _ rfl rfl (HS.out.blockAt 1 rfl) ?_; simp only [Act.put, List.setIfInBounds_toArray, List.set_cons_succ, List.set_cons_zero]) | (refine ldV _ rfl rfl (HS.out.blockAt 2 rfl) ?_; simp only [Act.put, List.setIfInBounds_toArray, List.set_cons_succ, List.set_cons_zero]) | (refine ldBy _ rfl rfl (HS.out.blockAt 6 rfl) ?_; simp only [Act.put, List.setIfInBounds_toArray, List.set_cons_succ, List.set_cons_zero]) | (refine ldF _ rfl rfl (HS.out.blockAt 6 rfl) ?_; simp only [Act.put, List.setIfInBounds_toArray, List.set_cons_succ, List.set_cons_zero]) | (refine eqV' _ _ _ rfl rfl rfl (vecEq_self wkV18) ?_; simp only [Act.put, List.setIfInBounds_toArray, List.set_cons_succ, List.set_cons_zero]) | (refine eqV' _ _ _ rfl rfl rfl D2.out ?_; simp only [Act.put, List.setIfInBounds_toArray, List.set_cons_succ, List.set_cons_zero]) | gi_step)
 clear q
 refine (callsIn_wide.2 (C8.out _)).mono ?_
 rintro e w29 ⟨sv, rfl, hrow, hb_⟩
 have hz_ := HS.out.lt 6 rfl
 have HS := H7 (HS.out.below hb_)
 have HR := H7 (HR.out.below hb_)
 clear hb_
 have hr_ : RowH w28.heap.size 2 [1, 2] sv w29 := ⟨rfl, hrow⟩
 clear hz_
 obtain ⟨sa, sc, rfl⟩ := hr_.shape
 have HR2 := H7 hr_
 clear hrow hr_
 simp only []
 go_at_K
 repeat gi_step
 have hs_ := (HS.out.alloc (.cells #[.int .i64 1, .int .i64 2] 3))
 have hk_HR := HR.out.below ((B7 _ _).alloc (by exact Nat.le_refl _) (.cells #[.int .i64 1, .int .i64 2] 3))
 have hk_HR2 := HR2.out.below ((B7 _ _).alloc (by exact Nat.le_refl _) (.cells #[.int .i64 1, .int .i64 2] 3))
 obtain ⟨w30, hw_⟩ : ∃ w30 : World, (w29.alloc (.cells #[.int .i64 1, .int .i64 2] 3)) = w30 := ⟨_, rfl⟩
 rw [hw_] at hs_ hk_HR hk_HR2
 try simp only [World.size_alloc] at hs_
 have HS := H7 hs_
 have HR := H7 hk_HR
 have HR2 := H7 hk_HR2
 rw [hw_]
 clear hw_ hs_ hk_HR hk_HR2
 refine (callsIn_wide.2 (eqZ_any _ _ 2 2 _ 2 [1, 2] [1, 2] rfl rfl (by decide) _ HR2.out.el (elZ_of (l := [1, 2]) (HS.out.blockAt 0 rfl)))).mono ?_
 rintro e w31 ⟨rfl, hb_⟩
 have HS := H7 (HS.out.below hb_)
 have HR := H7 (HR.out.below hb_)
 have HR2 := H7 (HR2.out.below hb_)
 clear hb_
 rw [show decide (([1, 2] : List Int) = [1, 2]) = true from rfl]
 gi_wp2_with (exfalso; exact undefB (by assumption))
 go_wp2_with fail
 go_ret
 exact ⟨rfl, HS.out.low⟩
end Go.Proofs.YteklfmacnnmomaaGreat
/- Layer 18: plain laws of frontiers. -/
namespace Go.Proofs.YteklfmacnnmomaaGreat
open Go.RowKit Go.Shelf
theorem okB_parts {f : Frt} (h : f.okB = true) : f.folded ≤ MaxT ∧ vecOk f.by_ = true ∧ propOk f = true ∧ ∀ k, k < 9 → sitOk f k = true := by
 unfold Frt.okB at h
 rw [Bool.and_eq_true, Bool.and_eq_true, Bool.and_eq_true, decide_eq_true_eq] at h
 exact ⟨h.1.1.1, h.1.1.2, h.1.2, fun k hk => List.all_eq_true.1 h.2 k (List.mem_range.2 hk)⟩
theorem okB_mk {f : Frt} (h1 : f.folded ≤ MaxT) (h2 : vecOk f.by_ = true) (h3 : propOk f = true) (h4 : ∀ k, k < 9 → sitOk f k = true) : f.okB = true := by
 unfold Frt.okB
 rw [decide_eq_true h1, h2, h3, sitesAll_yes h4]
 rfl
theorem plEq_in {p : Plg} (h : p.inn = true) : plEq p plZ = false := by
 unfold plEq
 rw [h]; rfl
theorem sitOk_in {f : Frt} {k : Nat} (h : sitOk f k = true) (hi : (f.site k).inn = true) : siteB (k : Int) = true ∧ pledgeOk (f.site k) = true ∧ f.folded ≤ (f.site k).floor := by
 unfold sitOk at h
 rw [plEq_in hi, Bool.false_or, Bool.and_eq_true, Bool.and_eq_true, decide_eq_true_eq] at h
 exact ⟨h.1.1, h.1.2, h.2⟩
theorem sitOk_mk {f : Frt} {k : Nat} (h1 : siteB (k : Int) = true) (h2 : pledgeOk (f.site k) = true) (h3 : f.folded ≤ (f.site k).floor) : sitOk f k = true := by
 unfold sitOk
 rw [h1, h2, decide_eq_true h3]
 simp
/- Layer 18: what is heard, one after the other (plain laws). -/
def hstep (n : Int) (f : Frt) (p : Plg) : Frt := if trE f (hearE f n p) = 0 then hearF f n p else f
def hearsF (n : Int) (f : Frt) (l : List Plg) : Frt := l.foldl (hstep n) f
theorem hstep_parts {n : Int} {f : Frt} {p : Plg} (h : trE f (hearE f n p) = 0) : f.okB = true ∧ siteB n = true ∧ pledgeOk p = true ∧ (f.site n.toNat).inn = true := by
 unfold trE hearE at h
 cases h1 : f.okB
 · rw [h1] at h; cases h
 · rw [h1, if_pos rfl] at h
   cases h2 : siteB n
   · rw [h2] at h; cases h
   · cases h3 : pledgeOk p
     · rw [h2, h3] at h; cases h
     · cases h4 : (f.site n.toNat).inn
       · rw [h2, h3, h4] at h; cases h
       · exact ⟨rfl, rfl, rfl, rfl⟩
theorem hstep_mk {n : Int} {f : Frt} {p : Plg} (h1 : f.okB = true) (h2 : siteB n = true) (h3 : pledgeOk p = true) (h4 : (f.site n.toNat).inn = true) : hstep n f p = hearF f n p := by
 unfold hstep
 rw [if_pos]
 unfold trE hearE
 rw [h1, h2, h3, h4]; rfl
theorem hstep_bad {n : Int} {f : Frt} {p : Plg} (h3 : pledgeOk p = false) : hstep n f p = f := by
 unfold hstep
 rw [if_neg]
 intro h
 have := (hstep_parts h).2.2.1
 rw [h3] at this; cases this
theorem hears_still {n : Int} {f : Frt} (h : ¬ (f.okB = true ∧ siteB n = true ∧ (f.site n.toNat).inn = true)) : ∀ l, hearsF n f l = f
 | [] => rfl
 | p :: l => by
  have e : hstep n f p = f := by
   unfold hstep
   rw [if_neg]
   intro h2
   obtain ⟨a, b, -, d⟩ := hstep_parts h2
   exact h ⟨a, b, d⟩
  show hearsF n (hstep n f p) l = f
  rw [e]
  exact hears_still h l
/-- The pledge of one site. -/
def hq (q p : Plg) : Plg := if pledgeOk p = true then hearP q p else q
def hqs (q : Plg) (l : List Plg) : Plg := l.foldl hq q
theorem Frt.put_self (f : Frt) (k : Nat) : f.put k (f.site k) = f := by
 unfold Frt.put
 cases f
 congr 1
 funext j
 dsimp only
 split
 · rename_i h; rw [h]
 · rfl
theorem pledgeOk_hear {q p : Plg} (h1 : pledgeOk q = true) (h2 : pledgeOk p = true) : pledgeOk (hearP q p) = true := by
 have hv := vecOk_max (pledgeOk_has h1) (pledgeOk_has h2)
 unfold pledgeOk at h1 h2 ⊢
 simp only [Bool.and_eq_true, decide_eq_true_eq] at h1 h2 ⊢
 unfold hearP
 dsimp only
 refine ⟨⟨⟨h1.1.1.1, ?_⟩, ?_⟩, hv⟩
 · split
   · exact h2.1.1.2
   · exact h1.1.1.2
 · split
   · exact h2.1.2
   · exact h1.1.2
theorem okB_put {f : Frt} {k : Nat} {q : Plg} (h : f.okB = true) (hs : siteB (k : Int) = true) (h1 : pledgeOk q = true) (h2 : f.folded ≤ q.floor) : (f.put k q).okB = true := by
 obtain ⟨a, b, c, d⟩ := okB_parts h
 refine okB_mk a b c fun j hj => ?_
 by_cases e : j = k
 · subst e
   refine sitOk_mk hs ?_ ?_
   · rw [f.put_at]; exact h1
   · rw [f.put_at]; exact h2
 · have h5 := d j hj
   unfold sitOk at h5 ⊢
   rw [f.put_ne q e]
   exact h5
theorem siteB_lt {k : Nat} (h : siteB (k : Int) = true) : k < 9 := by
 unfold siteB at h
 simp only [Bool.and_eq_true, decide_eq_true_eq] at h
 omega
theorem hears_put {f : Frt} {k : Nat} (hs : siteB (k : Int) = true) : ∀ (l : List Plg) (q : Plg), (f.put k q).okB = true → q.inn = true → hearsF k (f.put k q) l = f.put k (hqs q l) ∧ (f.put k (hqs q l)).okB = true
 | [], q, h, _ => ⟨rfl, h⟩
 | p :: l, q, h, hi => by
  cases h3 : pledgeOk p
  · have e : hqs q (p :: l) = hqs q l := by
     show hqs (hq q p) l = _
     unfold hq
     rw [h3]; rfl
    show hearsF k (hstep k (f.put k q) p) l = _ ∧ _
    rw [hstep_bad h3, e]
    exact hears_put hs l q h hi
  · have e : hqs q (p :: l) = hqs (hearP q p) l := by
     show hqs (hq q p) l = _
     unfold hq
     rw [h3, if_pos rfl]
    have hst : ((f.put k q).site (k : Int).toNat) = q := by rw [Int.toNat_natCast, f.put_at]
    have e2 : hstep k (f.put k q) p = f.put k (hearP q p) := by
     rw [hstep_mk h hs h3 (by rw [hst]; exact hi)]
     unfold hearF
     rw [hst, Int.toNat_natCast, Frt.put_put]
    show hearsF k (hstep k (f.put k q) p) l = _ ∧ _
    rw [e2, e]
    have hk := siteB_lt hs
    obtain ⟨-, g1, g2⟩ := sitOk_in ((okB_parts h).2.2.2 k hk) (by rw [f.put_at]; exact hi)
    rw [f.put_at] at g1 g2
    refine hears_put hs l (hearP q p) ?_ hi
    have h6 := okB_put h hs (pledgeOk_hear g1 h3) (q := hearP q p) (by
     unfold hearP
     dsimp only
     have g2' : f.folded ≤ q.floor := g2
     show f.folded ≤ _
     split
     · omega
     · exact g2')
    rw [Frt.put_put] at h6
    exact h6
theorem hqs_cons (q p : Plg) (l : List Plg) : hqs q (p :: l) = hqs (hq q p) l := rfl
theorem hq_floor (q p : Plg) : (hq q p).floor = if pledgeOk p = true then max q.floor p.floor else q.floor := by
 unfold hq hearP
 split
 · dsimp only
   split <;> omega
 · rfl
theorem hq_has (q p : Plg) (s : Nat) : (hq q p).has s = if pledgeOk p = true then max (q.has s) (p.has s) else q.has s := by
 unfold hq hearP
 split <;> rfl
theorem hq_inn (q p : Plg) : (hq q p).inn = q.inn := by
 unfold hq hearP
 split <;> rfl
theorem hqs_inn : ∀ (l : List Plg) (q : Plg), (hqs q l).inn = q.inn
 | [], _ => rfl
 | p :: l, q => by rw [hqs_cons, hqs_inn l, hq_inn]
theorem hqs_floor (c : Int) : ∀ (l : List Plg) (q : Plg), (hqs q l).floor ≤ c ↔ q.floor ≤ c ∧ ∀ p ∈ l, pledgeOk p = true → p.floor ≤ c
 | [], q => by simp [hqs]
 | p :: l, q => by
  rw [hqs_cons, hqs_floor c l, hq_floor]
  by_cases h : pledgeOk p = true
  · rw [if_pos h]
    constructor
    · rintro ⟨h1, h2⟩
      refine ⟨by omega, fun x hx hp => ?_⟩
      rcases List.mem_cons.1 hx with rfl | hx
      · omega
      · exact h2 x hx hp
    · rintro ⟨h1, h2⟩
      have := h2 p (by simp) h
      exact ⟨by omega, fun x hx hp => h2 x (by simp [hx]) hp⟩
  · rw [if_neg h]
    constructor
    · rintro ⟨h1, h2⟩
      refine ⟨h1, fun x hx hp => ?_⟩
      rcases List.mem_cons.1 hx with rfl | hx
      · exact absurd hp h
      · exact h2 x hx hp
    · rintro ⟨h1, h2⟩
      exact ⟨h1, fun x hx hp => h2 x (by simp [hx]) hp⟩
theorem hqs_has (c : Int) (s : Nat) : ∀ (l : List Plg) (q : Plg), (hqs q l).has s ≤ c ↔ q.has s ≤ c ∧ ∀ p ∈ l, pledgeOk p = true → p.has s ≤ c
 | [], q => by simp [hqs]
 | p :: l, q => by
  rw [hqs_cons, hqs_has c s l, hq_has]
  by_cases h : pledgeOk p = true
  · rw [if_pos h]
    constructor
    · rintro ⟨h1, h2⟩
      refine ⟨by omega, fun x hx hp => ?_⟩
      rcases List.mem_cons.1 hx with rfl | hx
      · omega
      · exact h2 x hx hp
    · rintro ⟨h1, h2⟩
      have := h2 p (by simp) h
      exact ⟨by omega, fun x hx hp => h2 x (by simp [hx]) hp⟩
  · rw [if_neg h]
    constructor
    · rintro ⟨h1, h2⟩
      refine ⟨h1, fun x hx hp => ?_⟩
      rcases List.mem_cons.1 hx with rfl | hx
      · exact absurd hp h
      · exact h2 x hx hp
    · rintro ⟨h1, h2⟩
      exact ⟨h1, fun x hx hp => h2 x (by simp [hx]) hp⟩
theorem hq_same {q p : Plg} (h1 : pledgeOk p = true → p.floor ≤ q.floor) (h2 : ∀ s, pledgeOk p = true → p.has s ≤ q.has s) : hq q p = q := by
 unfold hq
 split
 · rename_i h
   unfold hearP
   have e : ¬ q.floor < p.floor := by have := h1 h; omega
   rw [if_neg e, if_neg e]
   have e2 : (fun s => max (q.has s) (p.has s)) = q.has := funext fun s => by have := h2 s h; omega
   rw [e2]
 · rfl
theorem hqs_same : ∀ (l : List Plg) (q : Plg), (∀ p ∈ l, (pledgeOk p = true → p.floor ≤ q.floor) ∧ ∀ s, pledgeOk p = true → p.has s ≤ q.has s) → hqs q l = q
 | [], _, _ => rfl
 | p :: l, q, h => by
  rw [hqs_cons, hq_same (h p (by simp)).1 (h p (by simp)).2]
  exact hqs_same l q fun x hx => h x (by simp [hx])
theorem hqs_twice (q : Plg) (l : List Plg) : hqs q (l ++ l) = hqs q l := by
 have e : hqs q (l ++ l) = hqs (hqs q l) l := List.foldl_append ..
 rw [e]
 refine hqs_same l _ fun p hp => ⟨fun h => ?_, fun s h => ?_⟩
 · exact ((hqs_floor _ l q).1 (Int.le_refl _)).2 p hp h
 · exact ((hqs_has _ s l q).1 (Int.le_refl _)).2 p hp h
theorem hqs_rev (q : Plg) (l : List Plg) : (hqs q l.reverse).floor = (hqs q l).floor ∧ ∀ s, (hqs q l.reverse).has s = (hqs q l).has s := by
 refine ⟨Int.le_antisymm ?_ ?_, fun s => Int.le_antisymm ?_ ?_⟩
 · obtain ⟨a, b⟩ := (hqs_floor _ l q).1 (Int.le_refl _)
   exact (hqs_floor _ _ q).2 ⟨a, fun p hp => b p (List.mem_reverse.1 hp)⟩
 · obtain ⟨a, b⟩ := (hqs_floor _ l.reverse q).1 (Int.le_refl _)
   exact (hqs_floor _ _ q).2 ⟨a, fun p hp => b p (List.mem_reverse.2 hp)⟩
 · obtain ⟨a, b⟩ := (hqs_has _ s l q).1 (Int.le_refl _)
   exact (hqs_has _ s _ q).2 ⟨a, fun p hp => b p (List.mem_reverse.1 hp)⟩
 · obtain ⟨a, b⟩ := (hqs_has _ s l.reverse q).1 (Int.le_refl _)
   exact (hqs_has _ s _ q).2 ⟨a, fun p hp => b p (List.mem_reverse.2 hp)⟩
/-- The law, in plain words. -/
structure TwiceL (n : Int) (f : Frt) (l : List Plg) : Prop where
 twice : hearsF n f (l ++ l) = hearsF n f l
 ok : f.okB = true → (hearsF n f l).okB = true
 folded : (hearsF n f l).folded = f.folded
 prop : (hearsF n f l).prop = f.prop
 inn : ∀ k, ((hearsF n f l).site k).inn = ((hearsF n f l.reverse).site k).inn
 floor : ∀ k, ((hearsF n f l).site k).floor = ((hearsF n f l.reverse).site k).floor
 has : ∀ k, ((hearsF n f l).site k).has = ((hearsF n f l.reverse).site k).has
theorem twice_law (n : Int) (f : Frt) (l : List Plg) : TwiceL n f l := by
 by_cases h : f.okB = true ∧ siteB n = true ∧ (f.site n.toNat).inn = true
 · obtain ⟨h1, h2, h3⟩ := h
   obtain ⟨k, rfl, -, -⟩ := siteB_nat h2
   rw [Int.toNat_natCast] at h3
   have key : ∀ l, hearsF k f l = f.put k (hqs (f.site k) l) ∧ (f.put k (hqs (f.site k) l)).okB = true := fun l => by
    have := hears_put (f := f) h2 l (f.site k) (by rw [f.put_self]; exact h1) h3
    rw [f.put_self] at this
    exact this
   obtain ⟨r1, r2⟩ := hqs_rev (f.site k) l
   refine ⟨?_, fun _ => ?_, ?_, ?_, fun j => ?_, fun j => ?_, fun j => ?_⟩
   · rw [(key _).1, (key _).1, hqs_twice]
   · rw [(key _).1]; exact (key _).2
   · rw [(key _).1]; rfl
   · rw [(key _).1]; rfl
   all_goals
    rw [(key _).1, (key _).1]
    by_cases e : j = k
    · subst e
      rw [f.put_at, f.put_at]
      first | rw [hqs_inn, hqs_inn] | exact r1.symm | exact funext fun s => (r2 s).symm
    · rw [f.put_ne _ e, f.put_ne _ e]
 · have key := fun l => hears_still h l
   refine ⟨?_, fun hh => ?_, ?_, ?_, fun j => ?_, fun j => ?_, fun j => ?_⟩
   · rw [key, key]
   · rw [key]; exact hh
   · rw [key]
   · rw [key]
   all_goals rw [key, key]
/- slices.Reverse at any row; what lies beside it. -/
section
variable {α : Type} [Inhabited α] {P : Program} {ρ : Ren}
theorem flatR_get {enc : α → List Value} {k : Nat} (hk : ∀ x, (enc x).length = k) (d : List α) (j : Nat) (h : j < d.length * k) : (l_ : List Value) → l_ = d.flatMap enc → l_[j]? = some ((Sort.flatK enc k d.toArray)[j]!) := by
 rintro _ rfl
 have hk0 : 0 < k := Nat.pos_of_ne_zero (fun e => by subst e; simp at h)
 have hdiv : j / k < d.length := Nat.div_lt_of_lt_mul (by rw [Nat.mul_comm]; exact h)
 have hmod : j % k < k := Nat.mod_lt _ hk0
 have hjk : j / k * k + j % k = j := by rw [Nat.mul_comm]; exact Nat.div_add_mod j k
 have h2 := flat_get hk d (j / k) (j % k) hmod
 rw [hjk, List.getElem?_eq_getElem hdiv] at h2
 rw [h2, Sort.get_flatK _ _ _ _ (by simpa using h)]
 have e : d.toArray[j / k]! = d[j / k] := by rw [getElem!_pos d.toArray (j / k) (by simpa using hdiv)]; simp
 rw [e]
 show (enc d[j / k])[j % k]? = some _
 rw [getElem!_pos (enc d[j / k]) (j % k) (by rw [hk]; exact hmod), List.getElem?_eq_getElem (by rw [hk]; exact hmod)]
/-- A row turned about: nothing else is another. -/
theorem reverseRows (L : SlLaysE0.n35 P ρ) (k : Nat) (aE : ∀ w, (isAgg (ρ.t 23)).run P w = .ok true w) (zE : ∀ w, (Go.sizeOf (ρ.t 23)).run P w = .ok k w) (enc : α → List Value) (hk : ∀ x, (enc x).length = k) (h1 : ∀ x, ∀ v ∈ enc x, v.oneCell' = true)
 (sv : Value) (l : List α) (base : Nat) (w : World) (hrow : w.ownsRow base (ρ.t 23) k sv l.length (l.flatMap enc)) (hsz : l.length ≤ 1000000000) :
 Calls P (ρ.f 35) #[sv] w fun e w' => e = .returned (.tuple #[]) ∧ w'.ownsRow base (ρ.t 23) k sv l.length (l.reverse.flatMap enc) ∧ (w' = w ∨ ∃ g cap, sv = .slice (some ⟨g, 0, none⟩) l.length cap ∧ 0 < l.length ∧ w.grownBy w' (some g)) := by
 have hrow' := hrow
 obtain ⟨hlen, ⟨rfl, h0⟩ | ⟨b, cap, cur, rfl, hb, hblk, hcap, hmax, hcur, htake⟩⟩ := hrow
 · have e1 : l = [] := List.length_eq_zero_iff.1 h0
   subst e1
   refine (AnyQ.slices_Reverse_empty L none 0 w).mono ?_
   rintro e w' ⟨rfl, rfl⟩
   exact ⟨rfl, by simpa using hrow', .inl rfl⟩
 · by_cases hl0 : l.length = 0
   · have e1 : l = [] := List.length_eq_zero_iff.1 hl0
     subst e1
     refine (AnyQ.slices_Reverse_empty L (some ⟨b, 0, none⟩) cap w).mono ?_
     rintro e w' ⟨rfl, rfl⟩
     exact ⟨rfl, by simpa using hrow', .inl rfl⟩
   have hlt := b7t hblk
   have hH : Sort.HoldsK enc k w b 0 l.toArray := by
    intro j hj
    have hj' : j < l.length * k := by simpa using hj
    refine ⟨?_, f7b hblk _⟩
    refine c7b hblk ?_
    rw [Nat.zero_add]
    have h2 := flatR_get hk l j hj' _ htake
    rw [List.getElem?_take_of_lt hj'] at h2
    simpa using h2
   have hcon := AnyQ.slices_Reverse L k aE zE enc hk h1 b 0 cap l.toArray w hH (by simp; omega)
   simp only [List.size_toArray] at hcon
   refine hcon.mono ?_
   rintro e w' ⟨rfl, n, rfl⟩
   have er : l.toArray.reverse = l.reverse.toArray := by simp
   rw [er]
   generalize hs : l.reverse = s
   have hsl : s.length = l.length := by rw [← hs]; exact List.length_reverse
   have hgrow : ∀ j : Nat, (Sort.putRowK enc k (Sort.ahead w n) b 0 s.toArray).heap[j]? = (w.heap.modify b (Sort.onCells (Sort.putCells id 0 (Sort.flatK enc k s.toArray))))[j]? := fun j => rfl
   refine ⟨rfl, ⟨by rw [flat_length hk, hsl], .inr ⟨b, cap, Sort.putCells id 0 (Sort.flatK enc k s.toArray) cur, rfl, hb, ?_, hcap, hmax, by simp [Sort.putCells, hcur], ?_⟩⟩, .inr ⟨b, cap, rfl, by omega, rfl, rfl, rfl, ?_, fun j hj hne => ?_⟩⟩
   · rw [hgrow b, Array.getElem?_modify, if_pos rfl, hblk]
     rfl
   · apply List.ext_getElem?
     intro j
     by_cases hj : j < l.length * k
     · have h2 := flatR_get hk s j (by rw [hsl]; exact hj) _ rfl
       have h3 : l.length * k ≤ cur.size := by rw [hcur]; exact Nat.mul_le_mul_right k hcap
       rw [List.getElem?_take_of_lt hj, h2]
       simp only [Sort.putCells, Array.getElem?_toList, Array.getElem?_mapIdx]
       rw [Array.getElem?_eq_getElem (by omega)]
       simp [hsl, hj]
     · rw [List.getElem?_eq_none (by simp; omega), List.getElem?_eq_none (by rw [flat_length hk, hsl]; omega)]
   · show w.heap.size ≤ (w.heap.modify b (Sort.onCells (Sort.putCells id 0 (Sort.flatK enc k s.toArray)))).size
     simp
   · rw [hgrow j, Array.getElem?_modify, if_neg (fun e => hne (by rw [e]))]
end
end Go.Proofs.YteklfmacnnmomaaGreat
/- Layer 18: rows of pledges; the closure that hears them. -/
namespace Go.Proofs.YteklfmacnnmomaaGreat
open Go.RowKit Go.Shelf
attribute [local go_sem] Oper.semAt_some
theorem ldPr {F : Fence} {n : Nat} {w : World} {o : Oper} {a : Act} {K : Act → World → Prop} {Q : Exit → Act → World → Prop} (x : Operand) (ho : o.op = .load 26 x) {b off : Nat} (hx : a.eval x = .pointer (some ⟨b, off, none⟩)) {p : Plg} (hg : w.rangeAt b off p.l) (hK : K (a.put o.dst (.agg p.cells)) w) : o.wpIn F n Tryz.prog a w K Q :=
 opIn_load_mid 26 x ho b off hx p.l _ hg Tryz.underlying26 rfl (size_Pl _) hK
theorem pCells {w : World} {a : Option Addr} {n cap : Nat} {l : List Plg} (hn : l.length = n) (h : Elems w (.slice a n cap) n 12 (rowC Plg.l l)) (k : Nat) (x : Plg) (hx : l[k]? = some x) :
 ∃ b off, a = some ⟨b, off, none⟩ ∧ b < w.heap.size ∧ w.rangeAt b (off + k * 12) x.l := by
 subst hn
 have hk := (List.getElem?_eq_some_iff.1 hx).1
 obtain ⟨e, h0⟩ | ⟨b, off, cap', e, hlt, hc⟩ := h
 · omega
 · cases e
   exact ⟨b, off, rfl, hlt, rowElem (enc := Plg.l) Plg.len hc hx⟩
set_option maxRecDepth 100000 in
set_option maxHeartbeats 4000000 in
theorem hears1_any (f : Frt) (n : Int) (l : List Plg) (a : Option Addr) (m cap : Nat) (hm : l.length = m) (hmx : m ≤ 1000000) (b1 b2 : Nat) (w : World) (he : Elems w (.slice a m cap) m 12 (rowC Plg.l l)) (hf : w.heap[b1]? = some (.cells f.cells 29 (0, 0))) (hn : w.heap[b2]? = some (.cells #[.int .i64 n] 3 (0, 0))) :
 Calls Tryz.prog 19 #[.slice a m cap, .pointer (some ⟨b1, 0, none⟩), .pointer (some ⟨b2, 0, none⟩)] w (Gives (.agg (hearsF n f l).cells) w) := by
 have HS := H7 (St.start w)
 have HF := H7 (BlkA.mk hf)
 have HN := H7 (fun (w' : World) (hb : Below w.heap.size w w') => c7b (k := 0) ((hb.block _ (b7t hn)).trans hn) rfl)
 have HE := H7 (fun w' (hb : Below w.heap.size w w') => he.below hb)
 have HM := H7 hm
 have HMX := H7 hmx
 clear hf hn he hm hmx
 go_enter Tryz.func19, Tryz.ntmps19
 repeat ((fail_if_success (with_reducible refine stop_at (id := 1) ?_)); (first | go_values | go_skip | go_guarded | go_step | go_upon | go_back | (simp only [Int.not_lt, Int.not_le] at *; go_simp) | (go_values <;> (try go_simp)) | (go_ite <;> go_prune <;> (try go_simp)) | (split <;> (first | (rename_i hx; exact (hx _ rfl).elim) | go_prune))))
 rw [zeroF]
 have hs_ := (HS.out.alloc (.cells frZ.cells 29))
 obtain ⟨w1, hw_⟩ : ∃ w1 : World, (w.alloc (.cells frZ.cells 29)) = w1 := ⟨_, rfl⟩
 rw [hw_] at hs_
 try simp only [World.size_alloc] at hs_
 have HS := H7 hs_
 rw [hw_]
 clear hw_ hs_
 have HF := H7 (HF.out.below HS.out.low)
 refine (wpIn_wide (n := 0)).1 ?_
 repeat (first | (refine ldF _ rfl rfl HF.out.at_ ?_; simp only [Act.put, List.setIfInBounds_toArray, List.set_cons_succ, List.set_cons_zero]) | (refine nwF rfl ?_; simp only [Act.put, List.setIfInBounds_toArray, List.set_cons_succ, List.set_cons_zero]) | (refine stNewF _ _ rfl rfl rfl rfl rfl ?_; simp only [Act.put, List.setIfInBounds_toArray, List.set_cons_succ, List.set_cons_zero]) | gi_step)
 gi_wp2_with fail
 have hs_ := (HS.out.alloc (.cells f.cells 29))
 obtain ⟨w2, hw_⟩ : ∃ w2 : World, (w1.alloc (.cells f.cells 29)) = w2 := ⟨_, rfl⟩
 rw [hw_] at hs_
 try simp only [World.size_alloc] at hs_
 have HS := H7 hs_
 rw [hw_]
 clear hw_ hs_
 go_wp2_with fail
 go_loopw [13] (fun i wr => ∃ k : Nat, k ≤ m ∧ i = .int .i64 (k : Int) ∧ St w [.blk w1.heap.size (.cells (hearsF n f (l.take k)).cells 29 (0, 0)), .blk w.heap.size (.cells frZ.cells 29 (0, 0))] wr) (fun i _ => m - (intOf i).toNat)
 case atStart => exact ⟨0, by omega, rfl, HS.out⟩
 case round =>
  obtain ⟨k, hk, rfl, hs⟩ := hrel
  clear HS HF
  have HS := H7 hs
  clear hs
  by_cases hlt : k < m
  · obtain ⟨p, hp⟩ : ∃ p, l[k]? = some p := ⟨_, List.getElem?_eq_getElem (by rw [HM.out]; exact hlt)⟩
    obtain ⟨b3, o3, rfl, hb3, hc3⟩ := pCells HM.out (HE.out wr HS.out.low) k p hp
    have HC3 := H7 hc3
    have hst : hearsF n f (l.take (k + 1)) = hstep n (hearsF n f (l.take k)) p := by
     unfold hearsF
     rw [List.take_add_one, hp, List.foldl_append]
     rfl
    have HST := H7 hst
    clear hp hb3 hc3 hst
    obtain ⟨G, hG⟩ : ∃ G, hearsF n f (l.take k) = G := ⟨_, rfl⟩
    obtain ⟨G2, hG2⟩ : ∃ G, hearsF n f (l.take (k + 1)) = G := ⟨_, rfl⟩
    rw [hG] at HS HST
    rw [hG2] at HST
    have HG2 := H7 hG2
    clear hG hG2
    have HLT := H7 hlt
    repeat ((fail_if_success (with_reducible refine stop_at (id := 4) ?_)); (first | go_values | go_skip | go_guarded | go_step | go_upon | go_back | (simp only [Int.not_lt, Int.not_le] at *; go_simp) | (go_values <;> (try go_simp)) | (go_ite <;> go_prune <;> (try go_simp)) | (split <;> (first | (rename_i hx; exact (hx _ rfl).elim) | go_prune))))
    refine (wpIn_wide (n := 0)).1 ?_
    repeat (first | (refine ldPr _ rfl rfl HC3.out ?_; simp only [Act.put, List.setIfInBounds_toArray, List.set_cons_succ, List.set_cons_zero]) | (refine nwP rfl ?_; simp only [Act.put, List.setIfInBounds_toArray, List.set_cons_succ, List.set_cons_zero]) | (refine stNewP _ _ rfl rfl rfl rfl rfl ?_; simp only [Act.put, List.setIfInBounds_toArray, List.set_cons_succ, List.set_cons_zero]) | gi_step)
    gi_wp2_with fail
    have hs_ := (HS.out.alloc (.cells p.cells 26))
    obtain ⟨w4, hw_⟩ : ∃ w4 : World, (wr.alloc (.cells p.cells 26)) = w4 := ⟨_, rfl⟩
    rw [hw_] at hs_
    try simp only [World.size_alloc] at hs_
    have HS := H7 hs_
    rw [hw_]
    clear hw_ hs_
    clear HC3
    have c2 := HN.out w4 HS.out.low
    repeat ((fail_if_success (with_reducible refine stop_at (id := 5) ?_)); (first | go_values | go_skip | go_guarded | go_step | go_upon | go_back | (simp only [Int.not_lt, Int.not_le] at *; go_simp) | (go_values <;> (try go_simp)) | (go_ite <;> go_prune <;> (try go_simp)) | (split <;> (first | (rename_i hx; exact (hx _ rfl).elim) | go_prune))))
    refine (wpIn_wide (n := 0)).1 ?_
    repeat (first | (refine ldF _ rfl rfl (HS.out.blockAt 1 rfl) ?_; simp only [Act.put, List.setIfInBounds_toArray, List.set_cons_succ, List.set_cons_zero]) | (refine ldP _ rfl rfl (HS.out.blockAt 0 rfl) ?_; simp only [Act.put, List.setIfInBounds_toArray, List.set_cons_succ, List.set_cons_zero]) | gi_step)
    have hh := hear0_any G n p w4
    have hx1 : trE G (hearE G n p) = 0 → trF G (hearF G n p) (hearE G n p) = G2 := fun h => by
     rw [HST.out]
     unfold hstep
     rw [if_pos h, trF_ok h]
    have hx2 : trE G (hearE G n p) ≠ 0 → G = G2 := fun h => by
     rw [HST.out]; unfold hstep; rw [if_neg h]
    obtain ⟨E, hE⟩ : ∃ E, trE G (hearE G n p) = E := ⟨_, rfl⟩
    obtain ⟨F3, hF3⟩ : ∃ F3, trF G (hearF G n p) (hearE G n p) = F3 := ⟨_, rfl⟩
    rw [hE] at hh hx1 hx2
    rw [hF3] at hh hx1
    have HX1 := H7 hx1
    have HX2 := H7 hx2
    clear hE hF3 hx1 hx2 HST
    refine (callsIn_wide.2 hh).mono ?_
    rintro e w5 ⟨rfl, hb_⟩
    have HS := H7 (HS.out.below hb_)
    clear hb_
    clear hh c2
    simp only []; go_at_K
    repeat (first | (refine nwF rfl ?_; simp only [Act.put, List.setIfInBounds_toArray, List.set_cons_succ, List.set_cons_zero]) | (refine stNewF _ _ rfl rfl rfl rfl rfl ?_; simp only [Act.put, List.setIfInBounds_toArray, List.set_cons_succ, List.set_cons_zero]) | gi_step)
    gi_wp2_with fail
    have hs_ := (HS.out.alloc (.cells F3.cells 29))
    obtain ⟨w6, hw_⟩ : ∃ w6 : World, (w5.alloc (.cells F3.cells 29)) = w6 := ⟨_, rfl⟩
    rw [hw_] at hs_
    try simp only [World.size_alloc] at hs_
    have HS := H7 hs_
    rw [hw_]
    clear hw_ hs_
    repeat ((fail_if_success (with_reducible refine stop_at (id := 6) ?_)); (first | go_values | go_skip | go_guarded | go_step | go_upon | go_back | (simp only [Int.not_lt, Int.not_le] at *; go_simp) | (go_values <;> (try go_simp)) | (go_ite <;> go_prune <;> (try go_simp)) | (split <;> (first | (rename_i hx; exact (hx _ rfl).elim) | go_prune))))
    by_cases hE0 : E = 0
    · have hF := HX1.out hE0
      subst hF
      have e24 : (E == 0) = true := by rw [hE0]; rfl
      clear HX1 HX2 hE0
      repeat ((fail_if_success (with_reducible refine stop_at (id := 7) ?_)); (first | go_values | go_skip | go_guarded | go_step | go_upon | go_back | (simp only [Int.not_lt, Int.not_le] at *; go_simp) | (go_values <;> (try go_simp)) | (go_ite <;> go_prune <;> (try go_simp)) | (split <;> (first | (rename_i hx; exact (hx _ rfl).elim) | go_prune))))
      clear e24
      refine (wpIn_wide (n := 0)).1 ?_
      repeat (first | (refine ldF _ rfl rfl (HS.out.blockAt 0 rfl) ?_; simp only [Act.put, List.setIfInBounds_toArray, List.set_cons_succ, List.set_cons_zero]) | (refine stF _ _ rfl rfl (HS.out.blockAt 2 rfl) rfl rfl ?_; simp only [Act.put, List.setIfInBounds_toArray, List.set_cons_succ, List.set_cons_zero]) | gi_step)
      gi_wp2_with fail
      have hs := HS.out.putRow (c' := F3.cells) (pre := [.blk _ _, .blk _ _]) (by intro i hi; simp only [List.mem_cons, List.not_mem_nil, or_false] at hi; rcases hi with rfl | rfl <;> exact ⟨_, _, rfl⟩)
      simp only [List.cons_append, List.nil_append] at hs
      have HS2 := H7 hs.tl.tl
      clear hs
      have hlt := HLT.out
      have hmx := HMX.out
      go_wp2_with fail
      go_roundw
      case rel => exact ⟨k + 1, hlt, by simp, by rw [HG2.out]; exact HS2.out⟩
      case measure => exact frM hlt (by simp)
    · have hF := HX2.out hE0
      subst hF
      have e24 : (E == 0) = false := beq_eq_false_iff_ne.2 hE0
      clear HX1 HX2 hE0
      have HS2 := H7 HS.out.tl.tl
      have hlt := HLT.out
      have hmx := HMX.out
      go_wp2_with fail
      clear e24
      go_roundw
      case rel => exact ⟨k + 1, hlt, by simp, by rw [HG2.out]; exact HS2.out⟩
      case measure => exact frM hlt (by simp)
  · obtain rfl : k = m := by omega
    rw [List.take_of_length_le (by rw [HM.out]; omega)] at HS
    repeat ((fail_if_success (with_reducible refine stop_at (id := 9) ?_)); (first | go_values | go_skip | go_guarded | go_step | go_upon | go_back | (simp only [Int.not_lt, Int.not_le] at *; go_simp) | (go_values <;> (try go_simp)) | (go_ite <;> go_prune <;> (try go_simp)) | (split <;> (first | (rename_i hx; exact (hx _ rfl).elim) | go_prune))))
    refine (wpIn_wide (n := 0)).1 ?_
    repeat (first | (refine ldF _ rfl rfl (HS.out.blockAt 0 rfl) ?_; simp only [Act.put, List.setIfInBounds_toArray, List.set_cons_succ, List.set_cons_zero]) | (refine stF _ _ rfl rfl (HS.out.blockAt 1 rfl) rfl rfl ?_; simp only [Act.put, List.setIfInBounds_toArray, List.set_cons_succ, List.set_cons_zero]) | gi_step)
    gi_wp2_with fail
    have hs := HS.out.putRow (c' := (hearsF n f l).cells) (pre := [.blk _ _]) (by intro i hi; exact ⟨_, _, List.mem_singleton.1 hi⟩)
    simp only [List.cons_append, List.nil_append] at hs
    go_wp2_with fail
    refine bodyPost_ret (resF rfl rfl (hs.blockAt 1 rfl)) rfl ⟨rfl, hs.low⟩
end Go.Proofs.YteklfmacnnmomaaGreat
