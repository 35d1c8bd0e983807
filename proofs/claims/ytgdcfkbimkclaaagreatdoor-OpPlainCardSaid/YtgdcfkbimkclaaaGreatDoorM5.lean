/- Merged texts: OpH Grow IdA IdB PtE. -/
import Derived.Test.YtgdcfkbimkclaaaGreatDoorM4
import Derived.Test.YtgdcfkbimkclaaaGreatDoorM1
import Derived.Sort.Grow
import Derived.Deep.Draws
import Derived.Test.YtgdcfkbimkclaaaGreatDoorM3
import Derived.Lib.Small
import Derived.Test.YtgdcfkbimkclaaaGreatDoorM2
set_option linter.unusedSimpArgs false
set_option linter.unusedVariables false
/- Layer 12: numbers, tries. -/
namespace Go.Proofs.YtgdcfkbimkclaaaGreatDoor
open Go.RowKit Go.Shelf
attribute [local go_sem] Oper.semAt_some
theorem numbers_any (o : OpT) (a : Option Addr) (n cap : Nat) (w : World) : Calls Tryz.prog 86 #[.agg (o.cells (.slice a n cap))] w fun e w' =>
 e = .returned (.func (.func 124) #[] #[.pointer (some ⟨w.heap.size, 0, none⟩)]) ∧ w.alloc (.cells (o.cells (.slice a n cap)) 31) = w' := by
 have hmf : ∀ (fn : Fn) (first cap : Array Value) (w : World), (Instr.makeFunc fn first cap).run Tryz.prog w = .ok (.func fn first cap) w := fun _ _ _ _ => rfl
 go_enter Tryz.func86, Tryz.ntmps86
 go_wp2_with fail
 go_ret
 exact ⟨rfl, rfl⟩
/-- The places of an operation. -/
def numAt (o : OpT) : Nat → Int
 | 0 => o.x | 1 => o.y | 2 => o.x2 | _ => o.y2
theorem info3 : (Tryz.prog.info? 3).map (fun i => (i.zero, i.size, i.bytes)) = some (some (.int .i64 0), 1, 8) := by kernel_rfl
theorem run_index4 (o : OpT) (k : Nat) (h : k < 4) (w : World) : (Instr.index 176 (.agg #[.int .i64 o.x, .int .i64 o.y, .int .i64 o.x2, .int .i64 o.y2]) (.int .i64 (k : Int))).run Tryz.prog w = .ok (.int .i64 (numAt o k)) w := by
 obtain ⟨i0, hi, _, hz1, _⟩ := info_parts info3
 refine run_index_int w 176 3 4 .i64 i0 Tryz.underlying176 Tryz.underlying3 hi hz1 _ k _ h ?_
 rcases (show k = 0 ∨ k = 1 ∨ k = 2 ∨ k = 3 by omega) with rfl | rfl | rfl | rfl <;> rfl
set_option maxRecDepth 100000 in
set_option maxHeartbeats 2000000 in
theorem numbers1_in (n : Nat) (hn : 1 ≤ n) (l B : Nat) (o : OpT) (pv : Value) (J : Nat → World → Prop) (Jp : World → Prop) (chain : List PanicEntry)
 (hY : ∀ k W1, k < 4 → J k W1 → YieldAt Fence.wide (n - 1) Tryz.prog l #[.int .i64 (numAt o k)] W1 fun e W' => (e = .returned (.bool true) ∧ J (k + 1) W') ∨ (e = .panicked chain ∧ Jp W'))
 (W : World) (hB : W.heap[B]? = some (.cells (o.cells pv) 31 (0, 0))) (h0 : J 0 W) :
 CallsIn Fence.wide n Tryz.prog 124 #[.func (.yield l) #[] #[], .pointer (some ⟨B, 0, none⟩)] W fun e W' => ((∃ v, e = .returned v) ∧ J 4 W') ∨ (e = .panicked chain ∧ Jp W') := by
 obtain ⟨-, -, -, -, q4, q5, q6, q7, -⟩ := opCells hB
 have HY := H7 hY
 have hidx := run_index4 o
 clear hY hB
 refine callsIn_of_wp Tryz.func124 rfl trivial ?_ rfl
 simp only [Tryz.ntmps124, List.size_toArray, List.length_cons, List.length_nil, Nat.reduceAdd, Nat.reduceSub, Array.replicate_succ, Array.replicate_zero, List.push_toArray, List.append_toArray, List.nil_append, List.cons_append]
 gi_wp2
 apply wpIn_scope
 gi_wp2
 apply wpIn_label
 gi_wp2
 gi_loopw [14] (fun i wr => ∃ k : Nat, k ≤ 4 ∧ i = .int .i64 k ∧ J k wr) (fun i _ => 4 - (intOf i).toNat)
 case atStart => exact ⟨0, by omega, rfl, h0⟩
 case round =>
  obtain ⟨k, hk, rfl, hJs⟩ := hrel
  by_cases hlt : k < 4
  · have hix := hidx k hlt
    obtain ⟨fn, tmps, assign, body, hy, hR⟩ := HY.out k wr hlt hJs
    gi_wp2
    refine hR.mono ?_
    rintro e W3 (⟨rfl, hJ3⟩ | ⟨rfl, hp3⟩)
    · gi_wp2
      go_roundw
      case rel => exact ⟨k + 1, by omega, by simp, hJ3⟩
      case measure => simp [intOf]; omega
    · gi_wp2
      exact ⟨rfl, .inr ⟨rfl, hp3⟩⟩
  · obtain rfl : k = 4 := by omega
    gi_wp2; rw [Exit.noGoto_normal]
    go_end0
    exact .inl ⟨⟨_, rfl⟩, hJs⟩
set_option maxRecDepth 100000 in
set_option maxHeartbeats 1000000 in
theorem opCatch_panicking (q : Nat) (y x : Int) (older : List PanicEntry) (w : World) (hq : w.heap[q]? = some (.cells #[.int .i64 y] 36 (0, 0))) :
 CallsD Tryz.prog 83 #[.pointer (some ⟨q, 0, none⟩)] (.panicking ({ v := .iface 36 (.int .i64 x), recovered := false } :: older)) w fun e u' w' =>
  e = .returned (.tuple #[]) ∧ u' = .panicking ({ v := .iface 36 (.int .i64 x), recovered := true } :: older) ∧ w' = w.setCell ⟨q, 0, none⟩ (.int .i64 x) := by
 have dq := c7b (k := 0) hq rfl
 have fq := f7b hq 0
 have lq := b7t hq
 have Hq := H7 hq
 clear hq
 refine callsD_of_wpS Tryz.func83 rfl fun c₀ cs hu => ?_
 simp only [Tryz.ntmps83, List.size_toArray, List.length_cons, List.length_nil, Nat.reduceAdd, Nat.reduceSub, Array.replicate_succ, Array.replicate_zero, List.push_toArray, List.append_toArray, List.nil_append, List.cons_append]
 apply wpS_seq
 apply wpS_region
 simp [wpOpsS, go_sem, recoverD, hu, Exit.thenS]
 refine wpS_of_wp ?_
 have hta : ∀ w, (Instr.typeAssert (.iface 36 (.int .i64 x)) 20 36 true).run Tryz.prog w = .ok (.tuple #[.int .i64 x, .bool true]) w := fun _ => by kernel_rfl
 go_wp2
 exact ⟨rfl, _, rfl, _, results_none rfl _ _ _, rfl, rfl, rfl⟩
theorem opCatch_idle (q : Addr) (w : World) :
 CallsD Tryz.prog 83 #[.pointer (some q)] .returning w fun e u' w' => e = .returned (.tuple #[]) ∧ u' = .returning ∧ w = w' := by
 refine callsD_of_wpS Tryz.func83 rfl fun c₀ cs hu => ?_
 simp only [Tryz.ntmps83, List.size_toArray, List.length_cons, List.length_nil, Nat.reduceAdd, Nat.reduceSub, Array.replicate_succ, Array.replicate_zero, List.push_toArray, List.append_toArray, List.nil_append, List.cons_append]
 apply wpS_seq
 apply wpS_region
 simp [wpOpsS, go_sem, recoverD, hu, Exit.thenS]
 refine wpS_of_wp ?_
 go_wp2
 exact ⟨rfl, c₀.mode, rfl, _, results_none rfl _ _ _, rfl, hu, rfl⟩
/-- It panics with an error's number. -/
def PanicO (x : Int) (e : Ending) : Prop := e = .panicked [{ v := .iface 36 (.int .i64 x), recovered := false }]
/-- How a closure ends that may turn blocks of S: K holds, or it panics. -/
def EndsO (S : Nat → Prop) (er : Int) (K : World → Prop) (w : World) (e : Ending) (w' : World) : Prop :=
 Turned S w w' ∧ (er = 0 → e = .returned (.tuple #[]) ∧ K w') ∧ (er ≠ 0 → PanicO er e)
set_option maxRecDepth 100000 in
set_option maxHeartbeats 2000000 in
theorem opTries_any (g : Nat) (caps : Array Value) (S : Nat → Prop) (er : Int) (K : World → Prop) (w : World) (hS : ∀ k, S k → k < w.heap.size) (hg : ∀ args w, (callFunc g args).run Tryz.prog w = .ok (.enter g args) w)
 (hK : ∀ (W : World) y v, W.heap[w.heap.size]? = some (.cells #[.int .i64 y] 36 (0, 0)) → K W → K (W.setCell ⟨w.heap.size, 0, none⟩ v))
 (h : ∀ w1, Below w.heap.size w w1 → w.heap.size < w1.heap.size → Calls Tryz.prog g caps w1 (EndsO S er K w1)) :
 Calls Tryz.prog 41 #[.func (.func g) #[] caps] w fun e w' => e = .returned (.int .i64 er) ∧ Turned S w w' ∧ (er = 0 → K w') := by
 have hmf : ∀ (fn : Fn) (first cap : Array Value) (w : World), (Instr.makeFunc fn first cap).run Tryz.prog w = .ok (.func fn first cap) w := fun _ _ _ _ => rfl
 have HS := H7 (St.start w)
 have Hx := H7 h
 have HK := H7 hK
 have HSS := H7 hS
 clear h hK hS
 go_enter_defers Tryz.func41, Tryz.ntmps41
 repeat ((fail_if_success (with_reducible refine stop_at (id := 2) ?_)); (first | go_values | go_skip | go_guarded | go_step | go_upon | go_back | (simp only [Int.not_lt, Int.not_le] at *; go_simp) | (go_values <;> (try go_simp)) | (go_ite <;> go_prune <;> (try go_simp)) | (split <;> (first | (rename_i hx; exact (hx _ rfl).elim) | go_prune))))
 have hs_ := (HS.out.alloc (.cells #[.int .i64 0] 36))
 obtain ⟨w1, hw_⟩ : ∃ w1 : World, (w.alloc (.cells #[.int .i64 0] 36)) = w1 := ⟨_, rfl⟩
 rw [hw_] at hs_
 try simp only [World.size_alloc] at hs_
 have HS := H7 hs_
 rw [hw_]
 clear hw_ hs_
 go_wp2_with fail
 refine (Hx.out w1 HS.out.low (HS.out.lt 0 rfl)).mono ?_
 intro e w4 hh
 obtain ⟨ht, hok, hno⟩ := hh
 have hlt : w.heap.size < w1.heap.size := HS.out.lt 0 rfl
 have t0 := H7 ((ht.block w.heap.size hlt (fun hs => by have := HSS.out _ hs; omega)).trans (HS.out.blockAt 0 rfl))
 have TT := H7 (show Turned S w w4 from ((Turned.ofBelow S HS.out.low).trans ht).mono (fun k _ hk => hk.elim id id))
 clear ht Hx hg
 by_cases her : er = 0
 · obtain ⟨rfl, hk⟩ := hok her
   have HKK := H7 (HK.out w4 _ (.int .i64 0) t0.out hk)
   have f0 := f7b t0.out
   have q0 := c7b (k := 0) t0.out rfl
   clear hok hno hk
   go_wp2_with fail
   clear f0 q0
   have g0 := h7s (k := 0) t0.out (.int .i64 0)
   have TT2 : Turned S w (w4.setCell ⟨w.heap.size, 0, none⟩ (.int .i64 0)) := TT.out.setAt w.heap.size 0 (.inl (Nat.le_refl _)) _
   have hk2 := HKK.out
   revert g0 TT2 hk2
   generalize World.setCell _ _ (Value.int IntKind.i64 0) = W2
   intro g0 TT2 hk2
   refine leaves_cons (f := 83) (args := #[.pointer (some ⟨w.heap.size, 0, none⟩)]) (by simp) (by simp [go_sem]) ?_
   refine (opCatch_idle _ _).mono ?_
   rintro e u' w'' ⟨rfl, rfl, rfl⟩
   have d0 := c7b (k := 0) g0 rfl
   exact ⟨.int .i64 0, by simp [results, Tryz.results41, go_sem, d0], by rw [her], TT2, fun _ => hk2⟩
 · have he2 := hno her
   unfold PanicO at he2
   subst he2
   clear hok hno
   refine leaves_cons (f := 83) (args := #[.pointer (some ⟨w.heap.size, 0, none⟩)]) (by simp) (by simp [go_sem]) ?_
   refine (opCatch_panicking _ _ _ _ _ t0.out).mono ?_
   rintro e u' W2 ⟨rfl, rfl, rfl⟩
   have d0 := c7b (k := 0) (h7s (k := 0) t0.out (.int .i64 er)) rfl
   exact ⟨.int .i64 er, by simp [results, Tryz.results41, go_sem, d0], rfl, TT.out.setAt w.heap.size 0 (.inl (Nat.le_refl _)) _, fun h => absurd h her⟩
end Go.Proofs.YtgdcfkbimkclaaaGreatDoor
/- A world that has drawn, and grown. -/
namespace Go.Proofs.YtgdcfkbimkclaaaGreatDoor
open Go.RowKit Go.Shelf
/-- A world that has drawn, and grown. -/
def Grows (x y : World) : Prop := ∃ q os, y = Sort.grow (x.drewN q) os
theorem Grows.refl (x : World) : Grows x x := ⟨0, #[], by simp [Sort.grow, World.drewN]⟩
theorem Grows.trans {x y z : World} (h : Grows x y) (k : Grows y z) : Grows x z := by
 obtain ⟨q, os, rfl⟩ := h
 obtain ⟨q', os', rfl⟩ := k
 refine ⟨q + q', os ++ os', ?_⟩
 simp only [Sort.grow, World.drewN]
 congr 1
 · exact Array.append_assoc
 · omega
theorem Grows.drew (x : World) : Grows x x.drew := ⟨1, #[], by show x.drew = { x.drewN 1 with heap := x.heap ++ #[] }; rw [Array.append_empty]; rfl⟩
theorem Grows.alloc (x : World) (o : Obj) : Grows x (x.alloc o) := ⟨0, #[o], by show x.alloc o = { x.drewN 0 with heap := x.heap ++ #[o] }; rw [Array.append_singleton]; rfl⟩
theorem Grows.below {x y : World} (h : Grows x y) : Below x.heap.size x y := by
 obtain ⟨q, os, rfl⟩ := h
 refine ⟨rfl, rfl, rfl, by simp [Sort.grow, World.drewN], fun k hk => ?_⟩
 show (x.heap ++ os)[k]? = x.heap[k]?
 exact Array.getElem?_append_left hk
/-- It returns v, and has drawn, and grown, alone. -/
def GivesG (v : Value) (w : World) (e : Ending) (w' : World) : Prop := e = .returned v ∧ Grows w w'
theorem GivesG.gives {v : Value} {w : World} {e : Ending} {w' : World} (h : GivesG v w e w') : Gives v w e w' := ⟨h.1, h.2.below⟩
/- Package ident: how ids stand: cmp.Compare, cmp.Or, Compare, Less; the document's Right, Less. -/
theorem isNaN_u64 (x : Int) (w : World) : Calls Tryz.prog 176 #[.int .u64 x] w fun e w' => e = .returned (.bool false) ∧ w = w' := by
 go_enter Tryz.func176, Tryz.ntmps176
 go_wp2
 go_ret
 exact ⟨rfl, rfl⟩
theorem cmp_u64 (x y : Int) (w : World) : Calls Tryz.prog 142 #[.int .u64 x, .int .u64 y] w fun e w' => e = .returned (.int .i64 (Lib.compareInt x y)) ∧ w = w' := by
 unfold Lib.compareInt
 by_cases h1 : x < y
 · go_enter Tryz.func142, Tryz.ntmps142
   go_wp2_with (go_at_call 176; refine (isNaN_u64 _ _).mono ?_; rintro e w' ⟨rfl, rfl⟩)
   go_ret
   exact ⟨ret_int (by simp [h1]), rfl⟩
 · by_cases h2 : y < x
   · go_enter Tryz.func142, Tryz.ntmps142
     go_wp2_with (go_at_call 176; refine (isNaN_u64 _ _).mono ?_; rintro e w' ⟨rfl, rfl⟩)
     go_ret
     exact ⟨rfl, rfl⟩
   · go_enter Tryz.func142, Tryz.ntmps142
     go_wp2_with (go_at_call 176; refine (isNaN_u64 _ _).mono ?_; rintro e w' ⟨rfl, rfl⟩)
     go_ret
     exact ⟨rfl, rfl⟩
theorem isNaN_i64 (x : Int) (w : World) : Calls Tryz.prog 177 #[.int .i64 x] w fun e w' => e = .returned (.bool false) ∧ w = w' := by
 go_enter Tryz.func177, Tryz.ntmps177
 go_wp2
 go_ret
 exact ⟨rfl, rfl⟩
theorem cmp_i64 (x y : Int) (w : World) : Calls Tryz.prog 143 #[.int .i64 x, .int .i64 y] w fun e w' => e = .returned (.int .i64 (Lib.compareInt x y)) ∧ w = w' := by
 unfold Lib.compareInt
 by_cases h1 : x < y
 · go_enter Tryz.func143, Tryz.ntmps143
   go_wp2_with (go_at_call 177; refine (isNaN_i64 _ _).mono ?_; rintro e w' ⟨rfl, rfl⟩)
   go_ret
   exact ⟨ret_int (by simp [h1]), rfl⟩
 · by_cases h2 : y < x
   · go_enter Tryz.func143, Tryz.ntmps143
     go_wp2_with (go_at_call 177; refine (isNaN_i64 _ _).mono ?_; rintro e w' ⟨rfl, rfl⟩)
     go_ret
     exact ⟨rfl, rfl⟩
   · go_enter Tryz.func143, Tryz.ntmps143
     go_wp2_with (go_at_call 177; refine (isNaN_i64 _ _).mono ?_; rintro e w' ⟨rfl, rfl⟩)
     go_ret
     exact ⟨rfl, rfl⟩
/-- The first that is not 0, of three. -/
def or3 (a b c : Int) : Int := if a = 0 then if b = 0 then c else b else a
set_option maxRecDepth 100000 in
set_option maxHeartbeats 1000000 in
theorem or_any (q : Nat) (a b c : Int) (w : World) (hq : w.heap[q]? = some (.cells #[.int .i64 a, .int .i64 b, .int .i64 c] 3 (0, 0))) :
 Calls Tryz.prog 141 #[.slice (some ⟨q, 0, none⟩) 3 3] w fun e w' => e = .returned (.int .i64 (or3 a b c)) ∧ w = w' := by
 have c0 := c7b (k := 0) (v := .int .i64 a) hq rfl
 have c1 := c7b (k := 1) (v := .int .i64 b) hq rfl
 have c2 := c7b (k := 2) (v := .int .i64 c) hq rfl
 clear hq
 unfold or3
 by_cases ha : a = 0
 · subst ha
   by_cases hb : b = 0
   · subst hb
     by_cases hc : c = 0
     · subst hc
       go_enter Tryz.func141, Tryz.ntmps141
       go_wp2_with fail
       refine wp_loop_rounds 4 ?_
       rw [rounds_succ]; go_wp2_with fail; rw [rounds_succ]; go_wp2_with fail; rw [rounds_succ]; go_wp2_with fail; rw [rounds_succ]; go_wp2_with fail
       go_ret
       exact ⟨rfl, rfl⟩
     · go_enter Tryz.func141, Tryz.ntmps141
       go_wp2_with fail
       refine wp_loop_rounds 3 ?_
       rw [rounds_succ]; go_wp2_with fail; rw [rounds_succ]; go_wp2_with fail; rw [rounds_succ]; go_wp2_with fail
       go_ret
       exact ⟨rfl, rfl⟩
   · go_enter Tryz.func141, Tryz.ntmps141
     go_wp2_with fail
     refine wp_loop_rounds 2 ?_
     rw [rounds_succ]; go_wp2_with fail; rw [rounds_succ]; go_wp2_with fail
     go_ret
     exact ⟨by simp [hb], rfl⟩
 · go_enter Tryz.func141, Tryz.ntmps141
   go_wp2_with fail
   refine wp_loop_rounds 1 ?_
   rw [rounds_succ]; go_wp2_with fail
   go_ret
   exact ⟨by simp [ha], rfl⟩
deriving instance DecidableEq for IdT
/-- Does one id stand ahead? -/
def idLess (a b : IdT) : Bool := if a.time ≠ b.time then decide (a.time < b.time) else if a.site ≠ b.site then decide (a.site < b.site) else decide (a.seq < b.seq)
/-- How two ids stand. -/
def cmpId (a b : IdT) : Int := if a = b then 0 else or3 (Lib.compareInt a.time b.time) (Lib.compareInt a.site b.site) (Lib.compareInt a.seq b.seq)
theorem cmpId_lt (a b : IdT) : decide (cmpId a b < 0) = idLess a b := by
 obtain ⟨a1, a2, a3⟩ := a
 obtain ⟨b1, b2, b3⟩ := b
 unfold cmpId idLess or3 Lib.compareInt
 dsimp only
 rw [Bool.eq_iff_iff]
 by_cases h : (⟨a1, a2, a3⟩ : IdT) = ⟨b1, b2, b3⟩
 · rw [if_pos h]
   simp only [IdT.mk.injEq] at h
   obtain ⟨rfl, rfl, rfl⟩ := h
   simp
 · rw [if_neg h]
   simp only [IdT.mk.injEq] at h
   by_cases h1 : a1 = b1
   · subst h1
     by_cases h2 : a2 = b2
     · subst h2
       have h3 : a3 ≠ b3 := fun e => h ⟨rfl, rfl, e⟩
       rcases Int.lt_or_lt_of_ne h3 with h3 | h3
       · simp [h3]
       · simp [Int.lt_asymm h3, h3]
     · rcases Int.lt_or_lt_of_ne h2 with h3 | h3
       · simp [h3, h2]
       · simp [Int.lt_asymm h3, h3, h2]
   · rcases Int.lt_or_lt_of_ne h1 with h3 | h3
     · simp [h3, h1]
     · simp [Int.lt_asymm h3, h3, h1]
/- Package ident: Compare, Less; the document's Right, Less. -/
def idEqB (a b : IdT) : Bool := a.time == b.time && (a.site == b.site && a.seq == b.seq)
theorem idEqB_iff (a b : IdT) : idEqB a b = true ↔ a = b := by
 obtain ⟨a1, a2, a3⟩ := a
 obtain ⟨b1, b2, b3⟩ := b
 simp [idEqB]
theorem run_eql_id (w : World) (a b c d e f : Int) : (binOp .eql 24 (.agg #[.int .u64 a, .int .i64 b, .int .u64 c]) (.agg #[.int .u64 d, .int .i64 e, .int .u64 f])).run Tryz.prog w = .ok (.bool (idEqB ⟨a, b, c⟩ ⟨d, e, f⟩)) w := by
 unfold idEqB
 simp [binOp, Op.equal, Op.maxDepth, go_sem]
 by_cases h1 : a = d <;> by_cases h2 : b = e <;> by_cases h3 : c = f <;> simp [h1, h2, h3]
theorem run_neq_id (w : World) (a b c d e f : Int) : (binOp .neq 24 (.agg #[.int .u64 a, .int .i64 b, .int .u64 c]) (.agg #[.int .u64 d, .int .i64 e, .int .u64 f])).run Tryz.prog w = .ok (.bool (!idEqB ⟨a, b, c⟩ ⟨d, e, f⟩)) w := by
 unfold idEqB
 simp [binOp, Op.equal, Op.maxDepth, go_sem]
 by_cases h1 : a = d <;> by_cases h2 : b = e <;> by_cases h3 : c = f <;> simp [h1, h2, h3]
set_option maxRecDepth 100000 in
set_option maxHeartbeats 2000000 in
theorem compare_any (a b : IdT) (w : World) : Calls Tryz.prog 126 #[a.val, b.val] w (GivesG (.int .i64 (cmpId a b)) w) := by
 have hcmp : cmpId a b = if idEqB a b = true then 0 else or3 (Lib.compareInt a.time b.time) (Lib.compareInt a.site b.site) (Lib.compareInt a.seq b.seq) := by
  unfold cmpId
  by_cases h : a = b
  · rw [if_pos h, if_pos ((idEqB_iff a b).2 h)]
  · rw [if_neg h, if_neg (fun e => h ((idEqB_iff a b).1 e))]
 rw [hcmp]
 clear hcmp
 obtain ⟨a1, a2, a3⟩ := a
 obtain ⟨b1, b2, b3⟩ := b
 have hr := fun w => run_eql_id w a1 a2 a3 b1 b2 b3
 obtain ⟨eq, heq⟩ : ∃ eq, idEqB ⟨a1, a2, a3⟩ ⟨b1, b2, b3⟩ = eq := ⟨_, rfl⟩
 rw [heq]
 simp only [heq] at hr
 clear heq
 unfold IdT.val
 cases eq
 · go_enter Tryz.func126, Tryz.ntmps126
   go_wp2_with fail
   have HW := H7 ((Grows.alloc w (.cells #[.int .u64 a1, .int .i64 a2, .int .u64 a3] 24)).trans (Grows.alloc _ (.cells #[.int .u64 b1, .int .i64 b2, .int .u64 b3] 24)))
   have Ha := H7 (heap_alloc_keeps (World.alloc_heap_new w (.cells #[.int .u64 a1, .int .i64 a2, .int .u64 a3] 24)) (.cells #[.int .u64 b1, .int .i64 b2, .int .u64 b3] 24))
   have Hb := H7 (newBlock (w.alloc (.cells #[.int .u64 a1, .int .i64 a2, .int .u64 a3] 24)) (.cells #[.int .u64 b1, .int .i64 b2, .int .u64 b3] 24) (w.heap.size + 1) (by simp))
   refine (wpIn_wide (n := 0)).1 ?_
   apply w7v 18 (Rl := [(eqv _), (eqv _), (eqv _), (eqv _), (eqv _), (eqv _), (eqv _), (eqv _), (eqv _), (eqv _), (eqv _), (eqv _), (eqv _), (eqv _), (eqv _), (fun v_ w_ => ∃ q, v_ = .slice (some ⟨q, 0, none⟩) 3 3 ∧ w_.heap[q]? = some (.cells #[.int .i64 (Lib.compareInt a1 b1), .int .i64 (Lib.compareInt a2 b2), .int .i64 (Lib.compareInt a3 b3)] 3 (0, 0))), (eqv _), (eqv _)]) (C := Grows)
   case hm => kernel_rfl
   case hk => rfl
   case hCr => exact Grows.refl
   case hCt => intro _ _ _; exact Grows.trans
   case hst => exact ⟨fun _ _ _ _ h => h, fun _ _ _ _ h => h, fun _ _ _ _ h => h, fun _ _ _ _ h => h, fun _ _ _ _ h => h, fun _ _ _ _ h => h, fun _ _ _ _ h => h, fun _ _ _ _ h => h, fun _ _ _ _ h => h, fun _ _ _ _ h => h, fun _ _ _ _ h => h, fun _ _ _ _ h => h, fun _ _ _ _ h => h, fun _ _ _ _ h => h, fun _ _ _ _ h => h, fun _ _ _ hC ⟨q, e, h⟩ => ⟨q, e, (hC.below.block _ (b7t h)).trans h⟩, fun _ _ _ _ h => h, fun _ _ _ _ h => h, trivial⟩
   case hfo => kernel_rfl
   case ht => kernel_rfl
   case hC0 => exact (Grows.drew _)
   case hsteps =>
    refine ⟨?_, ?_, ?_, ?_, ?_, ?_, ?_, ?_, ?_, ?_, ?_, ?_, ?_, ?_, ?_, ?_, ?_, ?_, trivial⟩
    · intro a' w' hA hC hD; have s2 := hA.to 2 (by kernel_rfl) rfl; clear hA hD; refine o7p rfl ?_; intro K hK; gi_wp2; exact hK _ _ rfl (Grows.refl _)
    · intro a' w' hA hC hD; obtain ⟨u8, s8, rfl⟩ := hD ⟨0, .data⟩ (by simp) rfl _ rfl
      have c0 := c7b (k := 0) (v := .int .u64 a1) ((hC.below.block _ (b7t Ha.out)).trans Ha.out) rfl
      clear hA hD; refine o7p rfl ?_; intro K hK; gi_wp2; exact hK _ _ rfl (Grows.refl _)
    · intro a' w' hA hC hD; have s3 := hA.to 3 (by kernel_rfl) rfl; clear hA hD; refine o7p rfl ?_; intro K hK; gi_wp2; exact hK _ _ rfl (Grows.refl _)
    · intro a' w' hA hC hD; obtain ⟨u10, s10, rfl⟩ := hD ⟨2, .data⟩ (by simp) rfl _ rfl
      have c0 := c7b (k := 0) (v := .int .u64 b1) ((hC.below.block _ (b7t Hb.out)).trans Hb.out) rfl
      clear hA hD; refine o7p rfl ?_; intro K hK; gi_wp2; exact hK _ _ rfl (Grows.refl _)
    · intro a' w' hA hC hD; obtain ⟨u9, s9, rfl⟩ := hD ⟨1, .data⟩ (by simp) rfl _ rfl; obtain ⟨u11, s11, rfl⟩ := hD ⟨3, .data⟩ (by simp) rfl _ rfl; clear hA hD; refine o7p rfl ?_; intro K hK
      gi_wp2_with fail; refine (callsIn_wide.2 (cmp_u64 _ _ _)).mono ?_; rintro e w2 ⟨rfl, rfl⟩; exact hK _ _ rfl (Grows.refl _)
    · intro a' w' hA hC hD; have s2 := hA.to 2 (by kernel_rfl) rfl; clear hA hD; refine o7p rfl ?_; intro K hK; gi_wp2; exact hK _ _ rfl (Grows.refl _)
    · intro a' w' hA hC hD; obtain ⟨u13, s13, rfl⟩ := hD ⟨5, .data⟩ (by simp) rfl _ rfl
      have c0 := c7b (k := 1) (v := .int .i64 a2) ((hC.below.block _ (b7t Ha.out)).trans Ha.out) rfl
      clear hA hD; refine o7p rfl ?_; intro K hK; gi_wp2; exact hK _ _ rfl (Grows.refl _)
    · intro a' w' hA hC hD; have s3 := hA.to 3 (by kernel_rfl) rfl; clear hA hD; refine o7p rfl ?_; intro K hK; gi_wp2; exact hK _ _ rfl (Grows.refl _)
    · intro a' w' hA hC hD; obtain ⟨u15, s15, rfl⟩ := hD ⟨7, .data⟩ (by simp) rfl _ rfl
      have c0 := c7b (k := 1) (v := .int .i64 b2) ((hC.below.block _ (b7t Hb.out)).trans Hb.out) rfl
      clear hA hD; refine o7p rfl ?_; intro K hK; gi_wp2; exact hK _ _ rfl (Grows.refl _)
    · intro a' w' hA hC hD; obtain ⟨u14, s14, rfl⟩ := hD ⟨6, .data⟩ (by simp) rfl _ rfl; obtain ⟨u16, s16, rfl⟩ := hD ⟨8, .data⟩ (by simp) rfl _ rfl; clear hA hD; refine o7p rfl ?_; intro K hK
      gi_wp2_with fail; refine (callsIn_wide.2 (cmp_i64 _ _ _)).mono ?_; rintro e w2 ⟨rfl, rfl⟩; exact hK _ _ rfl (Grows.refl _)
    · intro a' w' hA hC hD; have s2 := hA.to 2 (by kernel_rfl) rfl; clear hA hD; refine o7p rfl ?_; intro K hK; gi_wp2; exact hK _ _ rfl (Grows.refl _)
    · intro a' w' hA hC hD; obtain ⟨u18, s18, rfl⟩ := hD ⟨10, .data⟩ (by simp) rfl _ rfl
      have c0 := c7b (k := 2) (v := .int .u64 a3) ((hC.below.block _ (b7t Ha.out)).trans Ha.out) rfl
      clear hA hD; refine o7p rfl ?_; intro K hK; gi_wp2; exact hK _ _ rfl (Grows.refl _)
    · intro a' w' hA hC hD; have s3 := hA.to 3 (by kernel_rfl) rfl; clear hA hD; refine o7p rfl ?_; intro K hK; gi_wp2; exact hK _ _ rfl (Grows.refl _)
    · intro a' w' hA hC hD; obtain ⟨u20, s20, rfl⟩ := hD ⟨12, .data⟩ (by simp) rfl _ rfl
      have c0 := c7b (k := 2) (v := .int .u64 b3) ((hC.below.block _ (b7t Hb.out)).trans Hb.out) rfl
      clear hA hD; refine o7p rfl ?_; intro K hK; gi_wp2; exact hK _ _ rfl (Grows.refl _)
    · intro a' w' hA hC hD; obtain ⟨u19, s19, rfl⟩ := hD ⟨11, .data⟩ (by simp) rfl _ rfl; obtain ⟨u21, s21, rfl⟩ := hD ⟨13, .data⟩ (by simp) rfl _ rfl; clear hA hD; refine o7p rfl ?_; intro K hK
      gi_wp2_with fail; refine (callsIn_wide.2 (cmp_u64 _ _ _)).mono ?_; rintro e w2 ⟨rfl, rfl⟩; exact hK _ _ rfl (Grows.refl _)
    · intro a' w' hA hC hD; obtain ⟨u12, s12, rfl⟩ := hD ⟨4, .data⟩ (by simp) rfl _ rfl; obtain ⟨u17, s17, rfl⟩ := hD ⟨9, .data⟩ (by simp) rfl _ rfl; obtain ⟨u22, s22, rfl⟩ := hD ⟨14, .data⟩ (by simp) rfl _ rfl; clear hA hD; refine o7p rfl ?_; intro K hK; gi_wp2; exact hK (.slice (some ⟨w'.heap.size, 0, none⟩) 3 3) _ ⟨w'.heap.size, rfl, World.alloc_heap_new _ _⟩ (Grows.alloc _ _)
    · intro a' w' hA hC hD; obtain ⟨u23, s23, r23⟩ := hD ⟨15, .data⟩ (by simp) rfl _ rfl; replace r23 : (fun v_ w_ => ∃ q, v_ = .slice (some ⟨q, 0, none⟩) 3 3 ∧ w_.heap[q]? = some (.cells #[.int .i64 (Lib.compareInt a1 b1), .int .i64 (Lib.compareInt a2 b2), .int .i64 (Lib.compareInt a3 b3)] 3 (0, 0))) u23 w' := r23; clear hA hD; refine o7p rfl ?_; intro K hK
      obtain ⟨q, rfl, hq⟩ := r23; gi_wp2_with fail; refine (callsIn_wide.2 (or_any q _ _ _ _ hq)).mono ?_; rintro e w2 ⟨rfl, rfl⟩; exact hK _ _ rfl (Grows.refl _)
    · intro a' w' hA hC hD; obtain ⟨u24, s24, rfl⟩ := hD ⟨16, .data⟩ (by simp) rfl _ rfl; clear hA hD; refine o7p rfl ?_; intro K hK; gi_wp2; exact hK _ _ rfl (Grows.refl _)
   case hend =>
    intro w3 hC
    simp only [EndFrom, eqv, forall_eq, Act.put, List.length_cons, List.length_nil, List.drop_succ_cons, List.drop_zero, Nat.reduceAdd, List.setIfInBounds_toArray, List.set_cons_succ, List.set_cons_zero]
    intro u hu
    gi_wp2
    go_wp2
    go_ret
    exact ⟨rfl, HW.out.trans hC⟩
 · go_enter Tryz.func126, Tryz.ntmps126
   go_wp2_with fail
   go_ret
   exact ⟨rfl, (Grows.alloc w _).trans (Grows.alloc _ _)⟩
/- Equality of points. -/
def ptEqB (a b : PtT) : Bool := a.x == b.x && a.y == b.y
theorem ptEqB_iff (a b : PtT) : ptEqB a b = true ↔ a = b := by
 obtain ⟨a1, a2⟩ := a
 obtain ⟨b1, b2⟩ := b
 simp [ptEqB]
theorem run_eql_point (w : World) (a b d e : Int) : (binOp .eql 69 (.agg #[.int .i64 a, .int .i64 b]) (.agg #[.int .i64 d, .int .i64 e])).run Tryz.prog w = .ok (.bool (ptEqB ⟨a, b⟩ ⟨d, e⟩)) w := by
 unfold ptEqB
 simp [binOp, Op.equal, Op.maxDepth, go_sem]
 by_cases h1 : a = d <;> by_cases h2 : b = e <;> simp [h1, h2]
end Go.Proofs.YtgdcfkbimkclaaaGreatDoor
