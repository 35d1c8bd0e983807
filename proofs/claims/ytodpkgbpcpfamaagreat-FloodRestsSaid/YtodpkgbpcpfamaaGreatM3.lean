/- Merged texts: Pix Can RowT RowI RowC Big WithL. -/
import Derived.Test.YtodpkgbpcpfamaaGreatM2
import Derived.Lib.SmallJoins
/- Layer 3: pixel.Far, pixel.Near. -/
namespace Go.Proofs.YtodpkgbpcpfamaaGreat
set_option linter.unusedSimpArgs false
set_option linter.unusedVariables false
open Go.RowKit Go.Shelf
attribute [local go_sem] Oper.semAt_some

def partC (c : ColT) : Nat → Int
 | 0 => c.r
 | 1 => c.g
 | 2 => c.b
 | _ => c.a
def partArgs (c : ColT) (x : Fin 4) : Array Value := #[.int .i64 (x.1 : Int), .int .i64 (partC c x.1)]
theorem info_u8 : (Tryz.prog.info? 5).map (fun i => (i.zero, i.size, i.bytes)) = some (some (.int .u8 0), 1, 1) := by kernel_rfl
theorem run_part (c : ColT) (k : Nat) (h : k < 4) (w : World) : (Instr.index 158 (.agg #[.int .u8 c.r, .int .u8 c.g, .int .u8 c.b, .int .u8 c.a]) (.int .i64 (k : Int))).run Tryz.prog w = .ok (.int .u8 (partC c k)) w := by
 obtain ⟨i0, hi, _, hz1, _⟩ := info_parts info_u8
 refine run_index_int w 158 5 4 .u8 i0 Tryz.underlying158 Tryz.underlying5 hi hz1 _ k _ h ?_
 match k, h with
 | 0, _ => rfl
 | 1, _ => rfl
 | 2, _ => rfl
 | 3, _ => rfl
theorem part_ok {c : ColT} (hc : okC c) (k : Nat) : 0 ≤ partC c k ∧ partC c k < 256 := by
 unfold okC at hc
 unfold partC
 split <;> omega

set_option maxRecDepth 100000 in
set_option maxHeartbeats 2000000 in
theorem parts1_in (n : Nat) (hn : 1 ≤ n) (l Bs : Nat) (bs : List Nat) (c : ColT) (hcc : okC c) (J Jx : List (Fin 4) → World → Prop)
 (hY : ∀ pre x W, J pre W → pre.length < 4 → YieldAt Fence.wide (n - 1) Tryz.prog l (partArgs c x) W fun e W' =>
  (e = .returned (.bool true) ∧ J (pre ++ [x]) W' ∧ KeepsAt bs W W') ∨ (e = .returned (.bool false) ∧ Jx (pre ++ [x]) W'))
 (W : World) (hc0 : W.cell? ⟨Bs, 0, none⟩ = some (.int .u8 c.r)) (hc1 : W.cell? ⟨Bs, 1, none⟩ = some (.int .u8 c.g)) (hc2 : W.cell? ⟨Bs, 2, none⟩ = some (.int .u8 c.b)) (hc3 : W.cell? ⟨Bs, 3, none⟩ = some (.int .u8 c.a)) (h0 : J [] W) :
 CallsIn Fence.wide n Tryz.prog 85 #[.func (.yield l) #[] #[], .pointer (some ⟨Bs, 0, none⟩)] W fun e W' => (∃ v, e = .returned v) ∧
  ((∃ ys, ys = List.finRange 4 ∧ J ys W') ∨ (∃ pre, pre <+: List.finRange 4 ∧ Jx pre W')) := by
 have HY := Lib.hid hY
 have HO := Lib.hid (part_ok hcc)
 clear hY hcc
 refine callsIn_of_wp Tryz.func85 rfl trivial ?_ rfl
 simp only [Tryz.ntmps85, List.size_toArray, List.length_cons, List.length_nil, Nat.reduceAdd, Nat.reduceSub, Array.replicate_succ, Array.replicate_zero, List.push_toArray, List.append_toArray, List.nil_append, List.cons_append]
 gi_wp2
 apply wpIn_scope
 gi_wp2
 apply wpIn_label
 gi_wp2
 have HX := Lib.hid (run_part c)
 gi_loopw [18] (fun i wr => ∃ k : Nat, k ≤ 4 ∧ i = .int .i64 k ∧ J (firsts 4 k) wr) (fun i _ => 4 - (intOf i).toNat)
 case atStart => exact ⟨0, by omega, rfl, h0⟩
 case round =>
  obtain ⟨k, hk, rfl, hJs⟩ := hrel
  by_cases hlt : k < 4
  · have hix := HX.out k hlt
    have hp := HO.out k
    obtain ⟨fn, tmps, assign, body, hy, hR⟩ := HY.out _ (⟨k, hlt⟩ : Fin 4) wr hJs (by rw [firsts_length (by omega)]; omega)
    unfold partArgs at hy
    dsimp only at hy
    have hs := firsts_succ (N := 4) (k := k) hlt
    rw [hs] at hR
    clear hs
    obtain ⟨pv, hpv⟩ : ∃ pv, partC c k = pv := ⟨_, rfl⟩
    rw [hpv] at hix hy hp
    have hw : wrap64 pv = pv := by unfold wrap64; omega
    clear hpv hp
    gi_wp2
    refine hR.mono ?_
    rintro e W3 (⟨rfl, hJ3, hk3⟩ | ⟨rfl, hJx3⟩)
    · gi_wp2
      go_roundw
      case rel => exact ⟨k + 1, by omega, by simp, hJ3⟩
      case measure => simp [intOf]; omega
    · gi_wp2
      rw [Exit.noGoto_normal]
      go_end0
      exact ⟨⟨_, rfl⟩, .inr ⟨_, firsts_prefix _ _, hJx3⟩⟩
  · obtain rfl : k = 4 := by omega
    gi_wp2; rw [Exit.noGoto_normal]
    go_end0
    exact ⟨⟨_, rfl⟩, .inl ⟨_, firsts_all 4, hJs⟩⟩

theorem parts_any (cs : Array Value) (w : World) :
 Calls Tryz.prog 72 #[.agg cs] w fun e w' => e = .returned (.func (.func 85) #[] #[.pointer (some ⟨w.heap.size, 0, none⟩)]) ∧ w.alloc (.cells cs 139) = w' := by
 go_enter Tryz.func72, Tryz.ntmps72
 go_wp2
 go_ret
 exact ⟨rfl, rfl⟩

theorem parts_iter (Bs : Nat) (c : ColT) (hc : okC c) (w : World) (hb : w.heap[Bs]? = some (.cells #[.int .u8 c.r, .int .u8 c.g, .int .u8 c.b, .int .u8 c.a] 139 (0, 0))) :
 Iter Tryz.prog 85 #[.pointer (some ⟨Bs, 0, none⟩)] 4 (partArgs c) [Bs] w := by
 intro n hn1 l J Jx W hW _ _ hY h0
 have hb' := (hW.block Bs (block_lt hb)).trans hb
 exact parts1_in n hn1 l Bs _ c hc J Jx hY W (cell_of_block hb' rfl) (cell_of_block hb' rfl) (cell_of_block hb' rfl) (cell_of_block hb' rfl) h0

theorem ownFrom_blk {β : Type} {B k : Nat} {o : Obj} (hk : k < B) : OwnFrom B (fun (_ : β) W => W.heap[k]? = some o) := fun _ W W' _ h hg hr => (hg.block k (block_lt h) (fun e => by have := (hr k e.symm).1; omega)).trans h
/-- Values laid at places. -/
def laidA (f : Nat → Int) (pre : List (Fin 4)) : Array Value := pre.foldl (fun c x => c.setIfInBounds x.1 (.int .i64 (f x.1))) #[.int .i64 0, .int .i64 0, .int .i64 0, .int .i64 0]
theorem laidA_push (f : Nat → Int) (pre : List (Fin 4)) (x : Fin 4) : laidA f (pre ++ [x]) = (laidA f pre).setIfInBounds x.1 (.int .i64 (f x.1)) := by unfold laidA; rw [List.foldl_append]; rfl
theorem laidA_size (f : Nat → Int) (pre : List (Fin 4)) : (laidA f pre).size = 4 := by
 unfold laidA
 obtain ⟨a, ha⟩ : ∃ a : Array Value, #[Value.int .i64 0, .int .i64 0, .int .i64 0, .int .i64 0] = a := ⟨_, rfl⟩
 have hs : a.size = 4 := by rw [← ha]; rfl
 rw [ha]
 clear ha
 induction pre generalizing a with
 | nil => exact hs
 | cons x pre ih => exact ih _ (by rw [Array.size_setIfInBounds]; exact hs)
theorem laidA_all (f : Nat → Int) : laidA f (List.finRange 4) = #[.int .i64 (f 0), .int .i64 (f 1), .int .i64 (f 2), .int .i64 (f 3)] := rfl
theorem laid4_get (f : Nat → Int) (x : Fin 4) : (#[Value.int .i64 (f 0), .int .i64 (f 1), .int .i64 (f 2), .int .i64 (f 3)] : Array Value)[x.1]? = some (.int .i64 (f x.1)) := by
 match x with
 | ⟨0, _⟩ => rfl
 | ⟨1, _⟩ => rfl
 | ⟨2, _⟩ => rfl
 | ⟨3, _⟩ => rfl
def apartC (c d : ColT) (k : Nat) : Int := apartI (partC c k) (partC d k)

set_option maxRecDepth 100000 in
set_option maxHeartbeats 4000000 in
theorem both_any (c d : ColT) (hc : okC c) (hd : okC d) (w : World) : Calls Tryz.prog 61 #[c.val, d.val, .func (.func 62) #[] #[]] w
 (Gives (.agg #[.int .i64 (apartI c.r d.r), .int .i64 (apartI c.g d.g), .int .i64 (apartI c.b d.b), .int .i64 (apartI c.a d.a)]) w) := by
 have HO := Lib.hid (And.intro hc hd)
 clear hc hd
 have HS := Lib.hid (St.start w)
 unfold ColT.val
 refine (callsIn_wide (n := 10)).1 ?_
 refine callsIn_of_wp_marks Tryz.func61 rfl trivial ?_ rfl
 simp only [Tryz.ntmps61, List.size_toArray, List.length_cons, List.length_nil, Nat.reduceAdd, Nat.reduceSub, Array.replicate_succ, Array.replicate_zero, List.push_toArray, List.append_toArray, List.nil_append, List.cons_append]
 gi_wp2_with fail
 have hs_ := ((((((HS.out.alloc (.cells #[.int .u8 c.r, .int .u8 c.g, .int .u8 c.b, .int .u8 c.a] 27)).alloc (.cells #[.int .u8 d.r, .int .u8 d.g, .int .u8 d.b, .int .u8 d.a] 27)).alloc (.cells #[.func (.func 62) #[] #[]] 120)).alloc (.cells #[.int .i64 0, .int .i64 0, .int .i64 0, .int .i64 0] 124)).alloc (.cells #[.int .i64 0, .int .i64 0, .int .i64 0, .int .i64 0] 124)).alloc (.cells #[.int .i64 0, .int .i64 0, .int .i64 0, .int .i64 0] 124))
 obtain ⟨w1, hw_⟩ : ∃ w1 : World, ((((((w.alloc (.cells #[.int .u8 c.r, .int .u8 c.g, .int .u8 c.b, .int .u8 c.a] 27)).alloc (.cells #[.int .u8 d.r, .int .u8 d.g, .int .u8 d.b, .int .u8 d.a] 27)).alloc (.cells #[.func (.func 62) #[] #[]] 120)).alloc (.cells #[.int .i64 0, .int .i64 0, .int .i64 0, .int .i64 0] 124)).alloc (.cells #[.int .i64 0, .int .i64 0, .int .i64 0, .int .i64 0] 124)).alloc (.cells #[.int .i64 0, .int .i64 0, .int .i64 0, .int .i64 0] 124)) = w1 := ⟨_, rfl⟩
 rw [hw_] at hs_
 try simp only [World.size_alloc] at hs_
 have HS := Lib.hid hs_
 rw [hw_]
 clear hw_ hs_
 refine (callsIn_wide.2 (parts_any _ _)).mono ?_
 rintro e w' ⟨rfl, rfl⟩
 have hs_ := (HS.out.alloc (.cells #[.int .u8 d.r, .int .u8 d.g, .int .u8 d.b, .int .u8 d.a] 139))
 obtain ⟨w2, hw_⟩ : ∃ w2 : World, (w1.alloc (.cells #[.int .u8 d.r, .int .u8 d.g, .int .u8 d.b, .int .u8 d.a] 139)) = w2 := ⟨_, rfl⟩
 rw [hw_] at hs_
 try simp only [World.size_alloc] at hs_
 have HS := Lib.hid hs_
 rw [hw_]
 clear hw_ hs_
 gi_wp2_with fail
 have hz2 : w1.heap.size < w2.heap.size := HS.out.lt 0 rfl
 refine range_iter (parts_iter w1.heap.size d HO.out.2 w2 (HS.out.blockAt 0 rfl)) (by omega) rfl (enters_of Tryz.func85 (by kernel_rfl) rfl) (by simpa using HS.out.lt 0 rfl) (Below.refl _ _) (fun _ => rfl)
  (fun x => [(16, .int .i64 (x.1 : Int)), (17, .int .i64 (partC d x.1))]) (fun _ => by simp [partArgs])
  (fun pre W => St w [.blk w1.heap.size (.cells #[.int .u8 d.r, .int .u8 d.g, .int .u8 d.b, .int .u8 d.a] 139 (0, 0)), .blk (w.heap.size + 1 + 1 + 1 + 1 + 1) (.cells (laidA (partC d) pre) 124 (0, 0)), .blk (w.heap.size + 1 + 1 + 1 + 1) (.cells (#[.int .i64 0, .int .i64 0, .int .i64 0, .int .i64 0]) 124 (0, 0)), .blk (w.heap.size + 1 + 1 + 1) (.cells #[.int .i64 0, .int .i64 0, .int .i64 0, .int .i64 0] 124 (0, 0)), .blk (w.heap.size + 1 + 1) (.cells #[.func (.func 62) #[] #[]] 120 (0, 0)), .blk (w.heap.size + 1) (.cells #[.int .u8 d.r, .int .u8 d.g, .int .u8 d.b, .int .u8 d.a] 27 (0, 0)), .blk w.heap.size (.cells #[.int .u8 c.r, .int .u8 c.g, .int .u8 c.b, .int .u8 c.a] 27 (0, 0))] W)
  (fun _ _ _ => False) (ownFrom_St _ HS.out.size (by intro s b o hb; simp at hb; rcases hb with ⟨_, rfl⟩ | ⟨_, rfl⟩ | ⟨_, rfl⟩ | ⟨_, rfl⟩ | ⟨_, rfl⟩ | ⟨_, rfl⟩ | ⟨_, rfl⟩ <;> rfl)) (fun _ => ownFrom_pure _ _) HS.out
  (fun x => [(9, .int .i64 (x.1 : Int)), (10, .int .i64 (partC d x.1))]) ?assign ?body ?done ?stop
 case assign =>
  intro l x W K hK
  have HK := Lib.hid hK
  clear hK
  unfold loopAct at *
  gi_wp2
  exact HK.out
 case body =>
  intro l pre x W hI hlt
  have HI := Lib.hid hI
  have hx := x.2
  obtain ⟨v0, hv0⟩ : ∃ v0, (laidA (partC d) pre)[x.1]? = some v0 := ⟨_, Array.getElem?_eq_getElem (by rw [laidA_size]; exact hx)⟩
  have c1 := cell_of_block (hI.blockAt 1 rfl) hv0
  have f1 := free_of_block (hI.blockAt 1 rfl) x.1
  clear hI
  simp only [loopAct, List.foldl, List.cons_append, List.nil_append, List.setIfInBounds_toArray, List.set_cons_succ, List.set_cons_zero]
  gi_wp2
  refine ⟨KeepsOthers.setCell W _ _, ?_, ?_⟩
  · intro b hb
    rw [List.mem_singleton.1 hb]
    exact heap_setCell_other _ _ _ _ (by have := HI.out.ord; simp [ItOrd, It.top] at this; simp; omega)
  · change St w _ _
    rw [laidA_push]
    exact HI.out.putAt (pre := [_]) (by intro i hi; simp at hi; exact ⟨_, _, hi⟩) x.1 _ rfl
 case done =>
  intro D1 W3 hD1 hI hK1
  rw [laidA_all] at hI
  have HS := Lib.hid hI
  have HK1 := Lib.hid (And.intro hD1 hK1)
  have a0 := cell_of_block (k := 0) (HS.out.blockAt 6 rfl) rfl
  have a1 := cell_of_block (k := 1) (HS.out.blockAt 6 rfl) rfl
  have a2 := cell_of_block (k := 2) (HS.out.blockAt 6 rfl) rfl
  have a3 := cell_of_block (k := 3) (HS.out.blockAt 6 rfl) rfl
  clear hI hK1 hD1
  gi_wp2_with fail
  refine (callsIn_wide.2 (parts_any _ _)).mono ?_
  rintro e w' ⟨rfl, rfl⟩
  have HS := Lib.hid (HS.out.alloc (.cells #[.int .u8 c.r, .int .u8 c.g, .int .u8 c.b, .int .u8 c.a] 139))
  have HM := Lib.hid (heap_alloc_keeps HK1.out.2 (.cells #[.int .u8 c.r, .int .u8 c.g, .int .u8 c.b, .int .u8 c.a] 139))
  have hD1 : D1 < W3.heap.size := block_lt HK1.out.2
  obtain ⟨w3, hw3⟩ : ∃ w3, W3.alloc (.cells #[.int .u8 c.r, .int .u8 c.g, .int .u8 c.b, .int .u8 c.a] 139) = w3 := ⟨_, rfl⟩
  rw [hw3] at HS HM ⊢
  have hz3 : W3.heap.size < w3.heap.size := HS.out.lt 0 rfl
  clear a0 a1 a2 a3 hw3
  gi_wp2_with fail
  refine range_iter (parts_iter W3.heap.size c HO.out.1 w3 (HS.out.blockAt 0 rfl)) (by omega) rfl (enters_of Tryz.func85 (by kernel_rfl) rfl) (by simpa using hz3) (Below.refl _ _) (fun _ => rfl)
   (fun x => [(24, .int .i64 (x.1 : Int)), (25, .int .i64 (partC c x.1))]) (fun _ => by simp [partArgs])
   (fun pre W => St w [.blk W3.heap.size (.cells #[.int .u8 c.r, .int .u8 c.g, .int .u8 c.b, .int .u8 c.a] 139 (0, 0)), .blk w1.heap.size (.cells #[.int .u8 d.r, .int .u8 d.g, .int .u8 d.b, .int .u8 d.a] 139 (0, 0)), .blk (w.heap.size + 1 + 1 + 1 + 1 + 1) (.cells (#[.int .i64 (partC d 0), .int .i64 (partC d 1), .int .i64 (partC d 2), .int .i64 (partC d 3)]) 124 (0, 0)), .blk (w.heap.size + 1 + 1 + 1 + 1) (.cells (laidA (apartC c d) pre) 124 (0, 0)), .blk (w.heap.size + 1 + 1 + 1) (.cells #[.int .i64 0, .int .i64 0, .int .i64 0, .int .i64 0] 124 (0, 0)), .blk (w.heap.size + 1 + 1) (.cells #[.func (.func 62) #[] #[]] 120 (0, 0)), .blk (w.heap.size + 1) (.cells #[.int .u8 d.r, .int .u8 d.g, .int .u8 d.b, .int .u8 d.a] 27 (0, 0)), .blk w.heap.size (.cells #[.int .u8 c.r, .int .u8 c.g, .int .u8 c.b, .int .u8 c.a] 27 (0, 0))] W ∧ W.heap[D1]? = some (.deferred (some [])))
   (fun _ _ _ => False) (OwnFrom.and (ownFrom_St _ HS.out.size (by intro s b o hb; simp at hb; rcases hb with ⟨_, rfl⟩ | ⟨_, rfl⟩ | ⟨_, rfl⟩ | ⟨_, rfl⟩ | ⟨_, rfl⟩ | ⟨_, rfl⟩ | ⟨_, rfl⟩ | ⟨_, rfl⟩ <;> rfl)) (ownFrom_blk (by omega))) (fun _ => ownFrom_pure _ _) ⟨HS.out, HM.out⟩
   (fun x => [(11, .int .i64 (x.1 : Int)), (12, .int .i64 (partC c x.1))]) ?assign2 ?body2 ?done2 ?stop2
  case assign2 =>
   intro l x W K hK
   have HK := Lib.hid hK
   clear hK
   unfold loopAct at *
   gi_wp2
   exact HK.out
  case body2 =>
   rintro l pre x W ⟨hI, hm⟩ hlt
   have HS := Lib.hid hI
   have HM := Lib.hid hm
   have HX := Lib.hid x.2
   have HPC := Lib.hid (part_ok HO.out.1 x.1)
   have HPD := Lib.hid (part_ok HO.out.2 x.1)
   obtain ⟨v0, hv0⟩ : ∃ v0, (laidA (apartC c d) pre)[x.1]? = some v0 := ⟨_, Array.getElem?_eq_getElem (by rw [laidA_size]; exact x.2)⟩
   have HV := Lib.hid hv0
   clear hI hv0 hm
   simp only [loopAct, List.foldl, List.cons_append, List.nil_append, List.setIfInBounds_toArray, List.set_cons_succ, List.set_cons_zero]
   repeat ((fail_if_success (with_reducible refine stop_atI (id := 10) ?_)); (first | go_values | gi_guarded | gi_step | gi_upon | gi_back | (simp only [Int.not_lt, Int.not_le] at *; go_simp) | (go_values <;> (try go_simp)) | (go_ite <;> go_prune <;> (try go_simp)) | (split <;> (first | (rename_i hx; exact (hx _ rfl).elim) | go_prune))))
   apply wp_region_vals 8 (Rl := [(eqv _), (eqv _), (eqv _), (eqv _), (eqv _), (eqv _), (eqv _), (eqv _)]) (C := (fun x y => Below x.heap.size x y))
   case hm => kernel_rfl
   case hk => rfl
   case hCr => exact (fun _ => Below.refl _ _)
   case hCt => intro _ _ _; exact (fun h k => grows_trans h k)
   case hst => exact ⟨fun _ _ _ _ h => h, fun _ _ _ _ h => h, fun _ _ _ _ h => h, fun _ _ _ _ h => h, fun _ _ _ _ h => h, fun _ _ _ _ h => h, fun _ _ _ _ h => h, fun _ _ _ _ h => h, trivial⟩
   case hfo => kernel_rfl
   case ht => kernel_rfl
   case hC0 => exact (grows_drew _)
   case hsteps =>
    refine ⟨?_, ?_, ?_, ?_, ?_, ?_, ?_, ?_, trivial⟩
    · intro a' w' hA hC hD; have s11 : a'.tmps[11]? = some _ := (hA.at 11 (by kernel_rfl)).trans rfl; clear hA hD; refine stepOk_plain rfl ?_; intro K hK; gi_wp2; exact hK _ _ rfl ((fun _ => Below.refl _ _) _)
    · intro a' w' hA hC hD; have s5 : a'.tmps[5]? = some _ := (hA.at 5 (by kernel_rfl)).trans rfl
      have h1_ := (HS.out.below hC).blockAt 5 rfl; have c1_0 := cell_of_block (k := 0) h1_ rfl; clear h1_
      clear hA hD; refine stepOk_plain rfl ?_; intro K hK; gi_wp2; exact hK _ _ rfl ((fun _ => Below.refl _ _) _)
    · intro a' w' hA hC hD; have s12 : a'.tmps[12]? = some _ := (hA.at 12 (by kernel_rfl)).trans rfl; clear hA hD; refine stepOk_plain rfl ?_; intro K hK; gi_wp2; exact hK _ _ rfl ((fun _ => Below.refl _ _) _)
    · intro a' w' hA hC hD; have s11 : a'.tmps[11]? = some _ := (hA.at 11 (by kernel_rfl)).trans rfl; clear hA hD; refine stepOk_plain rfl ?_; intro K hK; gi_wp2; exact hK _ _ rfl ((fun _ => Below.refl _ _) _)
    · intro a' w' hA hC hD; have s8 : a'.tmps[8]? = some _ := (hA.at 8 (by kernel_rfl)).trans rfl; obtain ⟨u29, s29, r29⟩ := hD ⟨3, .data⟩ (by simp) rfl _ rfl; replace r29 : u29 = _ := r29; subst r29; clear hA hD; refine stepOk_plain rfl ?_; intro K hK; gi_wp2; exact hK _ _ rfl ((fun _ => Below.refl _ _) _)
    · intro a' w' hA hC hD; obtain ⟨u30, s30, r30⟩ := hD ⟨4, .data⟩ (by simp) rfl _ rfl; replace r30 : u30 = _ := r30; subst r30
      have b5 := cell_of_block ((HS.out.below hC).blockAt 2 rfl) (laid4_get (partC d) x)
      clear hA hD; refine stepOk_plain rfl ?_; intro K hK; gi_wp2; exact hK _ _ rfl ((fun _ => Below.refl _ _) _)
    · intro a' w' hA hC hD; obtain ⟨u27, s27, r27⟩ := hD ⟨1, .data⟩ (by simp) rfl _ rfl; replace r27 : u27 = _ := r27; subst r27; obtain ⟨u28, s28, r28⟩ := hD ⟨2, .data⟩ (by simp) rfl _ rfl; replace r28 : u28 = _ := r28; subst r28; obtain ⟨u31, s31, r31⟩ := hD ⟨5, .data⟩ (by simp) rfl _ rfl; replace r31 : u31 = _ := r31; subst r31; clear hA hD; refine stepOk_plain rfl ?_; intro K hK
      gi_wp2_with fail; refine (callsIn_wide.2 (far1_any _ _ HPC.out HPD.out _)).mono ?_; rintro e w2 ⟨rfl, hb⟩
      exact hK _ _ rfl hb
    · intro a' w' hA hC hD; have s7 : a'.tmps[7]? = some _ := (hA.at 7 (by kernel_rfl)).trans rfl; obtain ⟨u26, s26, r26⟩ := hD ⟨0, .data⟩ (by simp) rfl _ rfl; replace r26 : u26 = _ := r26; subst r26; clear hA hD; refine stepOk_plain rfl ?_; intro K hK; gi_wp2; exact hK _ _ rfl ((fun _ => Below.refl _ _) _)
   case hend =>
    intro w4 hC
    simp only [EndFrom, eqv, forall_eq, Act.put, List.length_cons, List.length_nil, List.drop_succ_cons, List.drop_zero, Nat.reduceAdd, List.setIfInBounds_toArray, List.set_cons_succ, List.set_cons_zero]
    have HC := Lib.hid (And.intro (show KeepsOthers W w4 from ⟨hC.size, fun j o hj _ => (hC.block j (block_lt hj)).trans hj⟩) (And.intro ((hC.block W3.heap.size (HS.out.lt 0 rfl)) : w4.heap[W3.heap.size]? = W.heap[W3.heap.size]?) ((hC.block D1 (block_lt HM.out)).trans HM.out)))
    have HO4 := Lib.hid (show W3.heap.size ≠ w.heap.size + 1 + 1 + 1 + 1 by have h_ := HS.out.ord; simp [ItOrd, It.top] at h_; omega)
    have HS := Lib.hid (HS.out.below hC)
    have c1 := cell_of_block (HS.out.blockAt 3 rfl) HV.out
    have f1 := free_of_block (HS.out.blockAt 3 rfl) x.1
    clear hC
    gi_wp2
    refine ⟨HC.out.1.trans (KeepsOthers.setCell _ _ _), ?_, ?_, ?_⟩
    · intro b hb
      rw [List.mem_singleton.1 hb]
      exact (heap_setCell_other _ _ _ _ (by have := HO4.out; simpa using this)).trans HC.out.2.1
    · change St w _ _
      rw [laidA_push]
      exact HS.out.putAt (pre := [_, _, _]) (by intro i hi; simp at hi; rcases hi with rfl | rfl | rfl <;> exact ⟨_, _, rfl⟩) x.1 _ rfl
    · exact (heap_setCell_other _ _ _ _ (by intro e; have h1 := HC.out.2.2; have h2 := HS.out.blockAt 3 rfl; rw [e] at h1; simp at h1; rw [h2] at h1; cases h1)).trans HC.out.2.2
  case done2 =>
   rintro D2 W4 hD2 ⟨hI, hm⟩ hK2
   rw [laidA_all] at hI
   have HS := Lib.hid hI
   have HD := Lib.hid (And.intro hm (And.intro hK2 hD2))
   have HDN := Lib.hid (show D1 < w3.heap.size ∧ w.heap.size ≤ D1 by have h1 := block_lt HM.out; exact ⟨h1, Nat.le_trans (by have h_ := HS.out.ord; simp [ItOrd, It.top] at h_; omega) HK1.out.1⟩)
   clear hI hm hK2 hD2
   have a0 := cell_of_block (k := 0) (HS.out.blockAt 3 rfl) rfl
   have a1 := cell_of_block (k := 1) (HS.out.blockAt 3 rfl) rfl
   have a2 := cell_of_block (k := 2) (HS.out.blockAt 3 rfl) rfl
   have a3 := cell_of_block (k := 3) (HS.out.blockAt 3 rfl) rfl
   have b0 := cell_of_block (k := 0) (HS.out.blockAt 4 rfl) rfl
   have b1 := cell_of_block (k := 1) (HS.out.blockAt 4 rfl) rfl
   have b2 := cell_of_block (k := 2) (HS.out.blockAt 4 rfl) rfl
   have b3 := cell_of_block (k := 3) (HS.out.blockAt 4 rfl) rfl
   have fz := free_of_block (HS.out.blockAt 4 rfl)
   gi_wp2
   clear a0 a1 a2 a3 b0 b1 b2 b3 fz
   have H5 := (((HS.out.putAt (pre := [_, _, _, _]) (by intro i hi; simp at hi; rcases hi with rfl | rfl | rfl | rfl <;> exact ⟨_, _, rfl⟩) 0 (.int .i64 (apartC c d 0)) rfl).putAt (pre := [_, _, _, _]) (by intro i hi; simp at hi; rcases hi with rfl | rfl | rfl | rfl <;> exact ⟨_, _, rfl⟩) 1 (.int .i64 (apartC c d 1)) rfl).putAt (pre := [_, _, _, _]) (by intro i hi; simp at hi; rcases hi with rfl | rfl | rfl | rfl <;> exact ⟨_, _, rfl⟩) 2 (.int .i64 (apartC c d 2)) rfl).putAt (pre := [_, _, _, _]) (by intro i hi; simp at hi; rcases hi with rfl | rfl | rfl | rfl <;> exact ⟨_, _, rfl⟩) 3 (.int .i64 (apartC c d 3)) rfl
   have hk := (((KeepsOthers.setCell W4 ⟨w.heap.size + 1 + 1 + 1, 0, none⟩ (.int .i64 (apartC c d 0))).trans (KeepsOthers.setCell _ ⟨w.heap.size + 1 + 1 + 1, 1, none⟩ (.int .i64 (apartC c d 1)))).trans (KeepsOthers.setCell _ ⟨w.heap.size + 1 + 1 + 1, 2, none⟩ (.int .i64 (apartC c d 2)))).trans (KeepsOthers.setCell _ ⟨w.heap.size + 1 + 1 + 1, 3, none⟩ (.int .i64 (apartC c d 3)))
   generalize (((W4.setCell ⟨w.heap.size + 1 + 1 + 1, 0, none⟩ (.int .i64 (apartC c d 0))).setCell ⟨w.heap.size + 1 + 1 + 1, 1, none⟩ (.int .i64 (apartC c d 1))).setCell ⟨w.heap.size + 1 + 1 + 1, 2, none⟩ (.int .i64 (apartC c d 2))).setCell ⟨w.heap.size + 1 + 1 + 1, 3, none⟩ (.int .i64 (apartC c d 3)) = W5 at H5 hk ⊢
   have hm1 := hk.same D1 _ HD.out.1 rfl
   have hm2 := hk.same D2 _ HD.out.2.1 rfl
   have hb5 := H5.blockAt 4 rfl
   have hn : w.heap.size + 1 + 1 + 1 ∉ [D2, D1] := fun hm => by
    rcases List.mem_cons.1 hm with e | hm
    · rw [← e, hb5] at hm2; cases hm2
    · rw [← List.mem_singleton.1 hm, hb5] at hm1; cases hm1
   refine ret_marks (lo := w.heap.size) (Ds := [D2, D1]) (v := .agg #[.int .i64 (apartC c d 0), .int .i64 (apartC c d 1), .int .i64 (apartC c d 2), .int .i64 (apartC c d 3)]) rfl ⟨by have := HDN.out; have := HD.out.2.2; simp; omega, fun D hD => ?_⟩ (fun W' ht => ⟨?_, rfl, H5.low.trans (ht.below H5.low.size fun k hk => ?_)⟩)
   · rcases List.mem_cons.1 hD with rfl | hD
     · exact ⟨by have := HDN.out; have := HD.out.2.2; omega, hm2⟩
     · rw [List.mem_singleton.1 hD]; exact ⟨HDN.out.2, hm1⟩
   · have hb' := (ht.block _ (block_lt hb5) hn).trans hb5
     have a0 := cell_of_block (k := 0) hb' rfl
     have a1 := cell_of_block (k := 1) hb' rfl
     have a2 := cell_of_block (k := 2) hb' rfl
     have a3 := cell_of_block (k := 3) hb' rfl
     simp [results, Tryz.results61, go_sem, a0, a1, a2, a3]
   · have := HDN.out; have := HD.out.2.2
     rcases List.mem_cons.1 hk with rfl | hk
     · omega
     · rw [List.mem_singleton.1 hk]; omega
  case stop2 =>
   intro D c pre W _ _ h
   exact h.elim
 case stop =>
  intro D c pre W _ _ h
  exact h.elim

theorem info_i64 : (Tryz.prog.info? 3).map (fun i => (i.zero, i.size, i.bytes)) = some (some (.int .i64 0), 1, 8) := by kernel_rfl
def sumA (f : Nat → Int) : Nat → Int
 | 0 => 0
 | k + 1 => sumA f k + f k
theorem apart_ok {c d : ColT} (hc : okC c) (hd : okC d) (k : Nat) : 0 ≤ apartC c d k ∧ apartC c d k < 256 := by
 have h1 := part_ok hc k
 have h2 := part_ok hd k
 unfold apartC apartI
 omega
theorem sumA_ok {f : Nat → Int} (h : ∀ k, 0 ≤ f k ∧ f k < 256) : ∀ k, 0 ≤ sumA f k ∧ sumA f k ≤ 256 * (k : Int)
 | 0 => by simp [sumA]
 | k + 1 => by
  have h1 := sumA_ok h k
  have h2 := h k
  unfold sumA
  omega
theorem sumA_far (c d : ColT) : sumA (apartC c d) 4 = farI c d := by
 simp only [sumA, farI]
 rw [Int.zero_add]
 rfl
theorem far_self (c : ColT) : farI c c = 0 := by unfold farI apartI; omega
theorem colG_run (c d : ColT) (w : World) : (eqGuard .eql 27 (.tmp 8) (.tmp 9) c.val d.val).run Tryz.prog w = .ok () w := by
 unfold ColT.val
 simp [eqGuard, go_sem]
theorem colB_run (c d : ColT) (w : World) : (binOp .eql 27 c.val d.val).run Tryz.prog w = .ok (.bool (decide (c = d))) w := by
 obtain ⟨r, g, b', a'⟩ := c
 obtain ⟨s, h, c, d⟩ := d
 unfold ColT.val
 simp [binOp, Op.equal, Op.maxDepth, go_sem]
 by_cases h1 : r = s <;> by_cases h2 : g = h <;> by_cases h3 : b' = c <;> by_cases h4 : a' = d <;> simp [h1, h2, h3, h4]
set_option maxRecDepth 100000 in
set_option maxHeartbeats 4000000 in
theorem far_any (c d : ColT) (hc : okC c) (hd : okC d) (w : World) : Calls Tryz.prog 36 #[c.val, d.val] w (Gives (.int .i64 (farI c d)) w) := by
 have HO := Lib.hid (apart_ok hc hd)
 have HB := Lib.hid (both_any c d hc hd)
 have HX : Hid (∀ (k : Nat), k < 4 → ∀ w, (Instr.index 124 (.agg #[.int .i64 (apartI c.r d.r), .int .i64 (apartI c.g d.g), .int .i64 (apartI c.b d.b), .int .i64 (apartI c.a d.a)]) (.int .i64 (k : Int))).run Tryz.prog w = .ok (.int .i64 (apartC c d k)) w) := Lib.hid fun k h w => by
  obtain ⟨i0, hi, _, hz1, _⟩ := info_parts info_i64
  exact run_index_int w 124 3 4 .i64 i0 Tryz.underlying124 Tryz.underlying3 hi hz1 _ k _ h (laid4_get (apartC c d) ⟨k, h⟩)
 have HE := Lib.hid (And.intro (colG_run c d) (colB_run c d))
 have HS := Lib.hid (St.start w)
 clear hc hd
 by_cases he : c = d
 · subst he
   simp only [decide_true] at HE
   rw [far_self]
   unfold ColT.val at *
   have heq := HE.out
   go_enter Tryz.func36, Tryz.ntmps36
   go_wp2_with fail
   go_ret
   exact ⟨rfl, by (repeat (first | exact Below.refl _ _ | assumption | refine Below.alloc ?_ (by first | omega | (simp; done) | (simp; omega)) _ | refine Below.setCell ?_ (by first | omega | (simp; done) | (simp; omega)) _ | refine Below.drew ?_))⟩
 · simp only [he, decide_false] at HE
   unfold ColT.val at *
   go_enter Tryz.func36, Tryz.ntmps36
   repeat ((fail_if_success (with_reducible refine stop_at (id := 1) ?_)); (first | go_values | go_skip | go_guarded | go_step | go_upon | go_back | (simp only [Int.not_lt, Int.not_le] at *; go_simp) | (go_values <;> (try go_simp)) | (go_ite <;> go_prune <;> (try go_simp)) | (split <;> (first | (rename_i hx; exact (hx _ rfl).elim) | go_prune))))
   have hs_ := ((HS.out.alloc (.cells #[.int .u8 c.r, .int .u8 c.g, .int .u8 c.b, .int .u8 c.a] 27)).alloc (.cells #[.int .u8 d.r, .int .u8 d.g, .int .u8 d.b, .int .u8 d.a] 27))
   obtain ⟨w1, hw_⟩ : ∃ w1 : World, ((w.alloc (.cells #[.int .u8 c.r, .int .u8 c.g, .int .u8 c.b, .int .u8 c.a] 27)).alloc (.cells #[.int .u8 d.r, .int .u8 d.g, .int .u8 d.b, .int .u8 d.a] 27)) = w1 := ⟨_, rfl⟩
   rw [hw_] at hs_
   try simp only [World.size_alloc] at hs_
   have HS := Lib.hid hs_
   rw [hw_]
   clear hw_ hs_
   have a0 := cell_of_block (k := 0) (HS.out.blockAt 1 rfl) rfl
   have a1 := cell_of_block (k := 1) (HS.out.blockAt 1 rfl) rfl
   have a2 := cell_of_block (k := 2) (HS.out.blockAt 1 rfl) rfl
   have a3 := cell_of_block (k := 3) (HS.out.blockAt 1 rfl) rfl
   have b0 := cell_of_block (k := 0) (HS.out.blockAt 0 rfl) rfl
   have b1 := cell_of_block (k := 1) (HS.out.blockAt 0 rfl) rfl
   have b2 := cell_of_block (k := 2) (HS.out.blockAt 0 rfl) rfl
   have b3 := cell_of_block (k := 3) (HS.out.blockAt 0 rfl) rfl
   go_step
   go_step
   go_step
   go_step
   go_step
   go_step
   go_step
   have heq := HE.out.1
   have hbq := HE.out.2
   generalize hu : Value.agg #[Value.int .u8 c.r, .int .u8 c.g, .int .u8 c.b, .int .u8 c.a] = u at heq hbq ⊢
   generalize hv : Value.agg #[Value.int .u8 d.r, .int .u8 d.g, .int .u8 d.b, .int .u8 d.a] = v at heq hbq ⊢
   go_wp2_with fail
   subst hu hv
   clear heq hbq a0 a1 a2 a3 b0 b1 b2 b3
   (
    refine (HB.out _).mono ?_
    rintro e w2 ⟨rfl, hb_⟩
    have HS := Lib.hid (HS.out.below hb_)
    clear hb_
    go_wp2_with fail
    go_loopw [5, 14] (fun s i wr => ∃ k : Nat, k ≤ 4 ∧ i = .int .i64 (k : Int) ∧ s = .int .i64 (sumA (apartC c d) k) ∧ Below w.heap.size w wr) (fun _ i _ => 4 - (intOf i).toNat)
    case atStart => exact ⟨0, by omega, rfl, rfl, HS.out.low⟩
    case round =>
     obtain ⟨k, hk, rfl, rfl, hb⟩ := hrel
     by_cases hlt : k < 4
     · have hix := HX.out k hlt
       have h1 := HO.out k
       have h2 := sumA_ok HO.out k
       have hw : wrap64 (sumA (apartC c d) k + apartC c d k) = sumA (apartC c d) (k + 1) := by show _ = sumA (apartC c d) k + apartC c d k; unfold wrap64; omega
       obtain ⟨v, hv⟩ : ∃ v, apartC c d k = v := ⟨_, rfl⟩
       rw [hv] at hix hw
       clear hv h1 h2
       go_wp2
       go_roundw
       case rel => exact ⟨k + 1, by omega, by simp, by simp [hw], hb⟩
       case measure => simp [intOf]; omega
     · obtain rfl : k = 4 := by omega
       go_wp2
       go_ret
       exact ⟨ret_int (sumA_far c d), hb⟩)

set_option maxRecDepth 100000 in
set_option maxHeartbeats 2000000 in
theorem near_any (c d : ColT) (hc : okC c) (hd : okC d) (t : Int) (w : World) : Calls Tryz.prog 14 #[c.val, d.val, .int .i64 t] w (Gives (.bool (nearB c d t)) w) := by
 have HF := Lib.hid (far_any c d hc hd)
 have HS := Lib.hid (St.start w)
 clear hc hd
 unfold ColT.val at *
 go_enter Tryz.func14, Tryz.ntmps14
 go_wp2_with fail
 have hs_ := ((HS.out.alloc (.cells #[.int .u8 c.r, .int .u8 c.g, .int .u8 c.b, .int .u8 c.a] 27)).alloc (.cells #[.int .u8 d.r, .int .u8 d.g, .int .u8 d.b, .int .u8 d.a] 27))
 obtain ⟨w1, hw_⟩ : ∃ w1 : World, ((w.alloc (.cells #[.int .u8 c.r, .int .u8 c.g, .int .u8 c.b, .int .u8 c.a] 27)).alloc (.cells #[.int .u8 d.r, .int .u8 d.g, .int .u8 d.b, .int .u8 d.a] 27)) = w1 := ⟨_, rfl⟩
 rw [hw_] at hs_
 try simp only [World.size_alloc] at hs_
 have HS := Lib.hid hs_
 rw [hw_]
 clear hw_ hs_
 refine (HF.out _).mono ?_
 rintro e w2 ⟨rfl, hb_⟩
 have HS := Lib.hid (HS.out.below hb_)
 clear hb_
 go_wp2_with fail
 go_ret
 exact ⟨rfl, HS.out.low⟩
end Go.Proofs.YtodpkgbpcpfamaaGreat

/- Layer 5: canvases; what they show. -/
namespace Go.Proofs.YtodpkgbpcpfamaaGreat
set_option linter.unusedSimpArgs false
set_option linter.unusedVariables false
open Go.RowKit Go.Shelf
attribute [local go_sem] Oper.semAt_some

abbrev TileT := { l : List ColT // l.length = 64 }
def encT (t : TileT) : List Value := t.1.flatMap encC
theorem encT_len (t : TileT) : (encT t).length = 256 := by unfold encT; rw [flat_length encC_len, t.2]
def zeroC : ColT := ⟨0, 0, 0, 0⟩
/-- What a canvas shows. -/
structure CanT where
 wide : Nat
 high : Nat
 tiles : List TileT
deriving DecidableEq
structure okCan (C : CanT) : Prop where
 wide : 1 ≤ C.wide ∧ C.wide ≤ 4
 high : 1 ≤ C.high ∧ C.high ≤ 4
 many : C.tiles.length = C.wide * C.high
 cols : ∀ t ∈ C.tiles, ∀ c ∈ t.1, okC c
/-- The colour of a pixel. -/
def colC (C : CanT) (x y : Nat) : ColT := (((C.tiles[y / 8 * C.wide + x / 8]?).map (·.1)).bind fun l => l[y % 8 * 8 + x % 8]?).getD zeroC
def colP (C : CanT) (p : PtT) : ColT := colC C p.x.toNat p.y.toNat
theorem tile_lt {wide high x y : Nat} (hx : x < 8 * wide) (hy : y < 8 * high) : y / 8 * wide + x / 8 < wide * high := by
 have h1 : x / 8 < wide := by omega
 have h2 : y / 8 + 1 ≤ high := by omega
 calc y / 8 * wide + x / 8 < y / 8 * wide + wide := by omega
  _ = (y / 8 + 1) * wide := by rw [Nat.add_mul, Nat.one_mul]
  _ ≤ high * wide := Nat.mul_le_mul_right _ h2
  _ = wide * high := Nat.mul_comm _ _
theorem okCan.len {C : CanT} (h : okCan C) : C.tiles.length ≤ 16 := by
 rw [h.many]
 calc C.wide * C.high ≤ 4 * 4 := Nat.mul_le_mul h.wide.2 h.high.2
  _ = 16 := rfl
theorem okCan.tile {C : CanT} (h : okCan C) {x y : Nat} (hx : x < 8 * C.wide) (hy : y < 8 * C.high) : ∃ t, C.tiles[y / 8 * C.wide + x / 8]? = some t ∧ t.1[y % 8 * 8 + x % 8]? = some (colC C x y) ∧ okC (colC C x y) := by
 have h1 := tile_lt hx hy
 rw [← h.many] at h1
 have h2 : y % 8 * 8 + x % 8 < 64 := by omega
 have h3 : y % 8 * 8 + x % 8 < (C.tiles[y / 8 * C.wide + x / 8]).1.length := by rw [(C.tiles[y / 8 * C.wide + x / 8]).2]; exact h2
 have e : colC C x y = (C.tiles[y / 8 * C.wide + x / 8]).1[y % 8 * 8 + x % 8] := by
  unfold colC
  rw [List.getElem?_eq_getElem h1]
  simp only [Option.map_some, Option.bind_some]
  rw [List.getElem?_eq_getElem h3]
  rfl
 rw [e]
 exact ⟨_, List.getElem?_eq_getElem h1, List.getElem?_eq_getElem h3, h.cols _ (List.getElem_mem _) _ (List.getElem_mem _)⟩

/-- An argument that is what a canvas shows. -/
def CanV (w : World) (C : CanT) (v : Value) : Prop := ∃ a cap, v = .agg #[.int .i64 C.wide, .int .i64 C.high, .slice a C.tiles.length cap] ∧ C.tiles.length ≤ cap ∧ Elems w (.slice a C.tiles.length cap) C.tiles.length 256 (rowC encT C.tiles)
theorem CanV.below {w w' : World} {C : CanT} {v : Value} (h : CanV w C v) (hb : Below w.heap.size w w') : CanV w' C v := by
 obtain ⟨a, cap, h1, h2, h3⟩ := h
 exact ⟨a, cap, h1, h2, h3.below hb⟩
/-- A canvas in memory. -/
structure CanAt (w : World) (p : Nat) (C : CanT) : Prop where
 ok : okCan C
 ex : ∃ (b cap : Nat) (qs : List Nat), w.heap[p]? = some (Obj.cells #[.int .i64 C.wide, .int .i64 C.high, .slice (some ⟨b, 0, none⟩) C.tiles.length cap] 88 (0, 0)) ∧ C.tiles.length ≤ cap ∧ qs.length = C.tiles.length ∧
  (∀ (i q : Nat), qs[i]? = some q → w.cell? ⟨b, i, none⟩ = some (.pointer (some ⟨q, 0, none⟩))) ∧ ∀ (i q : Nat) (t : TileT), qs[i]? = some q → C.tiles[i]? = some t → w.heap[q]? = some (Obj.cells (encT t).toArray 67 (0, 0))
theorem CanAt.below {w w' : World} {p : Nat} {C : CanT} (h : CanAt w p C) (hb : Below w.heap.size w w') : CanAt w' p C := by
 obtain ⟨ok, b, cap, qs, h1, h2, h3, h4, h5⟩ := h
 refine ⟨ok, b, cap, qs, (hb.block p (block_lt h1)).trans h1, h2, h3, fun i q hq => ?_, fun i q t hq ht => (hb.block q (block_lt (h5 i q t hq ht))).trans (h5 i q t hq ht)⟩
 have h6 := h4 i q hq
 exact (hb.cell (p := ⟨b, i, none⟩) (cell_lt h6)).trans h6
theorem CanAt.lt {w : World} {p : Nat} {C : CanT} (h : CanAt w p C) : p < w.heap.size := by
 obtain ⟨ok, b, cap, qs, h1, -⟩ := h
 exact block_lt h1

theorem at_nums {x y wide high qy qx m i j : Nat} (hqy : y / 8 = qy) (hqx : x / 8 = qx) (hm : qy * wide = m) (hi : m + qx = i) (hj : y % 8 * 8 + x % 8 = j) (hx : x < 8 * wide) (hy : y < 8 * high) (hw : wide ≤ 4) (hh : high ≤ 4) :
 wrap64 ((y : Int) / 8) = (qy : Int) ∧ wrap64 ((qy : Int) * wide) = (m : Int) ∧ wrap64 ((x : Int) / 8) = (qx : Int) ∧ wrap64 ((m : Int) + qx) = (i : Int) ∧ ((y : Int) % 8 * 8 + (x : Int) % 8).toNat = j := by
 have hq : qy ≤ 4 := by omega
 have h3 : m ≤ 4 * 4 := by rw [← hm]; exact Nat.mul_le_mul hq hw
 have h4 : (qy : Int) * (wide : Int) = (m : Int) := by rw [← hm, Int.natCast_mul]
 rw [h4]
 clear h4 hm
 refine ⟨?_, ?_, ?_, ?_, ?_⟩
 · unfold wrap64; omega
 · unfold wrap64; omega
 · unfold wrap64; omega
 · unfold wrap64; omega
 · omega
end Go.Proofs.YtodpkgbpcpfamaaGreat

/- Layer 8's rows: a canvas as an argument. -/
namespace Go.Proofs.YtodpkgbpcpfamaaGreat
set_option linter.unusedSimpArgs false
set_option linter.unusedVariables false
open Go.ChangeShapes Go.WideShapes Go.ChangeAt Go.RowKit Go.Deep

theorem bounds_u8 {n : Int} (h : (Lit.int .u8 n).wf = true) : 0 ≤ n ∧ n < 256 := by
 simp only [Lit.wf, Bool.and_eq_true, decide_eq_true_eq] at h
 have h1 : IntKind.min .u8 = 0 := by decide
 have h2 : IntKind.max .u8 = 255 := by decide
 omega
theorem cols_of : ∀ (m : Nat) (vs : List Value), vs.length = 4 * m → (∀ k, k < 4 * m → ∃ n : Int, vs[k]? = some (.int .u8 n) ∧ 0 ≤ n ∧ n < 256) → ∃ l : List ColT, l.length = m ∧ l.flatMap encC = vs ∧ ∀ c ∈ l, okC c
 | 0, vs, hl, _ => ⟨[], rfl, by
  cases vs with
  | nil => rfl
  | cons a r => simp at hl, by simp⟩
 | m + 1, vs, hl, h => by
  obtain ⟨n0, e0, b0⟩ := h 0 (by omega)
  obtain ⟨n1, e1, b1⟩ := h 1 (by omega)
  obtain ⟨n2, e2, b2⟩ := h 2 (by omega)
  obtain ⟨n3, e3, b3⟩ := h 3 (by omega)
  rcases vs with _ | ⟨c0, _ | ⟨c1, _ | ⟨c2, _ | ⟨c3, r⟩⟩⟩⟩
  · simp at e0
  · simp at e1
  · simp at e2
  · simp at e3
  · simp at e0 e1 e2 e3
    subst e0 e1 e2 e3
    obtain ⟨l, h1, h2, h3⟩ := cols_of m r (by simp at hl; omega) fun k hk => by
     obtain ⟨n, e, b⟩ := h (k + 4) (by omega)
     exact ⟨n, by simpa using e, b⟩
    refine ⟨⟨n0, n1, n2, n3⟩ :: l, by simp [h1], by simp [h2, encC], fun c hc => ?_⟩
    rcases List.mem_cons.1 hc with rfl | hc
    · exact ⟨⟨b0, b1⟩, b2, b3⟩
    · exact h3 c hc
theorem leaves_tile (vs : List Value) (hl : vs.length = 256) (h : Leaves (List.replicate 256 (.int .u8)) vs) : ∃ x : TileT, encT x = vs ∧ ∀ c ∈ x.1, okC c := by
 obtain ⟨l, h1, h2, h3⟩ := cols_of 64 vs hl fun k hk => by
  obtain ⟨v, hv, n, rfl, hw⟩ := h k (.int .u8) (by rw [List.getElem?_replicate, if_pos hk])
  exact ⟨n, hv, bounds_u8 hw⟩
 exact ⟨⟨l, h1⟩, h2, h3⟩
theorem flatTile : flat Tryz.prog 5 67 = some (List.replicate 256 (.int .u8)) := by kernel_rfl
section
variable {H : Type} {enc : TypeId × Value → H} {P : Program} {w : World} {base : Nat} {spare : Nat → Bool} {held : Bool}
theorem field_okWide {r : Reach} {b0 : Nat} {t u e : TypeId} {ts : List TypeId} (ht : P.cellTypes P.depth t = some ts) {cs : Array Value} (h : Row.okWide P w r b0 t cs) {i : Nat} {v : Value} (hv : cs[i]? = some v) (hu : ts[i % ts.length]? = some u) (hs : P.underlying u = some (.slice e)) : Value.okWide P w r b0 u v := by
 obtain ⟨ts', h1, _, h2⟩ := h
 rw [ht] at h1
 cases h1
 obtain ⟨u', h3, h4⟩ := h2 i v hv
 rw [hu] at h3
 cases h3
 unfold Value.okWide
 rw [hs]
 exact h4
end

set_option maxRecDepth 100000 in
theorem open_canvas {H : Type} {enc : TypeId × Value → H} {w : World} {r : Reach} {b0 : Nat} {v : Value} {d : DataW H} {ps : List MemPlace} (hv : Value.okWide Tryz.prog w r b0 24 v) (h : DataW.Trod enc Tryz.prog w 0 (fun _ => true) true 24 v d ps) :
 ∃ (wide high : Int) (l : List TileT) (a : Option Addr) (cap : Nat), v = .agg #[.int .i64 wide, .int .i64 high, .slice a l.length cap] ∧ Elems w (.slice a l.length cap) l.length 256 (rowC encT l) ∧ (∀ t ∈ l, ∀ c ∈ t.1, okC c) ∧ l.length ≤ cap ∧ cap ≤ maxLen := by
 have hr := hv
 obtain ⟨x0, x1, x2, y0, y1, y2, m, rfl, -, -, g0, g1, g2⟩ := Joins.open_agg3 Tryz.underlying24 (by kernel_rfl) (by kernel_rfl) hv h
 obtain ⟨wide, e0, -, -⟩ := DataW.trod_int Tryz.underlying3 g0
 obtain ⟨high, e1, -, -⟩ := DataW.trod_int Tryz.underlying3 g1
 simp at e0 e1
 subst e0 e1
 obtain ⟨cs, e, -, hrow⟩ : ∃ cs, Value.agg #[.int .i64 wide, .int .i64 high, x2] = .agg cs ∧ cs.size = Tryz.prog.cellsOf 24 ∧ Row.okWide Tryz.prog w r b0 24 cs := by simpa [Value.okWide, Tryz.underlying24] using hr
 cases e
 have hv2 := field_okWide (ts := [3, 3, 22]) (by kernel_rfl) hrow (i := 2) (v := x2) rfl rfl Tryz.underlying22
 have h2 : DataW.Trod enc Tryz.prog w 0 (fun _ => true) true 22 x2 y2.1 y2.2 := ⟨m, by
  rcases slice_okWide Tryz.underlying22 hv2 with rfl | ⟨_, _, _, rfl, _⟩ <;> exact g2⟩
 obtain ⟨l, a, cap, rfl, he, hg, hmax, hcap⟩ := open_rows (k := 256) Tryz.underlying22 flatTile (by kernel_rfl) (List.length_replicate ..) encT (fun x : TileT => ∀ c ∈ x.1, okC c) encT_len leaves_tile hv2 h2 (by omega)
 exact ⟨wide, high, l, a, cap, rfl, he, hg, slice_cap Tryz.underlying22 hv2⟩
end Go.Proofs.YtodpkgbpcpfamaaGreat

/- Rows: arguments of whole numbers. -/
namespace Go.Proofs.YtodpkgbpcpfamaaGreat
set_option linter.unusedSimpArgs false
set_option linter.unusedVariables false
open Go.ChangeShapes Go.WideShapes Go.ChangeAt Go.RowKit
theorem leavesI3 (vs : List Value) (hl : vs.length = 3) (h : Leaves (List.replicate 3 (.int .i64)) vs) : ∃ a b c : Int, vs = [.int .i64 a, .int .i64 b, .int .i64 c] := by
 obtain ⟨v0, e0, n0, rfl, -⟩ := h 0 (.int .i64) rfl
 obtain ⟨v1, e1, n1, rfl, -⟩ := h 1 (.int .i64) rfl
 obtain ⟨v2, e2, n2, rfl, -⟩ := h 2 (.int .i64) rfl
 refine ⟨n0, n1, n2, List.ext_getElem? fun i => ?_⟩
 rcases i with _ | _ | _ | i <;> first | assumption | (rw [List.getElem?_eq_none (by omega)]; simp)
end Go.Proofs.YtodpkgbpcpfamaaGreat

/- Rows: a colour as an argument. -/
namespace Go.Proofs.YtodpkgbpcpfamaaGreat
set_option linter.unusedSimpArgs false
set_option linter.unusedVariables false
open Go.ChangeShapes Go.WideShapes Go.ChangeAt Go.RowKit
theorem flatCol : flat Tryz.prog 5 27 = some (List.replicate 4 (.int .u8)) := by kernel_rfl
set_option maxRecDepth 100000 in
theorem open_color {H : Type} {enc : TypeId × Value → H} {w : World} {r : Reach} {b0 : Nat} {v : Value} {d : DataW H} {ps : List MemPlace} (hv : Value.okWide Tryz.prog w r b0 27 v) (h : DataW.Trod enc Tryz.prog w 0 (fun _ => true) true 27 v d ps) :
 ∃ c : ColT, v = c.val ∧ okC c := by
 obtain ⟨f2, h2⟩ := h
 have q2 := (open_flat _ _ _ _ _ _ flatCol h2).2
 obtain ⟨⟨cs2⟩, rfl, hz2, -⟩ : ∃ cs, v = .agg cs ∧ cs.size = Tryz.prog.cellsOf 27 ∧ Row.okWide Tryz.prog w r b0 27 cs := by simpa [Value.okWide, Tryz.underlying27] using hv
 rw [show Tryz.prog.cellsOf 27 = 4 by kernel_rfl] at hz2
 have hz : cs2.length = 4 := by simpa using hz2
 obtain ⟨v0, e0, n0, rfl, w0⟩ := q2 0 (.int .u8) rfl
 obtain ⟨v1, e1, n1, rfl, w1⟩ := q2 1 (.int .u8) rfl
 obtain ⟨v2, e2, n2, rfl, w2⟩ := q2 2 (.int .u8) rfl
 obtain ⟨v3, e3, n3, rfl, w3⟩ := q2 3 (.int .u8) rfl
 obtain ⟨c0, c1, c2, c3, rfl⟩ : ∃ c0 c1 c2 c3, cs2 = [c0, c1, c2, c3] := by
  rcases cs2 with _ | ⟨c0, _ | ⟨c1, _ | ⟨c2, _ | ⟨c3, _ | ⟨c4, l⟩⟩⟩⟩⟩ <;> simp at hz
  exact ⟨c0, c1, c2, c3, rfl⟩
 simp [Value.cells] at e0 e1 e2 e3
 subst e0 e1 e2 e3
 exact ⟨⟨n0, n1, n2, n3⟩, rfl, ⟨bounds_u8 w0, bounds_u8 w1⟩, bounds_u8 w2, bounds_u8 w3⟩
end Go.Proofs.YtodpkgbpcpfamaaGreat

/- Loads and stores of whole arrays: cells that are never written out. -/
namespace Go.Proofs.YtodpkgbpcpfamaaGreat
set_option linter.unusedSimpArgs false
set_option linter.unusedVariables false
open Go.RowKit Go.Shelf
section
variable {F : Fence} {n : Nat} {P : Program} {w : World} {o : Oper} {a : Act} {K : Act → World → Prop} {Q : Exit → Act → World → Prop}
theorem opIn_load (ty : TypeId) (x : Operand) (ho : o.op = .load ty x) (g : Nat) (hx : a.eval x = .pointer (some ⟨g, 0, none⟩)) (t : TypeId) (cs : Array Value) (fr : Nat × Nat) (d : TypeDesc) (hg : w.heap[g]? = some (.cells cs t fr))
 (hu : P.underlying ty = some d) (hd : (match d with | .struct _ | .array _ _ => true | _ => false) = true) (hi : (P.info? ty).map (·.size) = some cs.size) (hK : K (a.put o.dst (.agg cs)) w) : o.wpIn F n P a w K Q := by
 unfold Oper.wpIn
 refine ⟨?_, ?_⟩
 · simp [Oper.about, ho]
 · rw [Oper.semAt_plain F _ _ (by rw [ho]; intro c hc; cases hc)]
   simp only [execOp, ho, hx, Instr.loadAt, Instr.sureAddr, Sem.run_bind, Sem.run_pure, Result.andThen_ok, run_loadVar_row w g t ty cs fr d hg hu hd hi]
   exact hK
theorem opIn_load_mid (ty : TypeId) (x : Operand) (ho : o.op = .load ty x) (g off : Nat) (hx : a.eval x = .pointer (some ⟨g, off, none⟩)) (cs : List Value) (d : TypeDesc) (hc : w.rangeAt g off cs)
 (hu : P.underlying ty = some d) (hd : d.isRow = true) (hi : (P.info? ty).map (·.size) = some cs.length) (hK : K (a.put o.dst (.agg cs.toArray)) w) : o.wpIn F n P a w K Q := by
 unfold Oper.wpIn
 refine ⟨?_, ?_⟩
 · simp [Oper.about, ho]
 · rw [Oper.semAt_plain F _ _ (by rw [ho]; intro c hc; cases hc)]
   simp only [execOp, ho, hx, Instr.loadAt, Instr.sureAddr, Sem.run_bind, Sem.run_pure, Result.andThen_ok, run_loadVar_mid w g off ty cs d hc hu hd hi]
   exact hK
theorem opIn_store (ty : TypeId) (x y : Operand) (ho : o.op = .store ty x y) (g : Nat) (t : TypeId) (old cells : Array Value) (hx : a.eval x = .pointer (some ⟨g, 0, none⟩)) (hy : a.eval y = .agg cells) (hg : w.heap[g]? = some (.cells old t (0, 0)))
 (hi : (P.info? ty).map (·.size) = some cells.size) (hs : old.size = cells.size) (h1 : cells.all (·.oneCell') = true) (hK : K (a.put o.dst undef) (w.setRow g cells)) : o.wpIn F n P a w K Q := by
 unfold Oper.wpIn
 refine ⟨?_, ?_⟩
 · simp [Oper.about, ho]
 · rw [Oper.semAt_plain F _ _ (by rw [ho]; intro c hc; cases hc)]
   simp only [execOp, ho, hx, hy, Instr.storeAt, Instr.sureAddr, Sem.run_bind, Sem.run_pure, Result.andThen_ok, run_storeVar_row w g t ty old cells hg hi hs h1]
   exact hK
end
/-- A whole block is written. -/
theorem St.putRow {w0 x : World} {p : Nat} {c c' : Array Value} {t : TypeId} {f : Nat × Nat} {pre post : List It} (h : St w0 (pre ++ .blk p (.cells c t f) :: post) x) (hpre : ∀ i ∈ pre, ∃ b ob, i = .blk b ob) :
 St w0 (pre ++ .blk p (.cells c' t f) :: post) (x.setRow p c') := by
 have hp : x.heap[p]? = some (.cells c t f) := h.ok (.blk p (.cells c t f)) (List.mem_append.2 (.inr (by simp)))
 exact St.set h hpre (setRow_heap x p c c' t f hp) (fun j hj => setRow_other x p j c' hj) ⟨rfl, rfl, rfl, by simp, fun k hk => setRow_other x p k c' (by omega)⟩

theorem heap_set4 {w : World} {p : Nat} {t : TypeId} {f : Nat × Nat} {a b c d : Value} (x y z u : Value) (hp : w.heap[p]? = some (.cells #[a, b, c, d] t f)) :
 ((((w.setCell ⟨p, 0, none⟩ x).setCell ⟨p, 1, none⟩ y).setCell ⟨p, 2, none⟩ z).setCell ⟨p, 3, none⟩ u).heap[p]? = some (.cells #[x, y, z, u] t f) :=
 heap_set_same (heap_set_same (heap_set_same (heap_set_same hp x) y) z) u
theorem fill4 {n₀ : Nat} {w : World} {p : Nat} {t : TypeId} {f : Nat × Nat} {a b c d x y z u : Value} (hn : n₀ ≤ p) (hx : w.heap[p]? = some (.cells #[a, b, c, d] t f) ∨ w.heap[p]? = some (.cells #[x, y, z, u] t f)) :
 FillC n₀ (.cells #[a, b, c, d] t f) (.cells #[x, y, z, u] t f) w ((((w.setCell ⟨p, 0, none⟩ x).setCell ⟨p, 1, none⟩ y).setCell ⟨p, 2, none⟩ z).setCell ⟨p, 3, none⟩ u) ∧ ((((w.setCell ⟨p, 0, none⟩ x).setCell ⟨p, 1, none⟩ y).setCell ⟨p, 2, none⟩ z).setCell ⟨p, 3, none⟩ u).heap[p]? = some (.cells #[x, y, z, u] t f) := by
 have hs : ((((w.setCell ⟨p, 0, none⟩ x).setCell ⟨p, 1, none⟩ y).setCell ⟨p, 2, none⟩ z).setCell ⟨p, 3, none⟩ u).heap[p]? = some (.cells #[x, y, z, u] t f) := by
  rcases hx with hx | hx
  · exact heap_set4 x y z u hx
  · exact heap_set4 x y z u hx
 exact ⟨FillC.fill (((((Below.refl _ _).setCell (p := ⟨p, 0, none⟩) hn _).setCell (p := ⟨p, 1, none⟩) hn _).setCell (p := ⟨p, 2, none⟩) hn _).setCell (p := ⟨p, 3, none⟩) hn _) hx hs (fun j ob hj hne => heap_set_other (heap_set_other (heap_set_other (heap_set_other hj (fun e => hne e.symm) _) (fun e => hne e.symm) _) (fun e => hne e.symm) _) (fun e => hne e.symm) _), hs⟩
theorem either4 {w : World} {p : Nat} {t : TypeId} {f : Nat × Nat} {a b c d x y z u : Value} (hx : w.heap[p]? = some (.cells #[a, b, c, d] t f) ∨ w.heap[p]? = some (.cells #[x, y, z, u] t f)) : ∃ k l m n, w.heap[p]? = some (.cells #[k, l, m, n] t f) := by
 rcases hx with hx | hx
 · exact ⟨_, _, _, _, hx⟩
 · exact ⟨_, _, _, _, hx⟩
theorem fill2 {n₀ : Nat} {w : World} {p : Nat} {t : TypeId} {f : Nat × Nat} {a b x y : Value} (hn : n₀ ≤ p) (hx : w.heap[p]? = some (.cells #[a, b] t f) ∨ w.heap[p]? = some (.cells #[x, y] t f)) :
 FillC n₀ (.cells #[a, b] t f) (.cells #[x, y] t f) w ((w.setCell ⟨p, 0, none⟩ x).setCell ⟨p, 1, none⟩ y) ∧ ((w.setCell ⟨p, 0, none⟩ x).setCell ⟨p, 1, none⟩ y).heap[p]? = some (.cells #[x, y] t f) := by
 have hs : ((w.setCell ⟨p, 0, none⟩ x).setCell ⟨p, 1, none⟩ y).heap[p]? = some (.cells #[x, y] t f) := by
  rcases hx with hx | hx
  · exact heap_set_same (heap_set_same hx x) y
  · exact heap_set_same (heap_set_same hx x) y
 exact ⟨FillC.fill (((Below.refl _ _).setCell (p := ⟨p, 0, none⟩) hn _).setCell (p := ⟨p, 1, none⟩) hn _) hx hs (fun j ob hj hne => heap_set_other (heap_set_other hj (fun e => hne e.symm) _) (fun e => hne e.symm) _), hs⟩
theorem either2 {w : World} {p : Nat} {t : TypeId} {f : Nat × Nat} {a b x y : Value} (hx : w.heap[p]? = some (.cells #[a, b] t f) ∨ w.heap[p]? = some (.cells #[x, y] t f)) : ∃ k l, w.heap[p]? = some (.cells #[k, l] t f) := by
 rcases hx with hx | hx
 · exact ⟨_, _, hx⟩
 · exact ⟨_, _, hx⟩
theorem size_T (T : TileT) : (Tryz.prog.info? 67).map (·.size) = some (encT T).toArray.size := by
 rw [List.size_toArray, encT_len]; kernel_rfl
theorem tileAtT_any (T : TileT) (x y : Nat) (hx : x < 8) (hy : y < 8) (c : ColT) (hc : T.1[y * 8 + x]? = some c) (w : World) :
 Calls Tryz.prog 30 #[.agg (encT T).toArray, .int .i64 x, .int .i64 y] w (Gives (.tuple #[c.val, .int .i64 0]) w) := tileAt_any T.1 T.2 x y hx hy c hc w
end Go.Proofs.YtodpkgbpcpfamaaGreat

/- Layer 5: canvases with dots, plain. -/
namespace Go.Proofs.YtodpkgbpcpfamaaGreat
set_option linter.unusedSimpArgs false
set_option linter.unusedVariables false

/-- A pixel's colour. -/
structure DotT where
 x : Int
 y : Int
 c : ColT
def encD (d : DotT) : List Value := [.int .i64 d.x, .int .i64 d.y, .int .u8 d.c.r, .int .u8 d.c.g, .int .u8 d.c.b, .int .u8 d.c.a]
theorem encD_len (d : DotT) : (encD d).length = 6 := rfl
def setT (t : TileT) (k : Nat) (c : ColT) : TileT := ⟨t.1.set k c, by rw [List.length_set]; exact t.2⟩
/-- Where the tile of a pixel is, and where it is there. -/
def tileI (C : CanT) (x y : Nat) : Nat := y / 8 * C.wide + x / 8
def inI (x y : Nat) : Nat := y % 8 * 8 + x % 8
def putC (C : CanT) (x y : Nat) (c : ColT) : CanT := { C with tiles := C.tiles.modify (tileI C x y) fun t => setT t (inI x y) c }
def onCan (C : CanT) (p : PtT) : Bool := onB (8 * (C.wide : Int)) (8 * (C.high : Int)) p
def dotC (C : CanT) (d : DotT) : CanT := if onCan C ⟨d.x, d.y⟩ = true then putC C d.x.toNat d.y.toNat d.c else C
def withL (C : CanT) (l : List DotT) : CanT := l.foldl dotC C
theorem putC_len (C : CanT) (x y : Nat) (c : ColT) : (putC C x y c).tiles.length = C.tiles.length := by simp [putC]
theorem dotC_wide (C : CanT) (d : DotT) : (dotC C d).wide = C.wide := by unfold dotC; split <;> rfl
theorem dotC_high (C : CanT) (d : DotT) : (dotC C d).high = C.high := by unfold dotC; split <;> rfl
theorem dotC_len (C : CanT) (d : DotT) : (dotC C d).tiles.length = C.tiles.length := by
 unfold dotC
 split
 · exact putC_len _ _ _ _
 · rfl
theorem withL_wide : ∀ (l : List DotT) (C : CanT), (withL C l).wide = C.wide
 | [], _ => rfl
 | d :: l, C => (withL_wide l (dotC C d)).trans (dotC_wide C d)
theorem withL_high : ∀ (l : List DotT) (C : CanT), (withL C l).high = C.high
 | [], _ => rfl
 | d :: l, C => (withL_high l (dotC C d)).trans (dotC_high C d)
theorem withL_len : ∀ (l : List DotT) (C : CanT), (withL C l).tiles.length = C.tiles.length
 | [], _ => rfl
 | d :: l, C => (withL_len l (dotC C d)).trans (dotC_len C d)
theorem withL_snoc (C : CanT) (l : List DotT) (d : DotT) : withL C (l ++ [d]) = dotC (withL C l) d := by unfold withL; rw [List.foldl_append]; rfl
theorem onCan_iff {C : CanT} {p : PtT} : onCan C p = true ↔ ((0 ≤ p.x ∧ p.x < 8 * C.wide) ∧ (0 ≤ p.y ∧ p.y < 8 * C.high)) := onB_iff
theorem onCan_nat {C : CanT} {p : PtT} (h : onCan C p = true) : p.x.toNat < 8 * C.wide ∧ p.y.toNat < 8 * C.high ∧ (p.x.toNat : Int) = p.x ∧ (p.y.toNat : Int) = p.y := by
 have := onCan_iff.1 h
 omega
theorem okCan.putC {C : CanT} (h : okCan C) (x y : Nat) {c : ColT} (hc : okC c) : okCan (putC C x y c) := by
 refine ⟨h.wide, h.high, (putC_len C x y c).trans h.many, fun t ht d hd => ?_⟩
 obtain ⟨i, hi, rfl⟩ := List.mem_iff_getElem.1 ht
 simp only [Go.Proofs.YtodpkgbpcpfamaaGreat.putC] at hi hd
 rw [List.getElem_modify] at hd
 split at hd
 · rcases List.mem_or_eq_of_mem_set hd with hd | rfl
   · exact h.cols _ (List.getElem_mem _) d hd
   · exact hc
 · exact h.cols _ (List.getElem_mem _) d hd
theorem okCan.dotC {C : CanT} (h : okCan C) {d : DotT} (hd : okC d.c) : okCan (dotC C d) := by
 unfold Go.Proofs.YtodpkgbpcpfamaaGreat.dotC
 split
 · exact h.putC _ _ hd
 · exact h
theorem okCan.withL : ∀ (l : List DotT) {C : CanT}, okCan C → (∀ d ∈ l, okC d.c) → okCan (withL C l)
 | [], _, h, _ => h
 | d :: l, _, h, hl => okCan.withL l (h.dotC (hl d (by simp))) fun e he => hl e (by simp [he])
/-- The colour of a pixel, by its tile. -/
theorem colC_tile {C : CanT} {x y : Nat} {t : TileT} (h : C.tiles[tileI C x y]? = some t) : colC C x y = (t.1[inI x y]?).getD zeroC := by
 unfold colC
 rw [show y / 8 * C.wide + x / 8 = tileI C x y from rfl, h]
 rfl
theorem inI_lt (x y : Nat) : inI x y < 64 := by unfold inI; omega
theorem tileI_lt {C : CanT} (h : okCan C) {x y : Nat} (hx : x < 8 * C.wide) (hy : y < 8 * C.high) : tileI C x y < C.tiles.length := by rw [h.many]; exact tile_lt hx hy
theorem divmod_inj {w a b c d : Nat} (hb : b < w) (hd : d < w) (h : a * w + b = c * w + d) : a = c ∧ b = d := by
 have h1 : (a * w + b) / w = (c * w + d) / w := by rw [h]
 have hw : 0 < w := by omega
 rw [Nat.mul_comm a w, Nat.mul_comm c w, Nat.mul_add_div hw, Nat.mul_add_div hw, Nat.div_eq_of_lt hb, Nat.div_eq_of_lt hd] at h1
 have : a = c := by omega
 subst this
 omega
/-- Places of different pixels. -/
theorem place_inj {C : CanT} {x y u v : Nat} (hx : x < 8 * C.wide) (hu : u < 8 * C.wide) (h1 : tileI C x y = tileI C u v) (h2 : inI x y = inI u v) : x = u ∧ y = v := by
 unfold tileI at h1
 unfold inI at h2
 have := divmod_inj (by omega) (by omega) h1
 omega
theorem colC_putC {C : CanT} (h : okCan C) {x y u v : Nat} (hx : x < 8 * C.wide) (hy : y < 8 * C.high) (hu : u < 8 * C.wide) (hv : v < 8 * C.high) (c : ColT) : colC (putC C u v c) x y = if x = u ∧ y = v then c else colC C x y := by
 have hl := tileI_lt h hx hy
 have e0 : C.tiles[tileI C x y]? = some C.tiles[tileI C x y] := List.getElem?_eq_getElem hl
 have e1 : (putC C u v c).tiles[tileI C x y]? = some (if tileI C u v = tileI C x y then setT C.tiles[tileI C x y] (inI u v) c else C.tiles[tileI C x y]) := by
  simp only [putC]
  rw [List.getElem?_modify, e0]
  split <;> rfl
 rw [colC_tile (C := putC C u v c) (t := _) e1, colC_tile e0]
 by_cases ht : tileI C u v = tileI C x y
 · rw [if_pos ht]
   have hlen := (C.tiles[tileI C x y]).2
   simp only [setT]
   rw [List.getElem?_set]
   by_cases hi : inI u v = inI x y
   · have := place_inj hu hx ht hi
     rw [if_pos hi, if_pos (by rw [hlen]; exact inI_lt _ _), if_pos ⟨this.1.symm, this.2.symm⟩]
     rfl
   · rw [if_neg hi, if_neg]
     rintro ⟨rfl, rfl⟩
     exact hi rfl
 · rw [if_neg ht, if_neg]
   rintro ⟨rfl, rfl⟩
   exact ht rfl
theorem colC_dotC {C : CanT} (h : okCan C) {x y : Nat} (hx : x < 8 * C.wide) (hy : y < 8 * C.high) (d : DotT) : colC (dotC C d) x y = if d.x = (x : Int) ∧ d.y = (y : Int) then d.c else colC C x y := by
 unfold dotC
 by_cases ho : onCan C ⟨d.x, d.y⟩ = true
 · obtain ⟨h1, h2, h3, h4⟩ := onCan_nat ho
   simp only at h1 h2 h3 h4
   rw [if_pos ho, colC_putC h hx hy h1 h2]
   by_cases hh : d.x = (x : Int) ∧ d.y = (y : Int)
   · rw [if_pos hh, if_pos (by omega)]
   · rw [if_neg hh, if_neg (by omega)]
 · rw [if_neg ho, if_neg]
   rintro ⟨e1, e2⟩
   exact ho (onCan_iff.2 (by simp only; omega))
/-- Dots of one colour: who is among them. -/
theorem colC_withP : ∀ (ps : List PtT) {C : CanT} (_ : okCan C) {c : ColT} (_ : okC c) {x y : Nat} (_ : x < 8 * C.wide) (_ : y < 8 * C.high), colC (withL C (ps.map fun p => ⟨p.x, p.y, c⟩)) x y = if (⟨(x : Int), (y : Int)⟩ : PtT) ∈ ps then c else colC C x y
 | [], C, h, c, hc, x, y, hx, hy => by simp [withL]
 | p :: ps, C, h, c, hc, x, y, hx, hy => by
  have e : withL C ((p :: ps).map fun p => ⟨p.x, p.y, c⟩) = withL (dotC C ⟨p.x, p.y, c⟩) (ps.map fun p => ⟨p.x, p.y, c⟩) := rfl
  rw [e, colC_withP ps (h.dotC (d := ⟨p.x, p.y, c⟩) hc) hc (by rw [dotC_wide]; exact hx) (by rw [dotC_high]; exact hy), colC_dotC h hx hy]
  obtain ⟨px, py⟩ := p
  simp only [List.mem_cons, PtT.mk.injEq]
  by_cases h1 : (⟨(x : Int), (y : Int)⟩ : PtT) ∈ ps
  · rw [if_pos h1, if_pos (.inr h1)]
  · rw [if_neg h1]
    by_cases h2 : px = (x : Int) ∧ py = (y : Int)
    · rw [if_pos h2, if_pos (.inl ⟨h2.1.symm, h2.2.symm⟩)]
    · rw [if_neg h2, if_neg]
      rintro (⟨rfl, rfl⟩ | h3)
      · exact h2 ⟨rfl, rfl⟩
      · exact h1 h3
end Go.Proofs.YtodpkgbpcpfamaaGreat
