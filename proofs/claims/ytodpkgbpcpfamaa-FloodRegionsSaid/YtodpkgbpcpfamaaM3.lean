/- Merged texts: Pix Can RowT. -/
import Derived.Test.YtodpkgbpcpfamaaM2
import Derived.Lib.SmallJoins
/- Layer 3: pixel.Far, pixel.Near. -/
namespace Go.Proofs.Ytodpkgbpcpfamaa
set_option linter.unusedSimpArgs false
set_option linter.unusedVariables false
open Go.RowKit Go.Shelf
attribute [local go_sem] Oper.semAt_some

def partC (c : ColT) : Nat → Int
 | 0 => c.r
 | 1 => c.g
 | 2 => c.b
 | _ => c.a
def partArgs (c : ColT) (x : Fin 4) : Array Value := #[.int .i64 (x.1 : Int), .int .i64 (partC c x.1)]
theorem info_u8 : (Try.prog.info? 5).map (fun i => (i.zero, i.size, i.bytes)) = some (some (.int .u8 0), 1, 1) := by kernel_rfl
theorem run_part (c : ColT) (k : Nat) (h : k < 4) (w : World) : (Instr.index 151 (.agg #[.int .u8 c.r, .int .u8 c.g, .int .u8 c.b, .int .u8 c.a]) (.int .i64 (k : Int))).run Try.prog w = .ok (.int .u8 (partC c k)) w := by
 obtain ⟨i0, hi, _, hz1, _⟩ := info_parts info_u8
 refine run_index_int w 151 5 4 .u8 i0 Try.underlying151 Try.underlying5 hi hz1 _ k _ h ?_
 match k, h with
 | 0, _ => rfl
 | 1, _ => rfl
 | 2, _ => rfl
 | 3, _ => rfl
theorem part_ok {c : ColT} (hc : okC c) (k : Nat) : 0 ≤ partC c k ∧ partC c k < 256 := by
 unfold okC at hc
 unfold partC
 split <;> omega

set_option maxRecDepth 100000 in
set_option maxHeartbeats 2000000 in
theorem parts1_in (n : Nat) (hn : 1 ≤ n) (l Bs : Nat) (bs : List Nat) (c : ColT) (hcc : okC c) (J Jx : List (Fin 4) → World → Prop)
 (hY : ∀ pre x W, J pre W → pre.length < 4 → YieldAt Fence.wide (n - 1) Try.prog l (partArgs c x) W fun e W' =>
  (e = .returned (.bool true) ∧ J (pre ++ [x]) W' ∧ KeepsAt bs W W') ∨ (e = .returned (.bool false) ∧ Jx (pre ++ [x]) W'))
 (W : World) (hc0 : W.cell? ⟨Bs, 0, none⟩ = some (.int .u8 c.r)) (hc1 : W.cell? ⟨Bs, 1, none⟩ = some (.int .u8 c.g)) (hc2 : W.cell? ⟨Bs, 2, none⟩ = some (.int .u8 c.b)) (hc3 : W.cell? ⟨Bs, 3, none⟩ = some (.int .u8 c.a)) (h0 : J [] W) :
 CallsIn Fence.wide n Try.prog 77 #[.func (.yield l) #[] #[], .pointer (some ⟨Bs, 0, none⟩)] W fun e W' => (∃ v, e = .returned v) ∧
  ((∃ ys, ys = List.finRange 4 ∧ J ys W') ∨ (∃ pre, pre <+: List.finRange 4 ∧ Jx pre W')) := by
 have HY := Lib.hid hY
 have HO := Lib.hid (part_ok hcc)
 clear hY hcc
 refine callsIn_of_wp Try.func77 rfl trivial ?_ rfl
 simp only [Try.ntmps77, List.size_toArray, List.length_cons, List.length_nil, Nat.reduceAdd, Nat.reduceSub, Array.replicate_succ, Array.replicate_zero, List.push_toArray, List.append_toArray, List.nil_append, List.cons_append]
 gi_wp2
 apply wpIn_scope
 gi_wp2
 apply wpIn_label
 gi_wp2
 have HX := Lib.hid (run_part c)
 gi_loopw [18] (fun i wr => ∃ k : Nat, k ≤ 4 ∧ i = .int .i64 k ∧ J (firsts 4 k) wr) (fun i _ => 4 - (intOf i).toNat)
 case atStart => exact ⟨0, by omega, rfl, h0⟩
 case round =>
  obtain ⟨k, hk, rfl, hJs⟩ := hrel
  by_cases hlt : k < 4
  · have hix := HX.out k hlt
    have hp := HO.out k
    obtain ⟨fn, tmps, assign, body, hy, hR⟩ := HY.out _ (⟨k, hlt⟩ : Fin 4) wr hJs (by rw [firsts_length (by omega)]; omega)
    unfold partArgs at hy
    dsimp only at hy
    have hs := firsts_succ (N := 4) (k := k) hlt
    rw [hs] at hR
    clear hs
    obtain ⟨pv, hpv⟩ : ∃ pv, partC c k = pv := ⟨_, rfl⟩
    rw [hpv] at hix hy hp
    have hw : wrap64 pv = pv := by unfold wrap64; omega
    clear hpv hp
    gi_wp2
    refine hR.mono ?_
    rintro e W3 (⟨rfl, hJ3, hk3⟩ | ⟨rfl, hJx3⟩)
    · gi_wp2
      go_roundw
      case rel => exact ⟨k + 1, by omega, by simp, hJ3⟩
      case measure => simp [intOf]; omega
    · gi_wp2
      rw [Exit.noGoto_normal]
      go_end0
      exact ⟨⟨_, rfl⟩, .inr ⟨_, firsts_prefix _ _, hJx3⟩⟩
  · obtain rfl : k = 4 := by omega
    gi_wp2; rw [Exit.noGoto_normal]
    go_end0
    exact ⟨⟨_, rfl⟩, .inl ⟨_, firsts_all 4, hJs⟩⟩

theorem parts_any (cs : Array Value) (w : World) :
 Calls Try.prog 76 #[.agg cs] w fun e w' => e = .returned (.func (.func 77) #[] #[.pointer (some ⟨w.heap.size, 0, none⟩)]) ∧ w.alloc (.cells cs 149) = w' := by
 go_enter Try.func76, Try.ntmps76
 go_wp2
 go_ret
 exact ⟨rfl, rfl⟩

theorem parts_iter (Bs : Nat) (c : ColT) (hc : okC c) (w : World) (hb : w.heap[Bs]? = some (.cells #[.int .u8 c.r, .int .u8 c.g, .int .u8 c.b, .int .u8 c.a] 149 (0, 0))) :
 Iter Try.prog 77 #[.pointer (some ⟨Bs, 0, none⟩)] 4 (partArgs c) [Bs] w := by
 intro n hn1 l J Jx W hW _ _ hY h0
 have hb' := (hW.block Bs (block_lt hb)).trans hb
 exact parts1_in n hn1 l Bs _ c hc J Jx hY W (cell_of_block hb' rfl) (cell_of_block hb' rfl) (cell_of_block hb' rfl) (cell_of_block hb' rfl) h0

theorem ownFrom_blk {β : Type} {B k : Nat} {o : Obj} (hk : k < B) : OwnFrom B (fun (_ : β) W => W.heap[k]? = some o) := fun _ W W' _ h hg hr => (hg.block k (block_lt h) (fun e => by have := (hr k e.symm).1; omega)).trans h
/-- Values laid at places. -/
def laidA (f : Nat → Int) (pre : List (Fin 4)) : Array Value := pre.foldl (fun c x => c.setIfInBounds x.1 (.int .i64 (f x.1))) #[.int .i64 0, .int .i64 0, .int .i64 0, .int .i64 0]
theorem laidA_push (f : Nat → Int) (pre : List (Fin 4)) (x : Fin 4) : laidA f (pre ++ [x]) = (laidA f pre).setIfInBounds x.1 (.int .i64 (f x.1)) := by unfold laidA; rw [List.foldl_append]; rfl
theorem laidA_size (f : Nat → Int) (pre : List (Fin 4)) : (laidA f pre).size = 4 := by
 unfold laidA
 obtain ⟨a, ha⟩ : ∃ a : Array Value, #[Value.int .i64 0, .int .i64 0, .int .i64 0, .int .i64 0] = a := ⟨_, rfl⟩
 have hs : a.size = 4 := by rw [← ha]; rfl
 rw [ha]
 clear ha
 induction pre generalizing a with
 | nil => exact hs
 | cons x pre ih => exact ih _ (by rw [Array.size_setIfInBounds]; exact hs)
theorem laidA_all (f : Nat → Int) : laidA f (List.finRange 4) = #[.int .i64 (f 0), .int .i64 (f 1), .int .i64 (f 2), .int .i64 (f 3)] := rfl
theorem laid4_get (f : Nat → Int) (x : Fin 4) : (#[Value.int .i64 (f 0), .int .i64 (f 1), .int .i64 (f 2), .int .i64 (f 3)] : Array Value)[x.1]? = some (.int .i64 (f x.1)) := by
 match x with
 | ⟨0, _⟩ => rfl
 | ⟨1, _⟩ => rfl
 | ⟨2, _⟩ => rfl
 | ⟨3, _⟩ => rfl
def apartC (c d : ColT) (k : Nat) : Int := apartI (partC c k) (partC d k)

set_option maxRecDepth 100000 in
set_option maxHeartbeats 4000000 in
theorem both_any (c d : ColT) (hc : okC c) (hd : okC d) (w : World) : Calls Try.prog 74 #[c.val, d.val, .func (.func 75) #[] #[]] w
 (Gives (.agg #[.int .i64 (apartI c.r d.r), .int .i64 (apartI c.g d.g), .int .i64 (apartI c.b d.b), .int .i64 (apartI c.a d.a)]) w) := by
 have HO := Lib.hid (And.intro hc hd)
 clear hc hd
 have HS := Lib.hid (St.start w)
 unfold ColT.val
 refine (callsIn_wide (n := 10)).1 ?_
 refine callsIn_of_wp_marks Try.func74 rfl trivial ?_ rfl
 simp only [Try.ntmps74, List.size_toArray, List.length_cons, List.length_nil, Nat.reduceAdd, Nat.reduceSub, Array.replicate_succ, Array.replicate_zero, List.push_toArray, List.append_toArray, List.nil_append, List.cons_append]
 gi_wp2_with fail
 have hs_ := ((((((HS.out.alloc (.cells #[.int .u8 c.r, .int .u8 c.g, .int .u8 c.b, .int .u8 c.a] 55)).alloc (.cells #[.int .u8 d.r, .int .u8 d.g, .int .u8 d.b, .int .u8 d.a] 55)).alloc (.cells #[.func (.func 75) #[] #[]] 145)).alloc (.cells #[.int .i64 0, .int .i64 0, .int .i64 0, .int .i64 0] 143)).alloc (.cells #[.int .i64 0, .int .i64 0, .int .i64 0, .int .i64 0] 143)).alloc (.cells #[.int .i64 0, .int .i64 0, .int .i64 0, .int .i64 0] 143))
 obtain ⟨w1, hw_⟩ : ∃ w1 : World, ((((((w.alloc (.cells #[.int .u8 c.r, .int .u8 c.g, .int .u8 c.b, .int .u8 c.a] 55)).alloc (.cells #[.int .u8 d.r, .int .u8 d.g, .int .u8 d.b, .int .u8 d.a] 55)).alloc (.cells #[.func (.func 75) #[] #[]] 145)).alloc (.cells #[.int .i64 0, .int .i64 0, .int .i64 0, .int .i64 0] 143)).alloc (.cells #[.int .i64 0, .int .i64 0, .int .i64 0, .int .i64 0] 143)).alloc (.cells #[.int .i64 0, .int .i64 0, .int .i64 0, .int .i64 0] 143)) = w1 := ⟨_, rfl⟩
 rw [hw_] at hs_
 try simp only [World.size_alloc] at hs_
 have HS := Lib.hid hs_
 rw [hw_]
 clear hw_ hs_
 refine (callsIn_wide.2 (parts_any _ _)).mono ?_
 rintro e w' ⟨rfl, rfl⟩
 have hs_ := (HS.out.alloc (.cells #[.int .u8 d.r, .int .u8 d.g, .int .u8 d.b, .int .u8 d.a] 149))
 obtain ⟨w2, hw_⟩ : ∃ w2 : World, (w1.alloc (.cells #[.int .u8 d.r, .int .u8 d.g, .int .u8 d.b, .int .u8 d.a] 149)) = w2 := ⟨_, rfl⟩
 rw [hw_] at hs_
 try simp only [World.size_alloc] at hs_
 have HS := Lib.hid hs_
 rw [hw_]
 clear hw_ hs_
 gi_wp2_with fail
 have hz2 : w1.heap.size < w2.heap.size := HS.out.lt 0 rfl
 refine range_iter (parts_iter w1.heap.size d HO.out.2 w2 (HS.out.blockAt 0 rfl)) (by omega) rfl (enters_of Try.func77 (by kernel_rfl) rfl) (by simpa using HS.out.lt 0 rfl) (Below.refl _ _) (fun _ => rfl)
  (fun x => [(16, .int .i64 (x.1 : Int)), (17, .int .i64 (partC d x.1))]) (fun _ => by simp [partArgs])
  (fun pre W => St w [.blk w1.heap.size (.cells #[.int .u8 d.r, .int .u8 d.g, .int .u8 d.b, .int .u8 d.a] 149 (0, 0)), .blk (w.heap.size + 1 + 1 + 1 + 1 + 1) (.cells (laidA (partC d) pre) 143 (0, 0)), .blk (w.heap.size + 1 + 1 + 1 + 1) (.cells (#[.int .i64 0, .int .i64 0, .int .i64 0, .int .i64 0]) 143 (0, 0)), .blk (w.heap.size + 1 + 1 + 1) (.cells #[.int .i64 0, .int .i64 0, .int .i64 0, .int .i64 0] 143 (0, 0)), .blk (w.heap.size + 1 + 1) (.cells #[.func (.func 75) #[] #[]] 145 (0, 0)), .blk (w.heap.size + 1) (.cells #[.int .u8 d.r, .int .u8 d.g, .int .u8 d.b, .int .u8 d.a] 55 (0, 0)), .blk w.heap.size (.cells #[.int .u8 c.r, .int .u8 c.g, .int .u8 c.b, .int .u8 c.a] 55 (0, 0))] W)
  (fun _ _ _ => False) (ownFrom_St _ HS.out.size (by intro s b o hb; simp at hb; rcases hb with ⟨_, rfl⟩ | ⟨_, rfl⟩ | ⟨_, rfl⟩ | ⟨_, rfl⟩ | ⟨_, rfl⟩ | ⟨_, rfl⟩ | ⟨_, rfl⟩ <;> rfl)) (fun _ => ownFrom_pure _ _) HS.out
  (fun x => [(9, .int .i64 (x.1 : Int)), (10, .int .i64 (partC d x.1))]) ?assign ?body ?done ?stop
 case assign =>
  intro l x W K hK
  have HK := Lib.hid hK
  clear hK
  unfold loopAct at *
  gi_wp2
  exact HK.out
 case body =>
  intro l pre x W hI hlt
  have HI := Lib.hid hI
  have hx := x.2
  obtain ⟨v0, hv0⟩ : ∃ v0, (laidA (partC d) pre)[x.1]? = some v0 := ⟨_, Array.getElem?_eq_getElem (by rw [laidA_size]; exact hx)⟩
  have c1 := cell_of_block (hI.blockAt 1 rfl) hv0
  have f1 := free_of_block (hI.blockAt 1 rfl) x.1
  clear hI
  simp only [loopAct, List.foldl, List.cons_append, List.nil_append, List.setIfInBounds_toArray, List.set_cons_succ, List.set_cons_zero]
  gi_wp2
  refine ⟨KeepsOthers.setCell W _ _, ?_, ?_⟩
  · intro b hb
    rw [List.mem_singleton.1 hb]
    exact heap_setCell_other _ _ _ _ (by have := HI.out.ord; simp [ItOrd, It.top] at this; simp; omega)
  · change St w _ _
    rw [laidA_push]
    exact HI.out.putAt (pre := [_]) (by intro i hi; simp at hi; exact ⟨_, _, hi⟩) x.1 _ rfl
 case done =>
  intro D1 W3 hD1 hI hK1
  rw [laidA_all] at hI
  have HS := Lib.hid hI
  have HK1 := Lib.hid (And.intro hD1 hK1)
  have a0 := cell_of_block (k := 0) (HS.out.blockAt 6 rfl) rfl
  have a1 := cell_of_block (k := 1) (HS.out.blockAt 6 rfl) rfl
  have a2 := cell_of_block (k := 2) (HS.out.blockAt 6 rfl) rfl
  have a3 := cell_of_block (k := 3) (HS.out.blockAt 6 rfl) rfl
  clear hI hK1 hD1
  gi_wp2_with fail
  refine (callsIn_wide.2 (parts_any _ _)).mono ?_
  rintro e w' ⟨rfl, rfl⟩
  have HS := Lib.hid (HS.out.alloc (.cells #[.int .u8 c.r, .int .u8 c.g, .int .u8 c.b, .int .u8 c.a] 149))
  have HM := Lib.hid (heap_alloc_keeps HK1.out.2 (.cells #[.int .u8 c.r, .int .u8 c.g, .int .u8 c.b, .int .u8 c.a] 149))
  have hD1 : D1 < W3.heap.size := block_lt HK1.out.2
  obtain ⟨w3, hw3⟩ : ∃ w3, W3.alloc (.cells #[.int .u8 c.r, .int .u8 c.g, .int .u8 c.b, .int .u8 c.a] 149) = w3 := ⟨_, rfl⟩
  rw [hw3] at HS HM ⊢
  have hz3 : W3.heap.size < w3.heap.size := HS.out.lt 0 rfl
  clear a0 a1 a2 a3 hw3
  gi_wp2_with fail
  refine range_iter (parts_iter W3.heap.size c HO.out.1 w3 (HS.out.blockAt 0 rfl)) (by omega) rfl (enters_of Try.func77 (by kernel_rfl) rfl) (by simpa using hz3) (Below.refl _ _) (fun _ => rfl)
   (fun x => [(24, .int .i64 (x.1 : Int)), (25, .int .i64 (partC c x.1))]) (fun _ => by simp [partArgs])
   (fun pre W => St w [.blk W3.heap.size (.cells #[.int .u8 c.r, .int .u8 c.g, .int .u8 c.b, .int .u8 c.a] 149 (0, 0)), .blk w1.heap.size (.cells #[.int .u8 d.r, .int .u8 d.g, .int .u8 d.b, .int .u8 d.a] 149 (0, 0)), .blk (w.heap.size + 1 + 1 + 1 + 1 + 1) (.cells (#[.int .i64 (partC d 0), .int .i64 (partC d 1), .int .i64 (partC d 2), .int .i64 (partC d 3)]) 143 (0, 0)), .blk (w.heap.size + 1 + 1 + 1 + 1) (.cells (laidA (apartC c d) pre) 143 (0, 0)), .blk (w.heap.size + 1 + 1 + 1) (.cells #[.int .i64 0, .int .i64 0, .int .i64 0, .int .i64 0] 143 (0, 0)), .blk (w.heap.size + 1 + 1) (.cells #[.func (.func 75) #[] #[]] 145 (0, 0)), .blk (w.heap.size + 1) (.cells #[.int .u8 d.r, .int .u8 d.g, .int .u8 d.b, .int .u8 d.a] 55 (0, 0)), .blk w.heap.size (.cells #[.int .u8 c.r, .int .u8 c.g, .int .u8 c.b, .int .u8 c.a] 55 (0, 0))] W ∧ W.heap[D1]? = some (.deferred (some [])))
   (fun _ _ _ => False) (OwnFrom.and (ownFrom_St _ HS.out.size (by intro s b o hb; simp at hb; rcases hb with ⟨_, rfl⟩ | ⟨_, rfl⟩ | ⟨_, rfl⟩ | ⟨_, rfl⟩ | ⟨_, rfl⟩ | ⟨_, rfl⟩ | ⟨_, rfl⟩ | ⟨_, rfl⟩ <;> rfl)) (ownFrom_blk (by omega))) (fun _ => ownFrom_pure _ _) ⟨HS.out, HM.out⟩
   (fun x => [(11, .int .i64 (x.1 : Int)), (12, .int .i64 (partC c x.1))]) ?assign2 ?body2 ?done2 ?stop2
  case assign2 =>
   intro l x W K hK
   have HK := Lib.hid hK
   clear hK
   unfold loopAct at *
   gi_wp2
   exact HK.out
  case body2 =>
   rintro l pre x W ⟨hI, hm⟩ hlt
   have HS := Lib.hid hI
   have HM := Lib.hid hm
   have HX := Lib.hid x.2
   have HPC := Lib.hid (part_ok HO.out.1 x.1)
   have HPD := Lib.hid (part_ok HO.out.2 x.1)
   obtain ⟨v0, hv0⟩ : ∃ v0, (laidA (apartC c d) pre)[x.1]? = some v0 := ⟨_, Array.getElem?_eq_getElem (by rw [laidA_size]; exact x.2)⟩
   have HV := Lib.hid hv0
   clear hI hv0 hm
   simp only [loopAct, List.foldl, List.cons_append, List.nil_append, List.setIfInBounds_toArray, List.set_cons_succ, List.set_cons_zero]
   repeat ((fail_if_success (with_reducible refine stop_atI (id := 10) ?_)); (first | go_values | gi_guarded | gi_step | gi_upon | gi_back | (simp only [Int.not_lt, Int.not_le] at *; go_simp) | (go_values <;> (try go_simp)) | (go_ite <;> go_prune <;> (try go_simp)) | (split <;> (first | (rename_i hx; exact (hx _ rfl).elim) | go_prune))))
   apply wp_region_vals 8 (Rl := [(eqv _), (eqv _), (eqv _), (eqv _), (eqv _), (eqv _), (eqv _), (eqv _)]) (C := (fun x y => Below x.heap.size x y))
   case hm => kernel_rfl
   case hk => rfl
   case hCr => exact (fun _ => Below.refl _ _)
   case hCt => intro _ _ _; exact (fun h k => grows_trans h k)
   case hst => exact ⟨fun _ _ _ _ h => h, fun _ _ _ _ h => h, fun _ _ _ _ h => h, fun _ _ _ _ h => h, fun _ _ _ _ h => h, fun _ _ _ _ h => h, fun _ _ _ _ h => h, fun _ _ _ _ h => h, trivial⟩
   case hfo => kernel_rfl
   case ht => kernel_rfl
   case hC0 => exact (grows_drew _)
   case hsteps =>
    refine ⟨?_, ?_, ?_, ?_, ?_, ?_, ?_, ?_, trivial⟩
    · intro a' w' hA hC hD; have s11 : a'.tmps[11]? = some _ := (hA.at 11 (by kernel_rfl)).trans rfl; clear hA hD; refine stepOk_plain rfl ?_; intro K hK; gi_wp2; exact hK _ _ rfl ((fun _ => Below.refl _ _) _)
    · intro a' w' hA hC hD; have s5 : a'.tmps[5]? = some _ := (hA.at 5 (by kernel_rfl)).trans rfl
      have h1_ := (HS.out.below hC).blockAt 5 rfl; have c1_0 := cell_of_block (k := 0) h1_ rfl; clear h1_
      clear hA hD; refine stepOk_plain rfl ?_; intro K hK; gi_wp2; exact hK _ _ rfl ((fun _ => Below.refl _ _) _)
    · intro a' w' hA hC hD; have s12 : a'.tmps[12]? = some _ := (hA.at 12 (by kernel_rfl)).trans rfl; clear hA hD; refine stepOk_plain rfl ?_; intro K hK; gi_wp2; exact hK _ _ rfl ((fun _ => Below.refl _ _) _)
    · intro a' w' hA hC hD; have s11 : a'.tmps[11]? = some _ := (hA.at 11 (by kernel_rfl)).trans rfl; clear hA hD; refine stepOk_plain rfl ?_; intro K hK; gi_wp2; exact hK _ _ rfl ((fun _ => Below.refl _ _) _)
    · intro a' w' hA hC hD; have s8 : a'.tmps[8]? = some _ := (hA.at 8 (by kernel_rfl)).trans rfl; obtain ⟨u29, s29, r29⟩ := hD ⟨3, .data⟩ (by simp) rfl _ rfl; replace r29 : u29 = _ := r29; subst r29; clear hA hD; refine stepOk_plain rfl ?_; intro K hK; gi_wp2; exact hK _ _ rfl ((fun _ => Below.refl _ _) _)
    · intro a' w' hA hC hD; obtain ⟨u30, s30, r30⟩ := hD ⟨4, .data⟩ (by simp) rfl _ rfl; replace r30 : u30 = _ := r30; subst r30
      have b5 := cell_of_block ((HS.out.below hC).blockAt 2 rfl) (laid4_get (partC d) x)
      clear hA hD; refine stepOk_plain rfl ?_; intro K hK; gi_wp2; exact hK _ _ rfl ((fun _ => Below.refl _ _) _)
    · intro a' w' hA hC hD; obtain ⟨u27, s27, r27⟩ := hD ⟨1, .data⟩ (by simp) rfl _ rfl; replace r27 : u27 = _ := r27; subst r27; obtain ⟨u28, s28, r28⟩ := hD ⟨2, .data⟩ (by simp) rfl _ rfl; replace r28 : u28 = _ := r28; subst r28; obtain ⟨u31, s31, r31⟩ := hD ⟨5, .data⟩ (by simp) rfl _ rfl; replace r31 : u31 = _ := r31; subst r31; clear hA hD; refine stepOk_plain rfl ?_; intro K hK
      gi_wp2_with fail; refine (callsIn_wide.2 (far1_any _ _ HPC.out HPD.out _)).mono ?_; rintro e w2 ⟨rfl, hb⟩
      exact hK _ _ rfl hb
    · intro a' w' hA hC hD; have s7 : a'.tmps[7]? = some _ := (hA.at 7 (by kernel_rfl)).trans rfl; obtain ⟨u26, s26, r26⟩ := hD ⟨0, .data⟩ (by simp) rfl _ rfl; replace r26 : u26 = _ := r26; subst r26; clear hA hD; refine stepOk_plain rfl ?_; intro K hK; gi_wp2; exact hK _ _ rfl ((fun _ => Below.refl _ _) _)
   case hend =>
    intro w4 hC
    simp only [EndFrom, eqv, forall_eq, Act.put, List.length_cons, List.length_nil, List.drop_succ_cons, List.drop_zero, Nat.reduceAdd, List.setIfInBounds_toArray, List.set_cons_succ, List.set_cons_zero]
    have HC := Lib.hid (And.intro (show KeepsOthers W w4 from ⟨hC.size, fun j o hj _ => (hC.block j (block_lt hj)).trans hj⟩) (And.intro ((hC.block W3.heap.size (HS.out.lt 0 rfl)) : w4.heap[W3.heap.size]? = W.heap[W3.heap.size]?) ((hC.block D1 (block_lt HM.out)).trans HM.out)))
    have HO4 := Lib.hid (show W3.heap.size ≠ w.heap.size + 1 + 1 + 1 + 1 by have h_ := HS.out.ord; simp [ItOrd, It.top] at h_; omega)
    have HS := Lib.hid (HS.out.below hC)
    have c1 := cell_of_block (HS.out.blockAt 3 rfl) HV.out
    have f1 := free_of_block (HS.out.blockAt 3 rfl) x.1
    clear hC
    gi_wp2
    refine ⟨HC.out.1.trans (KeepsOthers.setCell _ _ _), ?_, ?_, ?_⟩
    · intro b hb
      rw [List.mem_singleton.1 hb]
      exact (heap_setCell_other _ _ _ _ (by have := HO4.out; simpa using this)).trans HC.out.2.1
    · change St w _ _
      rw [laidA_push]
      exact HS.out.putAt (pre := [_, _, _]) (by intro i hi; simp at hi; rcases hi with rfl | rfl | rfl <;> exact ⟨_, _, rfl⟩) x.1 _ rfl
    · exact (heap_setCell_other _ _ _ _ (by intro e; have h1 := HC.out.2.2; have h2 := HS.out.blockAt 3 rfl; rw [e] at h1; simp at h1; rw [h2] at h1; cases h1)).trans HC.out.2.2
  case done2 =>
   rintro D2 W4 hD2 ⟨hI, hm⟩ hK2
   rw [laidA_all] at hI
   have HS := Lib.hid hI
   have HD := Lib.hid (And.intro hm (And.intro hK2 hD2))
   have HDN := Lib.hid (show D1 < w3.heap.size ∧ w.heap.size ≤ D1 by have h1 := block_lt HM.out; exact ⟨h1, Nat.le_trans (by have h_ := HS.out.ord; simp [ItOrd, It.top] at h_; omega) HK1.out.1⟩)
   clear hI hm hK2 hD2
   have a0 := cell_of_block (k := 0) (HS.out.blockAt 3 rfl) rfl
   have a1 := cell_of_block (k := 1) (HS.out.blockAt 3 rfl) rfl
   have a2 := cell_of_block (k := 2) (HS.out.blockAt 3 rfl) rfl
   have a3 := cell_of_block (k := 3) (HS.out.blockAt 3 rfl) rfl
   have b0 := cell_of_block (k := 0) (HS.out.blockAt 4 rfl) rfl
   have b1 := cell_of_block (k := 1) (HS.out.blockAt 4 rfl) rfl
   have b2 := cell_of_block (k := 2) (HS.out.blockAt 4 rfl) rfl
   have b3 := cell_of_block (k := 3) (HS.out.blockAt 4 rfl) rfl
   have fz := free_of_block (HS.out.blockAt 4 rfl)
   gi_wp2
   clear a0 a1 a2 a3 b0 b1 b2 b3 fz
   have H5 := (((HS.out.putAt (pre := [_, _, _, _]) (by intro i hi; simp at hi; rcases hi with rfl | rfl | rfl | rfl <;> exact ⟨_, _, rfl⟩) 0 (.int .i64 (apartC c d 0)) rfl).putAt (pre := [_, _, _, _]) (by intro i hi; simp at hi; rcases hi with rfl | rfl | rfl | rfl <;> exact ⟨_, _, rfl⟩) 1 (.int .i64 (apartC c d 1)) rfl).putAt (pre := [_, _, _, _]) (by intro i hi; simp at hi; rcases hi with rfl | rfl | rfl | rfl <;> exact ⟨_, _, rfl⟩) 2 (.int .i64 (apartC c d 2)) rfl).putAt (pre := [_, _, _, _]) (by intro i hi; simp at hi; rcases hi with rfl | rfl | rfl | rfl <;> exact ⟨_, _, rfl⟩) 3 (.int .i64 (apartC c d 3)) rfl
   have hk := (((KeepsOthers.setCell W4 ⟨w.heap.size + 1 + 1 + 1, 0, none⟩ (.int .i64 (apartC c d 0))).trans (KeepsOthers.setCell _ ⟨w.heap.size + 1 + 1 + 1, 1, none⟩ (.int .i64 (apartC c d 1)))).trans (KeepsOthers.setCell _ ⟨w.heap.size + 1 + 1 + 1, 2, none⟩ (.int .i64 (apartC c d 2)))).trans (KeepsOthers.setCell _ ⟨w.heap.size + 1 + 1 + 1, 3, none⟩ (.int .i64 (apartC c d 3)))
   generalize (((W4.setCell ⟨w.heap.size + 1 + 1 + 1, 0, none⟩ (.int .i64 (apartC c d 0))).setCell ⟨w.heap.size + 1 + 1 + 1, 1, none⟩ (.int .i64 (apartC c d 1))).setCell ⟨w.heap.size + 1 + 1 + 1, 2, none⟩ (.int .i64 (apartC c d 2))).setCell ⟨w.heap.size + 1 + 1 + 1, 3, none⟩ (.int .i64 (apartC c d 3)) = W5 at H5 hk ⊢
   have hm1 := hk.same D1 _ HD.out.1 rfl
   have hm2 := hk.same D2 _ HD.out.2.1 rfl
   have hb5 := H5.blockAt 4 rfl
   have hn : w.heap.size + 1 + 1 + 1 ∉ [D2, D1] := fun hm => by
    rcases List.mem_cons.1 hm with e | hm
    · rw [← e, hb5] at hm2; cases hm2
    · rw [← List.mem_singleton.1 hm, hb5] at hm1; cases hm1
   refine ret_marks (lo := w.heap.size) (Ds := [D2, D1]) (v := .agg #[.int .i64 (apartC c d 0), .int .i64 (apartC c d 1), .int .i64 (apartC c d 2), .int .i64 (apartC c d 3)]) rfl ⟨by have := HDN.out; have := HD.out.2.2; simp; omega, fun D hD => ?_⟩ (fun W' ht => ⟨?_, rfl, H5.low.trans (ht.below H5.low.size fun k hk => ?_)⟩)
   · rcases List.mem_cons.1 hD with rfl | hD
     · exact ⟨by have := HDN.out; have := HD.out.2.2; omega, hm2⟩
     · rw [List.mem_singleton.1 hD]; exact ⟨HDN.out.2, hm1⟩
   · have hb' := (ht.block _ (block_lt hb5) hn).trans hb5
     have a0 := cell_of_block (k := 0) hb' rfl
     have a1 := cell_of_block (k := 1) hb' rfl
     have a2 := cell_of_block (k := 2) hb' rfl
     have a3 := cell_of_block (k := 3) hb' rfl
     simp [results, Try.results74, go_sem, a0, a1, a2, a3]
   · have := HDN.out; have := HD.out.2.2
     rcases List.mem_cons.1 hk with rfl | hk
     · omega
     · rw [List.mem_singleton.1 hk]; omega
  case stop2 =>
   intro D c pre W _ _ h
   exact h.elim
 case stop =>
  intro D c pre W _ _ h
  exact h.elim

theorem info_i64 : (Try.prog.info? 3).map (fun i => (i.zero, i.size, i.bytes)) = some (some (.int .i64 0), 1, 8) := by kernel_rfl
def sumA (f : Nat → Int) : Nat → Int
 | 0 => 0
 | k + 1 => sumA f k + f k
theorem apart_ok {c d : ColT} (hc : okC c) (hd : okC d) (k : Nat) : 0 ≤ apartC c d k ∧ apartC c d k < 256 := by
 have h1 := part_ok hc k
 have h2 := part_ok hd k
 unfold apartC apartI
 omega
theorem sumA_ok {f : Nat → Int} (h : ∀ k, 0 ≤ f k ∧ f k < 256) : ∀ k, 0 ≤ sumA f k ∧ sumA f k ≤ 256 * (k : Int)
 | 0 => by simp [sumA]
 | k + 1 => by
  have h1 := sumA_ok h k
  have h2 := h k
  unfold sumA
  omega
theorem sumA_far (c d : ColT) : sumA (apartC c d) 4 = farI c d := by
 simp only [sumA, farI]
 rw [Int.zero_add]
 rfl
theorem far_self (c : ColT) : farI c c = 0 := by unfold farI apartI; omega
theorem colG_run (c d : ColT) (w : World) : (eqGuard .eql 55 (.tmp 8) (.tmp 9) c.val d.val).run Try.prog w = .ok () w := by
 unfold ColT.val
 simp [eqGuard, go_sem]
theorem colB_run (c d : ColT) (w : World) : (binOp .eql 55 c.val d.val).run Try.prog w = .ok (.bool (decide (c = d))) w := by
 obtain ⟨r, g, b', a'⟩ := c
 obtain ⟨s, h, c, d⟩ := d
 unfold ColT.val
 simp [binOp, Op.equal, Op.maxDepth, go_sem]
 by_cases h1 : r = s <;> by_cases h2 : g = h <;> by_cases h3 : b' = c <;> by_cases h4 : a' = d <;> simp [h1, h2, h3, h4]
set_option maxRecDepth 100000 in
set_option maxHeartbeats 4000000 in
theorem far_any (c d : ColT) (hc : okC c) (hd : okC d) (w : World) : Calls Try.prog 71 #[c.val, d.val] w (Gives (.int .i64 (farI c d)) w) := by
 have HO := Lib.hid (apart_ok hc hd)
 have HB := Lib.hid (both_any c d hc hd)
 have HX : Hid (∀ (k : Nat), k < 4 → ∀ w, (Instr.index 143 (.agg #[.int .i64 (apartI c.r d.r), .int .i64 (apartI c.g d.g), .int .i64 (apartI c.b d.b), .int .i64 (apartI c.a d.a)]) (.int .i64 (k : Int))).run Try.prog w = .ok (.int .i64 (apartC c d k)) w) := Lib.hid fun k h w => by
  obtain ⟨i0, hi, _, hz1, _⟩ := info_parts info_i64
  exact run_index_int w 143 3 4 .i64 i0 Try.underlying143 Try.underlying3 hi hz1 _ k _ h (laid4_get (apartC c d) ⟨k, h⟩)
 have HE := Lib.hid (And.intro (colG_run c d) (colB_run c d))
 have HS := Lib.hid (St.start w)
 clear hc hd
 by_cases he : c = d
 · subst he
   simp only [decide_true] at HE
   rw [far_self]
   unfold ColT.val at *
   have heq := HE.out
   go_enter Try.func71, Try.ntmps71
   go_wp2_with fail
   go_ret
   exact ⟨rfl, by (repeat (first | exact Below.refl _ _ | assumption | refine Below.alloc ?_ (by first | omega | (simp; done) | (simp; omega)) _ | refine Below.setCell ?_ (by first | omega | (simp; done) | (simp; omega)) _ | refine Below.drew ?_))⟩
 · simp only [he, decide_false] at HE
   unfold ColT.val at *
   go_enter Try.func71, Try.ntmps71
   repeat ((fail_if_success (with_reducible refine stop_at (id := 1) ?_)); (first | go_values | go_skip | go_guarded | go_step | go_upon | go_back | (simp only [Int.not_lt, Int.not_le] at *; go_simp) | (go_values <;> (try go_simp)) | (go_ite <;> go_prune <;> (try go_simp)) | (split <;> (first | (rename_i hx; exact (hx _ rfl).elim) | go_prune))))
   have hs_ := ((HS.out.alloc (.cells #[.int .u8 c.r, .int .u8 c.g, .int .u8 c.b, .int .u8 c.a] 55)).alloc (.cells #[.int .u8 d.r, .int .u8 d.g, .int .u8 d.b, .int .u8 d.a] 55))
   obtain ⟨w1, hw_⟩ : ∃ w1 : World, ((w.alloc (.cells #[.int .u8 c.r, .int .u8 c.g, .int .u8 c.b, .int .u8 c.a] 55)).alloc (.cells #[.int .u8 d.r, .int .u8 d.g, .int .u8 d.b, .int .u8 d.a] 55)) = w1 := ⟨_, rfl⟩
   rw [hw_] at hs_
   try simp only [World.size_alloc] at hs_
   have HS := Lib.hid hs_
   rw [hw_]
   clear hw_ hs_
   have a0 := cell_of_block (k := 0) (HS.out.blockAt 1 rfl) rfl
   have a1 := cell_of_block (k := 1) (HS.out.blockAt 1 rfl) rfl
   have a2 := cell_of_block (k := 2) (HS.out.blockAt 1 rfl) rfl
   have a3 := cell_of_block (k := 3) (HS.out.blockAt 1 rfl) rfl
   have b0 := cell_of_block (k := 0) (HS.out.blockAt 0 rfl) rfl
   have b1 := cell_of_block (k := 1) (HS.out.blockAt 0 rfl) rfl
   have b2 := cell_of_block (k := 2) (HS.out.blockAt 0 rfl) rfl
   have b3 := cell_of_block (k := 3) (HS.out.blockAt 0 rfl) rfl
   go_step
   go_step
   go_step
   go_step
   go_step
   go_step
   go_step
   have heq := HE.out.1
   have hbq := HE.out.2
   generalize hu : Value.agg #[Value.int .u8 c.r, .int .u8 c.g, .int .u8 c.b, .int .u8 c.a] = u at heq hbq ⊢
   generalize hv : Value.agg #[Value.int .u8 d.r, .int .u8 d.g, .int .u8 d.b, .int .u8 d.a] = v at heq hbq ⊢
   go_wp2_with fail
   subst hu hv
   clear heq hbq a0 a1 a2 a3 b0 b1 b2 b3
   (
    refine (HB.out _).mono ?_
    rintro e w2 ⟨rfl, hb_⟩
    have HS := Lib.hid (HS.out.below hb_)
    clear hb_
    go_wp2_with fail
    go_loopw [5, 14] (fun s i wr => ∃ k : Nat, k ≤ 4 ∧ i = .int .i64 (k : Int) ∧ s = .int .i64 (sumA (apartC c d) k) ∧ Below w.heap.size w wr) (fun _ i _ => 4 - (intOf i).toNat)
    case atStart => exact ⟨0, by omega, rfl, rfl, HS.out.low⟩
    case round =>
     obtain ⟨k, hk, rfl, rfl, hb⟩ := hrel
     by_cases hlt : k < 4
     · have hix := HX.out k hlt
       have h1 := HO.out k
       have h2 := sumA_ok HO.out k
       have hw : wrap64 (sumA (apartC c d) k + apartC c d k) = sumA (apartC c d) (k + 1) := by show _ = sumA (apartC c d) k + apartC c d k; unfold wrap64; omega
       obtain ⟨v, hv⟩ : ∃ v, apartC c d k = v := ⟨_, rfl⟩
       rw [hv] at hix hw
       clear hv h1 h2
       go_wp2
       go_roundw
       case rel => exact ⟨k + 1, by omega, by simp, by simp [hw], hb⟩
       case measure => simp [intOf]; omega
     · obtain rfl : k = 4 := by omega
       go_wp2
       go_ret
       exact ⟨ret_int (sumA_far c d), hb⟩)

set_option maxRecDepth 100000 in
set_option maxHeartbeats 2000000 in
theorem near_any (c d : ColT) (hc : okC c) (hd : okC d) (t : Int) (w : World) : Calls Try.prog 67 #[c.val, d.val, .int .i64 t] w (Gives (.bool (nearB c d t)) w) := by
 have HF := Lib.hid (far_any c d hc hd)
 have HS := Lib.hid (St.start w)
 clear hc hd
 unfold ColT.val at *
 go_enter Try.func67, Try.ntmps67
 go_wp2_with fail
 have hs_ := ((HS.out.alloc (.cells #[.int .u8 c.r, .int .u8 c.g, .int .u8 c.b, .int .u8 c.a] 55)).alloc (.cells #[.int .u8 d.r, .int .u8 d.g, .int .u8 d.b, .int .u8 d.a] 55))
 obtain ⟨w1, hw_⟩ : ∃ w1 : World, ((w.alloc (.cells #[.int .u8 c.r, .int .u8 c.g, .int .u8 c.b, .int .u8 c.a] 55)).alloc (.cells #[.int .u8 d.r, .int .u8 d.g, .int .u8 d.b, .int .u8 d.a] 55)) = w1 := ⟨_, rfl⟩
 rw [hw_] at hs_
 try simp only [World.size_alloc] at hs_
 have HS := Lib.hid hs_
 rw [hw_]
 clear hw_ hs_
 refine (HF.out _).mono ?_
 rintro e w2 ⟨rfl, hb_⟩
 have HS := Lib.hid (HS.out.below hb_)
 clear hb_
 go_wp2_with fail
 go_ret
 exact ⟨rfl, HS.out.low⟩
end Go.Proofs.Ytodpkgbpcpfamaa

/- Layer 5: canvases; what they show. -/
namespace Go.Proofs.Ytodpkgbpcpfamaa
set_option linter.unusedSimpArgs false
set_option linter.unusedVariables false
open Go.RowKit Go.Shelf
attribute [local go_sem] Oper.semAt_some

abbrev TileT := { l : List ColT // l.length = 64 }
def encT (t : TileT) : List Value := t.1.flatMap encC
theorem encT_len (t : TileT) : (encT t).length = 256 := by unfold encT; rw [flat_length encC_len, t.2]
def zeroC : ColT := ⟨0, 0, 0, 0⟩
/-- What a canvas shows. -/
structure CanT where
 wide : Nat
 high : Nat
 tiles : List TileT
deriving DecidableEq
structure okCan (C : CanT) : Prop where
 wide : 1 ≤ C.wide ∧ C.wide ≤ 4
 high : 1 ≤ C.high ∧ C.high ≤ 4
 many : C.tiles.length = C.wide * C.high
 cols : ∀ t ∈ C.tiles, ∀ c ∈ t.1, okC c
/-- The colour of a pixel. -/
def colC (C : CanT) (x y : Nat) : ColT := (((C.tiles[y / 8 * C.wide + x / 8]?).map (·.1)).bind fun l => l[y % 8 * 8 + x % 8]?).getD zeroC
def colP (C : CanT) (p : PtT) : ColT := colC C p.x.toNat p.y.toNat
theorem tile_lt {wide high x y : Nat} (hx : x < 8 * wide) (hy : y < 8 * high) : y / 8 * wide + x / 8 < wide * high := by
 have h1 : x / 8 < wide := by omega
 have h2 : y / 8 + 1 ≤ high := by omega
 calc y / 8 * wide + x / 8 < y / 8 * wide + wide := by omega
  _ = (y / 8 + 1) * wide := by rw [Nat.add_mul, Nat.one_mul]
  _ ≤ high * wide := Nat.mul_le_mul_right _ h2
  _ = wide * high := Nat.mul_comm _ _
theorem okCan.len {C : CanT} (h : okCan C) : C.tiles.length ≤ 16 := by
 rw [h.many]
 calc C.wide * C.high ≤ 4 * 4 := Nat.mul_le_mul h.wide.2 h.high.2
  _ = 16 := rfl
theorem okCan.tile {C : CanT} (h : okCan C) {x y : Nat} (hx : x < 8 * C.wide) (hy : y < 8 * C.high) : ∃ t, C.tiles[y / 8 * C.wide + x / 8]? = some t ∧ t.1[y % 8 * 8 + x % 8]? = some (colC C x y) ∧ okC (colC C x y) := by
 have h1 := tile_lt hx hy
 rw [← h.many] at h1
 have h2 : y % 8 * 8 + x % 8 < 64 := by omega
 have h3 : y % 8 * 8 + x % 8 < (C.tiles[y / 8 * C.wide + x / 8]).1.length := by rw [(C.tiles[y / 8 * C.wide + x / 8]).2]; exact h2
 have e : colC C x y = (C.tiles[y / 8 * C.wide + x / 8]).1[y % 8 * 8 + x % 8] := by
  unfold colC
  rw [List.getElem?_eq_getElem h1]
  simp only [Option.map_some, Option.bind_some]
  rw [List.getElem?_eq_getElem h3]
  rfl
 rw [e]
 exact ⟨_, List.getElem?_eq_getElem h1, List.getElem?_eq_getElem h3, h.cols _ (List.getElem_mem _) _ (List.getElem_mem _)⟩

/-- An argument that is what a canvas shows. -/
def CanV (w : World) (C : CanT) (v : Value) : Prop := ∃ a cap, v = .agg #[.int .i64 C.wide, .int .i64 C.high, .slice a C.tiles.length cap] ∧ C.tiles.length ≤ cap ∧ Elems w (.slice a C.tiles.length cap) C.tiles.length 256 (rowC encT C.tiles)
theorem CanV.below {w w' : World} {C : CanT} {v : Value} (h : CanV w C v) (hb : Below w.heap.size w w') : CanV w' C v := by
 obtain ⟨a, cap, h1, h2, h3⟩ := h
 exact ⟨a, cap, h1, h2, h3.below hb⟩
/-- A canvas in memory. -/
structure CanAt (w : World) (p : Nat) (C : CanT) : Prop where
 ok : okCan C
 ex : ∃ (b cap : Nat) (qs : List Nat), w.heap[p]? = some (Obj.cells #[.int .i64 C.wide, .int .i64 C.high, .slice (some ⟨b, 0, none⟩) C.tiles.length cap] 109 (0, 0)) ∧ C.tiles.length ≤ cap ∧ qs.length = C.tiles.length ∧
  (∀ (i q : Nat), qs[i]? = some q → w.cell? ⟨b, i, none⟩ = some (.pointer (some ⟨q, 0, none⟩))) ∧ ∀ (i q : Nat) (t : TileT), qs[i]? = some q → C.tiles[i]? = some t → w.heap[q]? = some (Obj.cells (encT t).toArray 74 (0, 0))
theorem CanAt.below {w w' : World} {p : Nat} {C : CanT} (h : CanAt w p C) (hb : Below w.heap.size w w') : CanAt w' p C := by
 obtain ⟨ok, b, cap, qs, h1, h2, h3, h4, h5⟩ := h
 refine ⟨ok, b, cap, qs, (hb.block p (block_lt h1)).trans h1, h2, h3, fun i q hq => ?_, fun i q t hq ht => (hb.block q (block_lt (h5 i q t hq ht))).trans (h5 i q t hq ht)⟩
 have h6 := h4 i q hq
 exact (hb.cell (p := ⟨b, i, none⟩) (cell_lt h6)).trans h6
theorem CanAt.lt {w : World} {p : Nat} {C : CanT} (h : CanAt w p C) : p < w.heap.size := by
 obtain ⟨ok, b, cap, qs, h1, -⟩ := h
 exact block_lt h1

/-! ### The document's -/
set_option maxRecDepth 100000 in
set_option maxHeartbeats 1000000 in
theorem refSizes_any (C : CanT) (hC : okCan C) (v : Value) (w : World) (hv : CanV w C v) : Calls Try.prog 37 #[v] w (Gives (.tuple #[.int .i64 (8 * (C.wide : Int)), .int .i64 (8 * (C.high : Int))]) w) := by
 obtain ⟨a, cap, rfl, -, -⟩ := hv
 have HW := Lib.hid (And.intro hC.wide hC.high)
 obtain ⟨wide, high, tiles⟩ := C
 simp only at *
 clear hC
 have e1 : wrap64 (8 * (wide : Int)) = 8 * (wide : Int) := by have := HW.out; unfold wrap64; omega
 have e2 : wrap64 (8 * (high : Int)) = ((8 * (high : Int)) : Int) := by have := HW.out; unfold wrap64; omega
 obtain ⟨n, hn⟩ : ∃ n, tiles.length = n := ⟨_, rfl⟩
 rw [hn]
 clear hn
 have HS := Lib.hid (St.start w)
 refine (callsIn_wide (n := 10)).1 ?_
 refine callsIn_of_wp Try.func37 rfl trivial ?_ rfl
 simp only [Try.ntmps37, List.size_toArray, List.length_cons, List.length_nil, Nat.reduceAdd, Nat.reduceSub, Array.replicate_succ, Array.replicate_zero, List.push_toArray, List.append_toArray, List.nil_append, List.cons_append]
 repeat ((fail_if_success (with_reducible refine stop_atI (id := 1) ?_)); (first | go_values | gi_guarded | gi_step | gi_upon | gi_back | (simp only [Int.not_lt, Int.not_le] at *; go_simp) | (go_values <;> (try go_simp)) | (go_ite <;> go_prune <;> (try go_simp)) | (split <;> (first | (rename_i hx; exact (hx _ rfl).elim) | go_prune))))
 have hs_ := (HS.out.alloc (.cells #[.int .i64 wide, .int .i64 high, .slice a n cap] 24))
 obtain ⟨w1, hw_⟩ : ∃ w1 : World, (w.alloc (.cells #[.int .i64 wide, .int .i64 high, .slice a n cap] 24)) = w1 := ⟨_, rfl⟩
 rw [hw_] at hs_
 try simp only [World.size_alloc] at hs_
 have HS := Lib.hid hs_
 rw [hw_]
 clear hw_ hs_
 apply wp_region_vals 8 (Rl := [(eqv _), (eqv _), (eqv _), (eqv _), (eqv _), (eqv _), (eqv _), (eqv _)]) (C := (fun x y => Below x.heap.size x y))
 case hm => kernel_rfl
 case hk => rfl
 case hCr => exact (fun _ => Below.refl _ _)
 case hCt => intro _ _ _; exact (fun h k => grows_trans h k)
 case hst => exact ⟨fun _ _ _ _ h => h, fun _ _ _ _ h => h, fun _ _ _ _ h => h, fun _ _ _ _ h => h, fun _ _ _ _ h => h, fun _ _ _ _ h => h, fun _ _ _ _ h => h, fun _ _ _ _ h => h, trivial⟩
 case hfo => kernel_rfl
 case ht => kernel_rfl
 case hC0 => exact (grows_drew _)
 case hsteps =>
  refine ⟨?_, ?_, ?_, ?_, ?_, ?_, ?_, ?_, trivial⟩
  · intro a' w' hA hC hD; have s1 : a'.tmps[1]? = some _ := (hA.at 1 (by kernel_rfl)).trans rfl; clear hA hD; refine stepOk_plain rfl ?_; intro K hK; gi_wp2; exact hK _ _ rfl ((fun _ => Below.refl _ _) _)
  · intro a' w' hA hC hD; obtain ⟨u4, s4, r4⟩ := hD ⟨0, .data⟩ (by simp) rfl _ rfl; replace r4 : u4 = _ := r4; subst r4
    have h1_ := (HS.out.below hC).blockAt 0 rfl; have c1_0 := cell_of_block (k := 0) h1_ rfl; clear h1_
    clear hA hD; refine stepOk_plain rfl ?_; intro K hK; gi_wp2; exact hK _ _ rfl ((fun _ => Below.refl _ _) _)
  · intro a' w' hA hC hD; obtain ⟨u5, s5, r5⟩ := hD ⟨1, .data⟩ (by simp) rfl _ rfl; replace r5 : u5 = _ := r5; subst r5; clear hA hD; refine stepOk_plain rfl ?_; intro K hK; gi_wp2; exact hK _ _ rfl ((fun _ => Below.refl _ _) _)
  · intro a' w' hA hC hD; have s1 : a'.tmps[1]? = some _ := (hA.at 1 (by kernel_rfl)).trans rfl; clear hA hD; refine stepOk_plain rfl ?_; intro K hK; gi_wp2; exact hK _ _ rfl ((fun _ => Below.refl _ _) _)
  · intro a' w' hA hC hD; obtain ⟨u7, s7, r7⟩ := hD ⟨3, .data⟩ (by simp) rfl _ rfl; replace r7 : u7 = _ := r7; subst r7
    have h1_ := (HS.out.below hC).blockAt 0 rfl; have c1_0 := cell_of_block (k := 0) h1_ rfl; have c1_1 := cell_of_block (k := 1) h1_ rfl; clear h1_
    clear hA hD; refine stepOk_plain rfl ?_; intro K hK; gi_wp2; exact hK _ _ rfl ((fun _ => Below.refl _ _) _)
  · intro a' w' hA hC hD; obtain ⟨u8, s8, r8⟩ := hD ⟨4, .data⟩ (by simp) rfl _ rfl; replace r8 : u8 = _ := r8; subst r8; clear hA hD; refine stepOk_plain rfl ?_; intro K hK; gi_wp2; exact hK _ _ rfl ((fun _ => Below.refl _ _) _)
  · intro a' w' hA hC hD; obtain ⟨u6, s6, r6⟩ := hD ⟨2, .data⟩ (by simp) rfl _ rfl; replace r6 : u6 = _ := r6; subst r6; clear hA hD; refine stepOk_plain rfl ?_; intro K hK; gi_wp2; exact hK _ _ rfl ((fun _ => Below.refl _ _) _)
  · intro a' w' hA hC hD; obtain ⟨u9, s9, r9⟩ := hD ⟨5, .data⟩ (by simp) rfl _ rfl; replace r9 : u9 = _ := r9; subst r9; clear hA hD; refine stepOk_plain rfl ?_; intro K hK; gi_wp2; exact hK _ _ rfl ((fun _ => Below.refl _ _) _)
 case hend =>
  intro w3 hC
  simp only [EndFrom, eqv, forall_eq, Act.put, List.length_cons, List.length_nil, List.drop_succ_cons, List.drop_zero, Nat.reduceAdd, List.setIfInBounds_toArray, List.set_cons_succ, List.set_cons_zero]
  have HS := Lib.hid (HS.out.below hC)
  clear hC
  gi_wp2
  refine bodyPost_ret (v := .tuple #[.int .i64 (8 * (wide : Int)), .int .i64 (8 * (high : Int))]) (by simp [results, Try.results37, go_sem]) rfl ⟨rfl, HS.out.low⟩

set_option maxRecDepth 100000 in
set_option maxHeartbeats 2000000 in
theorem refOn_any (C : CanT) (hC : okCan C) (v : Value) (p : PtT) (w : World) (hv : CanV w C v) : Calls Try.prog 10 #[v, p.val] w (Gives (.bool (onB (8 * (C.wide : Int)) (8 * (C.high : Int)) p)) w) := by
 have HZ := Lib.hid (fun w' h => refSizes_any C hC v w' h)
 have HS := Lib.hid (St.start w)
 have HV := Lib.hid hv
 obtain ⟨a, cap, rfl, -, -⟩ := hv
 obtain ⟨wide, high, tiles⟩ := C
 simp only at *
 obtain ⟨n, hn⟩ : ∃ n, tiles.length = n := ⟨_, rfl⟩
 rw [hn] at HZ HV ⊢
 clear hn
 obtain ⟨W, hW⟩ : ∃ W : Int, 8 * (wide : Int) = W := ⟨_, rfl⟩
 obtain ⟨H, hH⟩ : ∃ H : Int, 8 * (high : Int) = H := ⟨_, rfl⟩
 rw [hW, hH] at HZ ⊢
 clear hC hW hH
 obtain ⟨x, y⟩ := p
 unfold PtT.val onB
 simp only
 by_cases h1 : 0 ≤ x <;> by_cases h2 : x < W <;> by_cases h3 : 0 ≤ y <;> by_cases h4 : y < H <;> (
  go_enter Try.func10, Try.ntmps10
  repeat ((fail_if_success (with_reducible refine stop_at (id := 1) ?_)); (first | go_values | go_skip | go_guarded | go_step | go_upon | go_back | (simp only [Int.not_lt, Int.not_le] at *; go_simp) | (go_values <;> (try go_simp)) | (go_ite <;> go_prune <;> (try go_simp)) | (split <;> (first | (rename_i hx; exact (hx _ rfl).elim) | go_prune))))
  have hs_ := ((HS.out.alloc (.cells #[.int .i64 wide, .int .i64 high, .slice a n cap] 24)).alloc (.cells #[.int .i64 x, .int .i64 y] 41))
  obtain ⟨w1, hw_⟩ : ∃ w1 : World, ((w.alloc (.cells #[.int .i64 wide, .int .i64 high, .slice a n cap] 24)).alloc (.cells #[.int .i64 x, .int .i64 y] 41)) = w1 := ⟨_, rfl⟩
  rw [hw_] at hs_
  try simp only [World.size_alloc] at hs_
  have HS := Lib.hid hs_
  rw [hw_]
  clear hw_ hs_
  have q0 := cell_of_block (k := 0) (HS.out.blockAt 1 rfl) rfl
  have q1 := cell_of_block (k := 1) (HS.out.blockAt 1 rfl) rfl
  have q2 := cell_of_block (k := 2) (HS.out.blockAt 1 rfl) rfl
  go_wp2_with fail
  refine (HZ.out _ (HV.out.below HS.out.low)).mono ?_
  rintro e w2 ⟨rfl, hb_⟩
  have HS := Lib.hid (HS.out.below hb_)
  clear hb_
  have p0 := cell_of_block (k := 0) (HS.out.blockAt 0 rfl) rfl
  have p1 := cell_of_block (k := 1) (HS.out.blockAt 0 rfl) rfl
  clear q0 q1 q2
  go_wp2_with fail
  go_ret
  exact ⟨ret_bool (by symm; simp [h1, h2, h3, h4]), HS.out.low⟩)

/-- The cells of a pixel. -/
theorem pixCells {C : CanT} (hC : okCan C) {w : World} {b off cap : Nat} (he : Elems w (.slice (some ⟨b, off, none⟩) C.tiles.length cap) C.tiles.length 256 (rowC encT C.tiles)) {x y : Nat} (hx : x < 8 * C.wide) (hy : y < 8 * C.high) :
 ∀ r v, (encC (colC C x y))[r]? = some v → w.cell? ⟨b, off + (y / 8 * C.wide + x / 8) * 256 + (y % 8 * 8 + x % 8) * 4 + r, none⟩ = some v := by
 intro r v hv
 obtain ⟨t, ht, hc, -⟩ := hC.tile hx hy
 have hr : r < 4 := (List.getElem?_eq_some_iff.1 hv).1
 rcases he with ⟨e, h⟩ | ⟨b', off', cap', e, -, hcs⟩
 · cases e
 · cases e
   have hk : y % 8 * 8 + x % 8 < 64 := by omega
   have hi := (List.getElem?_eq_some_iff.1 ht).1
   have h1 := hcs ((y / 8 * C.wide + x / 8) * 256 + ((y % 8 * 8 + x % 8) * 4 + r)) (by omega)
   unfold rowC at h1
   rw [flat_get encT_len C.tiles _ _ (by omega), ht] at h1
   simp only [Option.bind_some] at h1
   unfold encT at h1
   rw [flat_get encC_len t.1 _ r hr, hc] at h1
   simp only [Option.bind_some] at h1
   rw [hv] at h1
   rw [show off + (y / 8 * C.wide + x / 8) * 256 + (y % 8 * 8 + x % 8) * 4 + r = off + ((y / 8 * C.wide + x / 8) * 256 + ((y % 8 * 8 + x % 8) * 4 + r)) by omega]
   exact h1

theorem at_nums {x y wide high qy qx m i j : Nat} (hqy : y / 8 = qy) (hqx : x / 8 = qx) (hm : qy * wide = m) (hi : m + qx = i) (hj : y % 8 * 8 + x % 8 = j) (hx : x < 8 * wide) (hy : y < 8 * high) (hw : wide ≤ 4) (hh : high ≤ 4) :
 wrap64 ((y : Int) / 8) = (qy : Int) ∧ wrap64 ((qy : Int) * wide) = (m : Int) ∧ wrap64 ((x : Int) / 8) = (qx : Int) ∧ wrap64 ((m : Int) + qx) = (i : Int) ∧ ((y : Int) % 8 * 8 + (x : Int) % 8).toNat = j := by
 have hq : qy ≤ 4 := by omega
 have h3 : m ≤ 4 * 4 := by rw [← hm]; exact Nat.mul_le_mul hq hw
 have h4 : (qy : Int) * (wide : Int) = (m : Int) := by rw [← hm, Int.natCast_mul]
 rw [h4]
 clear h4 hm
 refine ⟨?_, ?_, ?_, ?_, ?_⟩
 · unfold wrap64; omega
 · unfold wrap64; omega
 · unfold wrap64; omega
 · unfold wrap64; omega
 · omega
set_option maxRecDepth 100000 in
set_option maxHeartbeats 2000000 in
theorem refAt_any (C : CanT) (hC : okCan C) (v : Value) (x y : Nat) (hx : x < 8 * C.wide) (hy : y < 8 * C.high) (w : World) (hv : CanV w C v) : Calls Try.prog 41 #[v, .agg #[.int .i64 x, .int .i64 y]] w (Gives (colC C x y).val w) := by
 have HS := Lib.hid (St.start w)
 have HV := Lib.hid hv
 obtain ⟨a, cap, rfl, hcap, he⟩ := hv
 have hlt := tile_lt hx hy
 rw [← hC.many] at hlt
 obtain ⟨b, off, rfl⟩ : ∃ b off, a = some ⟨b, off, none⟩ := by
  rcases he with ⟨e, h⟩ | ⟨b, off, cap', e, -, -⟩
  · omega
  · cases e; exact ⟨b, off, rfl⟩
 have HP := Lib.hid (fun (w' : World) h => pixCells (w := w') (b := b) (off := off) (cap := cap) hC h hx hy)
 have HE := Lib.hid he
 have HB := Lib.hid (And.intro hC.wide (And.intro hC.high hC.len))
 have HXY := Lib.hid (And.intro hx hy)
 have HL := Lib.hid hlt
 obtain ⟨c, hc⟩ : ∃ c, colC C x y = c := ⟨_, rfl⟩
 rw [hc] at HP ⊢
 obtain ⟨wide, high, tiles⟩ := C
 simp only at *
 obtain ⟨n, hn⟩ : ∃ n, tiles.length = n := ⟨_, rfl⟩
 obtain ⟨f, hf⟩ : ∃ f, rowC encT tiles = f := ⟨_, rfl⟩
 rw [hn, hf] at HP HE
 rw [hn] at HL HB ⊢
 clear hC hc hn hf hlt hx hy he hcap HV
 obtain ⟨r, g, b', a'⟩ := c
 unfold ColT.val
 refine (callsIn_wide (n := 10)).1 ?_
 refine callsIn_of_wp Try.func41 rfl trivial ?_ rfl
 simp only [Try.ntmps41, List.size_toArray, List.length_cons, List.length_nil, Nat.reduceAdd, Nat.reduceSub, Array.replicate_succ, Array.replicate_zero, List.push_toArray, List.append_toArray, List.nil_append, List.cons_append]
 repeat ((fail_if_success (with_reducible refine stop_atI (id := 1) ?_)); (first | go_values | gi_guarded | gi_step | gi_upon | gi_back | (simp only [Int.not_lt, Int.not_le] at *; go_simp) | (go_values <;> (try go_simp)) | (go_ite <;> go_prune <;> (try go_simp)) | (split <;> (first | (rename_i hx; exact (hx _ rfl).elim) | go_prune))))
 have hs_ := (((HS.out.alloc (.cells #[.int .i64 wide, .int .i64 high, .slice (some ⟨b, off, none⟩) n cap] 24)).alloc (.cells #[.int .i64 x, .int .i64 y] 41)).alloc (.cells #[.int .u8 0, .int .u8 0, .int .u8 0, .int .u8 0] 55))
 obtain ⟨w1, hw_⟩ : ∃ w1 : World, (((w.alloc (.cells #[.int .i64 wide, .int .i64 high, .slice (some ⟨b, off, none⟩) n cap] 24)).alloc (.cells #[.int .i64 x, .int .i64 y] 41)).alloc (.cells #[.int .u8 0, .int .u8 0, .int .u8 0, .int .u8 0] 55)) = w1 := ⟨_, rfl⟩
 rw [hw_] at hs_
 try simp only [World.size_alloc] at hs_
 have HS := Lib.hid hs_
 rw [hw_]
 clear hw_ hs_
 obtain ⟨qy, hqy⟩ : ∃ qy, y / 8 = qy := ⟨_, rfl⟩
 obtain ⟨qx, hqx⟩ : ∃ qx, x / 8 = qx := ⟨_, rfl⟩
 obtain ⟨m, hm⟩ : ∃ m, qy * wide = m := ⟨_, rfl⟩
 obtain ⟨i, hi⟩ : ∃ i, m + qx = i := ⟨_, rfl⟩
 obtain ⟨j, hj⟩ : ∃ j, y % 8 * 8 + x % 8 = j := ⟨_, rfl⟩
 rw [hqy, hqx, hm, hi] at HL
 rw [hqy, hqx, hm, hi, hj] at HP
 obtain ⟨e1, e2, e3, e4, e5⟩ := at_nums hqy hqx hm hi hj HXY.out.1 HXY.out.2 HB.out.1.2 HB.out.2.1.2
 have hin : i < n := HL.out
 obtain ⟨i2, hi2⟩ : ∃ i2, i * 256 = i2 := ⟨_, rfl⟩
 obtain ⟨j2, hj2⟩ : ∃ j2, j * 4 = j2 := ⟨_, rfl⟩
 rw [hi2, hj2] at HP
 clear hqy hqx hm hi hj
 apply wp_region_vals 23 (Rl := [(eqv _), (eqv _), (eqv _), (eqv _), (eqv _), (eqv _), (eqv _), (eqv _), (eqv _), (eqv _), (eqv _), (eqv _), (eqv _), (eqv _), (eqv _), (eqv _), (eqv _), (eqv _), (eqv _), (eqv _), (eqv _), (eqv _), (eqv _)]) (C := (fun x y => Below x.heap.size x y))
 case hm => kernel_rfl
 case hk => rfl
 case hCr => exact (fun _ => Below.refl _ _)
 case hCt => intro _ _ _; exact (fun h k => grows_trans h k)
 case hst => exact ⟨fun _ _ _ _ h => h, fun _ _ _ _ h => h, fun _ _ _ _ h => h, fun _ _ _ _ h => h, fun _ _ _ _ h => h, fun _ _ _ _ h => h, fun _ _ _ _ h => h, fun _ _ _ _ h => h, fun _ _ _ _ h => h, fun _ _ _ _ h => h, fun _ _ _ _ h => h, fun _ _ _ _ h => h, fun _ _ _ _ h => h, fun _ _ _ _ h => h, fun _ _ _ _ h => h, fun _ _ _ _ h => h, fun _ _ _ _ h => h, fun _ _ _ _ h => h, fun _ _ _ _ h => h, fun _ _ _ _ h => h, fun _ _ _ _ h => h, fun _ _ _ _ h => h, fun _ _ _ _ h => h, trivial⟩
 case hfo => kernel_rfl
 case ht => kernel_rfl
 case hC0 => exact (grows_drew _)
 case hsteps =>
  refine ⟨?_, ?_, ?_, ?_, ?_, ?_, ?_, ?_, ?_, ?_, ?_, ?_, ?_, ?_, ?_, ?_, ?_, ?_, ?_, ?_, ?_, ?_, ?_, trivial⟩
  · intro a' w' hA hC hD; have s2 : a'.tmps[2]? = some _ := (hA.at 2 (by kernel_rfl)).trans rfl; clear hA hD; refine stepOk_plain rfl ?_; intro K hK; gi_wp2; exact hK _ _ rfl ((fun _ => Below.refl _ _) _)
  · intro a' w' hA hC hD; obtain ⟨u5, s5, r5⟩ := hD ⟨0, .data⟩ (by simp) rfl _ rfl; replace r5 : u5 = _ := r5; subst r5
    have h1_ := (HS.out.below hC).blockAt 2 rfl; have c1_0 := cell_of_block (k := 0) h1_ rfl; have c1_1 := cell_of_block (k := 1) h1_ rfl; have c1_2 := cell_of_block (k := 2) h1_ rfl; clear h1_
    clear hA hD; refine stepOk_plain rfl ?_; intro K hK; gi_wp2; exact hK _ _ rfl ((fun _ => Below.refl _ _) _)
  · intro a' w' hA hC hD; have s3 : a'.tmps[3]? = some _ := (hA.at 3 (by kernel_rfl)).trans rfl; clear hA hD; refine stepOk_plain rfl ?_; intro K hK; gi_wp2; exact hK _ _ rfl ((fun _ => Below.refl _ _) _)
  · intro a' w' hA hC hD; obtain ⟨u7, s7, r7⟩ := hD ⟨2, .data⟩ (by simp) rfl _ rfl; replace r7 : u7 = _ := r7; subst r7
    have h1_ := (HS.out.below hC).blockAt 1 rfl; have c1_0 := cell_of_block (k := 0) h1_ rfl; have c1_1 := cell_of_block (k := 1) h1_ rfl; clear h1_
    clear hA hD; refine stepOk_plain rfl ?_; intro K hK; gi_wp2; exact hK _ _ rfl ((fun _ => Below.refl _ _) _)
  · intro a' w' hA hC hD; obtain ⟨u8, s8, r8⟩ := hD ⟨3, .data⟩ (by simp) rfl _ rfl; replace r8 : u8 = _ := r8; subst r8; clear hA hD; refine stepOk_plain rfl ?_; intro K hK; gi_wp2; exact hK _ _ rfl ((fun _ => Below.refl _ _) _)
  · intro a' w' hA hC hD; have s2 : a'.tmps[2]? = some _ := (hA.at 2 (by kernel_rfl)).trans rfl; clear hA hD; refine stepOk_plain rfl ?_; intro K hK; gi_wp2; exact hK _ _ rfl ((fun _ => Below.refl _ _) _)
  · intro a' w' hA hC hD; obtain ⟨u10, s10, r10⟩ := hD ⟨5, .data⟩ (by simp) rfl _ rfl; replace r10 : u10 = _ := r10; subst r10
    have h1_ := (HS.out.below hC).blockAt 2 rfl; have c1_0 := cell_of_block (k := 0) h1_ rfl; clear h1_
    clear hA hD; refine stepOk_plain rfl ?_; intro K hK; gi_wp2; exact hK _ _ rfl ((fun _ => Below.refl _ _) _)
  · intro a' w' hA hC hD; obtain ⟨u9, s9, r9⟩ := hD ⟨4, .data⟩ (by simp) rfl _ rfl; replace r9 : u9 = _ := r9; subst r9; obtain ⟨u11, s11, r11⟩ := hD ⟨6, .data⟩ (by simp) rfl _ rfl; replace r11 : u11 = _ := r11; subst r11; clear hA hD; refine stepOk_plain rfl ?_; intro K hK; gi_wp2; exact hK _ _ rfl ((fun _ => Below.refl _ _) _)
  · intro a' w' hA hC hD; have s3 : a'.tmps[3]? = some _ := (hA.at 3 (by kernel_rfl)).trans rfl; clear hA hD; refine stepOk_plain rfl ?_; intro K hK; gi_wp2; exact hK _ _ rfl ((fun _ => Below.refl _ _) _)
  · intro a' w' hA hC hD; obtain ⟨u13, s13, r13⟩ := hD ⟨8, .data⟩ (by simp) rfl _ rfl; replace r13 : u13 = _ := r13; subst r13
    have h1_ := (HS.out.below hC).blockAt 1 rfl; have c1_0 := cell_of_block (k := 0) h1_ rfl; clear h1_
    clear hA hD; refine stepOk_plain rfl ?_; intro K hK; gi_wp2; exact hK _ _ rfl ((fun _ => Below.refl _ _) _)
  · intro a' w' hA hC hD; obtain ⟨u14, s14, r14⟩ := hD ⟨9, .data⟩ (by simp) rfl _ rfl; replace r14 : u14 = _ := r14; subst r14; clear hA hD; refine stepOk_plain rfl ?_; intro K hK; gi_wp2; exact hK _ _ rfl ((fun _ => Below.refl _ _) _)
  · intro a' w' hA hC hD; obtain ⟨u12, s12, r12⟩ := hD ⟨7, .data⟩ (by simp) rfl _ rfl; replace r12 : u12 = _ := r12; subst r12; obtain ⟨u15, s15, r15⟩ := hD ⟨10, .data⟩ (by simp) rfl _ rfl; replace r15 : u15 = _ := r15; subst r15; clear hA hD; refine stepOk_plain rfl ?_; intro K hK; gi_wp2; exact hK _ _ rfl ((fun _ => Below.refl _ _) _)
  · intro a' w' hA hC hD; have s3 : a'.tmps[3]? = some _ := (hA.at 3 (by kernel_rfl)).trans rfl; clear hA hD; refine stepOk_plain rfl ?_; intro K hK; gi_wp2; exact hK _ _ rfl ((fun _ => Below.refl _ _) _)
  · intro a' w' hA hC hD; obtain ⟨u17, s17, r17⟩ := hD ⟨12, .data⟩ (by simp) rfl _ rfl; replace r17 : u17 = _ := r17; subst r17
    have h1_ := (HS.out.below hC).blockAt 1 rfl; have c1_0 := cell_of_block (k := 0) h1_ rfl; have c1_1 := cell_of_block (k := 1) h1_ rfl; clear h1_
    clear hA hD; refine stepOk_plain rfl ?_; intro K hK; gi_wp2; exact hK _ _ rfl ((fun _ => Below.refl _ _) _)
  · intro a' w' hA hC hD; obtain ⟨u18, s18, r18⟩ := hD ⟨13, .data⟩ (by simp) rfl _ rfl; replace r18 : u18 = _ := r18; subst r18; clear hA hD; refine stepOk_plain rfl ?_; intro K hK; gi_wp2; exact hK _ _ rfl ((fun _ => Below.refl _ _) _)
  · intro a' w' hA hC hD; obtain ⟨u19, s19, r19⟩ := hD ⟨14, .data⟩ (by simp) rfl _ rfl; replace r19 : u19 = _ := r19; subst r19; clear hA hD; refine stepOk_plain rfl ?_; intro K hK; gi_wp2; exact hK _ _ rfl ((fun _ => Below.refl _ _) _)
  · intro a' w' hA hC hD; have s3 : a'.tmps[3]? = some _ := (hA.at 3 (by kernel_rfl)).trans rfl; clear hA hD; refine stepOk_plain rfl ?_; intro K hK; gi_wp2; exact hK _ _ rfl ((fun _ => Below.refl _ _) _)
  · intro a' w' hA hC hD; obtain ⟨u21, s21, r21⟩ := hD ⟨16, .data⟩ (by simp) rfl _ rfl; replace r21 : u21 = _ := r21; subst r21
    have h1_ := (HS.out.below hC).blockAt 1 rfl; have c1_0 := cell_of_block (k := 0) h1_ rfl; clear h1_
    clear hA hD; refine stepOk_plain rfl ?_; intro K hK; gi_wp2; exact hK _ _ rfl ((fun _ => Below.refl _ _) _)
  · intro a' w' hA hC hD; obtain ⟨u22, s22, r22⟩ := hD ⟨17, .data⟩ (by simp) rfl _ rfl; replace r22 : u22 = _ := r22; subst r22; clear hA hD; refine stepOk_plain rfl ?_; intro K hK; gi_wp2; exact hK _ _ rfl ((fun _ => Below.refl _ _) _)
  · intro a' w' hA hC hD; obtain ⟨u20, s20, r20⟩ := hD ⟨15, .data⟩ (by simp) rfl _ rfl; replace r20 : u20 = _ := r20; subst r20; obtain ⟨u23, s23, r23⟩ := hD ⟨18, .data⟩ (by simp) rfl _ rfl; replace r23 : u23 = _ := r23; subst r23; clear hA hD; refine stepOk_plain rfl ?_; intro K hK; gi_wp2; exact hK _ _ rfl ((fun _ => Below.refl _ _) _)
  · intro a' w' hA hC hD; obtain ⟨u6, s6, r6⟩ := hD ⟨1, .data⟩ (by simp) rfl _ rfl; replace r6 : u6 = _ := r6; subst r6; obtain ⟨u16, s16, r16⟩ := hD ⟨11, .data⟩ (by simp) rfl _ rfl; replace r16 : u16 = _ := r16; subst r16; clear hA hD; refine stepOk_plain rfl ?_; intro K hK; gi_wp2; exact hK _ _ rfl ((fun _ => Below.refl _ _) _)
  · intro a' w' hA hC hD; obtain ⟨u25, s25, r25⟩ := hD ⟨20, .data⟩ (by simp) rfl _ rfl; replace r25 : u25 = _ := r25; subst r25; obtain ⟨u24, s24, r24⟩ := hD ⟨19, .data⟩ (by simp) rfl _ rfl; replace r24 : u24 = _ := r24; subst r24; clear hA hD; refine stepOk_plain rfl ?_; intro K hK; gi_wp2; exact hK _ _ rfl ((fun _ => Below.refl _ _) _)
  · intro a' w' hA hC hD; obtain ⟨u26, s26, r26⟩ := hD ⟨21, .data⟩ (by simp) rfl _ rfl; replace r26 : u26 = _ := r26; subst r26
    have c0 := HP.out _ (HE.out.below (HS.out.below hC).low) 0 _ rfl; have c1 := HP.out _ (HE.out.below (HS.out.below hC).low) 1 _ rfl; have c2 := HP.out _ (HE.out.below (HS.out.below hC).low) 2 _ rfl; have c3 := HP.out _ (HE.out.below (HS.out.below hC).low) 3 _ rfl; rw [Nat.add_zero] at c0
    clear hA hD; refine stepOk_plain rfl ?_; intro K hK; gi_wp2; exact hK _ _ rfl ((fun _ => Below.refl _ _) _)
 case hend =>
  intro w3 hC
  simp only [EndFrom, eqv, forall_eq, Act.put, List.length_cons, List.length_nil, List.drop_succ_cons, List.drop_zero, Nat.reduceAdd, List.setIfInBounds_toArray, List.set_cons_succ, List.set_cons_zero]
  have HS := Lib.hid (HS.out.below hC)
  clear hC
  have k0 := cell_of_block (k := 0) (HS.out.blockAt 0 rfl) rfl
  have k1 := cell_of_block (k := 1) (HS.out.blockAt 0 rfl) rfl
  have k2 := cell_of_block (k := 2) (HS.out.blockAt 0 rfl) rfl
  have k3 := cell_of_block (k := 3) (HS.out.blockAt 0 rfl) rfl
  have f0 := free_of_block (HS.out.blockAt 0 rfl)
  gi_wp2
  refine bodyPost_ret (v := .agg #[.int .u8 r, .int .u8 g, .int .u8 b', .int .u8 a']) (by simp [results, Try.results41, go_sem, k0, k1, k2, k3]) rfl ⟨rfl, ?_⟩
  have h0 := HS.out.low
  (repeat (first | exact Below.refl _ _ | assumption | refine Below.alloc ?_ (by first | omega | (simp; done) | (simp; omega)) _ | refine Below.setCell ?_ (by first | omega | (simp; done) | (simp; omega)) _ | refine Below.drew ?_))
end Go.Proofs.Ytodpkgbpcpfamaa

/- Layer 8's rows: a canvas as an argument. -/
namespace Go.Proofs.Ytodpkgbpcpfamaa
set_option linter.unusedSimpArgs false
set_option linter.unusedVariables false
open Go.ChangeShapes Go.WideShapes Go.ChangeAt Go.RowKit Go.Deep

theorem bounds_u8 {n : Int} (h : (Lit.int .u8 n).wf = true) : 0 ≤ n ∧ n < 256 := by
 simp only [Lit.wf, Bool.and_eq_true, decide_eq_true_eq] at h
 have h1 : IntKind.min .u8 = 0 := by decide
 have h2 : IntKind.max .u8 = 255 := by decide
 omega
theorem cols_of : ∀ (m : Nat) (vs : List Value), vs.length = 4 * m → (∀ k, k < 4 * m → ∃ n : Int, vs[k]? = some (.int .u8 n) ∧ 0 ≤ n ∧ n < 256) → ∃ l : List ColT, l.length = m ∧ l.flatMap encC = vs ∧ ∀ c ∈ l, okC c
 | 0, vs, hl, _ => ⟨[], rfl, by
  cases vs with
  | nil => rfl
  | cons a r => simp at hl, by simp⟩
 | m + 1, vs, hl, h => by
  obtain ⟨n0, e0, b0⟩ := h 0 (by omega)
  obtain ⟨n1, e1, b1⟩ := h 1 (by omega)
  obtain ⟨n2, e2, b2⟩ := h 2 (by omega)
  obtain ⟨n3, e3, b3⟩ := h 3 (by omega)
  rcases vs with _ | ⟨c0, _ | ⟨c1, _ | ⟨c2, _ | ⟨c3, r⟩⟩⟩⟩
  · simp at e0
  · simp at e1
  · simp at e2
  · simp at e3
  · simp at e0 e1 e2 e3
    subst e0 e1 e2 e3
    obtain ⟨l, h1, h2, h3⟩ := cols_of m r (by simp at hl; omega) fun k hk => by
     obtain ⟨n, e, b⟩ := h (k + 4) (by omega)
     exact ⟨n, by simpa using e, b⟩
    refine ⟨⟨n0, n1, n2, n3⟩ :: l, by simp [h1], by simp [h2, encC], fun c hc => ?_⟩
    rcases List.mem_cons.1 hc with rfl | hc
    · exact ⟨⟨b0, b1⟩, b2, b3⟩
    · exact h3 c hc
theorem leaves_tile (vs : List Value) (hl : vs.length = 256) (h : Leaves (List.replicate 256 (.int .u8)) vs) : ∃ x : TileT, encT x = vs ∧ ∀ c ∈ x.1, okC c := by
 obtain ⟨l, h1, h2, h3⟩ := cols_of 64 vs hl fun k hk => by
  obtain ⟨v, hv, n, rfl, hw⟩ := h k (.int .u8) (by rw [List.getElem?_replicate, if_pos hk])
  exact ⟨n, hv, bounds_u8 hw⟩
 exact ⟨⟨l, h1⟩, h2, h3⟩
theorem flatTile : flat Try.prog 5 74 = some (List.replicate 256 (.int .u8)) := by kernel_rfl
section
variable {H : Type} {enc : TypeId × Value → H} {P : Program} {w : World} {base : Nat} {spare : Nat → Bool} {held : Bool}
theorem field_okWide {r : Reach} {b0 : Nat} {t u e : TypeId} {ts : List TypeId} (ht : P.cellTypes P.depth t = some ts) {cs : Array Value} (h : Row.okWide P w r b0 t cs) {i : Nat} {v : Value} (hv : cs[i]? = some v) (hu : ts[i % ts.length]? = some u) (hs : P.underlying u = some (.slice e)) : Value.okWide P w r b0 u v := by
 obtain ⟨ts', h1, _, h2⟩ := h
 rw [ht] at h1
 cases h1
 obtain ⟨u', h3, h4⟩ := h2 i v hv
 rw [hu] at h3
 cases h3
 unfold Value.okWide
 rw [hs]
 exact h4
end

set_option maxRecDepth 100000 in
theorem open_canvas {H : Type} {enc : TypeId × Value → H} {w : World} {r : Reach} {b0 : Nat} {v : Value} {d : DataW H} {ps : List MemPlace} (hv : Value.okWide Try.prog w r b0 24 v) (h : DataW.Trod enc Try.prog w 0 (fun _ => true) true 24 v d ps) :
 ∃ (wide high : Int) (l : List TileT) (a : Option Addr) (cap : Nat), v = .agg #[.int .i64 wide, .int .i64 high, .slice a l.length cap] ∧ Elems w (.slice a l.length cap) l.length 256 (rowC encT l) ∧ (∀ t ∈ l, ∀ c ∈ t.1, okC c) ∧ l.length ≤ cap ∧ cap ≤ maxLen := by
 have hr := hv
 obtain ⟨x0, x1, x2, y0, y1, y2, m, rfl, -, -, g0, g1, g2⟩ := Joins.open_agg3 Try.underlying24 (by kernel_rfl) (by kernel_rfl) hv h
 obtain ⟨wide, e0, -, -⟩ := DataW.trod_int Try.underlying3 g0
 obtain ⟨high, e1, -, -⟩ := DataW.trod_int Try.underlying3 g1
 simp at e0 e1
 subst e0 e1
 obtain ⟨cs, e, -, hrow⟩ : ∃ cs, Value.agg #[.int .i64 wide, .int .i64 high, x2] = .agg cs ∧ cs.size = Try.prog.cellsOf 24 ∧ Row.okWide Try.prog w r b0 24 cs := by simpa [Value.okWide, Try.underlying24] using hr
 cases e
 have hv2 := field_okWide (ts := [3, 3, 22]) (by kernel_rfl) hrow (i := 2) (v := x2) rfl rfl Try.underlying22
 have h2 : DataW.Trod enc Try.prog w 0 (fun _ => true) true 22 x2 y2.1 y2.2 := ⟨m, by
  rcases slice_okWide Try.underlying22 hv2 with rfl | ⟨_, _, _, rfl, _⟩ <;> exact g2⟩
 obtain ⟨l, a, cap, rfl, he, hg, hmax, hcap⟩ := open_rows (k := 256) Try.underlying22 flatTile (by kernel_rfl) (List.length_replicate ..) encT (fun x : TileT => ∀ c ∈ x.1, okC c) encT_len leaves_tile hv2 h2 (by omega)
 exact ⟨wide, high, l, a, cap, rfl, he, hg, slice_cap Try.underlying22 hv2⟩
end Go.Proofs.Ytodpkgbpcpfamaa
