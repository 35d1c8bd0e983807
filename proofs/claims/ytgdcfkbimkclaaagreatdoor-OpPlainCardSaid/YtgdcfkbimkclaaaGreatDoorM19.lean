/- Merged texts: RedO RowO OpW OpX OpE. -/
import Derived.Test.YtgdcfkbimkclaaaGreatDoorM2
import Derived.Test.YtgdcfkbimkclaaaGreatDoorM18
import Derived.Test.YtgdcfkbimkclaaaGreatDoorTie
import Derived.Test.YtgdcfkbimkclaaaGreatDoorCards
import Derived.Lay
import Derived.LaidMore
import Derived.ChangeMaps5
import Derived.LaidHandle
import Derived.Lib.LaidTab
import Derived.Stop.Joined
import Derived.Test.YtgdcfkbimkclaaaGreatDoorM4
import Derived.Test.YtgdcfkbimkclaaaGreatDoorM17
import Derived.Test.YtgdcfkbimkclaaaGreatDoorM7
set_option linter.unusedSimpArgs false
set_option linter.unusedVariables false
/- What a law of layer 12 is given: its own colour laid. -/
namespace Go.Proofs.YtgdcfkbimkclaaaGreatDoor
open Go.ChangeShapes Go.WideShapes Go.ChangeAt Go.RowKit
def laid3 : List (String × DataW Unit) := [("gesso/gessolaw12.red", Rows.laid_gesso_gessolaw12_red)]
theorem door_met (os : Os) (args : Array Value) : laidMetH Tryz.prog laid3 ((World.doorLaid Tryz.prog 400 os).forCall (fun _ _ => 0) ⟨#[], args, []⟩).memory :=
 laidMetH_of_parts3 (fuel := 8) (laidMet_of_run' 8 (by kernel_rfl) (by kernel_rfl)) (by kernel_rfl) (by kernel_rfl)
theorem take1 {cs : Array Value} {k : Nat} {v : Value} (h : (cs.toList.drop k).take 1 = [v]) : cs[k]? = some v := by
 have h2 := congrArg (fun l => l[0]?) h
 rw [← Array.getElem?_toList]
 simpa [List.getElem?_take, List.getElem?_drop] using h2
set_option maxRecDepth 100000 in
theorem red_of_laid {W : World} (h : laidMetH Tryz.prog laid3 W) : RedO W := by
 rw [MakeChecks.laidMetH_plain _ _ _ (by kernel_rfl)] at h
 obtain ⟨ps, ⟨g0, t0, cs0, f0, p0, q0, hg0, ht0, hv0, hd0, _, _⟩, _, _⟩ := h
 obtain rfl := Option.some.inj ((show Tryz.prog.globalNamed "gesso/gessolaw12.red" = some 0 by kernel_rfl).symm.trans hg0)
 obtain rfl := Option.some.inj ((show (Tryz.prog.globals[0]?).map (·.type) = some 26 by kernel_rfl).symm.trans ht0)
 obtain ⟨xs, m', -, hx, hl, hxl, hf⟩ := DataW.trod_struct Tryz.underlying26 hd0
 have hc1 : Tryz.prog.cellsOf 5 = 1 := by kernel_rfl
 match xs, hxl with
 | [y0, y1, y2, y3], _ =>
  have f0 := hf 0 _ rfl
  have f1 := hf 1 _ rfl
  have f2 := hf 2 _ rfl
  have f3 := hf 3 _ rfl
  simp only [hc1, List.getElem?_cons_zero, List.getElem?_cons_succ] at f0 f1 f2 f3
  obtain ⟨v0, e0, rfl, -⟩ := DataW.trod_int Tryz.underlying5 f0
  obtain ⟨v1, e1, rfl, -⟩ := DataW.trod_int Tryz.underlying5 f1
  obtain ⟨v2, e2, rfl, -⟩ := DataW.trod_int Tryz.underlying5 f2
  obtain ⟨v3, e3, rfl, -⟩ := DataW.trod_int Tryz.underlying5 f3
  have hx2 := congrArg Prod.fst hx
  simp [Rows.laid_gesso_gessolaw12_red] at hx2
  obtain ⟨rfl, rfl, rfl, rfl⟩ := hx2
  obtain ⟨t, f, hh⟩ : ∃ t f, W.heap[0]? = some (.cells cs0 t f) := by
   have hv := hv0
   unfold World.var? at hv
   rw [show Tryz.prog.globalNamed "gesso/gessolaw12.red" = some 0 by kernel_rfl] at hv
   simp only [Option.bind_some] at hv
   split at hv
   · rename_i c t f hh
     cases hv
     exact ⟨t, f, hh⟩
   · cases hv
  exact ⟨c7b hh (take1 (k := 0) e0), c7b hh (take1 (k := 1) e1), c7b hh (take1 (k := 2) e2), c7b hh (take1 (k := 3) e3)⟩
/- Rows: an operation as an argument. -/
theorem flatId : flat Tryz.prog 5 24 = some [.int .u64, .int .i64, .int .u64] := by kernel_rfl
theorem flatInt : flat Tryz.prog 5 3 = some [.int .i64] := by kernel_rfl
theorem cols_leaves (vs : List Value) (hl : vs.length = 4) (h : Leaves (List.replicate 4 (.int .u8)) vs) : ∃ x : ColT, encC x = vs ∧ okC x := by
 obtain ⟨l, h1, h2, h3⟩ := cols_of 1 vs hl fun k hk => by
  obtain ⟨v, hv, n, rfl, hw⟩ := h k (.int .u8) (by rw [List.getElem?_replicate, if_pos (by omega)])
  exact ⟨n, hv, bounds_u8 hw⟩
 match l, h1 with
 | [c], _ => exact ⟨c, by simpa using h2, h3 c (List.mem_singleton.2 rfl)⟩
/-- The numbers of an operation. -/
structure OpWf (o : OpT) : Prop where
 i0 : (Lit.int .u64 o.id.time).wf = true
 i1 : (Lit.int .i64 o.id.site).wf = true
 i2 : (Lit.int .u64 o.id.seq).wf = true
 k : (Lit.int .i64 o.kind).wf = true
 x : (Lit.int .i64 o.x).wf = true
 y : (Lit.int .i64 o.y).wf = true
 x2 : (Lit.int .i64 o.x2).wf = true
 y2 : (Lit.int .i64 o.y2).wf = true
 s : (Lit.int .i64 o.size).wf = true
 sw : (Lit.int .i64 o.sw).wf = true
 sh : (Lit.int .i64 o.sh).wf = true
 t0 : (Lit.int .u64 o.tg.time).wf = true
 t1 : (Lit.int .i64 o.tg.site).wf = true
 t2 : (Lit.int .u64 o.tg.seq).wf = true
/-- The bytes of its colours. -/
structure OpCol (o : OpT) : Prop where
 c : okC o.c
 px : ∀ c ∈ o.px, okC c
set_option maxRecDepth 100000 in
set_option maxHeartbeats 2000000 in
theorem open_op {H : Type} {enc : TypeId × Value → H} {w : World} {r : Reach} {b0 : Nat} {v : Value} {d : DataW H} {ps : List MemPlace} (hv : Value.okWide Tryz.prog w r b0 31 v) (h : DataW.Trod enc Tryz.prog w 0 (fun _ => true) true 31 v d ps) :
 ∃ (o : OpT) (a : Option Addr) (cap : Nat), v = .agg (o.cells (.slice a o.px.length cap)) ∧ PixV o.px (.slice a o.px.length cap) w ∧ OpWf o ∧ OpCol o ∧ o.px.length ≤ maxLen := by
 obtain ⟨fuel, h⟩ := h
 obtain ⟨⟨cs⟩, rfl, hz, hrow⟩ : ∃ cs, v = .agg cs ∧ cs.size = Tryz.prog.cellsOf 31 ∧ Row.okWide Tryz.prog w r b0 31 cs := by simpa [Value.okWide, Tryz.underlying31] using hv
 rw [show Tryz.prog.cellsOf 31 = 19 by kernel_rfl] at hz
 have hz19 : cs.length = 19 := by simpa using hz
 replace h : DataW.trod enc Tryz.prog w 0 (fun _ => true) true fuel 31 cs = some (d, ps) := by simpa [Value.cells] using h
 obtain ⟨xs, n, -, -, -, hxl, hf⟩ := DataW.trod_struct Tryz.underlying31 h
 have hxl10 : xs.length = 10 := hxl
 have hget : ∀ i, i < 10 → ∃ x, xs[i]? = some x := fun i hi => ⟨_, List.getElem?_eq_getElem (by omega)⟩
 obtain ⟨x0, hx0⟩ := hget 0 (by omega)
 have g0 : DataW.trod enc Tryz.prog w 0 (fun _ => true) true n 24 ((cs.drop 0).take (Tryz.prog.cellsOf 24)) = xs[0]? := hf 0 _ rfl
 rw [hx0] at g0
 rw [show Tryz.prog.cellsOf 24 = 3 by kernel_rfl] at g0
 have l0 := leaves_take (open_flat _ _ _ _ _ _ flatId g0).2
 obtain ⟨x1, hx1⟩ := hget 1 (by omega)
 have g1 : DataW.trod enc Tryz.prog w 0 (fun _ => true) true n 3 ((cs.drop 3).take (Tryz.prog.cellsOf 3)) = xs[1]? := hf 1 _ rfl
 rw [hx1] at g1
 rw [show Tryz.prog.cellsOf 3 = 1 by kernel_rfl] at g1
 have l1 := leaves_take (open_flat _ _ _ _ _ _ flatInt g1).2
 obtain ⟨x2, hx2⟩ := hget 2 (by omega)
 have g2 : DataW.trod enc Tryz.prog w 0 (fun _ => true) true n 3 ((cs.drop 4).take (Tryz.prog.cellsOf 3)) = xs[2]? := hf 2 _ rfl
 rw [hx2] at g2
 rw [show Tryz.prog.cellsOf 3 = 1 by kernel_rfl] at g2
 have l2 := leaves_take (open_flat _ _ _ _ _ _ flatInt g2).2
 obtain ⟨x3, hx3⟩ := hget 3 (by omega)
 have g3 : DataW.trod enc Tryz.prog w 0 (fun _ => true) true n 3 ((cs.drop 5).take (Tryz.prog.cellsOf 3)) = xs[3]? := hf 3 _ rfl
 rw [hx3] at g3
 rw [show Tryz.prog.cellsOf 3 = 1 by kernel_rfl] at g3
 have l3 := leaves_take (open_flat _ _ _ _ _ _ flatInt g3).2
 obtain ⟨x4, hx4⟩ := hget 4 (by omega)
 have g4 : DataW.trod enc Tryz.prog w 0 (fun _ => true) true n 3 ((cs.drop 6).take (Tryz.prog.cellsOf 3)) = xs[4]? := hf 4 _ rfl
 rw [hx4] at g4
 rw [show Tryz.prog.cellsOf 3 = 1 by kernel_rfl] at g4
 have l4 := leaves_take (open_flat _ _ _ _ _ _ flatInt g4).2
 obtain ⟨x5, hx5⟩ := hget 5 (by omega)
 have g5 : DataW.trod enc Tryz.prog w 0 (fun _ => true) true n 3 ((cs.drop 7).take (Tryz.prog.cellsOf 3)) = xs[5]? := hf 5 _ rfl
 rw [hx5] at g5
 rw [show Tryz.prog.cellsOf 3 = 1 by kernel_rfl] at g5
 have l5 := leaves_take (open_flat _ _ _ _ _ _ flatInt g5).2
 obtain ⟨x6, hx6⟩ := hget 6 (by omega)
 have g6 : DataW.trod enc Tryz.prog w 0 (fun _ => true) true n 3 ((cs.drop 8).take (Tryz.prog.cellsOf 3)) = xs[6]? := hf 6 _ rfl
 rw [hx6] at g6
 rw [show Tryz.prog.cellsOf 3 = 1 by kernel_rfl] at g6
 have l6 := leaves_take (open_flat _ _ _ _ _ _ flatInt g6).2
 obtain ⟨x7, hx7⟩ := hget 7 (by omega)
 have g7 : DataW.trod enc Tryz.prog w 0 (fun _ => true) true n 26 ((cs.drop 9).take (Tryz.prog.cellsOf 26)) = xs[7]? := hf 7 _ rfl
 rw [hx7] at g7
 rw [show Tryz.prog.cellsOf 26 = 4 by kernel_rfl] at g7
 have l7 := leaves_take (open_flat _ _ _ _ _ _ flatCol g7).2
 obtain ⟨x8, hx8⟩ := hget 8 (by omega)
 have g8 : DataW.trod enc Tryz.prog w 0 (fun _ => true) true n 29 ((cs.drop 13).take (Tryz.prog.cellsOf 29)) = xs[8]? := hf 8 _ rfl
 rw [hx8] at g8
 rw [show Tryz.prog.cellsOf 29 = 3 by kernel_rfl] at g8
 obtain ⟨x9, hx9⟩ := hget 9 (by omega)
 have g9 : DataW.trod enc Tryz.prog w 0 (fun _ => true) true n 24 ((cs.drop 16).take (Tryz.prog.cellsOf 24)) = xs[9]? := hf 9 _ rfl
 rw [hx9] at g9
 rw [show Tryz.prog.cellsOf 24 = 3 by kernel_rfl] at g9
 have l9 := leaves_take (open_flat _ _ _ _ _ _ flatId g9).2
 obtain ⟨ys, m, -, -, -, hyl, hg⟩ := DataW.trod_struct Tryz.underlying29 g8
 have hyl3 : ys.length = 3 := hyl
 have hget3 : ∀ i, i < 3 → ∃ x, ys[i]? = some x := fun i hi => ⟨_, List.getElem?_eq_getElem (by omega)⟩
 obtain ⟨y0, hy0⟩ := hget3 0 (by omega)
 have k0 : DataW.trod enc Tryz.prog w 0 (fun _ => true) true m 3 ((((cs.drop 13).take 3).drop 0).take (Tryz.prog.cellsOf 3)) = ys[0]? := hg 0 _ rfl
 rw [hy0] at k0
 rw [show Tryz.prog.cellsOf 3 = 1 by kernel_rfl] at k0
 have m0 := (open_flat _ _ _ _ _ _ flatInt k0).2 0 (.int .i64) rfl
 obtain ⟨y1, hy1⟩ := hget3 1 (by omega)
 have k1 : DataW.trod enc Tryz.prog w 0 (fun _ => true) true m 3 ((((cs.drop 13).take 3).drop 1).take (Tryz.prog.cellsOf 3)) = ys[1]? := hg 1 _ rfl
 rw [hy1] at k1
 rw [show Tryz.prog.cellsOf 3 = 1 by kernel_rfl] at k1
 have m1 := (open_flat _ _ _ _ _ _ flatInt k1).2 0 (.int .i64) rfl
 obtain ⟨y2, hy2⟩ := hget3 2 (by omega)
 have k2 : DataW.trod enc Tryz.prog w 0 (fun _ => true) true m 27 ((((cs.drop 13).take 3).drop 2).take (Tryz.prog.cellsOf 27)) = ys[2]? := hg 2 _ rfl
 rw [hy2] at k2
 rw [show Tryz.prog.cellsOf 27 = 1 by kernel_rfl] at k2
 obtain ⟨c0, c1, c2, c3, c4, c5, c6, c7, c8, c9, c10, c11, c12, c13, c14, c15, c16, c17, c18, rfl⟩ : ∃ c0 c1 c2 c3 c4 c5 c6 c7 c8 c9 c10 c11 c12 c13 c14 c15 c16 c17 c18, cs = [c0, c1, c2, c3, c4, c5, c6, c7, c8, c9, c10, c11, c12, c13, c14, c15, c16, c17, c18] := by
  rcases cs with _ | ⟨c0, _ | ⟨c1, _ | ⟨c2, _ | ⟨c3, _ | ⟨c4, _ | ⟨c5, _ | ⟨c6, _ | ⟨c7, _ | ⟨c8, _ | ⟨c9, _ | ⟨c10, _ | ⟨c11, _ | ⟨c12, _ | ⟨c13, _ | ⟨c14, _ | ⟨c15, _ | ⟨c16, _ | ⟨c17, _ | ⟨c18, _ | ⟨c19, l_⟩⟩⟩⟩⟩⟩⟩⟩⟩⟩⟩⟩⟩⟩⟩⟩⟩⟩⟩⟩
  all_goals first | (simp at hz19; done) | exact ⟨_, _, _, _, _, _, _, _, _, _, _, _, _, _, _, _, _, _, _, rfl⟩
 obtain ⟨v_, e_, a0, rfl, wa0⟩ := l0 0 (.int .u64) rfl
 obtain rfl : c0 = .int .u64 a0 := by simpa using e_
 clear e_
 obtain ⟨v_, e_, a1, rfl, wa1⟩ := l0 1 (.int .i64) rfl
 obtain rfl : c1 = .int .i64 a1 := by simpa using e_
 clear e_
 obtain ⟨v_, e_, a2, rfl, wa2⟩ := l0 2 (.int .u64) rfl
 obtain rfl : c2 = .int .u64 a2 := by simpa using e_
 clear e_
 obtain ⟨v_, e_, b3, rfl, wb3⟩ := l1 0 (.int .i64) rfl
 obtain rfl : c3 = .int .i64 b3 := by simpa using e_
 clear e_
 obtain ⟨v_, e_, b4, rfl, wb4⟩ := l2 0 (.int .i64) rfl
 obtain rfl : c4 = .int .i64 b4 := by simpa using e_
 clear e_
 obtain ⟨v_, e_, b5, rfl, wb5⟩ := l3 0 (.int .i64) rfl
 obtain rfl : c5 = .int .i64 b5 := by simpa using e_
 clear e_
 obtain ⟨v_, e_, b6, rfl, wb6⟩ := l4 0 (.int .i64) rfl
 obtain rfl : c6 = .int .i64 b6 := by simpa using e_
 clear e_
 obtain ⟨v_, e_, b7, rfl, wb7⟩ := l5 0 (.int .i64) rfl
 obtain rfl : c7 = .int .i64 b7 := by simpa using e_
 clear e_
 obtain ⟨v_, e_, b8, rfl, wb8⟩ := l6 0 (.int .i64) rfl
 obtain rfl : c8 = .int .i64 b8 := by simpa using e_
 clear e_
 obtain ⟨v_, e_, d0, rfl, wd0⟩ := l7 0 (.int .u8) rfl
 obtain rfl : c9 = .int .u8 d0 := by simpa using e_
 clear e_
 obtain ⟨v_, e_, d1, rfl, wd1⟩ := l7 1 (.int .u8) rfl
 obtain rfl : c10 = .int .u8 d1 := by simpa using e_
 clear e_
 obtain ⟨v_, e_, d2, rfl, wd2⟩ := l7 2 (.int .u8) rfl
 obtain rfl : c11 = .int .u8 d2 := by simpa using e_
 clear e_
 obtain ⟨v_, e_, d3, rfl, wd3⟩ := l7 3 (.int .u8) rfl
 obtain rfl : c12 = .int .u8 d3 := by simpa using e_
 clear e_
 obtain ⟨v_, e_, f0, rfl, wf0⟩ := l9 0 (.int .u64) rfl
 obtain rfl : c16 = .int .u64 f0 := by simpa using e_
 clear e_
 obtain ⟨v_, e_, f1, rfl, wf1⟩ := l9 1 (.int .i64) rfl
 obtain rfl : c17 = .int .i64 f1 := by simpa using e_
 clear e_
 obtain ⟨v_, e_, f2, rfl, wf2⟩ := l9 2 (.int .u64) rfl
 obtain rfl : c18 = .int .u64 f2 := by simpa using e_
 clear e_
 obtain ⟨v_, e_, s0, rfl, ws0⟩ := m0
 obtain rfl : c13 = .int .i64 s0 := by simpa using e_
 clear e_
 obtain ⟨v_, e_, s1, rfl, ws1⟩ := m1
 obtain rfl : c14 = .int .i64 s1 := by simpa using e_
 clear e_
 have hv2 := field_okWide (ts := [22, 3, 22, 3, 3, 3, 3, 3, 3, 5, 5, 5, 5, 3, 3, 27, 22, 3, 22]) (by kernel_rfl) hrow (i := 15) (v := c15) rfl rfl Tryz.underlying27
 have k2' : DataW.trod enc Tryz.prog w 0 (fun _ => true) true m 27 [c15] = some y2 := by simpa using k2
 have h2 : DataW.Trod enc Tryz.prog w 0 (fun _ => true) true 27 c15 y2.1 y2.2 := ⟨m, by
  rcases slice_okWide Tryz.underlying27 hv2 with rfl | ⟨_, _, _, rfl, _⟩ <;> exact k2'⟩
 obtain ⟨l, a, cap, rfl, he, hgood, hmax, hcap⟩ := open_rows (k := 4) Tryz.underlying27 flatCol (by kernel_rfl) rfl encC okC encC_len cols_leaves hv2 h2 (by omega)
 exact ⟨⟨⟨a0, a1, a2⟩, b3, b4, b5, b6, b7, b8, ⟨d0, d1, d2, d3⟩, s0, s1, l, ⟨f0, f1, f2⟩⟩, a, cap, rfl, ⟨a, cap, rfl, hcap, he⟩, ⟨wa0, wa1, wa2, wb3, wb4, wb5, wb6, wb7, wb8, ws0, ws1, wf0, wf1, wf2⟩, ⟨⟨⟨bounds_u8 wd0, bounds_u8 wd1⟩, bounds_u8 wd2, bounds_u8 wd3⟩, hgood⟩, hmax⟩
end Go.Proofs.YtgdcfkbimkclaaaGreatDoor
/- Layer 12's laws: their first line. -/
namespace Go.Proofs.YtgdcfkbimkclaaaGreatDoor
open Go.RowKit Go.Shelf
attribute [local go_sem] Oper.semAt_some
/-- A world that keeps what lay below n. -/
structure LowW (w0 w : World) : Prop where
 b : Below w0.heap.size w0 w
theorem LowW.below {w0 w w2 : World} (h : LowW w0 w) (hb : Below w.heap.size w w2) : LowW w0 w2 := ⟨h.b.trans (hb.mono h.b.size)⟩
theorem below_setRow {n₀ g : Nat} {w w1 : World} (h : Below n₀ w w1) (hg : n₀ ≤ g) (cs : Array Value) : Below n₀ w (w1.setRow g cs) :=
 ⟨h.os, h.tape, h.output, by simpa using h.size, fun k hk => (setRow_other w1 g k cs (by omega)).trans (h.block k hk)⟩
theorem opsV_one {w : World} {g : Nat} {x : OpX} {t : TypeId} {f : Nat × Nat} (h : w.heap[g]? = some (.cells (x.1.cells x.2) t f)) (hx : OkO w x) : OpsV w (some ⟨g, 0, none⟩) 1 1 [x] := by
 refine ⟨rfl, .inr ⟨g, 0, 1, rfl, b7t h, fun j hj => ?_⟩, fun y hy => by rw [List.mem_singleton.1 hy]; exact hx⟩
 rw [Nat.zero_add]
 refine c7b h ?_
 unfold rowC
 rw [List.flatMap_cons, List.flatMap_nil, List.append_nil]
 have hl : j < (encO x).length := by rw [encO_len]; omega
 rw [← encO_arr, List.getElem?_toArray, List.getElem?_eq_getElem hl]
 rfl
theorem infoOp1 : (Tryz.prog.info? 31).map (fun i => (i.size, i.zero.map fun z => z.cells.size)) = some (19, some 19) := by kernel_rfl
def qRect2 (x y : Nat) : Bool := decide ((6 ≤ x ∧ x ≤ 9) ∧ 6 ≤ y ∧ y ≤ 9)
theorem qRect2_iff (x y : Nat) : RectP ⟨6, 6⟩ ⟨9, 9⟩ ⟨(x : Int), (y : Int)⟩ ↔ qRect2 x y = true := by
 unfold qRect2 RectP
 simp only [decide_eq_true_eq]
 omega
theorem n_rect2 : ((List.range 64).filter fun k => qRect2 (k % 8) (k / 8)).length = 4 := by decide
theorem rectL_four : (rectL rectO.f rectO.t).length = 4 := by decide
theorem usesText5 : usesText 5 = ⟨#[88, 44, 32, 89, 44, 32, 83, 105, 122, 101, 44, 32, 67, 111, 108, 111, 114]⟩ := by decide
theorem run_field_id (w : World) : (Instr.field 31 (.agg (rectO.cells nilP)) 0).run Tryz.prog w = .ok (.agg #[.int .u64 1, .int .i64 1, .int .u64 1]) w := by kernel_rfl
theorem applied_rect {w w' : World} {e : Ending} (h : Applied OpdW [(rectO, nilP)] canE w e w') : ∃ d D, e = .returned (.tuple #[.pointer (some ⟨d, 0, none⟩), .int .i64 0]) ∧ CanAt w' d D ∧ ((diffL canE D).length = 4 ∧ D.wide = 1 ∧ D.high = 1) ∧ Below w.heap.size w w' := by
 obtain ⟨hb, d, D, rfl, ⟨C1, h1, rfl⟩, hd⟩ := h
 refine ⟨d, _, rfl, hd, ?_, hb⟩
 rcases h1 with ⟨-, hP, hw, hh⟩ | ⟨h, -⟩
 · exact ⟨((painted_count hP qRect2 (fun x y _ _ => qRect2_iff x y)).1).trans n_rect2, hw, hh⟩
 · exact absurd h (by decide)
theorem applied_fill {C : CanT} {w w' : World} {e : Ending} (h : Applied OpdW [(fillO, nilP)] C w e w') : ∃ d, e = .returned (.tuple #[.pointer (some ⟨d, 0, none⟩), .int .i64 0]) ∧ CanAt w' d C ∧ Below w.heap.size w w' := by
 obtain ⟨hb, d, D, rfl, ⟨C1, h1, rfl⟩, hd⟩ := h
 rcases h1 with ⟨h, -⟩ | ⟨-, rfl, -⟩
 · exact absurd h (by decide)
 · exact ⟨d, rfl, hd, hb⟩
set_option maxRecDepth 100000 in
set_option maxHeartbeats 8000000 in
theorem wakes12_any (w : World) (hr : RedO w) : Calls Tryz.prog 8 #[] w (Gives (.bool true) w) := by
 have HL := H7 (LowW.mk (B7 w.heap.size w))
 have HR := H7 hr
 clear hr
 go_enter Tryz.func8, Tryz.ntmps8
 go_wp2_with fail
 refine (new_any w).mono ?_
 rintro e w1 ⟨p, rfl, hc, -, hb⟩
 have HC := H7 hc
 clear hc
 have HL := H7 (HL.out.below hb)
 have HR := H7 (HR.out.below hb)
 clear hb
 repeat ((fail_if_success (with_reducible refine stop_at (id := 2) ?_)); (first | go_values | go_skip | go_guarded | go_step | go_upon | go_back | (simp only [Int.not_lt, Int.not_le] at *; go_simp) | (go_values <;> (try go_simp)) | (go_ite <;> go_prune <;> (try go_simp)) | (split <;> (first | (rename_i hx; exact (hx _ rfl).elim) | go_prune))))
 refine (wpIn_wide (n := 0)).1 ?_
 gi_wp2_with fail
 refine (callsIn_wide.2 (rect12_any _ HR.out)).mono ?_
 rintro e w2 ⟨rfl, hb⟩
 have HL := H7 (HL.out.below hb)
 have HR := H7 (HR.out.below hb)
 have HC := H7 (HC.out.below hb)
 clear hb
 simp only []
 go_at_K
 repeat ((fail_if_success (refine opIn_buildSlice_one _ _ rfl (rectO.cells nilP) ?_ Tryz.underlying61 infoOp1 (by decide) (by decide) rfl ?_)); gi_step)
 refine opIn_buildSlice_one _ _ rfl (rectO.cells nilP) (by rfl) Tryz.underlying61 infoOp1 (by decide) (by decide) rfl ?_
 simp only [Act.put, List.setIfInBounds_toArray, List.set_cons_succ, List.set_cons_zero]
 have hb := (B7 w2.heap.size w2).alloc (Nat.le_refl _) (.cells (rectO.cells nilP) 31)
 have ho := World.alloc_heap_new w2 (.cells (rectO.cells nilP) 31)
 obtain ⟨w3, hw_⟩ : ∃ w3, w2.alloc (.cells (rectO.cells nilP) 31) = w3 := ⟨_, rfl⟩
 rw [hw_] at hb ho ⊢
 clear hw_
 have HX := H7 (BlkO.mk ho)
 clear ho
 have HL := H7 (HL.out.below hb)
 have HR := H7 (HR.out.below hb)
 have HC := H7 (HC.out.below hb)
 clear hb
 gi_wp2_with fail
 refine (callsIn_wide.2 (opApply_ok G11 OpdW opdW_g (some ⟨w2.heap.size, 0, none⟩) 1 1 [(rectO, nilP)] (by decide) p canE ⟨rfl, rfl⟩ w3 (opsV_one HX.out.at_ (okO_nil rectO rfl w3)) (fun x hx => by rw [List.mem_singleton.1 hx]; exact rectO_meth w3) (by simp [rectO_may]) HC.out)).mono ?_
 intro e w4 h
 obtain ⟨d, D, rfl, hd, hk, hb⟩ := applied_rect h
 have HD := H7 hd
 have HK := H7 hk
 clear hd hk h HX
 have HL := H7 (HL.out.below hb)
 have HR := H7 (HR.out.below hb)
 have HC := H7 (HC.out.below hb)
 clear hb
 gi_wp2_with fail
 go_wp2_with fail
 refine (rect12_any _ HR.out).mono ?_
 rintro e w5 ⟨rfl, hb⟩
 have HL := H7 (HL.out.below hb)
 have HR := H7 (HR.out.below hb)
 have HC := H7 (HC.out.below hb)
 have HD := H7 (HD.out.below hb)
 clear hb
 go_wp2_with fail
 refine (opReach_ok rectO nilP (by decide) 0 (fun _ n _ _ => n = 4) (fun _ _ _ _ _ h _ => h) w5 (okO_nil rectO rfl w5).1 rectO_may (fun w' hb => (op_framed_any rectO none 0 0 (may_drawn rectO_may).1 (may_drawn rectO_may).2 w').mono (fun e w'' ⟨a, n, cap, h1, ⟨h2, _, _⟩, h3⟩ => ⟨a, n, cap, h1, h2.trans rectL_four, h3⟩))).mono ?_
 rintro e w6 ⟨ra, rn, rcap, rfl, rfl, hb⟩
 have HL := H7 (HL.out.below hb)
 have HR := H7 (HR.out.below hb)
 have HC := H7 (HC.out.below hb)
 have HD := H7 (HD.out.below hb)
 clear hb
 repeat ((fail_if_success (with_reducible refine stop_at (id := 4) ?_)); (first | go_values | go_skip | go_guarded | go_step | go_upon | go_back | (simp only [Int.not_lt, Int.not_le] at *; go_simp) | (go_values <;> (try go_simp)) | (go_ite <;> go_prune <;> (try go_simp)) | (split <;> (first | (rename_i hx; exact (hx _ rfl).elim) | go_prune))))
 have c0 := HR.out.c0
 have c1 := HR.out.c1
 have c2 := HR.out.c2
 have c3 := HR.out.c3
 refine (wpIn_wide (n := 0)).1 ?_
 repeat ((fail_if_success (refine opIn_build 31 _ rfl (fillO.cells nilP) ?_ ?_)); gi_step)
 refine opIn_build 31 _ rfl (fillO.cells nilP) ?hb ?_
 case hb => simpa [Act.eval] using built_fillO
 simp only [Act.put, List.setIfInBounds_toArray, List.set_cons_succ, List.set_cons_zero]
 repeat ((fail_if_success (refine opIn_store 31 _ _ rfl w6.heap.size 31 opZ (fillO.cells nilP) rfl rfl (World.alloc_heap_new _ _) (by kernel_rfl) rfl (by kernel_rfl) ?_)); gi_step)
 refine opIn_store 31 _ _ rfl w6.heap.size 31 opZ (fillO.cells nilP) rfl rfl (World.alloc_heap_new _ _) (by kernel_rfl) rfl (by kernel_rfl) ?_
 simp only [Act.put, List.setIfInBounds_toArray, List.set_cons_succ, List.set_cons_zero]
 rw [← opZ.eq_1]
 have hb := below_setRow ((B7 w6.heap.size w6).alloc (Nat.le_refl _) (.cells opZ 31)) (Nat.le_refl _) (fillO.cells nilP)
 have ho := setRow_heap (w6.alloc (.cells opZ 31)) w6.heap.size opZ (fillO.cells nilP) _ _ (World.alloc_heap_new _ _)
 obtain ⟨w7, hw_⟩ : ∃ w7, (w6.alloc (.cells opZ 31)).setRow w6.heap.size (fillO.cells nilP) = w7 := ⟨_, rfl⟩
 rw [hw_] at hb ho ⊢
 clear c0 c1 c2 c3
 clear hw_
 have HF := H7 (BlkO.mk ho)
 clear ho
 have HL := H7 (HL.out.below hb)
 have HR := H7 (HR.out.below hb)
 have HC := H7 (HC.out.below hb)
 have HD := H7 (HD.out.below hb)
 clear hb
 gi_wp2
 repeat ((fail_if_success (with_reducible refine stop_at (id := 5) ?_)); (first | go_values | go_skip | go_guarded | go_step | go_upon | go_back | (simp only [Int.not_lt, Int.not_le] at *; go_simp) | (go_values <;> (try go_simp)) | (go_ite <;> go_prune <;> (try go_simp)) | (split <;> (first | (rename_i hx; exact (hx _ rfl).elim) | go_prune))))
 refine (wpIn_wide (n := 0)).1 ?_
 repeat ((fail_if_success (refine opIn_load 31 _ rfl w6.heap.size rfl 31 _ (0, 0) _ HF.out.at_ Tryz.underlying31 rfl (by kernel_rfl) ?_)); gi_step)
 refine opIn_load 31 _ rfl w6.heap.size rfl 31 _ (0, 0) _ HF.out.at_ Tryz.underlying31 rfl (by kernel_rfl) ?_
 simp only [Act.put, List.setIfInBounds_toArray, List.set_cons_succ, List.set_cons_zero]
 repeat ((fail_if_success (refine opIn_buildSlice_one _ _ rfl (fillO.cells nilP) ?_ Tryz.underlying61 infoOp1 (by decide) (by decide) rfl ?_)); gi_step)
 refine opIn_buildSlice_one _ _ rfl (fillO.cells nilP) (by rfl) Tryz.underlying61 infoOp1 (by decide) (by decide) rfl ?_
 simp only [Act.put, List.setIfInBounds_toArray, List.set_cons_succ, List.set_cons_zero]
 have hb := (B7 w7.heap.size w7).alloc (Nat.le_refl _) (.cells (fillO.cells nilP) 31)
 have ho := World.alloc_heap_new w7 (.cells (fillO.cells nilP) 31)
 obtain ⟨w8, hw_⟩ : ∃ w8, w7.alloc (.cells (fillO.cells nilP) 31) = w8 := ⟨_, rfl⟩
 rw [hw_] at hb ho ⊢
 clear hw_
 have HX := H7 (BlkO.mk ho)
 clear ho
 have HL := H7 (HL.out.below hb)
 have HR := H7 (HR.out.below hb)
 have HC := H7 (HC.out.below hb)
 have HD := H7 (HD.out.below hb)
 have HF := H7 (HF.out.below hb)
 clear hb
 gi_wp2_with fail
 refine (callsIn_wide.2 (opApply_ok G11 OpdW opdW_g (some ⟨w7.heap.size, 0, none⟩) 1 1 [(fillO, nilP)] (by decide) d D HK.out.2 w8 (opsV_one HX.out.at_ (okO_nil fillO rfl w8)) (fun x hx => by rw [List.mem_singleton.1 hx]; exact fillO_meth w8) (by simp [fillO_may]) HD.out)).mono ?_
 intro e w9 h
 obtain ⟨d2, rfl, hd, hb⟩ := applied_fill h
 have HE := H7 hd
 clear hd h HX
 have HL := H7 (HL.out.below hb)
 have HR := H7 (HR.out.below hb)
 have HC := H7 (HC.out.below hb)
 have HD := H7 (HD.out.below hb)
 have HF := H7 (HF.out.below hb)
 clear hb
 gi_wp2
 repeat ((fail_if_success (with_reducible refine stop_at (id := 6) ?_)); (first | go_values | go_skip | go_guarded | go_step | go_upon | go_back | (simp only [Int.not_lt, Int.not_le] at *; go_simp) | (go_values <;> (try go_simp)) | (go_ite <;> go_prune <;> (try go_simp)) | (split <;> (first | (rename_i hx; exact (hx _ rfl).elim) | go_prune))))
 refine (wpIn_wide (n := 0)).1 ?_
 repeat ((fail_if_success (refine opIn_load 31 _ rfl w6.heap.size rfl 31 _ (0, 0) _ HF.out.at_ Tryz.underlying31 rfl (by kernel_rfl) ?_)); gi_step)
 refine opIn_load 31 _ rfl w6.heap.size rfl 31 _ (0, 0) _ HF.out.at_ Tryz.underlying31 rfl (by kernel_rfl) ?_
 simp only [Act.put, List.setIfInBounds_toArray, List.set_cons_succ, List.set_cons_zero]
 gi_wp2_with fail
 refine (callsIn_wide.2 (opReach_ok fillO nilP (by decide) 2 (fun _ _ _ _ => True) (fun _ _ _ _ _ _ _ => trivial) w9 (okO_nil fillO rfl w9).1 fillO_may (fun w' hb => (opUnknown_any fillO nilP w').mono (fun e w'' ⟨a, n, cap, h1, _, h3⟩ => ⟨a, n, cap, h1, trivial, h3⟩)))).mono ?_
 rintro e w10 ⟨fa, fn, fcap, rfl, -, hb⟩
 clear HF
 have HL := H7 (HL.out.below hb)
 have HR := H7 (HR.out.below hb)
 have HC := H7 (HC.out.below hb)
 have HD := H7 (HD.out.below hb)
 have HE := H7 (HE.out.below hb)
 clear hb
 gi_wp2
 repeat ((fail_if_success (with_reducible refine stop_at (id := 7) ?_)); (first | go_values | go_skip | go_guarded | go_step | go_upon | go_back | (simp only [Int.not_lt, Int.not_le] at *; go_simp) | (go_values <;> (try go_simp)) | (go_ite <;> go_prune <;> (try go_simp)) | (split <;> (first | (rename_i hx; exact (hx _ rfl).elim) | go_prune))))
 obtain ⟨N, hN⟩ : ∃ N, N = w10.heap.size := ⟨_, rfl⟩
 have HN := H7 hN
 clear hN
 refine (wpIn_wide (n := 0)).1 ?_
 apply w7v 6 (Rl := [(eqv _), (eqv _), (eqv _), (eqv _), (eqv _), (fun v_ w_ => ∃ g, v_ = .pointer (some ⟨g, 0, none⟩) ∧ w_.heap[g]? = some (.cells opZ 31 (0, 0)) ∧ N ≤ g)]) (C := (fun x y => Below x.heap.size x y))
 case hm => kernel_rfl
 case hk => rfl
 case hCr => exact (fun _ => B7 _ _)
 case hCt => intro _ _ _; exact (fun h k => g7t h k)
 case hst => exact ⟨fun _ _ _ _ h => h, fun _ _ _ _ h => h, fun _ _ _ _ h => h, fun _ _ _ _ h => h, fun _ _ _ _ h => h, fun _ _ _ hC ⟨g, h1, h2, h3⟩ => ⟨g, h1, (hC.block g (b7t h2)).trans h2, h3⟩, trivial⟩
 case hfo => kernel_rfl
 case ht => kernel_rfl
 case hC0 => exact (g7d _)
 case hsteps =>
  refine ⟨?_, ?_, ?_, ?_, ?_, ?_, trivial⟩
  · intro a' w' hA hC hD; clear hA hD; refine o7p rfl ?_; intro K hK; gi_wp2; exact hK _ _ rfl (B7 _ _)
  · intro a' w' hA hC hD; clear hA hD; refine o7p rfl ?_; intro K hK
    gi_wp2_with fail; refine (callsIn_wide.2 (rect12_any _ (HR.out.below hC))).mono ?_; rintro e w2 ⟨rfl, hb⟩
    exact hK _ _ rfl hb
  · intro a' w' hA hC hD; obtain ⟨u45, s45, rfl⟩ := hD ⟨1, .data⟩ (by simp) rfl _ rfl
    have hrun := run_field_id w'
    clear hA hD; refine o7p rfl ?_; intro K hK; gi_wp2; exact hK _ _ rfl (B7 _ _)
  · intro a' w' hA hC hD
    have c0 := (HR.out.below hC).c0; have c1 := (HR.out.below hC).c1; have c2 := (HR.out.below hC).c2; have c3 := (HR.out.below hC).c3
    clear hA hD; refine o7p rfl ?_; intro K hK; gi_wp2; exact hK _ _ rfl (B7 _ _)
  · intro a' w' hA hC hD; obtain ⟨u44, s44, rfl⟩ := hD ⟨0, .data⟩ (by simp) rfl _ rfl; obtain ⟨u46, s46, rfl⟩ := hD ⟨2, .data⟩ (by simp) rfl _ rfl; obtain ⟨u47, s47, rfl⟩ := hD ⟨3, .data⟩ (by simp) rfl _ rfl; clear hA hD; refine o7p rfl ?_; intro K hK
    refine opIn_build 31 _ rfl (undoO.cells nilP) (by simpa [Act.eval, s44, s46, s47] using built_undoO) (hK _ _ rfl (B7 _ _))
  · intro a' w' hA hC hD; clear hA hD; refine o7p rfl ?_; intro K hK; gi_wp2; exact hK _ _ ⟨w'.heap.size, rfl, World.alloc_heap_new _ _, by rw [HN.out]; exact hC.size⟩ ((B7 _ _).alloc (Nat.le_refl _) _)
 case hend =>
  intro w11 hC
  simp only [EndFrom, eqv, forall_eq, Act.put, List.length_cons, List.length_nil, List.drop_succ_cons, List.drop_zero, Nat.reduceAdd, List.setIfInBounds_toArray, List.set_cons_succ, List.set_cons_zero]
  rintro v5 ⟨g, rfl, hg, hNg⟩
  rw [HN.out] at hNg
  repeat ((fail_if_success (refine opIn_store 31 _ _ rfl g 31 opZ (undoO.cells nilP) rfl rfl hg (by kernel_rfl) rfl (by kernel_rfl) ?_)); gi_step)
  refine opIn_store 31 _ _ rfl g 31 opZ (undoO.cells nilP) rfl rfl hg (by kernel_rfl) rfl (by kernel_rfl) ?_
  simp only [Act.put, List.setIfInBounds_toArray, List.set_cons_succ, List.set_cons_zero]
  have hb := below_setRow hC hNg (undoO.cells nilP)
  have ho := setRow_heap w11 g opZ (undoO.cells nilP) _ _ hg
  obtain ⟨w12, hw_⟩ : ∃ w12, w11.setRow g (undoO.cells nilP) = w12 := ⟨_, rfl⟩
  rw [hw_] at hb ho ⊢
  clear hw_ hg hNg hC HN
  have HU := H7 (BlkO.mk ho)
  clear ho
  have HL := H7 (HL.out.below hb)
  have HR := H7 (HR.out.below hb)
  have HC := H7 (HC.out.below hb)
  have HD := H7 (HD.out.below hb)
  have HE := H7 (HE.out.below hb)
  clear hb
  gi_wp2
  repeat ((fail_if_success (with_reducible refine stop_at (id := 8) ?_)); (first | go_values | go_skip | go_guarded | go_step | go_upon | go_back | (simp only [Int.not_lt, Int.not_le] at *; go_simp) | (go_values <;> (try go_simp)) | (go_ite <;> go_prune <;> (try go_simp)) | (split <;> (first | (rename_i hx; exact (hx _ rfl).elim) | go_prune))))
  refine (wpIn_wide (n := 0)).1 ?_
  gi_wp2_with fail
  refine (callsIn_wide.2 (differ_len canE D p d HK.out.2.1.symm HK.out.2.2.symm 4 HK.out.1 w12 HC.out HD.out)).mono ?_
  rintro e w13 ⟨a1, cap1, rfl, hb⟩
  have HL := H7 (HL.out.below hb)
  have HD := H7 (HD.out.below hb)
  have HE := H7 (HE.out.below hb)
  have HU := H7 (HU.out.below hb)
  clear hb
  gi_wp2_with fail
  refine (callsIn_wide.2 (same_eq D d d2 w13 HD.out HE.out)).mono ?_
  rintro e w14 ⟨rfl, hb⟩
  have HL := H7 (HL.out.below hb)
  have HU := H7 (HU.out.below hb)
  clear hb
  clear HD HE HC HR
  have hck := opCheck_any undoO nilP (by decide) w14 (okO_nil undoO rfl w14).1
  rw [undoO_may] at hck
  have HCK := H7 hck
  clear hck
  simp only []
  go_at_K
  repeat ((fail_if_success (refine opIn_load 31 _ rfl g rfl 31 _ (0, 0) _ HU.out.at_ Tryz.underlying31 rfl (by kernel_rfl) ?_)); (first | go_values | gi_guarded | gi_step | gi_upon | gi_back | (simp only [Int.not_lt, Int.not_le] at *; go_simp)))
  refine opIn_load 31 _ rfl g rfl 31 _ (0, 0) _ HU.out.at_ Tryz.underlying31 rfl (by kernel_rfl) ?_
  simp only [Act.put, List.setIfInBounds_toArray, List.set_cons_succ, List.set_cons_zero]
  gi_wp2_with fail
  refine (callsIn_wide.2 HCK.out).mono ?_
  rintro e w15 ⟨rfl, hb⟩
  simp only [errOf, Bool.false_eq_true, if_false]
  clear HCK
  have HL := H7 (HL.out.below hb)
  have HU := H7 (HU.out.below hb)
  clear hb
  (try simp only [])
  go_at_K
  repeat ((fail_if_success (refine opIn_load 31 _ rfl g rfl 31 _ (0, 0) _ HU.out.at_ Tryz.underlying31 rfl (by kernel_rfl) ?_)); (first | go_values | gi_guarded | gi_step | gi_upon | gi_back | (simp only [Int.not_lt, Int.not_le] at *; go_simp)))
  refine opIn_load 31 _ rfl g rfl 31 _ (0, 0) _ HU.out.at_ Tryz.underlying31 rfl (by kernel_rfl) ?_
  simp only [Act.put, List.setIfInBounds_toArray, List.set_cons_succ, List.set_cons_zero]
  gi_wp2_with fail
  refine (callsIn_wide.2 (opPlain_any undoO nilP (by decide) w15 (okO_nil undoO rfl w15).1)).mono ?_
  rintro e w16 ⟨pv2, rfl, hp2, hb⟩
  have hck := opCheck_any (plainO undoO) pv2 (by decide) w16 hp2
  rw [plainUndo_may] at hck
  have HCK := H7 hck
  clear hck hp2
  have HL := H7 (HL.out.below hb)
  clear hb
  gi_wp2_with fail
  refine (callsIn_wide.2 HCK.out).mono ?_
  rintro e w17 ⟨rfl, hb⟩
  simp only [errOf, if_true]
  clear HCK HU
  have HL := H7 (HL.out.below hb)
  clear hb
  have HUS := H7 (opUses_any 5 w17)
  rw [usesText5] at HUS
  gi_wp2_with fail
  refine (callsIn_wide.2 HUS.out).mono ?_
  rintro e w18 ⟨rfl, hb⟩
  have HL := H7 (HL.out.below hb)
  clear hb
  clear HUS
  have HP5 := H7 (opPaints_any 5 w18)
  rw [show (isKind 5 && decide ((5 : Int) ≤ 6)) = true by decide] at HP5
  gi_wp2_with fail
  refine (callsIn_wide.2 HP5.out).mono ?_
  rintro e w19 ⟨rfl, hb⟩
  have HL := H7 (HL.out.below hb)
  clear hb
  clear HP5
  have HP8 := H7 (opPaints_any 8 w19)
  rw [show (isKind 8 && decide ((8 : Int) ≤ 6)) = false by decide] at HP8
  gi_wp2_with fail
  refine (callsIn_wide.2 HP8.out).mono ?_
  rintro e w20 ⟨rfl, hb⟩
  have HL := H7 (HL.out.below hb)
  clear hb
  gi_wp2_with fail
  go_wp2_with fail
  go_ret
  exact ⟨rfl, HL.out.b⟩
end Go.Proofs.YtgdcfkbimkclaaaGreatDoor
/- Layer 12: the plain law of Plain. -/
namespace Go.Proofs.YtgdcfkbimkclaaaGreatDoor
open Go.RowKit Go.Shelf
theorem sameO_iff (o p : OpT) : sameO o p = true ↔ o = p := by
 obtain ⟨i, k, x, y, x2, y2, s, c, sw, sh, px, tg⟩ := o
 obtain ⟨i', k', x', y', x2', y2', s', c', sw', sh', px', tg'⟩ := p
 simp only [sameO, stSame, sameB, Bool.and_eq_true, idEqB_iff, ptEqB_iff, beq_iff_eq, decide_eq_true_eq, PtT.mk.injEq, OpT.mk.injEq]
 constructor
 · rintro ⟨⟨⟨⟨⟨⟨⟨h1, h2⟩, h3, h4⟩, h5, h6⟩, h7⟩, h8⟩, h9⟩, ⟨h10, h11⟩, h12⟩
   exact ⟨h1, h2, h3, h4, h5, h6, h7, h8, h10, h11, h12, h9⟩
 · rintro ⟨h1, h2, h3, h4, h5, h6, h7, h8, h10, h11, h12, h9⟩
   exact ⟨⟨⟨⟨⟨⟨⟨h1, h2⟩, h3, h4⟩, h5, h6⟩, h7⟩, h8⟩, h9⟩, ⟨h10, h11⟩, h12⟩
theorem sameO_self (o : OpT) : sameO o o = true := (sameO_iff o o).2 rfl
/-- Plain, case by case. -/
theorem plainO_eq (o : OpT) : plainO o = if o.kind = 1 ∨ o.kind = 2 then { out0 o with x := o.x, y := o.y, x2 := o.x2, y2 := o.y2, size := o.size, c := o.c } else if o.kind = 3 ∨ o.kind = 4 then { out0 o with x := o.x, y := o.y, x2 := o.x2, y2 := o.y2, c := o.c } else if o.kind = 5 then { out0 o with x := o.x, y := o.y, size := o.size, c := o.c } else if o.kind = 6 then { out0 o with x := o.x, y := o.y, sw := o.sw, sh := o.sh, px := o.px } else if o.kind = 7 ∨ o.kind = 8 then { out0 o with tg := o.tg } else out0 o := by
 unfold plainO usesC
 split; rfl
 split; rfl
 split; rfl
 split; rfl
 split <;> rfl
theorem plainO_kind (o : OpT) : (plainO o).kind = o.kind := by
 rw [plainO_eq]
 split; rfl
 split; rfl
 split; rfl
 split; rfl
 split <;> rfl
theorem plainO_id (o : OpT) : (plainO o).id = o.id := by
 rw [plainO_eq]
 split; rfl
 split; rfl
 split; rfl
 split; rfl
 split <;> rfl
theorem plainO_plain (o : OpT) : plainO (plainO o) = plainO o := by
 have hk := plainO_kind o
 by_cases h1 : o.kind = 1 ∨ o.kind = 2
 · rw [plainO_eq (plainO o), hk, if_pos h1, plainO_eq o, if_pos h1]; rfl
 by_cases h2 : o.kind = 3 ∨ o.kind = 4
 · rw [plainO_eq (plainO o), hk, if_neg h1, if_pos h2, plainO_eq o, if_neg h1, if_pos h2]; rfl
 by_cases h3 : o.kind = 5
 · rw [plainO_eq (plainO o), hk, if_neg h1, if_neg h2, if_pos h3, plainO_eq o, if_neg h1, if_neg h2, if_pos h3]; rfl
 by_cases h4 : o.kind = 6
 · rw [plainO_eq (plainO o), hk, if_neg h1, if_neg h2, if_neg h3, if_pos h4, plainO_eq o, if_neg h1, if_neg h2, if_neg h3, if_pos h4]; rfl
 by_cases h5 : o.kind = 7 ∨ o.kind = 8
 · rw [plainO_eq (plainO o), hk, if_neg h1, if_neg h2, if_neg h3, if_neg h4, if_pos h5, plainO_eq o, if_neg h1, if_neg h2, if_neg h3, if_neg h4, if_pos h5]; rfl
 · rw [plainO_eq (plainO o), hk, if_neg h1, if_neg h2, if_neg h3, if_neg h4, if_neg h5, plainO_eq o, if_neg h1, if_neg h2, if_neg h3, if_neg h4, if_neg h5]; rfl
theorem plainO_tg (o : OpT) (h : ¬ (o.kind = 7 ∨ o.kind = 8)) : (plainO o).tg = ⟨0, 0, 0⟩ := by
 rw [plainO_eq]
 repeat' (first | rfl | split)
theorem plainO_78 (o : OpT) (h : o.kind = 7 ∨ o.kind = 8) : (plainO o).x = 0 ∧ (plainO o).c = ⟨0, 0, 0, 0⟩ := by
 rw [plainO_eq, if_neg (by omega), if_neg (by omega), if_neg (by omega), if_neg (by omega), if_pos h]
 exact ⟨rfl, rfl⟩
theorem may_same {o : OpT} (h : opMayB o = true) : sameO o (plainO o) = true := by
 unfold opMayB mayA at h
 simp only [Bool.and_eq_true] at h
 have := (sameO_iff _ _).1 h.1.2
 exact (sameO_iff _ _).2 this.symm
theorem uses_12 : usesText 1 = ⟨#[88, 44, 32, 89, 44, 32, 88, 50, 44, 32, 89, 50, 44, 32, 83, 105, 122, 101, 44, 32, 67, 111, 108, 111, 114]⟩ ∧ usesText 2 = usesText 1 := ⟨by decide, by decide⟩
theorem uses_34 : usesText 3 = ⟨#[88, 44, 32, 89, 44, 32, 88, 50, 44, 32, 89, 50, 44, 32, 67, 111, 108, 111, 114]⟩ ∧ usesText 4 = usesText 3 := ⟨by decide, by decide⟩
theorem uses_5 : usesText 5 = ⟨#[88, 44, 32, 89, 44, 32, 83, 105, 122, 101, 44, 32, 67, 111, 108, 111, 114]⟩ := by decide
theorem uses_6 : usesText 6 = ⟨#[88, 44, 32, 89, 44, 32, 83, 116, 97, 109, 112]⟩ := by decide
theorem uses_78 : usesText 7 = ⟨#[84, 97, 114, 103, 101, 116]⟩ ∧ usesText 8 = usesText 7 := ⟨by decide, by decide⟩
theorem uses_no {k : Int} (h : isKind k = false) : usesText k = ⟨#[]⟩ := by
 have h2 : ¬ (1 ≤ k ∧ k ≤ 8) := fun h3 => by rw [isKind_iff.2 h3] at h; cases h
 have : usesC k = [] := by unfold usesC; rw [if_neg (by omega), if_neg (by omega), if_neg (by omega), if_neg (by omega), if_neg (by omega)]
 unfold usesText
 rw [this]
 rfl
/-- The texts, by kinds. -/
theorem uses_cases (k : Int) : (paintsB k = true ∧ (usesText k = ⟨#[88, 44, 32, 89, 44, 32, 88, 50, 44, 32, 89, 50, 44, 32, 83, 105, 122, 101, 44, 32, 67, 111, 108, 111, 114]⟩ ∨ usesText k = ⟨#[88, 44, 32, 89, 44, 32, 88, 50, 44, 32, 89, 50, 44, 32, 67, 111, 108, 111, 114]⟩ ∨ usesText k = ⟨#[88, 44, 32, 89, 44, 32, 83, 105, 122, 101, 44, 32, 67, 111, 108, 111, 114]⟩ ∨ usesText k = ⟨#[88, 44, 32, 89, 44, 32, 83, 116, 97, 109, 112]⟩) ∧ ¬ (k = 7 ∨ k = 8)) ∨
 (paintsB k = false ∧ usesText k = ⟨#[84, 97, 114, 103, 101, 116]⟩ ∧ (k = 7 ∨ k = 8)) ∨ (paintsB k = false ∧ usesText k = ⟨#[]⟩ ∧ ¬ (k = 7 ∨ k = 8)) := by
 cases hk : isKind k with
 | false =>
  have h2 : ¬ (1 ≤ k ∧ k ≤ 8) := fun h3 => by rw [isKind_iff.2 h3] at hk; cases hk
  exact .inr (.inr ⟨by unfold paintsB; rw [hk]; rfl, uses_no hk, by omega⟩)
 | true =>
  have h8 := isKind_iff.1 hk
  rcases (show k = 1 ∨ k = 2 ∨ k = 3 ∨ k = 4 ∨ k = 5 ∨ k = 6 ∨ k = 7 ∨ k = 8 by omega) with rfl | rfl | rfl | rfl | rfl | rfl | rfl | rfl
  · exact .inl ⟨by decide, .inl uses_12.1, by omega⟩
  · exact .inl ⟨by decide, .inl (uses_12.2.trans uses_12.1), by omega⟩
  · exact .inl ⟨by decide, .inr (.inl uses_34.1), by omega⟩
  · exact .inl ⟨by decide, .inr (.inl (uses_34.2.trans uses_34.1)), by omega⟩
  · exact .inl ⟨by decide, .inr (.inr (.inl uses_5)), by omega⟩
  · exact .inl ⟨by decide, .inr (.inr (.inr uses_6)), by omega⟩
  · exact .inr (.inl ⟨by decide, uses_78.1, by omega⟩)
  · exact .inr (.inl ⟨by decide, uses_78.2.trans uses_78.1, by omega⟩)
end Go.Proofs.YtgdcfkbimkclaaaGreatDoor
/- Layer 12's laws: own. -/
namespace Go.Proofs.YtgdcfkbimkclaaaGreatDoor
open Go.RowKit Go.Shelf
attribute [local go_sem] Oper.semAt_some
def ownO (o : OpT) : OpT := { o with px := o.px.take 66 }
set_option maxRecDepth 100000 in
set_option maxHeartbeats 4000000 in
theorem own12_any (o : OpT) (pv : Value) (hl : o.px.length ≤ 9223372036854775807) (w : World) (hp : PixV o.px pv w) :
 Calls Tryz.prog 9 #[.agg (o.cells pv)] w fun e w' => ∃ pv', e = .returned (.agg ((ownO o).cells pv')) ∧ PixV (ownO o).px pv' w' ∧ Below w.heap.size w w' := by
 obtain ⟨a, cap, rfl, hc, he⟩ := hp
 have HS := H7 (St.start w)
 obtain ⟨k, hk⟩ : ∃ k, min o.px.length 66 = k := ⟨_, rfl⟩
 have htl : (o.px.take 66).length = k := by rw [List.length_take]; omega
 have het : Elems w (.slice a k cap) k 4 (rowC encC (o.px.take 66)) := by
  have h1 := Elems.take encC_len (m := k) rfl he (by omega)
  have h2 : o.px.take 66 = o.px.take k := by
   rcases Nat.lt_or_ge o.px.length 66 with h | h
   · rw [List.take_of_length_le (by omega), List.take_of_length_le (by omega)]
   · rw [show k = 66 by omega]
  rw [h2]
  exact h1
 have e1 : min (o.px.length : Int) 66 = (k : Int) := by omega
 have hkn : k ≤ o.px.length := by omega
 have hkc : k ≤ cap := by omega
 have HCL := H7 (fun w' (hb : Below w.heap.size w w') => (cloneC_any (.slice a k cap) (o.px.take 66) w' (by rw [htl]; exact het.below hb) (by omega)).mono fun e w'' h => clone_read encC_len htl h)
 have HKL := H7 htl
 clear het htl hk he
 go_enter Tryz.func9, Tryz.ntmps9
 repeat ((fail_if_success (with_reducible refine stop_at (id := 1) ?_)); (first | go_values | go_skip | go_guarded | go_step | go_upon | go_back | (simp only [Int.not_lt, Int.not_le] at *; go_simp) | (go_values <;> (try go_simp)) | (go_ite <;> go_prune <;> (try go_simp)) | (split <;> (first | (rename_i hx; exact (hx _ rfl).elim) | go_prune))))
 rw [← opZ.eq_1]
 have hs_ := ((HS.out.alloc (.cells (o.cells (.slice a o.px.length cap)) 31)).alloc (.cells opZ 31))
 obtain ⟨w1, hw_⟩ : ∃ w1 : World, ((w.alloc (.cells (o.cells (.slice a o.px.length cap)) 31)).alloc (.cells opZ 31)) = w1 := ⟨_, rfl⟩
 rw [hw_] at hs_
 try simp only [World.size_alloc] at hs_
 have HS := H7 hs_
 rw [hw_]
 clear hw_ hs_
 have HLT := H7 (show w.heap.size + 1 < w1.heap.size from HS.out.lt 0 rfl)
 obtain ⟨-, -, -, -, -, -, -, -, -, -, -, -, -, -, -, q15, -⟩ := opCells (HS.out.blockAt 1 rfl)
 have f1 := f7b (HS.out.blockAt 1 rfl)
 obtain ⟨n, hn⟩ : ∃ n, o.px.length = n := ⟨_, rfl⟩
 rw [hn] at q15 e1 hkn hl hc
 clear hn
 go_wp2_with fail
 clear q15 f1
 refine (HCL.out w1 HS.out.low).mono ?_
 rintro e w2 ⟨a', c', rfl, hc', he', hb, hnew⟩
 have HS := H7 (HS.out.below hb)
 have hp : ∀ ad, a' = some ad → ad.block ≠ w.heap.size ∧ ad.block ≠ w.heap.size + 1 := fun ad e => by
  have h1 := hnew ad e
  have h2 := HLT.out
  exact ⟨by omega, by omega⟩
 have HE := H7 (And.intro hc' (elems_other he' (fun ad e => (hp ad e).1) 15 (.slice a' k c')))
 have HP := H7 hp
 clear he' hc' hb HCL hnew hp
 have f1 := f7b (HS.out.blockAt 1 rfl)
 obtain ⟨-, -, -, -, -, -, -, -, -, -, -, -, -, -, -, q15, -⟩ := opCells (HS.out.blockAt 1 rfl)
 repeat ((fail_if_success (with_reducible refine stop_at (id := 2) ?_)); (first | go_values | go_skip | go_guarded | go_step | go_upon | go_back | (simp only [Int.not_lt, Int.not_le] at *; go_simp) | (go_values <;> (try go_simp)) | (go_ite <;> go_prune <;> (try go_simp)) | (split <;> (first | (rename_i hx; exact (hx _ rfl).elim) | go_prune))))
 clear f1 q15
 have hs := HS.out.putAt (pre := [_]) (c' := (ownO o).cells (.slice a' k c')) (by intro i hi; simp at hi; exact ⟨_, _, hi⟩) 15 (.slice a' k c') rfl
 obtain ⟨w3, hw3⟩ : ∃ w3, w2.setCell ⟨w.heap.size, 15, none⟩ (.slice a' k c') = w3 := ⟨_, rfl⟩
 rw [hw3] at hs HE ⊢
 have HS := H7 hs
 clear hs hw3
 have h1 : w3.heap[w.heap.size]? = some (.cells ((ownO o).cells (.slice a' k c')) 31 (0, 0)) := HS.out.blockAt 1 rfl
 have hR : w3.heap[w.heap.size + 1]? = some (.cells opZ 31 (0, 0)) := HS.out.blockAt 0 rfl
 refine (wpIn_wide (n := 0)).1 ?_
 repeat ((fail_if_success (refine opIn_load 31 _ rfl w.heap.size rfl 31 _ (0, 0) _ h1 Tryz.underlying31 rfl (by kernel_rfl) ?_)); gi_step)
 refine opIn_load 31 _ rfl w.heap.size rfl 31 _ (0, 0) _ h1 Tryz.underlying31 rfl (by kernel_rfl) ?_
 simp only [Act.put, List.setIfInBounds_toArray, List.set_cons_succ, List.set_cons_zero]
 repeat ((fail_if_success (refine opIn_store 31 _ _ rfl (w.heap.size + 1) 31 opZ ((ownO o).cells (.slice a' k c')) rfl rfl hR (by kernel_rfl) rfl (by unfold OpT.cells; rw [List.all_toArray]; rfl) ?_)); gi_step)
 refine opIn_store 31 _ _ rfl (w.heap.size + 1) 31 opZ ((ownO o).cells (.slice a' k c')) rfl rfl hR (by kernel_rfl) rfl (by unfold OpT.cells; rw [List.all_toArray]; rfl) ?_
 have hs5 := HS.out.putRow (c' := (ownO o).cells (.slice a' k c')) (pre := []) (by intro i hi; cases hi)
 have h6 := elems_row (R := w.heap.size + 1) HE.out.2 (fun ad e => (HP.out ad e).2) ((ownO o).cells (.slice a' k c'))
 simp only [Act.put, List.setIfInBounds_toArray, List.set_cons_succ, List.set_cons_zero]
 obtain ⟨w5, hw5⟩ : ∃ w5, w3.setRow (w.heap.size + 1) ((ownO o).cells (.slice a' k c')) = w5 := ⟨_, rfl⟩
 rw [hw5] at hs5 h6
 rw [hw5]
 have HC := H7 HE.out.1
 clear hw5 h1 hR HE
 have HS := H7 hs5
 have H6 := H7 h6
 clear hs5 h6
 gi_wp2_with fail
 go_wp2_with fail
 have hl := run_loadVar_row (P := Tryz.prog) w5 (w.heap.size + 1) 31 31 ((ownO o).cells (.slice a' k c')) (0, 0) _ (HS.out.blockAt 0 rfl) Tryz.underlying31 rfl (by kernel_rfl)
 have hkk : (ownO o).px.length = k := HKL.out
 exact bodyPost_ret (results_cell1 Tryz.results9 rfl hl) rfl ⟨_, rfl, ⟨a', c', by rw [hkk], by rw [hkk]; exact HC.out, by rw [hkk]; exact H6.out⟩, HS.out.low⟩
end Go.Proofs.YtgdcfkbimkclaaaGreatDoor
