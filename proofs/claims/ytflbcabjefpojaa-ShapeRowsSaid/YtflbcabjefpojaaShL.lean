/- Layer 6: slices.Equal, slices.Clone at places and spans; slices.SortFunc at spans. -/
import Derived.Test.YtflbcabjefpojaaShK
import Derived.Test.YtflbcabjefpojaaSort
namespace Go.Proofs.Ytflbcabjefpojaa
set_option linter.unusedSimpArgs false
set_option linter.unusedVariables false
open Go.RowKit Go.Shelf

theorem lay_eqS : Go.Proofs.SlLaysQ.n8 Try.prog ⟨fun | 8 => 17 | n => n, fun | 22 => 29 | 24 => 39 | 4 => 4 | 3 => 3 | 0 => 0 | n => n, fun | n => n⟩ := {
  mixed := by kernel_rfl
  f8 := ⟨Try.f17.name, by decide, Try.func17.trans (congrArg some (by kernel_rfl))⟩
  t22 := Try.underlying29
  a22 := Try.isAgg29
  z22 := Try.sizeOf29
  v22 := Try.zeroValue29
  t4 := Try.underlying4
  a4 := Try.isAgg4
  z4 := Try.sizeOf4
  v4 := Try.zeroValue4
  t3 := Try.underlying3
  a3 := Try.isAgg3
  z3 := Try.sizeOf3
  v3 := Try.zeroValue3
  t0 := Try.underlying0
  a0 := Try.isAgg0
  z0 := Try.sizeOf0
  v0 := Try.zeroValue0 }
theorem lay_eqP : Go.Proofs.SlLaysQ.n8 Try.prog ⟨fun | 8 => 18 | n => n, fun | 22 => 22 | 24 => 28 | 4 => 4 | 3 => 3 | 0 => 0 | n => n, fun | n => n⟩ := {
  mixed := by kernel_rfl
  f8 := ⟨Try.f18.name, by decide, Try.func18.trans (congrArg some (by kernel_rfl))⟩
  t22 := Try.underlying22
  a22 := Try.isAgg22
  z22 := Try.sizeOf22
  v22 := Try.zeroValue22
  t4 := Try.underlying4
  a4 := Try.isAgg4
  z4 := Try.sizeOf4
  v4 := Try.zeroValue4
  t3 := Try.underlying3
  a3 := Try.isAgg3
  z3 := Try.sizeOf3
  v3 := Try.zeroValue3
  t0 := Try.underlying0
  a0 := Try.isAgg0
  z0 := Try.sizeOf0
  v0 := Try.zeroValue0 }
theorem lay_cloneS : Go.Proofs.SlLaysE0.n41 Try.prog ⟨fun | 41 => 48 | n => n, fun | 22 => 29 | 23 => 39 | 4 => 4 | n => n, fun | n => n⟩ := {
  mixed := by kernel_rfl
  f41 := ⟨Try.f48.name, by decide, Try.func48.trans (congrArg some (by kernel_rfl))⟩
  t22 := Try.underlying29
  a22 := Try.isAgg29
  z22 := Try.sizeOf29
  v22 := Try.zeroValue29
  t4 := Try.underlying4
  a4 := Try.isAgg4
  z4 := Try.sizeOf4
  v4 := Try.zeroValue4 }
theorem lay_cloneP : Go.Proofs.SlLaysE0.n41 Try.prog ⟨fun | 41 => 10 | n => n, fun | 22 => 22 | 23 => 28 | 4 => 4 | n => n, fun | n => n⟩ := {
  mixed := by kernel_rfl
  f41 := ⟨Try.f10.name, by decide, Try.func10.trans (congrArg some (by kernel_rfl))⟩
  t22 := Try.underlying22
  a22 := Try.isAgg22
  z22 := Try.sizeOf22
  v22 := Try.zeroValue22
  t4 := Try.underlying4
  a4 := Try.isAgg4
  z4 := Try.sizeOf4
  v4 := Try.zeroValue4 }
theorem lay_sortS : Go.Proofs.SlLaysF0.n6 Try.prog ⟨fun | 6 => 60 | 14 => 65 | 15 => 66 | 20 => 68 | 21 => 69 | 22 => 70 | 23 => 71 | 24 => 72 | 25 => 73 | 26 => 74 | 27 => 75 | 28 => 76 | 29 => 77 | 46 => 87 | 47 => 88 | 48 => 89 | 49 => 90 | 50 => 91 | 57 => 95 | n => n, fun | 0 => 0 | 3 => 3 | 4 => 4 | 5 => 5 | 9 => 9 | 22 => 29 | 25 => 102 | 39 => 107 | 45 => 110 | 46 => 111 | 50 => 115 | 53 => 118 | 55 => 120 | 66 => 126 | 70 => 130 | 76 => 134 | 77 => 94 | 24 => 39 | n => n, fun | n => n⟩ := {
  mixed := by kernel_rfl
  f6 := ⟨Try.f60.name, by decide, Try.func60.trans (congrArg some (by kernel_rfl))⟩
  f14 := ⟨Try.f65.name, by decide, Try.func65.trans (congrArg some (by kernel_rfl))⟩
  f15 := Try.func66.trans (congrArg some (by kernel_rfl))
  f20 := ⟨Try.f68.name, by decide, Try.func68.trans (congrArg some (by kernel_rfl))⟩
  f21 := ⟨Try.f69.name, by decide, Try.func69.trans (congrArg some (by kernel_rfl))⟩
  f22 := ⟨Try.f70.name, by decide, Try.func70.trans (congrArg some (by kernel_rfl))⟩
  f23 := ⟨Try.f71.name, by decide, Try.func71.trans (congrArg some (by kernel_rfl))⟩
  f24 := ⟨Try.f72.name, by decide, Try.func72.trans (congrArg some (by kernel_rfl))⟩
  f25 := ⟨Try.f73.name, by decide, Try.func73.trans (congrArg some (by kernel_rfl))⟩
  f26 := ⟨Try.f74.name, by decide, Try.func74.trans (congrArg some (by kernel_rfl))⟩
  f27 := ⟨Try.f75.name, by decide, Try.func75.trans (congrArg some (by kernel_rfl))⟩
  f28 := Try.func76.trans (congrArg some (by kernel_rfl))
  f29 := Try.func77.trans (congrArg some (by kernel_rfl))
  f46 := ⟨Try.f87.name, by decide, Try.func87.trans (congrArg some (by kernel_rfl))⟩
  f47 := Try.func88.trans (congrArg some (by kernel_rfl))
  f48 := Try.func89.trans (congrArg some (by kernel_rfl))
  f49 := ⟨Try.f90.name, by decide, Try.func90.trans (congrArg some (by kernel_rfl))⟩
  f50 := ⟨Try.f91.name, by decide, Try.func91.trans (congrArg some (by kernel_rfl))⟩
  f57 := ⟨Try.f95.name, by decide, Try.func95.trans (congrArg some (by kernel_rfl))⟩
  t0 := Try.underlying0
  a0 := Try.isAgg0
  z0 := Try.sizeOf0
  v0 := Try.zeroValue0
  t3 := Try.underlying3
  a3 := Try.isAgg3
  z3 := Try.sizeOf3
  v3 := Try.zeroValue3
  t4 := Try.underlying4
  a4 := Try.isAgg4
  z4 := Try.sizeOf4
  v4 := Try.zeroValue4
  t5 := Try.underlying5
  a5 := Try.isAgg5
  z5 := Try.sizeOf5
  v5 := Try.zeroValue5
  t9 := Try.underlying9
  a9 := Try.isAgg9
  z9 := Try.sizeOf9
  v9 := Try.zeroValue9
  t22 := Try.underlying29
  a22 := Try.isAgg29
  z22 := Try.sizeOf29
  v22 := Try.zeroValue29
  t25 := Try.underlying102
  a25 := Try.isAgg102
  z25 := Try.sizeOf102
  v25 := Try.zeroValue102
  t39 := Try.underlying107
  a39 := Try.isAgg107
  z39 := Try.sizeOf107
  v39 := Try.zeroValue107
  t45 := Try.underlying110
  a45 := Try.isAgg110
  z45 := Try.sizeOf110
  v45 := Try.zeroValue110
  t46 := Try.underlying111
  a46 := Try.isAgg111
  z46 := Try.sizeOf111
  v46 := Try.zeroValue111
  t50 := Try.underlying115
  a50 := Try.isAgg115
  z50 := Try.sizeOf115
  v50 := Try.zeroValue115
  t53 := Try.underlying118
  a53 := Try.isAgg118
  z53 := Try.sizeOf118
  v53 := Try.zeroValue118
  t55 := Try.underlying120
  a55 := Try.isAgg120
  z55 := Try.sizeOf120
  v55 := Try.zeroValue120
  t66 := Try.underlying126
  a66 := Try.isAgg126
  z66 := Try.sizeOf126
  v66 := Try.zeroValue126
  t70 := Try.underlying130
  a70 := Try.isAgg130
  z70 := Try.sizeOf130
  v70 := Try.zeroValue130
  t76 := Try.underlying134
  a76 := Try.isAgg134
  z76 := Try.sizeOf134
  v76 := Try.zeroValue134
  t77 := Try.underlying94
  a77 := Try.isAgg94
  z77 := Try.sizeOf94
  v77 := Try.zeroValue94 }

def spEqB (a b : SpT) : Bool := a.y == b.y && (a.f == b.f && a.t == b.t)
theorem spEqB_iff (a b : SpT) : spEqB a b = true ↔ a = b := by
  obtain ⟨a1, a2, a3⟩ := a
  obtain ⟨b1, b2, b3⟩ := b
  simp [spEqB]
theorem run_neq_span (w : World) (a b c d e f : Int) : (binOp .neq 39 (.agg #[.int .i64 a, .int .i64 b, .int .i64 c]) (.agg #[.int .i64 d, .int .i64 e, .int .i64 f])).run Try.prog w = .ok (.bool (!spEqB ⟨a, b, c⟩ ⟨d, e, f⟩)) w := by
  unfold spEqB
  simp [binOp, Op.equal, Op.maxDepth, go_sem]
  by_cases h1 : a = d <;> by_cases h2 : b = e <;> by_cases h3 : c = f <;> simp [h1, h2, h3]
def ptEqB (a b : PtT) : Bool := a.x == b.x && a.y == b.y
theorem ptEqB_iff (a b : PtT) : ptEqB a b = true ↔ a = b := by
  obtain ⟨a1, a2⟩ := a
  obtain ⟨b1, b2⟩ := b
  simp [ptEqB]
theorem run_neq_point (w : World) (a b d e : Int) : (binOp .neq 28 (.agg #[.int .i64 a, .int .i64 b]) (.agg #[.int .i64 d, .int .i64 e])).run Try.prog w = .ok (.bool (!ptEqB ⟨a, b⟩ ⟨d, e⟩)) w := by
  unfold ptEqB
  simp [binOp, Op.equal, Op.maxDepth, go_sem]
  by_cases h1 : a = d <;> by_cases h2 : b = e <;> simp [h1, h2]
theorem run_eql_point (w : World) (a b d e : Int) : (binOp .eql 28 (.agg #[.int .i64 a, .int .i64 b]) (.agg #[.int .i64 d, .int .i64 e])).run Try.prog w = .ok (.bool (ptEqB ⟨a, b⟩ ⟨d, e⟩)) w := by
  unfold ptEqB
  simp [binOp, Op.equal, Op.maxDepth, go_sem]
  by_cases h1 : a = d <;> by_cases h2 : b = e <;> simp [h1, h2]
theorem neq_span : NeqAt Try.prog 39 (fun x => .agg (encS x).toArray) spEqB := ⟨fun x y w => run_neq_span w _ _ _ _ _ _, GuardAt.agg _ (by kernel_rfl)⟩
theorem neq_point : NeqAt Try.prog 28 (fun x => .agg (encP x).toArray) ptEqB := ⟨fun x y w => run_neq_point w _ _ _ _, GuardAt.agg _ (by kernel_rfl)⟩
instance : Inhabited SpT := ⟨⟨0, 0, 0⟩⟩
instance : Inhabited PtT := ⟨⟨0, 0⟩⟩
theorem infoS : (Try.prog.info? 39).map (fun i => (i.zero, i.size, i.bytes)) = some (some (.agg #[.int .i64 0, .int .i64 0, .int .i64 0]), 3, 24) := by kernel_rfl
theorem infoP : (Try.prog.info? 28).map (fun i => (i.zero, i.size, i.bytes)) = some (some (.agg #[.int .i64 0, .int .i64 0]), 2, 16) := by kernel_rfl
theorem eqS_any (s1 s2 : Value) (l m : List SpT) (w : World) (h1 : Elems w s1 l.length 3 (rowC encS l)) (h2 : Elems w s2 m.length 3 (rowC encS m)) (hl : l.length ≤ 1000000000) :
    Calls Try.prog 17 #[s1, s2] w (Gives (.bool (sameB l m)) w) := by
  rw [← allEq_sameB spEqB spEqB_iff]
  exact eqRows lay_eqS 3 Try.isAgg39 Try.sizeOf39 encS encS_len spEqB neq_span s1 s2 l m w h1 h2 hl
theorem eqP_any (s1 s2 : Value) (l m : List PtT) (w : World) (h1 : Elems w s1 l.length 2 (rowC encP l)) (h2 : Elems w s2 m.length 2 (rowC encP m)) (hl : l.length ≤ 1000000000) :
    Calls Try.prog 18 #[s1, s2] w (Gives (.bool (sameB l m)) w) := by
  rw [← allEq_sameB ptEqB ptEqB_iff]
  exact eqRows lay_eqP 2 Try.isAgg28 Try.sizeOf28 encP encP_len ptEqB neq_point s1 s2 l m w h1 h2 hl
theorem cloneS_any (sv : Value) (l : List SpT) (w : World) (h : Elems w sv l.length 3 (rowC encS l)) (hl : l.length ≤ 1000000000) :
    Calls Try.prog 48 #[sv] w (Cloned 39 3 l.length (l.flatMap encS) sv w) := by
  obtain ⟨i0, hi, hz0, hz1, hz2⟩ := info_parts infoS
  exact cloneRows lay_cloneS i0 _ 3 24 hi hz0 hz1 hz2 rfl (by omega) Try.sizeOf39 encS encS_len encS_one sv l w h hl (by omega)
theorem cloneP_any (sv : Value) (l : List PtT) (w : World) (h : Elems w sv l.length 2 (rowC encP l)) (hl : l.length ≤ 1000000000) :
    Calls Try.prog 10 #[sv] w (Cloned 28 2 l.length (l.flatMap encP) sv w) := by
  obtain ⟨i0, hi, hz0, hz1, hz2⟩ := info_parts infoP
  exact cloneRows lay_cloneP i0 _ 2 16 hi hz0 hz1 hz2 rfl (by omega) Try.sizeOf28 encP encP_len encP_one sv l w h hl (by omega)
end Go.Proofs.Ytflbcabjefpojaa
