/- Rows of ids: cloned, compared, sorted. -/
import Derived.Test.YtppaheekpmgifaaDoorIdC
import Derived.Test.YtppaheekpmgifaaDoorSort
import Derived.Test.YtppaheekpmgifaaDoorBaseF
namespace Go.Proofs.YtppaheekpmgifaaDoor
set_option linter.unusedSimpArgs false
set_option linter.unusedVariables false
open Go.RowKit Go.Shelf

instance : Inhabited IdT := ⟨⟨0, 0, 0⟩⟩
def encId (i : IdT) : List Value := [.int .u64 i.time, .int .i64 i.site, .int .u64 i.seq]
theorem encId_len (i : IdT) : (encId i).length = 3 := rfl
theorem encId_one (x : IdT) : ∀ u ∈ encId x, u.oneCell' = true := fun u hu => by simp [encId] at hu; rcases hu with rfl | rfl | rfl <;> rfl

theorem lay_eqId : Go.Proofs.SlLaysQ.n8 Tryd.prog ⟨fun | 8 => 31 | n => n, fun | 22 => 22 | 24 => 27 | 4 => 4 | 3 => 3 | 0 => 0 | n => n, fun | n => n⟩ := {
  mixed := by kernel_rfl
  f8 := ⟨Tryd.f31.name, by decide, Tryd.func31.trans (congrArg some (by kernel_rfl))⟩
  t22 := Tryd.underlying22
  a22 := Tryd.isAgg22
  z22 := Tryd.sizeOf22
  v22 := Tryd.zeroValue22
  t4 := Tryd.underlying4
  a4 := Tryd.isAgg4
  z4 := Tryd.sizeOf4
  v4 := Tryd.zeroValue4
  t3 := Tryd.underlying3
  a3 := Tryd.isAgg3
  z3 := Tryd.sizeOf3
  v3 := Tryd.zeroValue3
  t0 := Tryd.underlying0
  a0 := Tryd.isAgg0
  z0 := Tryd.sizeOf0
  v0 := Tryd.zeroValue0 }
theorem lay_cloneId : Go.Proofs.SlLaysE0.n41 Tryd.prog ⟨fun | 41 => 26 | n => n, fun | 22 => 22 | 23 => 27 | 4 => 4 | n => n, fun | n => n⟩ := {
  mixed := by kernel_rfl
  f41 := ⟨Tryd.f26.name, by decide, Tryd.func26.trans (congrArg some (by kernel_rfl))⟩
  t22 := Tryd.underlying22
  a22 := Tryd.isAgg22
  z22 := Tryd.sizeOf22
  v22 := Tryd.zeroValue22
  t4 := Tryd.underlying4
  a4 := Tryd.isAgg4
  z4 := Tryd.sizeOf4
  v4 := Tryd.zeroValue4 }
theorem lay_sortId : Go.Proofs.SlLaysF0.n6 Tryd.prog ⟨fun | 6 => 48 | 14 => 57 | 15 => 58 | 20 => 62 | 21 => 63 | 22 => 64 | 23 => 65 | 24 => 66 | 25 => 67 | 26 => 68 | 27 => 69 | 28 => 70 | 29 => 71 | 46 => 77 | 47 => 78 | 48 => 79 | 49 => 80 | 50 => 81 | 57 => 86 | n => n, fun | 0 => 0 | 3 => 3 | 4 => 4 | 5 => 5 | 9 => 9 | 22 => 22 | 25 => 67 | 39 => 62 | 45 => 102 | 46 => 103 | 50 => 107 | 53 => 110 | 55 => 25 | 66 => 116 | 70 => 120 | 76 => 126 | 77 => 127 | 24 => 27 | n => n, fun | n => n⟩ := {
  mixed := by kernel_rfl
  f6 := ⟨Tryd.f48.name, by decide, Tryd.func48.trans (congrArg some (by kernel_rfl))⟩
  f14 := ⟨Tryd.f57.name, by decide, Tryd.func57.trans (congrArg some (by kernel_rfl))⟩
  f15 := Tryd.func58.trans (congrArg some (by kernel_rfl))
  f20 := ⟨Tryd.f62.name, by decide, Tryd.func62.trans (congrArg some (by kernel_rfl))⟩
  f21 := ⟨Tryd.f63.name, by decide, Tryd.func63.trans (congrArg some (by kernel_rfl))⟩
  f22 := ⟨Tryd.f64.name, by decide, Tryd.func64.trans (congrArg some (by kernel_rfl))⟩
  f23 := ⟨Tryd.f65.name, by decide, Tryd.func65.trans (congrArg some (by kernel_rfl))⟩
  f24 := ⟨Tryd.f66.name, by decide, Tryd.func66.trans (congrArg some (by kernel_rfl))⟩
  f25 := ⟨Tryd.f67.name, by decide, Tryd.func67.trans (congrArg some (by kernel_rfl))⟩
  f26 := ⟨Tryd.f68.name, by decide, Tryd.func68.trans (congrArg some (by kernel_rfl))⟩
  f27 := ⟨Tryd.f69.name, by decide, Tryd.func69.trans (congrArg some (by kernel_rfl))⟩
  f28 := Tryd.func70.trans (congrArg some (by kernel_rfl))
  f29 := Tryd.func71.trans (congrArg some (by kernel_rfl))
  f46 := ⟨Tryd.f77.name, by decide, Tryd.func77.trans (congrArg some (by kernel_rfl))⟩
  f47 := Tryd.func78.trans (congrArg some (by kernel_rfl))
  f48 := Tryd.func79.trans (congrArg some (by kernel_rfl))
  f49 := ⟨Tryd.f80.name, by decide, Tryd.func80.trans (congrArg some (by kernel_rfl))⟩
  f50 := ⟨Tryd.f81.name, by decide, Tryd.func81.trans (congrArg some (by kernel_rfl))⟩
  f57 := ⟨Tryd.f86.name, by decide, Tryd.func86.trans (congrArg some (by kernel_rfl))⟩
  t0 := Tryd.underlying0
  a0 := Tryd.isAgg0
  z0 := Tryd.sizeOf0
  v0 := Tryd.zeroValue0
  t3 := Tryd.underlying3
  a3 := Tryd.isAgg3
  z3 := Tryd.sizeOf3
  v3 := Tryd.zeroValue3
  t4 := Tryd.underlying4
  a4 := Tryd.isAgg4
  z4 := Tryd.sizeOf4
  v4 := Tryd.zeroValue4
  t5 := Tryd.underlying5
  a5 := Tryd.isAgg5
  z5 := Tryd.sizeOf5
  v5 := Tryd.zeroValue5
  t9 := Tryd.underlying9
  a9 := Tryd.isAgg9
  z9 := Tryd.sizeOf9
  v9 := Tryd.zeroValue9
  t22 := Tryd.underlying22
  a22 := Tryd.isAgg22
  z22 := Tryd.sizeOf22
  v22 := Tryd.zeroValue22
  t25 := Tryd.underlying67
  a25 := Tryd.isAgg67
  z25 := Tryd.sizeOf67
  v25 := Tryd.zeroValue67
  t39 := Tryd.underlying62
  a39 := Tryd.isAgg62
  z39 := Tryd.sizeOf62
  v39 := Tryd.zeroValue62
  t45 := Tryd.underlying102
  a45 := Tryd.isAgg102
  z45 := Tryd.sizeOf102
  v45 := Tryd.zeroValue102
  t46 := Tryd.underlying103
  a46 := Tryd.isAgg103
  z46 := Tryd.sizeOf103
  v46 := Tryd.zeroValue103
  t50 := Tryd.underlying107
  a50 := Tryd.isAgg107
  z50 := Tryd.sizeOf107
  v50 := Tryd.zeroValue107
  t53 := Tryd.underlying110
  a53 := Tryd.isAgg110
  z53 := Tryd.sizeOf110
  v53 := Tryd.zeroValue110
  t55 := Tryd.underlying25
  a55 := Tryd.isAgg25
  z55 := Tryd.sizeOf25
  v55 := Tryd.zeroValue25
  t66 := Tryd.underlying116
  a66 := Tryd.isAgg116
  z66 := Tryd.sizeOf116
  v66 := Tryd.zeroValue116
  t70 := Tryd.underlying120
  a70 := Tryd.isAgg120
  z70 := Tryd.sizeOf120
  v70 := Tryd.zeroValue120
  t76 := Tryd.underlying126
  a76 := Tryd.isAgg126
  z76 := Tryd.sizeOf126
  v76 := Tryd.zeroValue126
  t77 := Tryd.underlying127
  a77 := Tryd.isAgg127
  z77 := Tryd.sizeOf127
  v77 := Tryd.zeroValue127 }

theorem neq_id : NeqAt Tryd.prog 27 (fun x => .agg (encId x).toArray) idEqB := ⟨fun x y w => run_neq_id w _ _ _ _ _ _, GuardAt.agg _ (by kernel_rfl)⟩
theorem infoId : (Tryd.prog.info? 27).map (fun i => (i.zero, i.size, i.bytes)) = some (some (.agg #[.int .u64 0, .int .i64 0, .int .u64 0]), 3, 24) := by kernel_rfl
theorem eqId_any (s1 s2 : Value) (l m : List IdT) (w : World) (h1 : Elems w s1 l.length 3 (rowC encId l)) (h2 : Elems w s2 m.length 3 (rowC encId m)) (hl : l.length ≤ 1000000000) :
    Calls Tryd.prog 31 #[s1, s2] w (Gives (.bool (sameB l m)) w) := by
  rw [← allEq_sameB idEqB idEqB_iff]
  exact eqRows lay_eqId 3 Tryd.isAgg27 Tryd.sizeOf27 encId encId_len idEqB neq_id s1 s2 l m w h1 h2 hl
theorem cloneId_any (sv : Value) (l : List IdT) (w : World) (h : Elems w sv l.length 3 (rowC encId l)) (hl : l.length ≤ 1000000000) :
    Calls Tryd.prog 26 #[sv] w (Cloned 27 3 l.length (l.flatMap encId) sv w) := by
  obtain ⟨i0, hi, hz0, hz1, hz2⟩ := info_parts infoId
  exact cloneRows lay_cloneId i0 _ 3 24 hi hz0 hz1 hz2 rfl (by omega) Tryd.sizeOf27 encId encId_len encId_one sv l w h hl (by omega)

/-- Ids as they stand. -/
def sortIds (l : List IdT) : List IdT := l.mergeSort fun x y => !idLess y x
theorem ltId (x y : IdT) : ltOf cmpId x y = idLess x y := by unfold ltOf; exact cmpId_lt x y
theorem idLess_iff (a b : IdT) : idLess a b = true ↔ a.time < b.time ∨ a.time = b.time ∧ (a.site < b.site ∨ a.site = b.site ∧ a.seq < b.seq) := by
  unfold idLess
  by_cases h1 : a.time = b.time
  · by_cases h2 : a.site = b.site
    · simp [h1, h2]
    · rw [if_neg (by simpa using h1), if_pos h2]; simp [h1, h2]
  · rw [if_pos h1]; simp [h1]
theorem idLess_total (x y : IdT) (h1 : idLess x y = false) (h2 : idLess y x = false) : x = y := by
  have h1' : ¬ idLess x y = true := by rw [h1]; simp
  have h2' : ¬ idLess y x = true := by rw [h2]; simp
  rw [idLess_iff] at h1' h2'
  obtain ⟨a, b, c⟩ := x
  obtain ⟨d, e, f⟩ := y
  simp only [IdT.mk.injEq]
  dsimp only at *
  omega
theorem swoId : Sort.SWO (ltOf cmpId) where
  irrefl x := by
    rw [ltId]
    cases h : idLess x x with
    | false => rfl
    | true => rw [idLess_iff] at h; omega
  trans x y z h1 h2 := by
    rw [ltId, idLess_iff] at *
    omega
  ntrans x y z h1 h2 := by
    rw [ltId] at *
    cases h : idLess x z with
    | false => rfl
    | true =>
      have h1' : ¬ idLess x y = true := by rw [h1]; simp
      have h2' : ¬ idLess y z = true := by rw [h2]; simp
      rw [idLess_iff] at h h1' h2'
      omega

set_option maxRecDepth 100000 in
set_option maxHeartbeats 1000000 in
/-- ident.Sorted. -/
theorem sorted_any (sv : Value) (l : List IdT) (w : World) (h : Elems w sv l.length 3 (rowC encId l)) (hl : l.length ≤ 1000000) :
    Calls Tryd.prog 30 #[sv] w (GivesRow 27 3 l.length ((sortIds l).flatMap encId) w) := by
  obtain ⟨a, cap, rfl, _⟩ := h.shape
  have H := Lib.hid h
  clear h
  go_enter Tryd.func30, Tryd.ntmps30
  go_wp2_with fail
  refine (cloneId_any _ l _ H.out (by omega)).mono ?_
  rintro e w1 ⟨v, rfl, hrow, _, hb⟩
  have Hrow := Lib.hid hrow
  have HB := Lib.hid hb
  obtain ⟨sa, sc, rfl⟩ : ∃ sa sc, v = .slice sa l.length sc := by
    obtain ⟨sa, sc, e, _⟩ := (ownsRow_rows encId_len hrow).shape
    exact ⟨sa, sc, e⟩
  clear hrow hb
  go_wp2_with fail
  refine (sortRows lay_sortId 3 Tryd.isAgg27 Tryd.sizeOf27 encId encId_len encId_one cmpId swoId 29 #[] (enters_of Tryd.func29 (by kernel_rfl) rfl)
    (fun x y w => compare_any x y w) (fun x y h1 h2 => by rw [ltId] at h1 h2; exact idLess_total x y h1 h2) _ l w.heap.size _ Hrow.out HB.out.size (by omega)).mono ?_
  rintro e w2 ⟨rfl, hrow2, hb2⟩
  have Hrow := Lib.hid hrow2
  have HB := Lib.hid (HB.out.trans hb2)
  clear hrow2 hb2
  go_wp2_with fail
  go_ret
  refine ⟨_, rfl, ?_, HB.out⟩
  have e : sortIds l = l.mergeSort fun x y => !(ltOf cmpId) y x := by unfold sortIds; congr 1; funext x y; rw [ltId]
  rw [e]
  exact Hrow.out
end Go.Proofs.YtppaheekpmgifaaDoor
