/- Rows of ids: cloned, compared, sorted. -/
import Derived.Test.YtppaheekpmgifaaIdC
import Derived.Test.YtppaheekpmgifaaSort
import Derived.Test.YtppaheekpmgifaaBaseF
namespace Go.Proofs.Ytppaheekpmgifaa
set_option linter.unusedSimpArgs false
set_option linter.unusedVariables false
open Go.RowKit Go.Shelf

instance : Inhabited IdT := ⟨⟨0, 0, 0⟩⟩
def encId (i : IdT) : List Value := [.int .u64 i.time, .int .i64 i.site, .int .u64 i.seq]
theorem encId_len (i : IdT) : (encId i).length = 3 := rfl
theorem encId_one (x : IdT) : ∀ u ∈ encId x, u.oneCell' = true := fun u hu => by simp [encId] at hu; rcases hu with rfl | rfl | rfl <;> rfl

theorem lay_eqId : Go.Proofs.SlLaysQ.n8 Try.prog ⟨fun | 8 => 32 | n => n, fun | 22 => 50 | 24 => 38 | 4 => 4 | 3 => 3 | 0 => 0 | n => n, fun | n => n⟩ := {
  mixed := by kernel_rfl
  f8 := ⟨Try.f32.name, by decide, Try.func32.trans (congrArg some (by kernel_rfl))⟩
  t22 := Try.underlying50
  a22 := Try.isAgg50
  z22 := Try.sizeOf50
  v22 := Try.zeroValue50
  t4 := Try.underlying4
  a4 := Try.isAgg4
  z4 := Try.sizeOf4
  v4 := Try.zeroValue4
  t3 := Try.underlying3
  a3 := Try.isAgg3
  z3 := Try.sizeOf3
  v3 := Try.zeroValue3
  t0 := Try.underlying0
  a0 := Try.isAgg0
  z0 := Try.sizeOf0
  v0 := Try.zeroValue0 }
theorem lay_cloneId : Go.Proofs.SlLaysE0.n41 Try.prog ⟨fun | 41 => 26 | n => n, fun | 22 => 50 | 23 => 38 | 4 => 4 | n => n, fun | n => n⟩ := {
  mixed := by kernel_rfl
  f41 := ⟨Try.f26.name, by decide, Try.func26.trans (congrArg some (by kernel_rfl))⟩
  t22 := Try.underlying50
  a22 := Try.isAgg50
  z22 := Try.sizeOf50
  v22 := Try.zeroValue50
  t4 := Try.underlying4
  a4 := Try.isAgg4
  z4 := Try.sizeOf4
  v4 := Try.zeroValue4 }
theorem lay_sortId : Go.Proofs.SlLaysF0.n6 Try.prog ⟨fun | 6 => 51 | 14 => 54 | 15 => 55 | 20 => 59 | 21 => 60 | 22 => 61 | 23 => 62 | 24 => 63 | 25 => 64 | 26 => 65 | 27 => 66 | 28 => 67 | 29 => 68 | 46 => 71 | 47 => 72 | 48 => 73 | 49 => 74 | 50 => 75 | 57 => 76 | n => n, fun | 0 => 0 | 3 => 3 | 4 => 4 | 5 => 5 | 9 => 9 | 22 => 50 | 25 => 78 | 39 => 81 | 45 => 86 | 46 => 87 | 50 => 91 | 53 => 94 | 55 => 22 | 66 => 98 | 70 => 102 | 76 => 104 | 77 => 105 | 24 => 38 | n => n, fun | n => n⟩ := {
  mixed := by kernel_rfl
  f6 := ⟨Try.f51.name, by decide, Try.func51.trans (congrArg some (by kernel_rfl))⟩
  f14 := ⟨Try.f54.name, by decide, Try.func54.trans (congrArg some (by kernel_rfl))⟩
  f15 := Try.func55.trans (congrArg some (by kernel_rfl))
  f20 := ⟨Try.f59.name, by decide, Try.func59.trans (congrArg some (by kernel_rfl))⟩
  f21 := ⟨Try.f60.name, by decide, Try.func60.trans (congrArg some (by kernel_rfl))⟩
  f22 := ⟨Try.f61.name, by decide, Try.func61.trans (congrArg some (by kernel_rfl))⟩
  f23 := ⟨Try.f62.name, by decide, Try.func62.trans (congrArg some (by kernel_rfl))⟩
  f24 := ⟨Try.f63.name, by decide, Try.func63.trans (congrArg some (by kernel_rfl))⟩
  f25 := ⟨Try.f64.name, by decide, Try.func64.trans (congrArg some (by kernel_rfl))⟩
  f26 := ⟨Try.f65.name, by decide, Try.func65.trans (congrArg some (by kernel_rfl))⟩
  f27 := ⟨Try.f66.name, by decide, Try.func66.trans (congrArg some (by kernel_rfl))⟩
  f28 := Try.func67.trans (congrArg some (by kernel_rfl))
  f29 := Try.func68.trans (congrArg some (by kernel_rfl))
  f46 := ⟨Try.f71.name, by decide, Try.func71.trans (congrArg some (by kernel_rfl))⟩
  f47 := Try.func72.trans (congrArg some (by kernel_rfl))
  f48 := Try.func73.trans (congrArg some (by kernel_rfl))
  f49 := ⟨Try.f74.name, by decide, Try.func74.trans (congrArg some (by kernel_rfl))⟩
  f50 := ⟨Try.f75.name, by decide, Try.func75.trans (congrArg some (by kernel_rfl))⟩
  f57 := ⟨Try.f76.name, by decide, Try.func76.trans (congrArg some (by kernel_rfl))⟩
  t0 := Try.underlying0
  a0 := Try.isAgg0
  z0 := Try.sizeOf0
  v0 := Try.zeroValue0
  t3 := Try.underlying3
  a3 := Try.isAgg3
  z3 := Try.sizeOf3
  v3 := Try.zeroValue3
  t4 := Try.underlying4
  a4 := Try.isAgg4
  z4 := Try.sizeOf4
  v4 := Try.zeroValue4
  t5 := Try.underlying5
  a5 := Try.isAgg5
  z5 := Try.sizeOf5
  v5 := Try.zeroValue5
  t9 := Try.underlying9
  a9 := Try.isAgg9
  z9 := Try.sizeOf9
  v9 := Try.zeroValue9
  t22 := Try.underlying50
  a22 := Try.isAgg50
  z22 := Try.sizeOf50
  v22 := Try.zeroValue50
  t25 := Try.underlying78
  a25 := Try.isAgg78
  z25 := Try.sizeOf78
  v25 := Try.zeroValue78
  t39 := Try.underlying81
  a39 := Try.isAgg81
  z39 := Try.sizeOf81
  v39 := Try.zeroValue81
  t45 := Try.underlying86
  a45 := Try.isAgg86
  z45 := Try.sizeOf86
  v45 := Try.zeroValue86
  t46 := Try.underlying87
  a46 := Try.isAgg87
  z46 := Try.sizeOf87
  v46 := Try.zeroValue87
  t50 := Try.underlying91
  a50 := Try.isAgg91
  z50 := Try.sizeOf91
  v50 := Try.zeroValue91
  t53 := Try.underlying94
  a53 := Try.isAgg94
  z53 := Try.sizeOf94
  v53 := Try.zeroValue94
  t55 := Try.underlying22
  a55 := Try.isAgg22
  z55 := Try.sizeOf22
  v55 := Try.zeroValue22
  t66 := Try.underlying98
  a66 := Try.isAgg98
  z66 := Try.sizeOf98
  v66 := Try.zeroValue98
  t70 := Try.underlying102
  a70 := Try.isAgg102
  z70 := Try.sizeOf102
  v70 := Try.zeroValue102
  t76 := Try.underlying104
  a76 := Try.isAgg104
  z76 := Try.sizeOf104
  v76 := Try.zeroValue104
  t77 := Try.underlying105
  a77 := Try.isAgg105
  z77 := Try.sizeOf105
  v77 := Try.zeroValue105 }

theorem neq_id : NeqAt Try.prog 38 (fun x => .agg (encId x).toArray) idEqB := ⟨fun x y w => run_neq_id w _ _ _ _ _ _, GuardAt.agg _ (by kernel_rfl)⟩
theorem infoId : (Try.prog.info? 38).map (fun i => (i.zero, i.size, i.bytes)) = some (some (.agg #[.int .u64 0, .int .i64 0, .int .u64 0]), 3, 24) := by kernel_rfl
theorem eqId_any (s1 s2 : Value) (l m : List IdT) (w : World) (h1 : Elems w s1 l.length 3 (rowC encId l)) (h2 : Elems w s2 m.length 3 (rowC encId m)) (hl : l.length ≤ 1000000000) :
    Calls Try.prog 32 #[s1, s2] w (Gives (.bool (sameB l m)) w) := by
  rw [← allEq_sameB idEqB idEqB_iff]
  exact eqRows lay_eqId 3 Try.isAgg38 Try.sizeOf38 encId encId_len idEqB neq_id s1 s2 l m w h1 h2 hl
theorem cloneId_any (sv : Value) (l : List IdT) (w : World) (h : Elems w sv l.length 3 (rowC encId l)) (hl : l.length ≤ 1000000000) :
    Calls Try.prog 26 #[sv] w (Cloned 38 3 l.length (l.flatMap encId) sv w) := by
  obtain ⟨i0, hi, hz0, hz1, hz2⟩ := info_parts infoId
  exact cloneRows lay_cloneId i0 _ 3 24 hi hz0 hz1 hz2 rfl (by omega) Try.sizeOf38 encId encId_len encId_one sv l w h hl (by omega)

/-- Ids as they stand. -/
def sortIds (l : List IdT) : List IdT := l.mergeSort fun x y => !idLess y x
theorem ltId (x y : IdT) : ltOf cmpId x y = idLess x y := by unfold ltOf; exact cmpId_lt x y
theorem idLess_iff (a b : IdT) : idLess a b = true ↔ a.time < b.time ∨ a.time = b.time ∧ (a.site < b.site ∨ a.site = b.site ∧ a.seq < b.seq) := by
  unfold idLess
  by_cases h1 : a.time = b.time
  · by_cases h2 : a.site = b.site
    · simp [h1, h2]
    · rw [if_neg (by simpa using h1), if_pos h2]; simp [h1, h2]
  · rw [if_pos h1]; simp [h1]
theorem idLess_total (x y : IdT) (h1 : idLess x y = false) (h2 : idLess y x = false) : x = y := by
  have h1' : ¬ idLess x y = true := by rw [h1]; simp
  have h2' : ¬ idLess y x = true := by rw [h2]; simp
  rw [idLess_iff] at h1' h2'
  obtain ⟨a, b, c⟩ := x
  obtain ⟨d, e, f⟩ := y
  simp only [IdT.mk.injEq]
  dsimp only at *
  omega
theorem swoId : Sort.SWO (ltOf cmpId) where
  irrefl x := by
    rw [ltId]
    cases h : idLess x x with
    | false => rfl
    | true => rw [idLess_iff] at h; omega
  trans x y z h1 h2 := by
    rw [ltId, idLess_iff] at *
    omega
  ntrans x y z h1 h2 := by
    rw [ltId] at *
    cases h : idLess x z with
    | false => rfl
    | true =>
      have h1' : ¬ idLess x y = true := by rw [h1]; simp
      have h2' : ¬ idLess y z = true := by rw [h2]; simp
      rw [idLess_iff] at h h1' h2'
      omega

set_option maxRecDepth 100000 in
set_option maxHeartbeats 1000000 in
/-- ident.Sorted. -/
theorem sorted_any (sv : Value) (l : List IdT) (w : World) (h : Elems w sv l.length 3 (rowC encId l)) (hl : l.length ≤ 1000000) :
    Calls Try.prog 46 #[sv] w (GivesRow 38 3 l.length ((sortIds l).flatMap encId) w) := by
  obtain ⟨a, cap, rfl, _⟩ := h.shape
  have H := Lib.hid h
  clear h
  go_enter Try.func46, Try.ntmps46
  go_wp2_with fail
  refine (cloneId_any _ l _ H.out (by omega)).mono ?_
  rintro e w1 ⟨v, rfl, hrow, _, hb⟩
  have Hrow := Lib.hid hrow
  have HB := Lib.hid hb
  obtain ⟨sa, sc, rfl⟩ : ∃ sa sc, v = .slice sa l.length sc := by
    obtain ⟨sa, sc, e, _⟩ := (ownsRow_rows encId_len hrow).shape
    exact ⟨sa, sc, e⟩
  clear hrow hb
  go_wp2_with fail
  refine (sortRows lay_sortId 3 Try.isAgg38 Try.sizeOf38 encId encId_len encId_one cmpId swoId 52 #[] (enters_of Try.func52 (by kernel_rfl) rfl)
    (fun x y w => compare_any x y w) (fun x y h1 h2 => by rw [ltId] at h1 h2; exact idLess_total x y h1 h2) _ l w.heap.size _ Hrow.out HB.out.size (by omega)).mono ?_
  rintro e w2 ⟨rfl, hrow2, hb2⟩
  have Hrow := Lib.hid hrow2
  have HB := Lib.hid (HB.out.trans hb2)
  clear hrow2 hb2
  go_wp2_with fail
  go_ret
  refine ⟨_, rfl, ?_, HB.out⟩
  have e : sortIds l = l.mergeSort fun x y => !(ltOf cmpId) y x := by unfold sortIds; congr 1; funext x y; rw [ltId]
  rw [e]
  exact Hrow.out
end Go.Proofs.Ytppaheekpmgifaa
