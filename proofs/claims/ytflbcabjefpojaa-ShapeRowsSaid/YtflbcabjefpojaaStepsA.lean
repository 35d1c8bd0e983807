/- ShapeSteps: the plain law of lines; slices.Contains at places. -/
import Derived.Test.YtflbcabjefpojaaLinesA
import Derived.Shelf.SlicesQ.Contains
namespace Go.Proofs.Ytflbcabjefpojaa
set_option linter.unusedSimpArgs false
set_option linter.unusedVariables false
open Go.RowKit Go.Shelf

theorem less_step {n m i : Int} (hm : 0 ≤ m) (hmn : m ≤ n) : lessN n m (i + 1) = lessN n m i ∨ lessN n m (i + 1) = lessN n m i + 1 := by
  by_cases hn : 0 < n
  · obtain ⟨h1, h2, h3⟩ := less_next (i := i) hn hm hmn
    by_cases h : 2 * n ≤ restN n m i + 2 * m
    · exact .inr (h2 h).1
    · exact .inl (h3 (by omega)).1
  · left; unfold lessN; rw [if_neg hn, if_neg hn]
theorem way_in {a b : Int} {j : Int} (h0 : 0 ≤ j) (hj : j ≤ wayN a b) : min a b ≤ a + sideN a b * j ∧ a + sideN a b * j ≤ max a b := by
  obtain ⟨k, rfl⟩ := Int.eq_ofNat_of_zero_le h0
  exact ⟨(way_at hj).1, (way_at hj).2.1⟩
theorem linePt_in {a b : PtT} {i : Int} (h0 : 0 ≤ i) (h1 : i ≤ wayMax a b) : RectP a b (linePt a b i) := by
  unfold linePt RectP
  unfold wayMax at h1
  by_cases h : wayN a.x b.x < wayN a.y b.y
  · rw [decide_eq_true h, cond_true]
    have hl := less_le_m (n := wayN a.y b.y) (m := wayN a.x b.x) (i := i) (wayN_nonneg _ _) (by omega) h0 (by omega)
    exact ⟨way_in hl.1 hl.2, way_in h0 (by omega)⟩
  · rw [decide_eq_false h, cond_false]
    have hl := less_le_m (n := wayN a.x b.x) (m := wayN a.y b.y) (i := i) (wayN_nonneg _ _) (by omega) h0 (by omega)
    exact ⟨way_in h0 (by omega), way_in hl.1 hl.2⟩
theorem side_mul (a b i : Int) : sideN a b * (i + 1) = sideN a b * i + sideN a b := by rw [Int.mul_add, Int.mul_one]
theorem linePt_step (a b : PtT) (i : Int) : (-1 ≤ (linePt a b (i + 1)).x - (linePt a b i).x ∧ (linePt a b (i + 1)).x - (linePt a b i).x ≤ 1) ∧ (-1 ≤ (linePt a b (i + 1)).y - (linePt a b i).y ∧ (linePt a b (i + 1)).y - (linePt a b i).y ≤ 1) := by
  unfold linePt
  have sx := sideN_or a.x b.x
  have sy := sideN_or a.y b.y
  have mx := side_mul a.x b.x i
  have my := side_mul a.y b.y i
  by_cases h : wayN a.x b.x < wayN a.y b.y
  · rw [decide_eq_true h, cond_true, cond_true]
    simp only
    have hl := less_step (n := wayN a.y b.y) (m := wayN a.x b.x) (i := i) (wayN_nonneg _ _) (by omega)
    rcases hl with e | e <;> rw [e] <;> (try rw [side_mul]) <;> omega
  · rw [decide_eq_false h, cond_false, cond_false]
    simp only
    have hl := less_step (n := wayN a.x b.x) (m := wayN a.y b.y) (i := i) (wayN_nonneg _ _) (by omega)
    rcases hl with e | e <;> rw [e] <;> (try rw [side_mul a.y]) <;> omega
theorem linePt_inj {a b : PtT} {i j : Int} (h : linePt a b i = linePt a b j) : i = j := by
  unfold linePt at h
  have sx := sideN_or a.x b.x
  have sy := sideN_or a.y b.y
  by_cases hc : wayN a.x b.x < wayN a.y b.y
  · rw [decide_eq_true hc, cond_true, cond_true] at h
    have := congrArg PtT.y h
    simp only at this
    rcases sy with e | e <;> rw [e] at this <;> omega
  · rw [decide_eq_false hc, cond_false, cond_false] at h
    have := congrArg PtT.x h
    simp only at this
    rcases sx with e | e <;> rw [e] at this <;> omega
theorem linePt_first (a b : PtT) : linePt a b 0 = a := by
  by_cases h : wayN a.x b.x < wayN a.y b.y
  · exact (lineD_steep h).start
  · exact (lineD_flat h).start
theorem linePt_last (a b : PtT) : linePt a b (wayMax a b) = b := by
  have h0 : 0 ≤ wayMax a b := by have := wayN_nonneg a.x b.x; unfold wayMax; omega
  by_cases h : wayN a.x b.x < wayN a.y b.y
  · have hd := lineD_steep h
    have := (hd.fin (wayMax a b) h0 (by rw [← hd.top]; omega)).2 hd.top.symm
    exact this
  · have hd := lineD_flat h
    exact (hd.fin (wayMax a b) h0 (by rw [← hd.top]; omega)).2 hd.top.symm
theorem lineL_get {a b : PtT} {k : Nat} (h : (k : Int) ≤ wayMax a b) : (lineL a b)[k]? = some (linePt a b k) := by
  unfold lineL lineN
  rw [List.getElem?_map, List.getElem?_range (by omega)]
  rfl
theorem lineL_take {a b p : PtT} {k : Nat} (hp : linePt a b k = p) : ((lineL a b).take k).any (fun q => ptEqB p q) = false := by
  refine List.any_eq_false.2 fun q hq => ?_
  obtain ⟨j, hj⟩ := List.getElem?_of_mem hq
  have hjk : j < k := by
    have := (List.getElem?_eq_some_iff.1 hj).1
    rw [List.length_take] at this
    omega
  rw [List.getElem?_take_of_lt hjk] at hj
  unfold lineL lineN at hj
  rw [List.getElem?_map] at hj
  obtain ⟨i, hi, rfl⟩ := Option.map_eq_some_iff.1 hj
  have := (List.getElem?_eq_some_iff.1 hi).2
  rw [List.getElem_range] at this
  subst this
  intro he
  rw [ptEqB_iff, ← hp] at he
  have := linePt_inj he
  omega
theorem wayMax_max (a b : PtT) : wayMax a b = max (max (max (a.x - b.x) (b.x - a.x)) (a.y - b.y)) (b.y - a.y) := by
  unfold wayMax wayN
  split <;> split <;> omega

theorem lay_conP : Go.Proofs.SlLaysQ.n7 Try.prog ⟨fun | 6 => 57 | 7 => 36 | n => n, fun | 22 => 22 | 24 => 28 | 4 => 4 | 3 => 3 | 0 => 0 | n => n, fun | n => n⟩ := {
  mixed := by kernel_rfl
  f6 := ⟨Try.f57.name, by decide, Try.func57.trans (congrArg some (by kernel_rfl))⟩
  f7 := ⟨Try.f36.name, by decide, Try.func36.trans (congrArg some (by kernel_rfl))⟩
  t22 := Try.underlying22
  a22 := Try.isAgg22
  z22 := Try.sizeOf22
  v22 := Try.zeroValue22
  t4 := Try.underlying4
  a4 := Try.isAgg4
  z4 := Try.sizeOf4
  v4 := Try.zeroValue4
  t3 := Try.underlying3
  a3 := Try.isAgg3
  z3 := Try.sizeOf3
  v3 := Try.zeroValue3
  t0 := Try.underlying0
  a0 := Try.isAgg0
  z0 := Try.sizeOf0
  v0 := Try.zeroValue0 }
theorem eql_point : EqlAt Try.prog 28 (fun x => .agg (encP x).toArray) ptEqB := ⟨fun x y w => run_eql_point w _ _ _ _, GuardAt.agg _ (by kernel_rfl)⟩
theorem containsP (b off n cap : Nat) (l : List PtT) (hn : n ≤ l.length) (hb : n ≤ 9223372036854775807) (p : PtT) (w : World) (h : ∀ k x, l[k]? = some x → w.cell? ⟨b, off + k * 2, none⟩ = some (.int .i64 x.x) ∧ w.cell? ⟨b, off + k * 2 + 1, none⟩ = some (.int .i64 x.y)) :
    Calls Try.prog 36 #[.slice (some ⟨b, off, none⟩) n cap, p.val] w (Gives (.bool ((l.take n).any fun q => ptEqB p q)) w) :=
  (AnyQ.slices_Contains lay_conP 2 Try.isAgg28 Try.sizeOf28 encP encP_len ptEqB eql_point b off n cap l p w hn hb (fun j hj i v hv => by
    have hx : l[j]? = some l[j]! := by rw [List.getElem?_eq_getElem hj, List.getElem!_eq_getElem?_getD, List.getElem?_eq_getElem hj]; rfl
    obtain ⟨h0, h1⟩ := h j _ hx
    generalize l[j]! = x at *
    rcases i with _ | _ | i
    · simp only [encP, List.getElem?_cons_zero, Option.some.injEq] at hv; subst hv; exact h0
    · simp only [encP, List.getElem?_cons_succ, List.getElem?_cons_zero, Option.some.injEq] at hv; subst hv; exact h1
    · simp [encP] at hv)).mono fun _ _ h => h
end Go.Proofs.Ytflbcabjefpojaa
