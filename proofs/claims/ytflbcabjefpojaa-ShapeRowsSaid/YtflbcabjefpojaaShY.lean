/- Layer 6, plain: rows that are merged. -/
import Derived.Test.YtflbcabjefpojaaShS
import Derived.Test.YtflbcabjefpojaaShV
namespace Go.Proofs.Ytflbcabjefpojaa
set_option linter.unusedSimpArgs false
set_option linter.unusedVariables false
open Go.RowKit Go.Shelf

theorem GrOf_mem {L : List SpT} {y : Int} {s : SpT} : s ∈ GrOf L y ↔ s ∈ L ∧ s.y = y := by simp [GrOf]
theorem hasB_GrOf (L : List SpT) (p : PtT) : hasB (GrOf L p.y) p = hasB L p := by
  rw [Bool.eq_iff_iff, hasB_iff, hasB_iff]
  constructor
  · rintro ⟨s, hs, h⟩; exact ⟨s, (GrOf_mem.1 hs).1, h⟩
  · rintro ⟨s, hs, h⟩; exact ⟨s, GrOf_mem.2 ⟨hs, h.1⟩, h⟩
theorem hasB_perm {l m : List SpT} (h : l.Perm m) (p : PtT) : hasB l p = hasB m p := by
  rw [Bool.eq_iff_iff, hasB_iff, hasB_iff]
  exact ⟨fun ⟨s, hs, k⟩ => ⟨s, h.mem_iff.1 hs, k⟩, fun ⟨s, hs, k⟩ => ⟨s, h.mem_iff.2 hs, k⟩⟩
theorem sum_add {ks : List Int} {f g : Int → Nat} : (ks.map fun y => f y + g y).sum = (ks.map f).sum + (ks.map g).sum := by
  induction ks with
  | nil => rfl
  | cons a l ih => simp only [List.map_cons, List.sum_cons, ih]; omega
theorem sum_one {ks : List Int} (h : ks.Nodup) (c : Int) : (ks.map fun y => if y = c then 1 else 0).sum ≤ 1 := by
  induction ks with
  | nil => simp
  | cons a l ih =>
    obtain ⟨h1, h2⟩ := List.nodup_cons.1 h
    simp only [List.map_cons, List.sum_cons]
    by_cases e : a = c
    · subst e
      have : (l.map fun y => if y = a then 1 else 0).sum = 0 := by
        clear ih h2 h
        induction l with
        | nil => rfl
        | cons b l ih =>
          have hb : ¬ b = a := fun e => h1 (by simp [e])
          simp only [List.map_cons, List.sum_cons, if_neg hb, Nat.zero_add]
          exact ih (fun hm => h1 (List.mem_cons_of_mem _ hm))
      simp [this]
    · simp [e]; exact ih h2
theorem GrOf_sum {ks : List Int} (h : ks.Nodup) : ∀ L : List SpT, (ks.map fun y => (GrOf L y).length).sum ≤ L.length
  | [] => by
    have : ∀ l : List Int, (l.map fun y => (GrOf [] y).length).sum = 0 := fun l => by
      induction l with
      | nil => rfl
      | cons a l ih => simp only [List.map_cons, List.sum_cons, ih]; rfl
    rw [this]; exact Nat.zero_le _
  | s :: L => by
    have e : (fun y => (GrOf (s :: L) y).length) = fun y => (GrOf L y).length + (if y = s.y then 1 else 0) := by
      funext y
      unfold GrOf
      by_cases h : y = s.y
      · subst h; simp
      · have : ¬ s.y = y := fun e => h e.symm
        simp [h, this]
    rw [e, sum_add]
    have h1 := GrOf_sum h L
    have h2 := sum_one h s.y
    simp only [List.length_cons]
    omega

/-- R is the row of the spans 'done', all of one Y. -/
structure MgTo (y : Int) (dn R : List SpT) : Prop where
  row : RowP R
  y_ : ∀ r ∈ R, r.y = y
  f_ : ∀ r ∈ R, ∃ q ∈ dn, q.f = r.f
  t_ : ∀ r ∈ R, ∃ q ∈ dn, q.t = r.t
  has : ∀ p, hasB R p = true ↔ hasB dn p = true
  len : R.length ≤ dn.length
theorem mgTo_start (y : Int) : MgTo y [] [] := ⟨rowP_nil, by simp, by simp, by simp, fun p => Iff.rfl, by simp⟩
theorem MgTo.merge {y : Int} {dn R0 : List SpT} {r s : SpT} (h : MgTo y dn (R0 ++ [r])) (hy : s.y = y) (hft : s.f ≤ s.t) (hge : ∀ q ∈ dn, q.f ≤ s.f) (hle : s.f ≤ r.t + 1) : MgTo y (dn ++ [s]) (R0 ++ [⟨r.y, r.f, max r.t s.t⟩]) := by
  obtain ⟨h1, h2, h3⟩ := List.pairwise_append.1 h.row.ord
  have hr := h.row.sp r (by simp)
  have hry := h.y_ r (by simp)
  obtain ⟨q0, hq0, hqf⟩ := h.f_ r (by simp)
  have hrf : r.f ≤ s.f := by rw [← hqf]; exact hge q0 hq0
  refine ⟨⟨fun q hq => ?_, List.pairwise_append.2 ⟨h1, List.pairwise_singleton _ _, fun q hq x hx => ?_⟩⟩, fun q hq => ?_, fun q hq => ?_, fun q hq => ?_, fun p => ?_, ?_⟩
  · rcases List.mem_append.1 hq with hq | hq
    · exact h.row.sp q (by simp [hq])
    · simp at hq; subst hq; simp only; omega
  · simp at hx; subst hx
    have := h3 q hq r (by simp)
    unfold ordP at this ⊢
    simp only
    omega
  · rcases List.mem_append.1 hq with hq | hq
    · exact h.y_ q (by simp [hq])
    · simp at hq; subst hq; exact hry
  · rcases List.mem_append.1 hq with hq | hq
    · obtain ⟨a, b, c⟩ := h.f_ q (by simp [hq]); exact ⟨a, by simp [b], c⟩
    · simp at hq; subst hq; exact ⟨q0, by simp [hq0], hqf⟩
  · rcases List.mem_append.1 hq with hq | hq
    · obtain ⟨a, b, c⟩ := h.t_ q (by simp [hq]); exact ⟨a, by simp [b], c⟩
    · simp at hq; subst hq
      rcases Int.le_total r.t s.t with h' | h'
      · exact ⟨s, by simp, by simp only; omega⟩
      · obtain ⟨a, b, c⟩ := h.t_ r (by simp); exact ⟨a, by simp [b], by simp only; omega⟩
  · have := h.has p
    rw [hasB_app, hasB_one, Bool.or_eq_true] at this
    rw [hasB_app, hasB_one, hasB_app, hasB_one, Bool.or_eq_true, Bool.or_eq_true, ← this]
    simp only [inB, decide_eq_true_eq]
    constructor
    · rintro (a | ⟨a, b, c⟩)
      · exact .inl (.inl a)
      · by_cases e : p.x ≤ r.t
        · exact .inl (.inr ⟨a, b, e⟩)
        · right; omega
    · rintro ((a | ⟨a, b, c⟩) | ⟨a, b, c⟩)
      · exact .inl a
      · right; omega
      · right; omega
  · have := h.len; simp at this ⊢; omega
theorem MgTo.new {y : Int} {dn R : List SpT} {s : SpT} (h : MgTo y dn R) (hy : s.y = y) (hft : s.f ≤ s.t) (hgt : ∀ R0 r, R = R0 ++ [r] → r.t + 1 < s.f) : MgTo y (dn ++ [s]) (R ++ [s]) := by
  have hall : ∀ q ∈ R, q.t + 1 < s.f := by
    intro q hq
    rcases List.eq_nil_or_concat R with e | ⟨R0, r, e⟩
    · rw [e] at hq; cases hq
    · have e' : R = R0 ++ [r] := by rw [e, List.concat_eq_append]
      have h1 := hgt R0 r e'
      rw [e'] at hq
      rcases List.mem_append.1 hq with hq | hq
      · have ho := h.row.ord
        rw [e'] at ho
        have h2 := (List.pairwise_append.1 ho).2.2 q hq r (by simp)
        have h3 := h.y_ q (by rw [e']; simp [hq])
        have h4 := h.y_ r (by rw [e']; simp)
        have h5 := h.row.sp r (by rw [e']; simp)
        unfold ordP at h2
        omega
      · simp at hq; subst hq; exact h1
  refine ⟨⟨fun q hq => ?_, List.pairwise_append.2 ⟨h.row.ord, List.pairwise_singleton _ _, fun q hq x hx => ?_⟩⟩, fun q hq => ?_, fun q hq => ?_, fun q hq => ?_, fun p => ?_, ?_⟩
  · rcases List.mem_append.1 hq with hq | hq
    · exact h.row.sp q hq
    · simp at hq; subst hq; exact hft
  · simp at hx; subst hx
    have h1 := hall q hq
    have h2 := h.y_ q hq
    unfold ordP; omega
  · rcases List.mem_append.1 hq with hq | hq
    · exact h.y_ q hq
    · simp at hq; subst hq; exact hy
  · rcases List.mem_append.1 hq with hq | hq
    · obtain ⟨a, b, c⟩ := h.f_ q hq; exact ⟨a, by simp [b], c⟩
    · simp at hq; subst hq; exact ⟨q, by simp, rfl⟩
  · rcases List.mem_append.1 hq with hq | hq
    · obtain ⟨a, b, c⟩ := h.t_ q hq; exact ⟨a, by simp [b], c⟩
    · simp at hq; subst hq; exact ⟨q, by simp, rfl⟩
  · rw [hasB_app, hasB_app, Bool.or_eq_true, Bool.or_eq_true, h.has p]
  · have := h.len; simp; omega

/-- M is the row of the spans of L of the first k Y. -/
structure RowK (L : List SpT) (ks : List Int) (k : Nat) (M : List SpT) : Prop where
  row : RowP M
  y_ : ∀ r ∈ M, r.y ∈ ks.take k
  has : ∀ p, hasB M p = true ↔ p.y ∈ ks.take k ∧ hasB L p = true
  t_ : ∀ r ∈ M, ∃ q ∈ L, q.t = r.t
  len : M.length ≤ ((ks.take k).map fun y => (GrOf L y).length).sum
theorem rowK_start (L : List SpT) (ks : List Int) : RowK L ks 0 [] := ⟨rowP_nil, by simp, fun p => by simp [hasB], by simp, by simp⟩
theorem RowK.step {L : List SpT} {ks : List Int} {k : Nat} {M R s : List SpT} {y : Int} (h : RowK L ks k M) (hks : ks.Pairwise (fun x y => x < y)) (hy : ks[k]? = some y) (hp : s.Perm (GrOf L y)) (hm : MgTo y s R) : RowK L ks (k + 1) (M ++ R) := by
  have ht : ks.take (k + 1) = ks.take k ++ [y] := by rw [List.take_add_one, hy]; simp
  have hlt : ∀ z ∈ ks.take k, z < y := by
    intro z hz
    have hks' := hks
    rw [← List.take_append_drop (k + 1) ks, ht] at hks'
    exact (List.pairwise_append.1 (List.pairwise_append.1 hks').1).2.2 z hz y (by simp)
  refine ⟨⟨fun q hq => ?_, List.pairwise_append.2 ⟨h.row.ord, hm.row.ord, fun q hq x hx => ?_⟩⟩, fun q hq => ?_, fun p => ?_, fun q hq => ?_, ?_⟩
  · rcases List.mem_append.1 hq with hq | hq
    · exact h.row.sp q hq
    · exact hm.row.sp q hq
  · have h1 := hlt _ (h.y_ q hq)
    have h2 := hm.y_ x hx
    unfold ordP; omega
  · rw [ht]
    rcases List.mem_append.1 hq with hq | hq
    · simp [h.y_ q hq]
    · simp [hm.y_ q hq]
  · rw [hasB_app, Bool.or_eq_true, h.has p, hm.has p, hasB_perm hp, ht]
    simp only [List.mem_append, List.mem_singleton]
    constructor
    · rintro (⟨a, b⟩ | a)
      · exact ⟨.inl a, b⟩
      · obtain ⟨q, hq, k1, k2, k3⟩ := (hasB_iff _ _).1 a
        have := GrOf_mem.1 hq
        have e : p.y = y := by omega
        refine ⟨.inr e, ?_⟩
        rw [← hasB_GrOf, e]; exact a
    · rintro ⟨a | a, b⟩
      · exact .inl ⟨a, b⟩
      · right; rw [← a, hasB_GrOf]; exact b
  · rcases List.mem_append.1 hq with hq | hq
    · exact h.t_ q hq
    · obtain ⟨a, b, c⟩ := hm.t_ q hq
      exact ⟨a, (GrOf_mem.1 (hp.mem_iff.1 b)).1, c⟩
  · have h1 := h.len
    have h2 := hm.len
    have h3 := hp.length_eq
    rw [ht, List.map_append, List.sum_append, List.length_append]
    simp only [List.map_cons, List.map_nil, List.sum_cons, List.sum_nil]
    omega
theorem RowK.setRow {L : List SpT} {ks : List Int} {M : List SpT} (h : RowK L ks ks.length M) (hk : ∀ s ∈ L, s.y ∈ ks) : SetRow (fun p => hasB L p = true) M := by
  refine ⟨h.row, fun p => (h.has p).trans ?_⟩
  rw [List.take_length]
  refine ⟨fun ⟨_, b⟩ => b, fun b => ⟨?_, b⟩⟩
  obtain ⟨s, hs, h1, _⟩ := (hasB_iff _ _).1 b
  rw [← h1]; exact hk s hs
end Go.Proofs.Ytflbcabjefpojaa
