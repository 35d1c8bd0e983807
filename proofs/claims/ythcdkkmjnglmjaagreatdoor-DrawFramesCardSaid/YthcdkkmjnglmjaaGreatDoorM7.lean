/- Merged texts: ShY ShT ShU Cmp. -/
import Derived.Test.YthcdkkmjnglmjaaGreatDoorM6
import Derived.Test.YthcdkkmjnglmjaaGreatDoorM5
/- Layer 6, plain: rows that are merged. -/
namespace Go.Proofs.YthcdkkmjnglmjaaGreatDoor
set_option linter.unusedSimpArgs false
set_option linter.unusedVariables false
open Go.RowKit Go.Shelf

theorem GrOf_mem {L : List SpT} {y : Int} {s : SpT} : s ∈ GrOf L y ↔ s ∈ L ∧ s.y = y := by simp [GrOf]
theorem hasB_GrOf (L : List SpT) (p : PtT) : hasB (GrOf L p.y) p = hasB L p := by
 rw [Bool.eq_iff_iff, hasB_iff, hasB_iff]
 constructor
 · rintro ⟨s, hs, h⟩; exact ⟨s, (GrOf_mem.1 hs).1, h⟩
 · rintro ⟨s, hs, h⟩; exact ⟨s, GrOf_mem.2 ⟨hs, h.1⟩, h⟩
theorem hasB_perm {l m : List SpT} (h : l.Perm m) (p : PtT) : hasB l p = hasB m p := by
 rw [Bool.eq_iff_iff, hasB_iff, hasB_iff]
 exact ⟨fun ⟨s, hs, k⟩ => ⟨s, h.mem_iff.1 hs, k⟩, fun ⟨s, hs, k⟩ => ⟨s, h.mem_iff.2 hs, k⟩⟩
theorem sum_add {ks : List Int} {f g : Int → Nat} : (ks.map fun y => f y + g y).sum = (ks.map f).sum + (ks.map g).sum := by
 induction ks with
 | nil => rfl
 | cons a l ih => simp only [List.map_cons, List.sum_cons, ih]; omega
theorem sum_one {ks : List Int} (h : ks.Nodup) (c : Int) : (ks.map fun y => if y = c then 1 else 0).sum ≤ 1 := by
 induction ks with
 | nil => simp
 | cons a l ih =>
  obtain ⟨h1, h2⟩ := List.nodup_cons.1 h
  simp only [List.map_cons, List.sum_cons]
  by_cases e : a = c
  · subst e
    have : (l.map fun y => if y = a then 1 else 0).sum = 0 := by
     clear ih h2 h
     induction l with
     | nil => rfl
     | cons b l ih =>
      have hb : ¬ b = a := fun e => h1 (by simp [e])
      simp only [List.map_cons, List.sum_cons, if_neg hb, Nat.zero_add]
      exact ih (fun hm => h1 (List.mem_cons_of_mem _ hm))
    simp [this]
  · simp [e]; exact ih h2
theorem GrOf_sum {ks : List Int} (h : ks.Nodup) : ∀ L : List SpT, (ks.map fun y => (GrOf L y).length).sum ≤ L.length
 | [] => by
  have : ∀ l : List Int, (l.map fun y => (GrOf [] y).length).sum = 0 := fun l => by
   induction l with
   | nil => rfl
   | cons a l ih => simp only [List.map_cons, List.sum_cons, ih]; rfl
  rw [this]; exact Nat.zero_le _
 | s :: L => by
  have e : (fun y => (GrOf (s :: L) y).length) = fun y => (GrOf L y).length + (if y = s.y then 1 else 0) := by
   funext y
   unfold GrOf
   by_cases h : y = s.y
   · subst h; simp
   · have : ¬ s.y = y := fun e => h e.symm
     simp [h, this]
  rw [e, sum_add]
  have h1 := GrOf_sum h L
  have h2 := sum_one h s.y
  simp only [List.length_cons]
  omega

/-- R is the row of the spans 'done', all of one Y. -/
structure MgTo (y : Int) (dn R : List SpT) : Prop where
 row : RowP R
 y_ : ∀ r ∈ R, r.y = y
 f_ : ∀ r ∈ R, ∃ q ∈ dn, q.f = r.f
 t_ : ∀ r ∈ R, ∃ q ∈ dn, q.t = r.t
 has : ∀ p, hasB R p = true ↔ hasB dn p = true
 len : R.length ≤ dn.length
theorem mgTo_start (y : Int) : MgTo y [] [] := ⟨rowP_nil, by simp, by simp, by simp, fun p => Iff.rfl, by simp⟩
theorem MgTo.merge {y : Int} {dn R0 : List SpT} {r s : SpT} (h : MgTo y dn (R0 ++ [r])) (hy : s.y = y) (hft : s.f ≤ s.t) (hge : ∀ q ∈ dn, q.f ≤ s.f) (hle : s.f ≤ r.t + 1) : MgTo y (dn ++ [s]) (R0 ++ [⟨r.y, r.f, max r.t s.t⟩]) := by
 obtain ⟨h1, h2, h3⟩ := List.pairwise_append.1 h.row.ord
 have hr := h.row.sp r (by simp)
 have hry := h.y_ r (by simp)
 obtain ⟨q0, hq0, hqf⟩ := h.f_ r (by simp)
 have hrf : r.f ≤ s.f := by rw [← hqf]; exact hge q0 hq0
 refine ⟨⟨fun q hq => ?_, List.pairwise_append.2 ⟨h1, List.pairwise_singleton _ _, fun q hq x hx => ?_⟩⟩, fun q hq => ?_, fun q hq => ?_, fun q hq => ?_, fun p => ?_, ?_⟩
 · rcases List.mem_append.1 hq with hq | hq
   · exact h.row.sp q (by simp [hq])
   · simp at hq; subst hq; simp only; omega
 · simp at hx; subst hx
   have := h3 q hq r (by simp)
   unfold ordP at this ⊢
   simp only
   omega
 · rcases List.mem_append.1 hq with hq | hq
   · exact h.y_ q (by simp [hq])
   · simp at hq; subst hq; exact hry
 · rcases List.mem_append.1 hq with hq | hq
   · obtain ⟨a, b, c⟩ := h.f_ q (by simp [hq]); exact ⟨a, by simp [b], c⟩
   · simp at hq; subst hq; exact ⟨q0, by simp [hq0], hqf⟩
 · rcases List.mem_append.1 hq with hq | hq
   · obtain ⟨a, b, c⟩ := h.t_ q (by simp [hq]); exact ⟨a, by simp [b], c⟩
   · simp at hq; subst hq
     rcases Int.le_total r.t s.t with h' | h'
     · exact ⟨s, by simp, by simp only; omega⟩
     · obtain ⟨a, b, c⟩ := h.t_ r (by simp); exact ⟨a, by simp [b], by simp only; omega⟩
 · have := h.has p
   rw [hasB_app, hasB_one, Bool.or_eq_true] at this
   rw [hasB_app, hasB_one, hasB_app, hasB_one, Bool.or_eq_true, Bool.or_eq_true, ← this]
   simp only [inB, decide_eq_true_eq]
   constructor
   · rintro (a | ⟨a, b, c⟩)
     · exact .inl (.inl a)
     · by_cases e : p.x ≤ r.t
       · exact .inl (.inr ⟨a, b, e⟩)
       · right; omega
   · rintro ((a | ⟨a, b, c⟩) | ⟨a, b, c⟩)
     · exact .inl a
     · right; omega
     · right; omega
 · have := h.len; simp at this ⊢; omega
theorem MgTo.new {y : Int} {dn R : List SpT} {s : SpT} (h : MgTo y dn R) (hy : s.y = y) (hft : s.f ≤ s.t) (hgt : ∀ R0 r, R = R0 ++ [r] → r.t + 1 < s.f) : MgTo y (dn ++ [s]) (R ++ [s]) := by
 have hall : ∀ q ∈ R, q.t + 1 < s.f := by
  intro q hq
  rcases List.eq_nil_or_concat R with e | ⟨R0, r, e⟩
  · rw [e] at hq; cases hq
  · have e' : R = R0 ++ [r] := by rw [e, List.concat_eq_append]
    have h1 := hgt R0 r e'
    rw [e'] at hq
    rcases List.mem_append.1 hq with hq | hq
    · have ho := h.row.ord
      rw [e'] at ho
      have h2 := (List.pairwise_append.1 ho).2.2 q hq r (by simp)
      have h3 := h.y_ q (by rw [e']; simp [hq])
      have h4 := h.y_ r (by rw [e']; simp)
      have h5 := h.row.sp r (by rw [e']; simp)
      unfold ordP at h2
      omega
    · simp at hq; subst hq; exact h1
 refine ⟨⟨fun q hq => ?_, List.pairwise_append.2 ⟨h.row.ord, List.pairwise_singleton _ _, fun q hq x hx => ?_⟩⟩, fun q hq => ?_, fun q hq => ?_, fun q hq => ?_, fun p => ?_, ?_⟩
 · rcases List.mem_append.1 hq with hq | hq
   · exact h.row.sp q hq
   · simp at hq; subst hq; exact hft
 · simp at hx; subst hx
   have h1 := hall q hq
   have h2 := h.y_ q hq
   unfold ordP; omega
 · rcases List.mem_append.1 hq with hq | hq
   · exact h.y_ q hq
   · simp at hq; subst hq; exact hy
 · rcases List.mem_append.1 hq with hq | hq
   · obtain ⟨a, b, c⟩ := h.f_ q hq; exact ⟨a, by simp [b], c⟩
   · simp at hq; subst hq; exact ⟨q, by simp, rfl⟩
 · rcases List.mem_append.1 hq with hq | hq
   · obtain ⟨a, b, c⟩ := h.t_ q hq; exact ⟨a, by simp [b], c⟩
   · simp at hq; subst hq; exact ⟨q, by simp, rfl⟩
 · rw [hasB_app, hasB_app, Bool.or_eq_true, Bool.or_eq_true, h.has p]
 · have := h.len; simp; omega

/-- M is the row of the spans of L of the first k Y. -/
structure RowK (L : List SpT) (ks : List Int) (k : Nat) (M : List SpT) : Prop where
 row : RowP M
 y_ : ∀ r ∈ M, r.y ∈ ks.take k
 has : ∀ p, hasB M p = true ↔ p.y ∈ ks.take k ∧ hasB L p = true
 t_ : ∀ r ∈ M, ∃ q ∈ L, q.t = r.t
 len : M.length ≤ ((ks.take k).map fun y => (GrOf L y).length).sum
theorem rowK_start (L : List SpT) (ks : List Int) : RowK L ks 0 [] := ⟨rowP_nil, by simp, fun p => by simp [hasB], by simp, by simp⟩
theorem RowK.step {L : List SpT} {ks : List Int} {k : Nat} {M R s : List SpT} {y : Int} (h : RowK L ks k M) (hks : ks.Pairwise (fun x y => x < y)) (hy : ks[k]? = some y) (hp : s.Perm (GrOf L y)) (hm : MgTo y s R) : RowK L ks (k + 1) (M ++ R) := by
 have ht : ks.take (k + 1) = ks.take k ++ [y] := by rw [List.take_add_one, hy]; simp
 have hlt : ∀ z ∈ ks.take k, z < y := by
  intro z hz
  have hks' := hks
  rw [← List.take_append_drop (k + 1) ks, ht] at hks'
  exact (List.pairwise_append.1 (List.pairwise_append.1 hks').1).2.2 z hz y (by simp)
 refine ⟨⟨fun q hq => ?_, List.pairwise_append.2 ⟨h.row.ord, hm.row.ord, fun q hq x hx => ?_⟩⟩, fun q hq => ?_, fun p => ?_, fun q hq => ?_, ?_⟩
 · rcases List.mem_append.1 hq with hq | hq
   · exact h.row.sp q hq
   · exact hm.row.sp q hq
 · have h1 := hlt _ (h.y_ q hq)
   have h2 := hm.y_ x hx
   unfold ordP; omega
 · rw [ht]
   rcases List.mem_append.1 hq with hq | hq
   · simp [h.y_ q hq]
   · simp [hm.y_ q hq]
 · rw [hasB_app, Bool.or_eq_true, h.has p, hm.has p, hasB_perm hp, ht]
   simp only [List.mem_append, List.mem_singleton]
   constructor
   · rintro (⟨a, b⟩ | a)
     · exact ⟨.inl a, b⟩
     · obtain ⟨q, hq, k1, k2, k3⟩ := (hasB_iff _ _).1 a
       have := GrOf_mem.1 hq
       have e : p.y = y := by omega
       refine ⟨.inr e, ?_⟩
       rw [← hasB_GrOf, e]; exact a
   · rintro ⟨a | a, b⟩
     · exact .inl ⟨a, b⟩
     · right; rw [← a, hasB_GrOf]; exact b
 · rcases List.mem_append.1 hq with hq | hq
   · exact h.t_ q hq
   · obtain ⟨a, b, c⟩ := hm.t_ q hq
     exact ⟨a, (GrOf_mem.1 (hp.mem_iff.1 b)).1, c⟩
 · have h1 := h.len
   have h2 := hm.len
   have h3 := hp.length_eq
   rw [ht, List.map_append, List.sum_append, List.length_append]
   simp only [List.map_cons, List.map_nil, List.sum_cons, List.sum_nil]
   omega
theorem RowK.setRow {L : List SpT} {ks : List Int} {M : List SpT} (h : RowK L ks ks.length M) (hk : ∀ s ∈ L, s.y ∈ ks) : SetRow (fun p => hasB L p = true) M := by
 refine ⟨h.row, fun p => (h.has p).trans ?_⟩
 rw [List.take_length]
 refine ⟨fun ⟨_, b⟩ => b, fun b => ⟨?_, b⟩⟩
 obtain ⟨s, hs, h1, _⟩ := (hasB_iff _ _).1 b
 rw [← h1]; exact hk s hs
end Go.Proofs.YthcdkkmjnglmjaaGreatDoor

/- Layer 6: the document's Union, Sweep. -/
namespace Go.Proofs.YthcdkkmjnglmjaaGreatDoor
set_option linter.unusedSimpArgs false
set_option linter.unusedVariables false
open Go.RowKit Go.Shelf

/-- A slice of rows of spans. -/
def RowsR (w : World) (a : Option Addr) (ls : List (List SpT)) : Prop := ∀ k l, ls[k]? = some l → ∃ b off a' cap', a = some ⟨b, off, none⟩ ∧ b < w.heap.size ∧ w.cell? ⟨b, off + k, none⟩ = some (.slice a' l.length cap') ∧ Elems w (.slice a' l.length cap') l.length 3 (rowC encS l)
theorem RowsR.below {w w' : World} {a : Option Addr} {ls : List (List SpT)} (h : RowsR w a ls) (hb : Below w.heap.size w w') : RowsR w' a ls := fun k l hk => by
 obtain ⟨b, off, a', cap', h1, h2, h3, h4⟩ := h k l hk
 exact ⟨b, off, a', cap', h1, Nat.lt_of_lt_of_le h2 hb.size, (hb.cell (p := ⟨b, off + k, none⟩) h2).trans h3, h4.below hb⟩
/-- The field of the places of a row. -/
def UnF (M : List SpT) (F : Nat → Nat → Bool) : Prop := ∀ r c : Nat, F r c = true ↔ hasB M ⟨-256 + (c : Int), -256 + (r : Int)⟩ = true
theorem UnF.step {M : List SpT} {F : Nat → Nat → Bool} {y f x : Int} {R C : Nat} (h : UnF (M ++ [⟨y, f, x - 1⟩]) F) (hf : f ≤ x) (hR : -256 + (R : Int) = y) (hC : -256 + (C : Int) = x) : UnF (M ++ [⟨y, f, x⟩]) (upd2 F R C true) := fun r c => by
 have := h r c
 rw [hasB_app, hasB_one, Bool.or_eq_true] at this
 rw [upd2_true, this, hasB_app, hasB_one, Bool.or_eq_true]
 simp only [inB, decide_eq_true_eq]
 constructor
 · rintro (⟨rfl, rfl⟩ | h | ⟨h1, h2, h3⟩)
   · right; omega
   · exact .inl h
   · right; omega
 · rintro (h | ⟨h1, h2, h3⟩)
   · exact .inr (.inl h)
   · by_cases e : -256 + (c : Int) = x
     · left; omega
     · right; right; omega
theorem UnF.same {M : List SpT} {F : Nat → Nat → Bool} {s : SpT} {t : Int} (h : UnF (M ++ [⟨s.y, s.f, t⟩]) F) (ht : t = s.t) : UnF (M ++ [s]) F := by subst ht; exact h
theorem take_flat {ls : List (List SpT)} {k : Nat} {l : List SpT} (h : ls[k]? = some l) : (ls.take (k + 1)).flatten = (ls.take k).flatten ++ l := by rw [List.take_add_one, h]; simp
theorem take_snoc {l : List SpT} {q : Nat} {s : SpT} (h : l[q]? = some s) : l.take (q + 1) = l.take q ++ [s] := by rw [List.take_add_one, h]; simp

end Go.Proofs.YthcdkkmjnglmjaaGreatDoor

/- Layer 6: the document's Sweep. -/
namespace Go.Proofs.YthcdkkmjnglmjaaGreatDoor
set_option linter.unusedSimpArgs false
set_option linter.unusedVariables false
open Go.RowKit Go.Shelf

theorem le_of_sq {x s : Int} (hs : 0 ≤ s) (h : x * x ≤ s * s) : x ≤ s := by
 refine Int.not_lt.1 fun hlt => ?_
 have h1 : s * s < x * x := Int.lt_of_lt_of_le (Int.mul_lt_mul_of_pos_left hlt (show 0 < s + 1 by omega) |> fun h => (by
  have h2 : (s + 1) * (s + 1) ≤ x * x := Int.mul_le_mul (by omega) (by omega) (by omega) (by omega)
  have h3 : s * s < (s + 1) * (s + 1) := by
   have : (s + 1) * (s + 1) = s * s + 2 * s + 1 := by rw [Int.add_mul, Int.mul_add]; omega
   omega
  exact Int.lt_of_lt_of_le h3 h2)) (Int.le_refl _)
 omega
theorem inRef_in {size : Int} {round : Bool} {c p : PtT} (hs : 0 ≤ size) (h : inRef size round c p = true) : (c.x - size ≤ p.x ∧ p.x ≤ c.x + size) ∧ (c.y - size ≤ p.y ∧ p.y ≤ c.y + size) := by
 have key : wayN c.x p.x ≤ size ∧ wayN c.y p.y ≤ size := by
  unfold inRef at h
  cases round
  · simpa using h
  · simp only [cond_true, decide_eq_true_eq] at h
    have h1 := Int.mul_nonneg (wayN_nonneg c.x p.x) (wayN_nonneg c.x p.x)
    have h2 := Int.mul_nonneg (wayN_nonneg c.y p.y) (wayN_nonneg c.y p.y)
    exact ⟨le_of_sq hs (by omega), le_of_sq hs (by omega)⟩
 unfold wayN at key
 split at key <;> split at key <;> omega
/-- The field of the places of which Q holds. -/
def SwF (Q : PtT → Prop) (F : Nat → Nat → Bool) : Prop := ∀ r c : Nat, F r c = true ↔ Q ⟨-79 + (c : Int), -79 + (r : Int)⟩
theorem SwF.congr {Q Q' : PtT → Prop} {F : Nat → Nat → Bool} (h : SwF Q F) (e : ∀ p, Q p ↔ Q' p) : SwF Q' F := fun r c => (h r c).trans (e _)
/-- What the places M sweep, and the place c so far. -/
def SwQ (size : Int) (round : Bool) (M : List PtT) (c : PtT) (y x : Int) (p : PtT) : Prop := (∃ c' ∈ M, inRef size round c' p = true) ∨ (inRef size round c p = true ∧ (p.y < y ∨ p.y = y ∧ p.x < x))
def SwM (size : Int) (round : Bool) (M : List PtT) (p : PtT) : Prop := ∃ c' ∈ M, inRef size round c' p = true
section
variable {size : Int} {round : Bool} {M : List PtT} {c : PtT} {y x : Int} {F : Nat → Nat → Bool}
theorem SwF.step (h : SwF (SwQ size round M c y x) F) {R C : Nat} (hR : -79 + (R : Int) = y) (hC : -79 + (C : Int) = x) (hi : inRef size round c ⟨x, y⟩ = true) : SwF (SwQ size round M c y (x + 1)) (upd2 F R C true) := fun r k => by
 rw [upd2_true, h r k]
 unfold SwQ
 simp only
 constructor
 · rintro (⟨rfl, rfl⟩ | h | ⟨h1, h2⟩)
   · right; rw [hR, hC]; exact ⟨hi, by omega⟩
   · exact .inl h
   · exact .inr ⟨h1, by omega⟩
 · rintro (h | ⟨h1, h2⟩)
   · exact .inr (.inl h)
   · by_cases e : -79 + (r : Int) = y ∧ -79 + (k : Int) = x
     · left; omega
     · right; right; exact ⟨h1, by omega⟩
theorem SwF.skip (h : SwF (SwQ size round M c y x) F) (hi : inRef size round c ⟨x, y⟩ = false) : SwF (SwQ size round M c y (x + 1)) F := h.congr fun p => by
 unfold SwQ
 constructor
 · rintro (h | ⟨h1, h2⟩)
   · exact .inl h
   · exact .inr ⟨h1, by omega⟩
 · rintro (h | ⟨h1, h2⟩)
   · exact .inl h
   · refine .inr ⟨h1, ?_⟩
     by_cases e : p.y = y ∧ p.x = x
     · obtain ⟨px, py⟩ := p
       simp only at e
       rw [e.1, e.2, hi] at h1
       cases h1
     · omega
theorem SwF.down (h : SwF (SwQ size round M c y (c.x + size + 1)) F) (hs : 0 ≤ size) : SwF (SwQ size round M c (y + 1) (c.x - size)) F := h.congr fun p => by
 unfold SwQ
 constructor
 · rintro (h | ⟨h1, h2⟩)
   · exact .inl h
   · exact .inr ⟨h1, by omega⟩
 · rintro (h | ⟨h1, h2⟩)
   · exact .inl h
   · have := inRef_in hs h1; exact .inr ⟨h1, by omega⟩
theorem SwF.done {q : Int} (h : SwF (SwQ size round M c (c.y + size + 1) q) F) (hs : 0 ≤ size) : SwF (SwM size round (M ++ [c])) F := h.congr fun p => by
 unfold SwM SwQ
 constructor
 · rintro (⟨c', h1, h2⟩ | ⟨h1, h2⟩)
   · exact ⟨c', by simp [h1], h2⟩
   · exact ⟨c, by simp, h1⟩
 · rintro ⟨c', h1, h2⟩
   rcases List.mem_append.1 h1 with h1 | h1
   · exact .inl ⟨c', h1, h2⟩
   · simp at h1; subst h1
     have := inRef_in hs h2
     exact .inr ⟨h2, by omega⟩
end
theorem take_snocP {l : List PtT} {q : Nat} {s : PtT} (h : l[q]? = some s) : l.take (q + 1) = l.take q ++ [s] := by rw [List.take_add_one, h]; simp

end Go.Proofs.YthcdkkmjnglmjaaGreatDoor

/- cmp.Compare at ints. -/
namespace Go.Proofs.YthcdkkmjnglmjaaGreatDoor
set_option linter.unusedSimpArgs false
set_option linter.unusedVariables false
open Go.RowKit Go.Shelf
theorem isNaN_int (x : Int) (w : World) : Calls Tryz.prog 115 #[.int .i64 x] w fun e w' => e = .returned (.bool false) ∧ w = w' := by
 go_enter Tryz.func115, Tryz.ntmps115
 go_wp2
 go_ret
 exact ⟨rfl, rfl⟩
theorem cmp_int (x y : Int) (w : World) : Calls Tryz.prog 98 #[.int .i64 x, .int .i64 y] w fun e w' => e = .returned (.int .i64 (Lib.compareInt x y)) ∧ w = w' := by
 unfold Lib.compareInt
 by_cases h1 : x < y
 · go_enter Tryz.func98, Tryz.ntmps98
   go_wp2_with (go_at_call 115; refine (isNaN_int _ _).mono ?_; rintro e w' ⟨rfl, rfl⟩)
   go_ret
   exact ⟨ret_int (by simp [h1]), rfl⟩
 · by_cases h2 : y < x
   · go_enter Tryz.func98, Tryz.ntmps98
     go_wp2_with (go_at_call 115; refine (isNaN_int _ _).mono ?_; rintro e w' ⟨rfl, rfl⟩)
     go_ret
     exact ⟨rfl, rfl⟩
   · go_enter Tryz.func98, Tryz.ntmps98
     go_wp2_with (go_at_call 115; refine (isNaN_int _ _).mono ?_; rintro e w' ⟨rfl, rfl⟩)
     go_ret
     exact ⟨rfl, rfl⟩
theorem cmp_lt (x y : Int) : decide (Lib.compareInt x y < 0) = decide (x < y) := by
 unfold Lib.compareInt
 by_cases h1 : x < y
 · simp [h1]
 · by_cases h2 : y < x <;> simp [h1, h2]
end Go.Proofs.YthcdkkmjnglmjaaGreatDoor
