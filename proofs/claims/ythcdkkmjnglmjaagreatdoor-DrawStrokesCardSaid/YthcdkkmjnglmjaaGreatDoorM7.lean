/- Merged texts: ShY ShT ShU Cmp ShZ. -/
import Derived.Test.YthcdkkmjnglmjaaGreatDoorM6
import Derived.Test.YthcdkkmjnglmjaaGreatDoorM5
set_option linter.unusedSimpArgs false
set_option linter.unusedVariables false
/- Layer 6, plain: rows that are merged. -/
namespace Go.Proofs.YthcdkkmjnglmjaaGreatDoor
open Go.RowKit Go.Shelf
theorem GrOf_mem {L : List SpT} {y : Int} {s : SpT} : s ∈ GrOf L y ↔ s ∈ L ∧ s.y = y := by simp [GrOf]
theorem hasB_GrOf (L : List SpT) (p : PtT) : hasB (GrOf L p.y) p = hasB L p := by
 rw [Bool.eq_iff_iff, hasB_iff, hasB_iff]
 constructor
 · rintro ⟨s, hs, h⟩; exact ⟨s, (GrOf_mem.1 hs).1, h⟩
 · rintro ⟨s, hs, h⟩; exact ⟨s, GrOf_mem.2 ⟨hs, h.1⟩, h⟩
theorem hasB_perm {l m : List SpT} (h : l.Perm m) (p : PtT) : hasB l p = hasB m p := by
 rw [Bool.eq_iff_iff, hasB_iff, hasB_iff]
 exact ⟨fun ⟨s, hs, k⟩ => ⟨s, h.mem_iff.1 hs, k⟩, fun ⟨s, hs, k⟩ => ⟨s, h.mem_iff.2 hs, k⟩⟩
theorem sum_add {ks : List Int} {f g : Int → Nat} : (ks.map fun y => f y + g y).sum = (ks.map f).sum + (ks.map g).sum := by
 induction ks with
 | nil => rfl
 | cons a l ih => simp only [List.map_cons, List.sum_cons, ih]; omega
theorem sum_one {ks : List Int} (h : ks.Nodup) (c : Int) : (ks.map fun y => if y = c then 1 else 0).sum ≤ 1 := by
 induction ks with
 | nil => simp
 | cons a l ih =>
  obtain ⟨h1, h2⟩ := List.nodup_cons.1 h
  simp only [List.map_cons, List.sum_cons]
  by_cases e : a = c
  · subst e
    have : (l.map fun y => if y = a then 1 else 0).sum = 0 := by
     clear ih h2 h
     induction l with
     | nil => rfl
     | cons b l ih =>
      have hb : ¬ b = a := fun e => h1 (by simp [e])
      simp only [List.map_cons, List.sum_cons, if_neg hb, Nat.zero_add]
      exact ih (fun hm => h1 (List.mem_cons_of_mem _ hm))
    simp [this]
  · simp [e]; exact ih h2
theorem GrOf_sum {ks : List Int} (h : ks.Nodup) : ∀ L : List SpT, (ks.map fun y => (GrOf L y).length).sum ≤ L.length
 | [] => by
  have : ∀ l : List Int, (l.map fun y => (GrOf [] y).length).sum = 0 := fun l => by
   induction l with
   | nil => rfl
   | cons a l ih => simp only [List.map_cons, List.sum_cons, ih]; rfl
  rw [this]; exact Nat.zero_le _
 | s :: L => by
  have e : (fun y => (GrOf (s :: L) y).length) = fun y => (GrOf L y).length + (if y = s.y then 1 else 0) := by
   funext y
   unfold GrOf
   by_cases h : y = s.y
   · subst h; simp
   · have : ¬ s.y = y := fun e => h e.symm
     simp [h, this]
  rw [e, sum_add]
  have h1 := GrOf_sum h L
  have h2 := sum_one h s.y
  simp only [List.length_cons]
  omega
/-- R is the row of the spans 'done', all of one Y. -/
structure MgTo (y : Int) (dn R : List SpT) : Prop where
 row : RowP R
 y_ : ∀ r ∈ R, r.y = y
 f_ : ∀ r ∈ R, ∃ q ∈ dn, q.f = r.f
 t_ : ∀ r ∈ R, ∃ q ∈ dn, q.t = r.t
 has : ∀ p, hasB R p = true ↔ hasB dn p = true
 len : R.length ≤ dn.length
theorem mgTo_start (y : Int) : MgTo y [] [] := ⟨rowP_nil, by simp, by simp, by simp, fun p => Iff.rfl, by simp⟩
theorem MgTo.merge {y : Int} {dn R0 : List SpT} {r s : SpT} (h : MgTo y dn (R0 ++ [r])) (hy : s.y = y) (hft : s.f ≤ s.t) (hge : ∀ q ∈ dn, q.f ≤ s.f) (hle : s.f ≤ r.t + 1) : MgTo y (dn ++ [s]) (R0 ++ [⟨r.y, r.f, max r.t s.t⟩]) := by
 obtain ⟨h1, h2, h3⟩ := List.pairwise_append.1 h.row.ord
 have hr := h.row.sp r (by simp)
 have hry := h.y_ r (by simp)
 obtain ⟨q0, hq0, hqf⟩ := h.f_ r (by simp)
 have hrf : r.f ≤ s.f := by rw [← hqf]; exact hge q0 hq0
 refine ⟨⟨fun q hq => ?_, List.pairwise_append.2 ⟨h1, List.pairwise_singleton _ _, fun q hq x hx => ?_⟩⟩, fun q hq => ?_, fun q hq => ?_, fun q hq => ?_, fun p => ?_, ?_⟩
 · rcases List.mem_append.1 hq with hq | hq
   · exact h.row.sp q (by simp [hq])
   · simp at hq; subst hq; simp only; omega
 · simp at hx; subst hx
   have := h3 q hq r (by simp)
   unfold ordP at this ⊢
   simp only
   omega
 · rcases List.mem_append.1 hq with hq | hq
   · exact h.y_ q (by simp [hq])
   · simp at hq; subst hq; exact hry
 · rcases List.mem_append.1 hq with hq | hq
   · obtain ⟨a, b, c⟩ := h.f_ q (by simp [hq]); exact ⟨a, by simp [b], c⟩
   · simp at hq; subst hq; exact ⟨q0, by simp [hq0], hqf⟩
 · rcases List.mem_append.1 hq with hq | hq
   · obtain ⟨a, b, c⟩ := h.t_ q (by simp [hq]); exact ⟨a, by simp [b], c⟩
   · simp at hq; subst hq
     rcases Int.le_total r.t s.t with h' | h'
     · exact ⟨s, by simp, by simp only; omega⟩
     · obtain ⟨a, b, c⟩ := h.t_ r (by simp); exact ⟨a, by simp [b], by simp only; omega⟩
 · have := h.has p
   rw [hasB_app, hasB_one, Bool.or_eq_true] at this
   rw [hasB_app, hasB_one, hasB_app, hasB_one, Bool.or_eq_true, Bool.or_eq_true, ← this]
   simp only [inB, decide_eq_true_eq]
   constructor
   · rintro (a | ⟨a, b, c⟩)
     · exact .inl (.inl a)
     · by_cases e : p.x ≤ r.t
       · exact .inl (.inr ⟨a, b, e⟩)
       · right; omega
   · rintro ((a | ⟨a, b, c⟩) | ⟨a, b, c⟩)
     · exact .inl a
     · right; omega
     · right; omega
 · have := h.len; simp at this ⊢; omega
theorem MgTo.new {y : Int} {dn R : List SpT} {s : SpT} (h : MgTo y dn R) (hy : s.y = y) (hft : s.f ≤ s.t) (hgt : ∀ R0 r, R = R0 ++ [r] → r.t + 1 < s.f) : MgTo y (dn ++ [s]) (R ++ [s]) := by
 have hall : ∀ q ∈ R, q.t + 1 < s.f := by
  intro q hq
  rcases List.eq_nil_or_concat R with e | ⟨R0, r, e⟩
  · rw [e] at hq; cases hq
  · have e' : R = R0 ++ [r] := by rw [e, List.concat_eq_append]
    have h1 := hgt R0 r e'
    rw [e'] at hq
    rcases List.mem_append.1 hq with hq | hq
    · have ho := h.row.ord
      rw [e'] at ho
      have h2 := (List.pairwise_append.1 ho).2.2 q hq r (by simp)
      have h3 := h.y_ q (by rw [e']; simp [hq])
      have h4 := h.y_ r (by rw [e']; simp)
      have h5 := h.row.sp r (by rw [e']; simp)
      unfold ordP at h2
      omega
    · simp at hq; subst hq; exact h1
 refine ⟨⟨fun q hq => ?_, List.pairwise_append.2 ⟨h.row.ord, List.pairwise_singleton _ _, fun q hq x hx => ?_⟩⟩, fun q hq => ?_, fun q hq => ?_, fun q hq => ?_, fun p => ?_, ?_⟩
 · rcases List.mem_append.1 hq with hq | hq
   · exact h.row.sp q hq
   · simp at hq; subst hq; exact hft
 · simp at hx; subst hx
   have h1 := hall q hq
   have h2 := h.y_ q hq
   unfold ordP; omega
 · rcases List.mem_append.1 hq with hq | hq
   · exact h.y_ q hq
   · simp at hq; subst hq; exact hy
 · rcases List.mem_append.1 hq with hq | hq
   · obtain ⟨a, b, c⟩ := h.f_ q hq; exact ⟨a, by simp [b], c⟩
   · simp at hq; subst hq; exact ⟨q, by simp, rfl⟩
 · rcases List.mem_append.1 hq with hq | hq
   · obtain ⟨a, b, c⟩ := h.t_ q hq; exact ⟨a, by simp [b], c⟩
   · simp at hq; subst hq; exact ⟨q, by simp, rfl⟩
 · rw [hasB_app, hasB_app, Bool.or_eq_true, Bool.or_eq_true, h.has p]
 · have := h.len; simp; omega
/-- M is the row of the spans of L of the first k Y. -/
structure RowK (L : List SpT) (ks : List Int) (k : Nat) (M : List SpT) : Prop where
 row : RowP M
 y_ : ∀ r ∈ M, r.y ∈ ks.take k
 has : ∀ p, hasB M p = true ↔ p.y ∈ ks.take k ∧ hasB L p = true
 t_ : ∀ r ∈ M, ∃ q ∈ L, q.t = r.t
 len : M.length ≤ ((ks.take k).map fun y => (GrOf L y).length).sum
theorem rowK_start (L : List SpT) (ks : List Int) : RowK L ks 0 [] := ⟨rowP_nil, by simp, fun p => by simp [hasB], by simp, by simp⟩
theorem RowK.step {L : List SpT} {ks : List Int} {k : Nat} {M R s : List SpT} {y : Int} (h : RowK L ks k M) (hks : ks.Pairwise (fun x y => x < y)) (hy : ks[k]? = some y) (hp : s.Perm (GrOf L y)) (hm : MgTo y s R) : RowK L ks (k + 1) (M ++ R) := by
 have ht : ks.take (k + 1) = ks.take k ++ [y] := by rw [List.take_add_one, hy]; simp
 have hlt : ∀ z ∈ ks.take k, z < y := by
  intro z hz
  have hks' := hks
  rw [← List.take_append_drop (k + 1) ks, ht] at hks'
  exact (List.pairwise_append.1 (List.pairwise_append.1 hks').1).2.2 z hz y (by simp)
 refine ⟨⟨fun q hq => ?_, List.pairwise_append.2 ⟨h.row.ord, hm.row.ord, fun q hq x hx => ?_⟩⟩, fun q hq => ?_, fun p => ?_, fun q hq => ?_, ?_⟩
 · rcases List.mem_append.1 hq with hq | hq
   · exact h.row.sp q hq
   · exact hm.row.sp q hq
 · have h1 := hlt _ (h.y_ q hq)
   have h2 := hm.y_ x hx
   unfold ordP; omega
 · rw [ht]
   rcases List.mem_append.1 hq with hq | hq
   · simp [h.y_ q hq]
   · simp [hm.y_ q hq]
 · rw [hasB_app, Bool.or_eq_true, h.has p, hm.has p, hasB_perm hp, ht]
   simp only [List.mem_append, List.mem_singleton]
   constructor
   · rintro (⟨a, b⟩ | a)
     · exact ⟨.inl a, b⟩
     · obtain ⟨q, hq, k1, k2, k3⟩ := (hasB_iff _ _).1 a
       have := GrOf_mem.1 hq
       have e : p.y = y := by omega
       refine ⟨.inr e, ?_⟩
       rw [← hasB_GrOf, e]; exact a
   · rintro ⟨a | a, b⟩
     · exact .inl ⟨a, b⟩
     · right; rw [← a, hasB_GrOf]; exact b
 · rcases List.mem_append.1 hq with hq | hq
   · exact h.t_ q hq
   · obtain ⟨a, b, c⟩ := hm.t_ q hq
     exact ⟨a, (GrOf_mem.1 (hp.mem_iff.1 b)).1, c⟩
 · have h1 := h.len
   have h2 := hm.len
   have h3 := hp.length_eq
   rw [ht, List.map_append, List.sum_append, List.length_append]
   simp only [List.map_cons, List.map_nil, List.sum_cons, List.sum_nil]
   omega
theorem RowK.setRow {L : List SpT} {ks : List Int} {M : List SpT} (h : RowK L ks ks.length M) (hk : ∀ s ∈ L, s.y ∈ ks) : SetRow (fun p => hasB L p = true) M := by
 refine ⟨h.row, fun p => (h.has p).trans ?_⟩
 rw [List.take_length]
 refine ⟨fun ⟨_, b⟩ => b, fun b => ⟨?_, b⟩⟩
 obtain ⟨s, hs, h1, _⟩ := (hasB_iff _ _).1 b
 rw [← h1]; exact hk s hs
/- Layer 6: the document's Union, Sweep. -/
/-- A slice of rows of spans. -/
def RowsR (w : World) (a : Option Addr) (ls : List (List SpT)) : Prop := ∀ k l, ls[k]? = some l → ∃ b off a' cap', a = some ⟨b, off, none⟩ ∧ b < w.heap.size ∧ w.cell? ⟨b, off + k, none⟩ = some (.slice a' l.length cap') ∧ Elems w (.slice a' l.length cap') l.length 3 (rowC encS l)
theorem RowsR.below {w w' : World} {a : Option Addr} {ls : List (List SpT)} (h : RowsR w a ls) (hb : Below w.heap.size w w') : RowsR w' a ls := fun k l hk => by
 obtain ⟨b, off, a', cap', h1, h2, h3, h4⟩ := h k l hk
 exact ⟨b, off, a', cap', h1, Nat.lt_of_lt_of_le h2 hb.size, (hb.cell (p := ⟨b, off + k, none⟩) h2).trans h3, h4.below hb⟩
/-- The field of the places of a row. -/
def UnF (M : List SpT) (F : Nat → Nat → Bool) : Prop := ∀ r c : Nat, F r c = true ↔ hasB M ⟨-256 + (c : Int), -256 + (r : Int)⟩ = true
theorem UnF.step {M : List SpT} {F : Nat → Nat → Bool} {y f x : Int} {R C : Nat} (h : UnF (M ++ [⟨y, f, x - 1⟩]) F) (hf : f ≤ x) (hR : -256 + (R : Int) = y) (hC : -256 + (C : Int) = x) : UnF (M ++ [⟨y, f, x⟩]) (upd2 F R C true) := fun r c => by
 have := h r c
 rw [hasB_app, hasB_one, Bool.or_eq_true] at this
 rw [upd2_true, this, hasB_app, hasB_one, Bool.or_eq_true]
 simp only [inB, decide_eq_true_eq]
 constructor
 · rintro (⟨rfl, rfl⟩ | h | ⟨h1, h2, h3⟩)
   · right; omega
   · exact .inl h
   · right; omega
 · rintro (h | ⟨h1, h2, h3⟩)
   · exact .inr (.inl h)
   · by_cases e : -256 + (c : Int) = x
     · left; omega
     · right; right; omega
theorem UnF.same {M : List SpT} {F : Nat → Nat → Bool} {s : SpT} {t : Int} (h : UnF (M ++ [⟨s.y, s.f, t⟩]) F) (ht : t = s.t) : UnF (M ++ [s]) F := by subst ht; exact h
theorem take_flat {ls : List (List SpT)} {k : Nat} {l : List SpT} (h : ls[k]? = some l) : (ls.take (k + 1)).flatten = (ls.take k).flatten ++ l := by rw [List.take_add_one, h]; simp
theorem take_snoc {l : List SpT} {q : Nat} {s : SpT} (h : l[q]? = some s) : l.take (q + 1) = l.take q ++ [s] := by rw [List.take_add_one, h]; simp
/- Layer 6: the document's Sweep. -/
theorem le_of_sq {x s : Int} (hs : 0 ≤ s) (h : x * x ≤ s * s) : x ≤ s := by
 refine Int.not_lt.1 fun hlt => ?_
 have h1 : s * s < x * x := Int.lt_of_lt_of_le (Int.mul_lt_mul_of_pos_left hlt (show 0 < s + 1 by omega) |> fun h => (by
  have h2 : (s + 1) * (s + 1) ≤ x * x := Int.mul_le_mul (by omega) (by omega) (by omega) (by omega)
  have h3 : s * s < (s + 1) * (s + 1) := by
   have : (s + 1) * (s + 1) = s * s + 2 * s + 1 := by rw [Int.add_mul, Int.mul_add]; omega
   omega
  exact Int.lt_of_lt_of_le h3 h2)) (Int.le_refl _)
 omega
theorem inRef_in {size : Int} {round : Bool} {c p : PtT} (hs : 0 ≤ size) (h : inRef size round c p = true) : (c.x - size ≤ p.x ∧ p.x ≤ c.x + size) ∧ (c.y - size ≤ p.y ∧ p.y ≤ c.y + size) := by
 have key : wayN c.x p.x ≤ size ∧ wayN c.y p.y ≤ size := by
  unfold inRef at h
  cases round
  · simpa using h
  · simp only [cond_true, decide_eq_true_eq] at h
    have h1 := Int.mul_nonneg (wayN_nonneg c.x p.x) (wayN_nonneg c.x p.x)
    have h2 := Int.mul_nonneg (wayN_nonneg c.y p.y) (wayN_nonneg c.y p.y)
    exact ⟨le_of_sq hs (by omega), le_of_sq hs (by omega)⟩
 unfold wayN at key
 split at key <;> split at key <;> omega
/-- The field of the places of which Q holds. -/
def SwF (Q : PtT → Prop) (F : Nat → Nat → Bool) : Prop := ∀ r c : Nat, F r c = true ↔ Q ⟨-79 + (c : Int), -79 + (r : Int)⟩
theorem SwF.congr {Q Q' : PtT → Prop} {F : Nat → Nat → Bool} (h : SwF Q F) (e : ∀ p, Q p ↔ Q' p) : SwF Q' F := fun r c => (h r c).trans (e _)
/-- What the places M sweep, and the place c so far. -/
def SwQ (size : Int) (round : Bool) (M : List PtT) (c : PtT) (y x : Int) (p : PtT) : Prop := (∃ c' ∈ M, inRef size round c' p = true) ∨ (inRef size round c p = true ∧ (p.y < y ∨ p.y = y ∧ p.x < x))
def SwM (size : Int) (round : Bool) (M : List PtT) (p : PtT) : Prop := ∃ c' ∈ M, inRef size round c' p = true
section
variable {size : Int} {round : Bool} {M : List PtT} {c : PtT} {y x : Int} {F : Nat → Nat → Bool}
theorem SwF.step (h : SwF (SwQ size round M c y x) F) {R C : Nat} (hR : -79 + (R : Int) = y) (hC : -79 + (C : Int) = x) (hi : inRef size round c ⟨x, y⟩ = true) : SwF (SwQ size round M c y (x + 1)) (upd2 F R C true) := fun r k => by
 rw [upd2_true, h r k]
 unfold SwQ
 simp only
 constructor
 · rintro (⟨rfl, rfl⟩ | h | ⟨h1, h2⟩)
   · right; rw [hR, hC]; exact ⟨hi, by omega⟩
   · exact .inl h
   · exact .inr ⟨h1, by omega⟩
 · rintro (h | ⟨h1, h2⟩)
   · exact .inr (.inl h)
   · by_cases e : -79 + (r : Int) = y ∧ -79 + (k : Int) = x
     · left; omega
     · right; right; exact ⟨h1, by omega⟩
theorem SwF.skip (h : SwF (SwQ size round M c y x) F) (hi : inRef size round c ⟨x, y⟩ = false) : SwF (SwQ size round M c y (x + 1)) F := h.congr fun p => by
 unfold SwQ
 constructor
 · rintro (h | ⟨h1, h2⟩)
   · exact .inl h
   · exact .inr ⟨h1, by omega⟩
 · rintro (h | ⟨h1, h2⟩)
   · exact .inl h
   · refine .inr ⟨h1, ?_⟩
     by_cases e : p.y = y ∧ p.x = x
     · obtain ⟨px, py⟩ := p
       simp only at e
       rw [e.1, e.2, hi] at h1
       cases h1
     · omega
theorem SwF.down (h : SwF (SwQ size round M c y (c.x + size + 1)) F) (hs : 0 ≤ size) : SwF (SwQ size round M c (y + 1) (c.x - size)) F := h.congr fun p => by
 unfold SwQ
 constructor
 · rintro (h | ⟨h1, h2⟩)
   · exact .inl h
   · exact .inr ⟨h1, by omega⟩
 · rintro (h | ⟨h1, h2⟩)
   · exact .inl h
   · have := inRef_in hs h1; exact .inr ⟨h1, by omega⟩
theorem SwF.done {q : Int} (h : SwF (SwQ size round M c (c.y + size + 1) q) F) (hs : 0 ≤ size) : SwF (SwM size round (M ++ [c])) F := h.congr fun p => by
 unfold SwM SwQ
 constructor
 · rintro (⟨c', h1, h2⟩ | ⟨h1, h2⟩)
   · exact ⟨c', by simp [h1], h2⟩
   · exact ⟨c, by simp, h1⟩
 · rintro ⟨c', h1, h2⟩
   rcases List.mem_append.1 h1 with h1 | h1
   · exact .inl ⟨c', h1, h2⟩
   · simp at h1; subst h1
     have := inRef_in hs h2
     exact .inr ⟨h2, by omega⟩
end
theorem take_snocP {l : List PtT} {q : Nat} {s : PtT} (h : l[q]? = some s) : l.take (q + 1) = l.take q ++ [s] := by rw [List.take_add_one, h]; simp
end Go.Proofs.YthcdkkmjnglmjaaGreatDoor
/- cmp.Compare at ints. -/
namespace Go.Proofs.YthcdkkmjnglmjaaGreatDoor
open Go.RowKit Go.Shelf
theorem isNaN_int (x : Int) (w : World) : Calls Tryz.prog 115 #[.int .i64 x] w fun e w' => e = .returned (.bool false) ∧ w = w' := by
 go_enter Tryz.func115, Tryz.ntmps115
 go_wp2
 go_ret
 exact ⟨rfl, rfl⟩
theorem cmp_int (x y : Int) (w : World) : Calls Tryz.prog 98 #[.int .i64 x, .int .i64 y] w fun e w' => e = .returned (.int .i64 (Lib.compareInt x y)) ∧ w = w' := by
 unfold Lib.compareInt
 by_cases h1 : x < y
 · go_enter Tryz.func98, Tryz.ntmps98
   go_wp2_with (go_at_call 115; refine (isNaN_int _ _).mono ?_; rintro e w' ⟨rfl, rfl⟩)
   go_ret
   exact ⟨ret_int (by simp [h1]), rfl⟩
 · by_cases h2 : y < x
   · go_enter Tryz.func98, Tryz.ntmps98
     go_wp2_with (go_at_call 115; refine (isNaN_int _ _).mono ?_; rintro e w' ⟨rfl, rfl⟩)
     go_ret
     exact ⟨rfl, rfl⟩
   · go_enter Tryz.func98, Tryz.ntmps98
     go_wp2_with (go_at_call 115; refine (isNaN_int _ _).mono ?_; rintro e w' ⟨rfl, rfl⟩)
     go_ret
     exact ⟨rfl, rfl⟩
theorem cmp_lt (x y : Int) : decide (Lib.compareInt x y < 0) = decide (x < y) := by
 unfold Lib.compareInt
 by_cases h1 : x < y
 · simp [h1]
 · by_cases h2 : y < x <;> simp [h1, h2]
end Go.Proofs.YthcdkkmjnglmjaaGreatDoor
/- Layer 6: rows.row. -/
namespace Go.Proofs.YthcdkkmjnglmjaaGreatDoor
open Go.RowKit Go.Shelf Go.Maps
def cmpF (a b : SpT) : Int := Lib.compareInt a.f b.f
set_option maxRecDepth 100000 in
theorem row1_any (a b : SpT) (w : World) : Calls Tryz.prog 113 #[a.val, b.val] w (GivesG (.int .i64 (cmpF a b)) w) := by
 obtain ⟨ay, af, at'⟩ := a
 obtain ⟨by', bf, bt⟩ := b
 unfold SpT.val cmpF
 simp only
 go_enter Tryz.func113, Tryz.ntmps113
 go_wp2_with fail
 refine (cmp_int _ _ _).mono ?_
 rintro e w' ⟨rfl, rfl⟩
 go_wp2_with fail
 go_ret
 exact ⟨rfl, (Grows.alloc _ _).trans (Grows.alloc _ _)⟩
theorem ltF (a b : SpT) : ltOf cmpF a b = decide (a.f < b.f) := by
 unfold ltOf cmpF
 exact cmp_lt _ _
theorem swoF : Sort.SWO (ltOf cmpF) where
 irrefl x := by rw [ltF]; simp
 trans x y z h1 h2 := by rw [ltF, decide_eq_true_eq] at *; omega
 ntrans x y z h1 h2 := by rw [ltF, decide_eq_false_iff_not] at *; omega
theorem GrD.turn {w w' : World} {base b n : Nat} {D : DataW Value} {F : Int → Value} {G : Int → List SpT} (h : GrD w base b n D F G) {y : Int} (hy : inK y) (hg : w.grownBy w' (F y).ownBlock) {s : List SpT} (hrow : w'.ownsRow base 60 3 (F y) s.length (s.flatMap encS)) (hs : s ≠ [] ↔ G y ≠ []) :
 GrD w' base b n D F (fun z => if z = y then s else G z) := by
 have hbF : some b ≠ (F y).ownBlock := fun e => by have := ((h.row y hy).lt b e.symm).1; have := h.lt; omega
 refine ⟨h.map.kept hg hbF, h.at_, fun z hz => ?_, h.apart, fun z hz => ?_, h.only, h.lt⟩
 · by_cases e : z = y
   · subst e; simp only [if_true]; exact hrow
   · simp only [if_neg e]
     refine (h.row z hz).kept hg ?_
     cases hv : (F z).ownBlock with
     | none => exact .inl rfl
     | some j => exact .inr fun e' => h.apart z y j hz hy e hv e'.symm
 · by_cases e : z = y
   · subst e; simp only [if_true]; rw [h.has z hz]; exact hs.symm
   · simp only [if_neg e]; exact h.has z hz
theorem GrD.other {w w' : World} {base b n : Nat} {D : DataW Value} {F : Int → Value} {G : Int → List SpT} (h : GrD w base b n D F G) {row : Option Nat} (hg : w.grownBy w' row) (hb : some b ≠ row) (hr : ∀ z, inK z → (F z).ownBlock = none ∨ (F z).ownBlock ≠ row) : GrD w' base b n D F G :=
 ⟨h.map.kept hg hb, h.at_, fun z hz => (h.row z hz).kept hg (hr z hz), h.apart, h.has, h.only, h.lt⟩
theorem keeps_row {x y : World} {base : Nat} {e : TypeId} {k : Nat} {v : Value} {n : Nat} {xs : List Value} (h : x.ownsRow base e k v n xs) (hg : x.grownBy y v.ownBlock) : KeepsOthers x y :=
 KeepsOthers.of_grownBy hg fun j o ej hj => by
  rcases h.2 with ⟨rfl, _⟩ | ⟨g, cap, cur, rfl, _, hgb, _⟩
  · simp [Value.ownBlock] at ej
  · obtain rfl : g = j := by simpa [Value.ownBlock] using ej
    rw [hgb] at hj; cases hj; rfl
theorem keeps_below {x y : World} (h : Below x.heap.size x y) : KeepsOthers x y := ⟨h.size, fun j o hj _ => (h.block j (b7t hj)).trans hj⟩
theorem idx_int {w : World} {base : Nat} {sv : Value} {ks : List Int} (h : w.ownsRow base 3 1 sv ks.length (ks.map (Value.int .i64))) (k : Nat) (y : Int) (hk : ks[k]? = some y) : ∃ g cap, sv = .slice (some ⟨g, 0, none⟩) ks.length cap ∧ w.cell? ⟨g, k, none⟩ = some (.int .i64 y) := by
 have hlt := (List.getElem?_eq_some_iff.1 hk).1
 have h' := h
 rcases h.2 with ⟨_, h0⟩ | ⟨g, cap, cur, rfl, _⟩
 · omega
 · exact ⟨g, cap, rfl, ownsRow_cell h (by simp [hk])⟩
set_option maxRecDepth 100000 in
set_option maxHeartbeats 1000000 in
theorem row_any (w0 : World) (pr base b n : Nat) (D : DataW Value) (F : Int → Value) (L : List SpT) (hn : n ≤ 1000000) (hL : L.length ≤ 1000000) (hsp : ∀ s ∈ L, inK s.y ∧ (-1000 ≤ s.f ∧ s.f ≤ s.t ∧ s.t ≤ 1000)) (w : World) (hlow : Below w0.heap.size w0 w)
 (h0 : w0.heap.size ≤ pr) (hpr : pr < base) (hbase : base ≤ w.heap.size) (h : GrD w base b n D F (GrOf L)) (hp : w.heap[pr]? = some (.cells #[.map (some b)] 131 (0, 0))) :
 Calls Tryz.prog 91 #[.pointer (some ⟨pr, 0, none⟩)] w fun e w' => ∃ M v, SetRow (fun p => hasB L p = true) M ∧ M.length ≤ L.length ∧ e = .returned v ∧ w'.ownsRow w0.heap.size 60 3 v M.length (M.flatMap encS) ∧ Below w0.heap.size w0 w' ∧ KeepsOthers w w' := by
 have HSO := H7 (sorted_any b n D (by omega) w h.map)
 have HG := H7 h
 have HS := H7 (show St w0 [.blk pr (.cells #[.map (some b)] 131 (0, 0))] w from ⟨hlow, fun i hi => by simp at hi; subst hi; exact hp, ⟨h0, by simp, trivial⟩, fun i hi => by simp at hi; subst hi; simp only [It.top]; omega⟩)
 have HB := H7 (And.intro hn (And.intro hL (And.intro hpr hbase)))
 have HSP := H7 hsp
 have c0 := c7b (k := 0) hp rfl
 have HOWN := H7 (show ∀ z, inK z → ∀ j, (F z).ownBlock = some j → base ≤ j ∧ j < w.heap.size from fun z hz j hj => (h.row z hz).lt j hj)
 clear h hp hn hL hpr hbase hsp hlow h0
 go_enter Tryz.func91, Tryz.ntmps91
 go_wp2_with fail
 refine HSO.out.mono ?_
 rintro e w2 ⟨sv, ks, rfl, hks, hb2, hlen, hpw, hmem⟩
 have hg2 := HG.out.kept hb2
 have HO := H7 (StO.start (HS.out.below hb2) 60 3 encS)
 have HKS := H7 hks
 have HPW := H7 hpw
 have HME := H7 (fun y (hy : inK y) => (hmem y).trans (HG.out.has y hy))
 have HIN := H7 (fun y (hy : y ∈ ks) => show inK y by
  obtain ⟨z, hz, e⟩ := HG.out.only _ ((hmem y).1 hy)
  cases e; exact hz)
 have HLN := H7 hlen
 have HSZ := H7 hb2.size
 have HSV := H7 (show ∀ j, sv.ownBlock = some j → w.heap.size ≤ j ∧ j < w2.heap.size from fun j hj => hks.lt j hj)
 have HGD := H7 hg2
 have HPM := H7 (fun z => List.Perm.refl (GrOf L z))
 have HBL := H7 HG.out.lt
 have HRK := H7 (rowK_start L ks)
 have HKO := H7 (keeps_below hb2)
 obtain ⟨m, hm⟩ : ∃ m, ks.length = m := ⟨_, rfl⟩
 obtain ⟨cpk, adk, hsv⟩ : ∃ cpk adk, sv = .slice adk m cpk := by
  rcases hks.2 with ⟨e, h0⟩ | ⟨g, cap, cur, e, _⟩
  · exact ⟨0, none, by rw [e, ← hm, h0]⟩
  · exact ⟨cap, _, by rw [e, hm]⟩
 subst hsv
 have HM := H7 hm
 clear hks hb2 hlen hpw hmem hg2 HSO HG HS c0 hm
 obtain ⟨N1, hN1⟩ : ∃ N1, w2.heap.size = N1 := ⟨_, rfl⟩
 rw [hN1] at HO HSZ HSV
 clear hN1
 go_wp2_with fail
 go_loopw [3, 17] (fun v i wr => ∃ (k : Nat) (M : List SpT) (G : Int → List SpT), k ≤ m ∧ i = .int .i64 (k : Int) ∧ StO w0 [.blk pr (.cells #[.map (some b)] 131 (0, 0))] N1 60 3 encS v M wr ∧ RowK L ks k M ∧ GrD wr base b n D F G ∧ (∀ z, (G z).Perm (GrOf L z)) ∧ wr.ownsRow w.heap.size 3 1 (.slice adk m cpk) ks.length (ks.map (Value.int .i64)) ∧ KeepsOthers w wr) (fun _ i _ => m - (intOf i).toNat)
 case atStart => exact ⟨0, [], _, by omega, rfl, HO.out, HRK.out, HGD.out, HPM.out, HKS.out, HKO.out⟩
 case round =>
  obtain ⟨k, M, G, hk, rfl, ho, hrk, hgd, hpm, hks, hko⟩ := hrel
  clear HO HRK HGD HPM HKS HKO
  have HKO := H7 hko
  have HO := H7 ho
  have HRK := H7 hrk
  have HGD := H7 hgd
  have HPM := H7 hpm
  have HKS := H7 hks
  clear ho hrk hgd hpm hks hko
  by_cases hlt : k < m
  · have HLT := H7 hlt
    have e3 : wrap64 ((k : Int) + 1) = ((k + 1 : Nat) : Int) := by have := HB.out.1; have := HLN.out; have := HM.out; unfold wrap64; omega
    obtain ⟨y, hy⟩ : ∃ y, ks[k]? = some y := ⟨_, List.getElem?_eq_getElem (by rw [HM.out]; exact hlt)⟩
    obtain ⟨gk, capk, hsv, hck⟩ := idx_int HKS.out k y hy
    obtain ⟨rfl, -, rfl⟩ := (Value.slice.injEq _ _ _ _ _ _).mp hsv
    have hyin := HIN.out y (List.mem_of_getElem? hy)
    have HYI := H7 hyin
    have HY := H7 hy
    have HLK := H7 (HGD.out.look hyin)
    have hrow := HGD.out.row y hyin
    have hne : G y ≠ [] := by
     have h1 := (HME.out y hyin).1 (List.mem_of_getElem? hy)
     intro e
     have h2 := (HPM.out y).length_eq
     rw [e] at h2
     exact h1 (List.length_eq_zero_iff.1 h2.symm)
    have HNE := H7 hne
    obtain ⟨gy, cy, hFy⟩ : ∃ gy cy, F y = .slice (some ⟨gy, 0, none⟩) (G y).length cy := by
     rcases hrow.2 with ⟨_, h0⟩ | ⟨g', cap', cur', e, _⟩
     · exact absurd (List.length_eq_zero_iff.1 h0) hne
     · exact ⟨g', cap', e⟩
    rw [hFy] at HLK hrow
    have HFY := H7 hFy
    have hGL : (G y).length ≤ 1000000 := by
     have h2 := (HPM.out y).length_eq
     have h3 := GrOf_len L y
     have h4 := HB.out.2.1
     omega
    have HSORT := H7 (sortRowsG lay_sortS 3 Tryz.isAgg60 Tryz.sizeOf60 encS encS_len encS_one cmpF swoF 113 #[] (enters_of Tryz.func113 (by kernel_rfl) rfl) (fun x y w => row1_any x y w) _ (G y) base wr hrow (by omega))
    have cpr := c7b (k := 0) (HO.out.st.blockAt 0 rfl) rfl
    have lk := HLK.out
    clear hy hsv hyin hne hFy hrow HLK hGL
    go_wp2_with fail
    refine HSORT.out.mono ?_
    rintro e w4 ⟨rfl, s, hsp, hso, hrow, hg⟩
    have hg : wr.grownBy w4 (some gy) := hg
    have hrw0 := HGD.out.row y HYI.out
    have HKO := H7 (HKO.out.trans (keeps_row hrw0 (by rw [HFY.out]; exact hg)))
    clear hrw0
    have hgy := HOWN.out y HYI.out gy (by rw [HFY.out]; rfl)
    have hsl : (G y).length = s.length := hsp.length_eq.symm
    rw [hsl] at hrow
    have HGD2 := H7 (HGD.out.turn HYI.out (s := s) (by rw [HFY.out]; exact hg) (by rw [HFY.out, hsl]; exact hrow) ⟨fun _ => HNE.out, fun _ e => HNE.out (List.length_eq_zero_iff.1 (by rw [hsl, e]; rfl))⟩)
    have HO2 := H7 (show StO w0 [.blk pr (.cells #[.map (some b)] 131 (0, 0))] N1 60 3 encS u3 M w4 from ⟨HO.out.st.grown (base := base) (row := some gy) (fun j e => by cases e; exact hgy.1) (Nat.le_trans (by have := HO.out.st.ord; simp [ItOrd] at this; exact this) (Nat.le_of_lt HB.out.2.2.1)) (fun i hi => by simp at hi; subst hi; simp only [It.top]; exact HB.out.2.2.1) hg,
     HO.out.row.kept hg (by
      cases hv : u3.ownBlock with
      | none => exact .inl rfl
      | some j => exact .inr fun e => by cases e; have := (HO.out.row.lt _ hv).1; have := HSZ.out; omega), HO.out.low, HO.out.top, Nat.le_trans HO.out.hi hg.size⟩)
    have HKS2 := H7 (HKS.out.kept hg (.inr fun e => by cases e; have := (HSV.out _ rfl).1; omega))
    have HSB := H7 (show ∀ q ∈ s, q.y = y ∧ (-1000 ≤ q.f ∧ q.f ≤ q.t ∧ q.t ≤ 1000) from fun q hq => by
     obtain ⟨h1, h2⟩ := GrOf_mem.1 ((HPM.out y).mem_iff.1 (hsp.mem_iff.1 hq))
     exact ⟨h2, (HSP.out q h1).2⟩)
    have HPS := H7 (show s.Perm (GrOf L y) from hsp.trans (HPM.out y))
    have HPM2 := H7 (show ∀ z, ((fun z => if z = y then s else G z) z).Perm (GrOf L z) from fun z => by
     by_cases e : z = y
     · subst e; simp only [if_true]; exact HPS.out
     · simp only [if_neg e]; exact HPM.out z)
    have HSO := H7 hso
    have HFY2 := H7 (show F y = .slice (some ⟨gy, 0, none⟩) s.length cy by rw [HFY.out, hsl])
    obtain ⟨ms, hms⟩ : ∃ ms, s.length = ms := ⟨_, rfl⟩
    rw [hms] at HFY2 hsl
    have HMS := H7 hms
    have HML := H7 (show M.length + ms ≤ 1000000 by
     have h1 := HRK.out.step HPW.out HY.out HPS.out (R := s)
     have h2 := HRK.out.len
     have h3 := HPS.out.length_eq
     have hnd : (ks.take (k + 1)).Nodup := (HPW.out.sublist (List.take_sublist _ _)).imp fun {a b} h => by omega
     have h4 := GrOf_sum hnd L
     have h5 := HB.out.2.1
     rw [List.take_add_one, HY.out, List.map_append, List.sum_append] at h4
     simp only [Option.toList_some, List.map_cons, List.map_nil, List.sum_cons, List.sum_nil] at h4
     omega)
    rw [hsl]
    obtain ⟨ao, co, hv, -⟩ := HO2.out.shape
    subst hv
    have HO3 := H7 (show StO w0 [.blk pr (.cells #[.map (some b)] 131 (0, 0))] N1 60 3 encS (.slice ao M.length co) (M ++ []) w4 by rw [List.append_nil]; exact HO2.out)
    have HOTH := H7 (fun (x x' : World) (row : Option Nat) (hr : ∀ j, row = some j → N1 ≤ j) (hg : x.grownBy x' row) (hgd : GrD x base b n D F (fun z => if z = y then s else G z)) (hks : x.ownsRow w.heap.size 3 1 (.slice (some ⟨gk, 0, none⟩) m cpk) ks.length (ks.map (Value.int .i64))) =>
     And.intro (hgd.other hg (fun e => by have h1 := hr b e.symm; have h2 := HBL.out; have h3 := HB.out.2.2.2; have h4 := HSZ.out; omega) (fun z hz => by
      cases hv : (F z).ownBlock with
      | none => exact .inl rfl
      | some j => exact .inr fun e => by have h1 := hr j e.symm; have h2 := (HOWN.out z hz j hv).2; have h3 := HSZ.out; omega))
     (hks.kept hg (.inr fun e => by have h1 := hr gk e.symm; have h2 := (HSV.out gk rfl).2; omega)))
    clear hsp hso hrow hg hgy hsl hms HO HGD HPM HKS HO2 HFY HSORT lk cpr
    go_wp2_with fail
    go_loopw [3, 33] (fun v i wx => ∃ (j : Nat) (R : List SpT), j ≤ ms ∧ i = .int .i64 (j : Int) ∧ StO w0 [.blk pr (.cells #[.map (some b)] 131 (0, 0))] N1 60 3 encS v (M ++ R) wx ∧ MgTo y (s.take j) R ∧ GrD wx base b n D F (fun z => if z = y then s else G z) ∧ wx.ownsRow w.heap.size 3 1 (.slice (some ⟨gk, 0, none⟩) m cpk) ks.length (ks.map (Value.int .i64)) ∧ KeepsOthers w wx) (fun _ i _ => ms - (intOf i).toNat)
    case atStart => exact ⟨0, [], by omega, rfl, HO3.out, mgTo_start y, HGD2.out, HKS2.out, HKO.out⟩
    case round =>
     obtain ⟨j, R, hj, rfl, ho, hmg, hgd, hks, hko⟩ := hrel
     clear HO3 HGD2 HKS2 HKO
     have HKO := H7 hko
     have HO := H7 ho
     have HMG := H7 hmg
     have HGD := H7 hgd
     have HKS := H7 hks
     clear ho hmg hgd hks hko
     by_cases hlt2 : j < ms
     · have HJ := H7 hlt2
       have e4 : wrap64 ((j : Int) + 1) = ((j + 1 : Nat) : Int) := by have := HML.out; unfold wrap64; omega
       obtain ⟨x, hx⟩ : ∃ x, s[j]? = some x := ⟨_, List.getElem?_eq_getElem (by rw [HMS.out]; exact hlt2)⟩
       have hrw := HGD.out.row y HYI.out
       simp only [if_true] at hrw
       rw [HFY2.out, HMS.out] at hrw
       have hcell : ∀ c u, (encS x)[c]? = some u → wr.cell? ⟨gy, j * 3 + c, none⟩ = some u := fun c u hu => ownsRow_cell hrw (by
        rw [flat_get encS_len s j c (by rw [← encS_len x]; exact (List.getElem?_eq_some_iff.1 hu).1), hx]; exact hu)
       have c0 := hcell 0 _ rfl
       have c1 := hcell 1 _ rfl
       have c2 := hcell 2 _ rfl
       simp only [Nat.add_zero] at c0
       have hxs := HSB.out x (List.mem_of_getElem? hx)
       have HTS := H7 (take_snoc hx)
       have HGE := H7 (show ∀ q ∈ s.take j, q.f ≤ x.f from fun q hq => by
        have hso' := HSO.out
        have hsplit : s = s.take j ++ x :: s.drop (j + 1) := by
         obtain ⟨hk, e⟩ := List.getElem?_eq_some_iff.1 hx
         conv => lhs; rw [← List.take_append_drop j s, List.drop_eq_getElem_cons hk, e]
        rw [hsplit] at hso'
        have h1 := (List.pairwise_append.1 hso').2.2 q hq x (by simp)
        rw [ltF, decide_eq_false_iff_not] at h1
        omega)
       have HXS := H7 hxs
       obtain ⟨X, hX⟩ : ∃ X, X = x := ⟨_, rfl⟩
       rw [← hX] at HTS HGE HXS
       have HX := H7 hX
       obtain ⟨xy, xf, xt⟩ := x
       have hxx := HXS.out
       rw [hX] at hxx
       simp only at c0 c1 c2 hxx
       have HXB := H7 hxx
       clear hx hrw hcell hxs hX hxx
       have HS := H7 (St.start wr)
       repeat ((fail_if_success (with_reducible refine stop_at (id := 11) ?_)); (first | go_values | go_skip | go_guarded | go_step | go_upon | go_back | (simp only [Int.not_lt, Int.not_le] at *; go_simp) | (go_values <;> (try go_simp)) | (go_ite <;> go_prune <;> (try go_simp)) | (split <;> (first | (rename_i hx; exact (hx _ rfl).elim) | go_prune))))
       clear c0 c1 c2
       obtain ⟨p, hp⟩ : ∃ p, wr.heap.size = p := ⟨_, rfl⟩
       have hpn : N1 ≤ p := by rw [← hp]; exact HO.out.hi
       have hpo : ∀ j, u3.ownBlock = some j → j < p := fun j hj => by rw [← hp]; exact (HO.out.row.lt j hj).2
       have hs_ := (HS.out.alloc (.cells #[.int .i64 xy, .int .i64 xf, .int .i64 xt] 60))
       obtain ⟨w5, hw_⟩ : ∃ w5 : World, (wr.alloc (.cells #[.int .i64 xy, .int .i64 xf, .int .i64 xt] 60)) = w5 := ⟨_, rfl⟩
       rw [hw_] at hs_
       try simp only [World.size_alloc] at hs_
       have HS := H7 hs_
       rw [hw_]
       clear hw_ hs_
       have hgb : wr.grownBy w5 none := below_grown HS.out.low
       obtain ⟨hgd5, hks5⟩ := HOTH.out wr w5 none (fun j e => by cases e) hgb HGD.out HKS.out
       have HKO := H7 (HKO.out.trans (keeps_below HS.out.low))
       have HO := H7 (HO.out.below HS.out.low)
       have HGD := H7 hgd5
       have HKS := H7 hks5
       have hpb := HS.out.blockAt 0 rfl
       rw [hp] at hpb
       have HP := H7 hpb
       simp only [hp]
       have HMX := H7 (show (M ++ R).length < 1000000000 by
        have h1 := HMG.out.len
        have h2 := HML.out
        rw [List.length_append]
        rw [List.length_take, HMS.out] at h1
        omega)
       have hxv : X = ⟨xy, xf, xt⟩ := HX.out
       have hvo : ∀ g q c, u3 = .slice (some ⟨g, 0, none⟩) q c → N1 ≤ g := fun g q c e => (HO.out.row.lt g (by rw [e]; rfl)).1
       have HVO := H7 hvo
       have HVL := H7 (show ∀ j, u3.ownBlock = some j → N1 ≤ j from fun j hj => (HO.out.row.lt j hj).1)
       clear hpb hp HS hgb hgd5 hks5 hpn hvo
       have kf := c7b (k := 1) HP.out rfl
       have kt := c7b (k := 2) HP.out rfl
       have ky := c7b (k := 0) HP.out rfl
       rcases List.eq_nil_or_concat R with hR | ⟨R0, r, hR⟩
       · subst hR
         have HN := H7 (show MgTo y (s.take (j + 1)) ([] ++ [X]) by
          rw [HTS.out]
          exact HMG.out.new HXS.out.1 HXS.out.2.2.1 (fun R0 r e => by cases R0 <;> cases e))
         simp only [List.append_nil] at HO HMX
         obtain ⟨ao, co, hv, -⟩ := HO.out.shape
         subst hv
         go_wp2_with fail
         refine (wpIn_wide (n := 0)).1 ?_
         clear kf kt ky hpo
         apply w7v 15 (Rl := [(eqv _), (eqv _), (eqv _), (eqv _), (fun v_ _ => v_ = (undef : Value)), (fun v_ _ => v_ = (undef : Value)), (fun v_ _ => v_ = (undef : Value)), (fun v_ _ => v_ = (undef : Value)), (fun v_ _ => v_ = (undef : Value)), (fun v_ _ => v_ = (undef : Value)), (fun v_ _ => v_ = (undef : Value)), (fun v_ _ => v_ = (undef : Value)), (fun v_ _ => v_ = (undef : Value)), (fun v_ _ => v_ = (undef : Value)), (eqv _)]) (C := (fun x y => Below w5.heap.size x y))
         case hm => kernel_rfl
         case hk => rfl
         case hCr => exact (fun x => B7 _ x)
         case hCt => intro _ _ _; exact (fun h k => h.trans k)
         case hst => repeat (first | exact trivial | refine ⟨fun _ _ _ _ h => h, ?_⟩)
         case hfo => kernel_rfl
         case ht => kernel_rfl
         case hC0 => exact ((B7 _ _).drew)
         case hsteps =>
          refine ⟨?_, ?_, ?_, ?_, ?_, ?_, ?_, ?_, ?_, ?_, ?_, ?_, ?_, ?_, ?_, trivial⟩
          · intro a' w' hA hC hD; have s10 := hA.to 10 (by kernel_rfl) rfl; clear hA hD; refine o7p rfl ?_; intro K hK; gi_wp2; exact hK _ _ rfl ((fun x => B7 _ x) _)
          · intro a' w' hA hC hD; have s7 := hA.to 7 (by kernel_rfl) rfl; clear hA hD; refine o7p rfl ?_; intro K hK; gi_wp2; exact hK _ _ rfl ((fun x => B7 _ x) _)
          · intro a' w' hA hC hD; obtain ⟨u39, s39, rfl⟩ := hD ⟨0, .data⟩ (by simp) rfl _ rfl; obtain ⟨u40, s40, rfl⟩ := hD ⟨1, .data⟩ (by simp) rfl _ rfl; clear hA hD; refine o7p rfl ?_; intro K hK; gi_wp2; exact hK _ _ rfl ((fun x => B7 _ x) _)
          · intro a' w' hA hC hD; obtain ⟨u41, s41, rfl⟩ := hD ⟨2, .data⟩ (by simp) rfl _ rfl; clear hA hD; refine o7p rfl ?_; intro K hK; gi_wp2; exact hK _ _ rfl ((fun x => B7 _ x) _)
          · intro a' w' hA hC hD; have s9 := hA.to 9 (by kernel_rfl) rfl; obtain ⟨u42, s42, rfl⟩ := hD ⟨3, .guard⟩ (by simp) rfl _ rfl; clear hA hD
            exact o7s rfl rfl s42 rfl
          · intro a' w' hA hC hD; obtain ⟨u43, s43, r43⟩ := hD ⟨4, .data⟩ (by simp) rfl _ rfl; replace r43 : u43 = undef := r43; subst r43; obtain ⟨u42, s42, rfl⟩ := hD ⟨3, .guard⟩ (by simp) rfl _ rfl; clear hA hD
            exact o7s rfl rfl s42 rfl
          · intro a' w' hA hC hD; have s3 := hA.to 3 (by kernel_rfl) rfl; obtain ⟨u42, s42, rfl⟩ := hD ⟨3, .guard⟩ (by simp) rfl _ rfl; clear hA hD
            exact o7s rfl rfl s42 rfl
          · intro a' w' hA hC hD; have s10 := hA.to 10 (by kernel_rfl) rfl; obtain ⟨u42, s42, rfl⟩ := hD ⟨3, .guard⟩ (by simp) rfl _ rfl; clear hA hD
            exact o7s rfl rfl s42 rfl
          · intro a' w' hA hC hD; obtain ⟨u46, s46, r46⟩ := hD ⟨7, .data⟩ (by simp) rfl _ rfl; replace r46 : u46 = undef := r46; subst r46; obtain ⟨u42, s42, rfl⟩ := hD ⟨3, .guard⟩ (by simp) rfl _ rfl; clear hA hD
            exact o7s rfl rfl s42 rfl
          · intro a' w' hA hC hD; obtain ⟨u45, s45, r45⟩ := hD ⟨6, .data⟩ (by simp) rfl _ rfl; replace r45 : u45 = undef := r45; subst r45; obtain ⟨u47, s47, r47⟩ := hD ⟨8, .data⟩ (by simp) rfl _ rfl; replace r47 : u47 = undef := r47; subst r47; obtain ⟨u42, s42, rfl⟩ := hD ⟨3, .guard⟩ (by simp) rfl _ rfl; clear hA hD
            exact o7s rfl rfl s42 rfl
          · intro a' w' hA hC hD; obtain ⟨u48, s48, r48⟩ := hD ⟨9, .data⟩ (by simp) rfl _ rfl; replace r48 : u48 = undef := r48; subst r48; obtain ⟨u42, s42, rfl⟩ := hD ⟨3, .guard⟩ (by simp) rfl _ rfl; clear hA hD
            exact o7s rfl rfl s42 rfl
          · intro a' w' hA hC hD; obtain ⟨u49, s49, r49⟩ := hD ⟨10, .data⟩ (by simp) rfl _ rfl; replace r49 : u49 = undef := r49; subst r49; obtain ⟨u42, s42, rfl⟩ := hD ⟨3, .guard⟩ (by simp) rfl _ rfl; clear hA hD
            exact o7s rfl rfl s42 rfl
          · intro a' w' hA hC hD; obtain ⟨u50, s50, r50⟩ := hD ⟨11, .data⟩ (by simp) rfl _ rfl; replace r50 : u50 = undef := r50; subst r50; obtain ⟨u42, s42, rfl⟩ := hD ⟨3, .guard⟩ (by simp) rfl _ rfl; clear hA hD
            exact o7s rfl rfl s42 rfl
          · intro a' w' hA hC hD; obtain ⟨u44, s44, r44⟩ := hD ⟨5, .data⟩ (by simp) rfl _ rfl; replace r44 : u44 = undef := r44; subst r44; obtain ⟨u51, s51, r51⟩ := hD ⟨12, .data⟩ (by simp) rfl _ rfl; replace r51 : u51 = undef := r51; subst r51; obtain ⟨u42, s42, rfl⟩ := hD ⟨3, .guard⟩ (by simp) rfl _ rfl; clear hA hD
            exact o7s rfl rfl s42 rfl
          · intro a' w' hA hC hD; obtain ⟨u42, s42, rfl⟩ := hD ⟨3, .data⟩ (by simp) rfl _ rfl; obtain ⟨u52, s52, r52⟩ := hD ⟨13, .data⟩ (by simp) rfl _ rfl; replace r52 : u52 = undef := r52; subst r52; clear hA hD; refine o7p rfl ?_; intro K hK; gi_wp2; exact hK _ _ rfl ((fun x => B7 _ x) _)
         case hend =>
          intro w6 hC
          simp only [EndFrom, eqv, forall_eq, Act.put, List.length_cons, List.length_nil, List.drop_succ_cons, List.drop_zero, Nat.reduceAdd, List.setIfInBounds_toArray, List.set_cons_succ, List.set_cons_zero]
          have hpb := (hC.block p (b7t HP.out)).trans HP.out
          have k0 := c7b (k := 0) hpb rfl
          have k1 := c7b (k := 1) hpb rfl
          have k2 := c7b (k := 2) hpb rfl
          obtain ⟨hgd6, hks6⟩ := HOTH.out w5 w6 none (fun j e => by cases e) (below_grown hC) HGD.out HKS.out
          have HKO := H7 (HKO.out.trans (keeps_below hC))
          have HO := H7 (HO.out.below hC)
          have HGD := H7 hgd6
          have HKS := H7 hks6
          clear hpb hgd6 hks6 hC
          gi_wp2
          go_wp2_with (at_builtin; refine wpList_app1g (enc := encS) (L := M) rowS encS_len encS_one HO.out (B7 _ _) ⟨xy, xf, xt⟩ M.length rfl HMX.out (by decide) _ _ rfl rfl rfl _ rfl rfl ?_; intro v' w7 ho7 hsh hg7; have HO7 := H7 ho7; have HOT := H7 (HOTH.out _ _ _ HVL.out hg7 HGD.out HKS.out); have HKO7 := H7 (HKO.out.trans (keeps_row HO.out.row hg7)); clear ho7 hsh hg7)
          go_roundw
          case rel => exact ⟨j + 1, [] ++ [⟨xy, xf, xt⟩], HJ.out, by first | rw [e4] | simp, HO7.out, by have := HN.out; rw [HX.out] at this; exact this, HOT.out.1, HOT.out.2, HKO7.out⟩
          case measure => have := HJ.out; (try rw [e4]); simp [intOf]; omega
       · have hR' : R = R0 ++ [r] := by rw [hR, List.concat_eq_append]
         clear hR
         subst hR'
         rw [← List.append_assoc] at HO HMX
         obtain ⟨Q, hQ⟩ : ∃ Q, (M ++ R0).length = Q := ⟨_, rfl⟩
         have HQ := H7 hQ
         have hlen : (M ++ R0 ++ [r]).length = Q + 1 := by rw [List.length_append, hQ]; rfl
         have hMQ : M.length < Q + 1 := by rw [← hQ, List.length_append]; omega
         have HRT := H7 (show -1000 ≤ r.t ∧ r.t ≤ 1000 from by
          obtain ⟨q, hq, e⟩ := HMG.out.t_ r (by simp)
          have := HSB.out q (List.mem_of_mem_take hq)
          omega)
         have HQB := H7 (show Q < 1000000000 by have := HMX.out; rw [hlen] at this; omega)
         obtain ⟨ao, co, hv, hg⟩ := HO.out.shape
         rw [hlen] at hv hg
         obtain ⟨go, rfl⟩ := hg.resolve_left (by omega)
         subst hv
         have wl : wrap64 (Q : Int) = (Q : Int) := by have := HQB.out; unfold wrap64; omega
         have wt : wrap64 (r.t + 1) = r.t + 1 := by have := HRT.out; unfold wrap64; omega
         have HLEN := H7 hlen
         have HMQ := H7 hMQ
         have HGO := H7 (HVO.out go _ _ rfl)
         clear hQ hlen hg hMQ
         go_wp2_with fail
         refine (wpIn_wide (n := 0)).1 ?_
         clear kf kt ky hpo
         apply w7v 15 (Rl := [(eqv _), (eqv _), (eqv _), (eqv _), (eqv _), (eqv _), (eqv _), (eqv _), (eqv _), (eqv _), (eqv _), (eqv _), (eqv _), (eqv _), (eqv _)]) (C := (fun x y => Below w5.heap.size x y))
         case hm => kernel_rfl
         case hk => rfl
         case hCr => exact (fun x => B7 _ x)
         case hCt => intro _ _ _; exact (fun h k => h.trans k)
         case hst => repeat (first | exact trivial | refine ⟨fun _ _ _ _ h => h, ?_⟩)
         case hfo => kernel_rfl
         case ht => kernel_rfl
         case hC0 => exact ((B7 _ _).drew)
         case hsteps =>
          refine ⟨?_, ?_, ?_, ?_, ?_, ?_, ?_, ?_, ?_, ?_, ?_, ?_, ?_, ?_, ?_, trivial⟩
          · intro a' w' hA hC hD; have s10 := hA.to 10 (by kernel_rfl) rfl; clear hA hD; refine o7p rfl ?_; intro K hK; gi_wp2; exact hK _ _ rfl ((fun x => B7 _ x) _)
          · intro a' w' hA hC hD; have s7 := hA.to 7 (by kernel_rfl) rfl; clear hA hD; refine o7p rfl ?_; intro K hK; gi_wp2; exact hK _ _ rfl ((fun x => B7 _ x) _)
          · intro a' w' hA hC hD; obtain ⟨u39, s39, rfl⟩ := hD ⟨0, .data⟩ (by simp) rfl _ rfl; obtain ⟨u40, s40, rfl⟩ := hD ⟨1, .data⟩ (by simp) rfl _ rfl; clear hA hD; refine o7p rfl ?_; intro K hK; gi_wp2; rw [(show decide ((M.length : Int) < (Q : Int) + 1) = true by have := HMQ.out; simp; omega)]; exact hK _ _ rfl ((fun x => B7 _ x) _)
          · intro a' w' hA hC hD; obtain ⟨u41, s41, rfl⟩ := hD ⟨2, .data⟩ (by simp) rfl _ rfl; clear hA hD; refine o7p rfl ?_; intro K hK; gi_wp2; exact hK _ _ rfl ((fun x => B7 _ x) _)
          · intro a' w' hA hC hD; have s9 := hA.to 9 (by kernel_rfl) rfl; obtain ⟨u42, s42, rfl⟩ := hD ⟨3, .guard⟩ (by simp) rfl _ rfl; clear hA hD; refine o7w rfl rfl s42 ?_; intro K hK; gi_wp2; exact hK _ _ rfl ((fun x => B7 _ x) _)
          · intro a' w' hA hC hD; obtain ⟨u43, s43, rfl⟩ := hD ⟨4, .data⟩ (by simp) rfl _ rfl; obtain ⟨u42, s42, rfl⟩ := hD ⟨3, .guard⟩ (by simp) rfl _ rfl
            have b1 := c7b (k := 1) ((hC.block p (b7t HP.out)).trans HP.out) rfl
            clear hA hD; refine o7w rfl rfl s42 ?_; intro K hK; gi_wp2; exact hK _ _ rfl ((fun x => B7 _ x) _)
          · intro a' w' hA hC hD; have s3 := hA.to 3 (by kernel_rfl) rfl; obtain ⟨u42, s42, rfl⟩ := hD ⟨3, .guard⟩ (by simp) rfl _ rfl; clear hA hD; refine o7w rfl rfl s42 ?_; intro K hK; gi_wp2; exact hK _ _ rfl ((fun x => B7 _ x) _)
          · intro a' w' hA hC hD; have s10 := hA.to 10 (by kernel_rfl) rfl; obtain ⟨u42, s42, rfl⟩ := hD ⟨3, .guard⟩ (by simp) rfl _ rfl; clear hA hD; refine o7w rfl rfl s42 ?_; intro K hK; gi_wp2; exact hK _ _ rfl ((fun x => B7 _ x) _)
          · intro a' w' hA hC hD; obtain ⟨u46, s46, rfl⟩ := hD ⟨7, .data⟩ (by simp) rfl _ rfl; obtain ⟨u42, s42, rfl⟩ := hD ⟨3, .guard⟩ (by simp) rfl _ rfl; clear hA hD; refine o7w rfl rfl s42 ?_; intro K hK; gi_wp2; exact hK _ _ rfl ((fun x => B7 _ x) _)
          · intro a' w' hA hC hD; obtain ⟨u45, s45, rfl⟩ := hD ⟨6, .data⟩ (by simp) rfl _ rfl; obtain ⟨u47, s47, rfl⟩ := hD ⟨8, .data⟩ (by simp) rfl _ rfl; obtain ⟨u42, s42, rfl⟩ := hD ⟨3, .guard⟩ (by simp) rfl _ rfl; clear hA hD; refine o7w rfl rfl s42 ?_; intro K hK; gi_wp2; exact hK _ _ rfl ((fun x => B7 _ x) _)
          · intro a' w' hA hC hD; obtain ⟨u48, s48, rfl⟩ := hD ⟨9, .data⟩ (by simp) rfl _ rfl; obtain ⟨u42, s42, rfl⟩ := hD ⟨3, .guard⟩ (by simp) rfl _ rfl; clear hA hD; refine o7w rfl rfl s42 ?_; intro K hK; gi_wp2; exact hK _ _ rfl ((fun x => B7 _ x) _)
          · intro a' w' hA hC hD; obtain ⟨u49, s49, rfl⟩ := hD ⟨10, .data⟩ (by simp) rfl _ rfl; obtain ⟨u42, s42, rfl⟩ := hD ⟨3, .guard⟩ (by simp) rfl _ rfl
            have b1 := (HO.out.below hC).cell encS_len Q r 2 (.int .i64 r.t) (by rw [← HQ.out]; simp) rfl
            clear hA hD; refine o7w rfl rfl s42 ?_; intro K hK; gi_wp2; exact hK _ _ rfl ((fun x => B7 _ x) _)
          · intro a' w' hA hC hD; obtain ⟨u50, s50, rfl⟩ := hD ⟨11, .data⟩ (by simp) rfl _ rfl; obtain ⟨u42, s42, rfl⟩ := hD ⟨3, .guard⟩ (by simp) rfl _ rfl; clear hA hD; refine o7w rfl rfl s42 ?_; intro K hK; gi_wp2; exact hK _ _ rfl ((fun x => B7 _ x) _)
          · intro a' w' hA hC hD; obtain ⟨u44, s44, rfl⟩ := hD ⟨5, .data⟩ (by simp) rfl _ rfl; obtain ⟨u51, s51, rfl⟩ := hD ⟨12, .data⟩ (by simp) rfl _ rfl; obtain ⟨u42, s42, rfl⟩ := hD ⟨3, .guard⟩ (by simp) rfl _ rfl; clear hA hD; refine o7w rfl rfl s42 ?_; intro K hK; gi_wp2; exact hK _ _ rfl ((fun x => B7 _ x) _)
          · intro a' w' hA hC hD; obtain ⟨u42, s42, rfl⟩ := hD ⟨3, .data⟩ (by simp) rfl _ rfl; obtain ⟨u52, s52, rfl⟩ := hD ⟨13, .data⟩ (by simp) rfl _ rfl; clear hA hD; refine o7p rfl ?_; intro K hK; gi_wp2; exact hK _ _ rfl ((fun x => B7 _ x) _)
         case hend =>
          intro w6 hC
          simp only [EndFrom, eqv, forall_eq, Act.put, List.length_cons, List.length_nil, List.drop_succ_cons, List.drop_zero, Nat.reduceAdd, List.setIfInBounds_toArray, List.set_cons_succ, List.set_cons_zero]
          have hpb := (hC.block p (b7t HP.out)).trans HP.out
          have HP6 := H7 hpb
          obtain ⟨hgd6, hks6⟩ := HOTH.out w5 w6 none (fun j e => by cases e) (below_grown hC) HGD.out HKS.out
          have HKO := H7 (HKO.out.trans (keeps_below hC))
          have HO := H7 (HO.out.below hC)
          have HGD := H7 hgd6
          have HKS := H7 hks6
          clear hpb hgd6 hks6 hC
          gi_wp2
          by_cases hmg : xf ≤ r.t + 1
          · have HN := H7 (show MgTo y (s.take (j + 1)) (R0 ++ [⟨r.y, r.f, max r.t xt⟩]) by
             rw [HTS.out]
             have := HMG.out.merge HXS.out.1 HXS.out.2.2.1 HGE.out (by rw [HX.out]; exact hmg)
             rw [HX.out] at this ⊢
             exact this)
            go_wp2_with fail
            refine (wpIn_wide (n := 0)).1 ?_
            apply w7v 12 (Rl := [(eqv _), (eqv _), (eqv _), (eqv _), (eqv _), (eqv _), (eqv _), (eqv _), (eqv _), (eqv _), (eqv _), (eqv _)]) (C := (fun x y => Below w6.heap.size x y))
            case hm => kernel_rfl
            case hk => rfl
            case hCr => exact (fun x => B7 _ x)
            case hCt => intro _ _ _; exact (fun h k => h.trans k)
            case hst => repeat (first | exact trivial | refine ⟨fun _ _ _ _ h => h, ?_⟩)
            case hfo => kernel_rfl
            case ht => kernel_rfl
            case hC0 => exact ((B7 _ _).drew)
            case hsteps =>
             refine ⟨?_, ?_, ?_, ?_, ?_, ?_, ?_, ?_, ?_, ?_, ?_, ?_, trivial⟩
             · intro a' w' hA hC hD; have s3 := hA.to 3 (by kernel_rfl) rfl; clear hA hD; refine o7p rfl ?_; intro K hK; gi_wp2; exact hK _ _ rfl ((fun x => B7 _ x) _)
             · intro a' w' hA hC hD; have s10 := hA.to 10 (by kernel_rfl) rfl; clear hA hD; refine o7p rfl ?_; intro K hK; gi_wp2; exact hK _ _ rfl ((fun x => B7 _ x) _)
             · intro a' w' hA hC hD; obtain ⟨u55, s55, rfl⟩ := hD ⟨1, .data⟩ (by simp) rfl _ rfl; clear hA hD; refine o7p rfl ?_; intro K hK; gi_wp2; exact hK _ _ rfl ((fun x => B7 _ x) _)
             · intro a' w' hA hC hD; have s3 := hA.to 3 (by kernel_rfl) rfl; clear hA hD; refine o7p rfl ?_; intro K hK; gi_wp2; exact hK _ _ rfl ((fun x => B7 _ x) _)
             · intro a' w' hA hC hD; have s10 := hA.to 10 (by kernel_rfl) rfl; clear hA hD; refine o7p rfl ?_; intro K hK; gi_wp2; exact hK _ _ rfl ((fun x => B7 _ x) _)
             · intro a' w' hA hC hD; obtain ⟨u58, s58, rfl⟩ := hD ⟨4, .data⟩ (by simp) rfl _ rfl; clear hA hD; refine o7p rfl ?_; intro K hK; gi_wp2; exact hK _ _ rfl ((fun x => B7 _ x) _)
             · intro a' w' hA hC hD; obtain ⟨u57, s57, rfl⟩ := hD ⟨3, .data⟩ (by simp) rfl _ rfl; obtain ⟨u59, s59, rfl⟩ := hD ⟨5, .data⟩ (by simp) rfl _ rfl; clear hA hD; refine o7p rfl ?_; intro K hK; gi_wp2; exact hK _ _ rfl ((fun x => B7 _ x) _)
             · intro a' w' hA hC hD; obtain ⟨u60, s60, rfl⟩ := hD ⟨6, .data⟩ (by simp) rfl _ rfl; clear hA hD; refine o7p rfl ?_; intro K hK; gi_wp2; exact hK _ _ rfl ((fun x => B7 _ x) _)
             · intro a' w' hA hC hD; obtain ⟨u61, s61, rfl⟩ := hD ⟨7, .data⟩ (by simp) rfl _ rfl
               have b1 := (HO.out.below hC).cell encS_len Q r 2 (.int .i64 r.t) (by rw [← HQ.out]; simp) rfl
               clear hA hD; refine o7p rfl ?_; intro K hK; gi_wp2; exact hK _ _ rfl ((fun x => B7 _ x) _)
             · intro a' w' hA hC hD; have s9 := hA.to 9 (by kernel_rfl) rfl; clear hA hD; refine o7p rfl ?_; intro K hK; gi_wp2; exact hK _ _ rfl ((fun x => B7 _ x) _)
             · intro a' w' hA hC hD; obtain ⟨u63, s63, rfl⟩ := hD ⟨9, .data⟩ (by simp) rfl _ rfl
               have b1 := c7b (k := 2) ((hC.block p (b7t HP6.out)).trans HP6.out) rfl
               clear hA hD; refine o7p rfl ?_; intro K hK; gi_wp2; exact hK _ _ rfl ((fun x => B7 _ x) _)
             · intro a' w' hA hC hD; obtain ⟨u62, s62, rfl⟩ := hD ⟨8, .data⟩ (by simp) rfl _ rfl; obtain ⟨u64, s64, rfl⟩ := hD ⟨10, .data⟩ (by simp) rfl _ rfl; clear hA hD; refine o7p rfl ?_; intro K hK; gi_wp2; exact hK _ _ rfl ((fun x => B7 _ x) _)
            case hend =>
             intro w7 hC
             simp only [EndFrom, eqv, forall_eq, Act.put, List.length_cons, List.length_nil, List.drop_succ_cons, List.drop_zero, Nat.reduceAdd, List.setIfInBounds_toArray, List.set_cons_succ, List.set_cons_zero]
             have HKO7 := H7 (HKO.out.trans (keeps_below hC))
             have HO7 := H7 (HO.out.below hC)
             obtain ⟨hgd7, hks7⟩ := HOTH.out w6 w7 none (fun j e => by cases e) (below_grown hC) HGD.out HKS.out
             have HGD := H7 hgd7
             have HKS := H7 hks7
             have c5 := HO7.out.cell encS_len Q r 2 (.int .i64 r.t) (by rw [← HQ.out]; simp) rfl
             have f5 := HO7.out.free (Q * 3 + 2)
             clear hC hgd7 hks7
             gi_wp2
             have hs := HO7.out.setLast encS_len ⟨r.y, r.f, max r.t xt⟩ 2 (.int .i64 (max r.t xt)) (by omega) rfl
             rw [HQ.out] at hs
             have HO8 := H7 hs
             have HOT := H7 (HOTH.out _ _ (some go) (fun j e => by cases e; exact HGO.out) (g7c w7 go (Q * 3 + 2) (.int .i64 (max r.t xt))) HGD.out HKS.out)
             clear hs c5 f5
             go_wp2_with fail
             go_roundw
             case rel => exact ⟨j + 1, R0 ++ [⟨r.y, r.f, max r.t xt⟩], HJ.out, by first | rw [e4] | simp, by rw [← List.append_assoc]; exact HO8.out, HN.out, HOT.out.1, HOT.out.2, HKO7.out.trans (KeepsOthers.setCell _ _ _)⟩
             case measure => have := HJ.out; (try rw [e4]); simp [intOf]; omega
          · have HN := H7 (show MgTo y (s.take (j + 1)) (R0 ++ [r] ++ [X]) by
             rw [HTS.out]
             refine HMG.out.new HXS.out.1 HXS.out.2.2.1 (fun R1 r1 e => ?_)
             have e2 : r = r1 := by
              have := congrArg List.getLast? e
              simpa using this
             rw [← e2, HX.out]
             simp only
             omega)
            have k0 := c7b (k := 0) HP6.out rfl
            have k1 := c7b (k := 1) HP6.out rfl
            have k2 := c7b (k := 2) HP6.out rfl
            have hmx := HMX.out
            rw [HLEN.out] at hmx
            have HMX2 := H7 hmx
            have HHL := H7 (show decide (xf ≤ r.t + 1) = false by simp; omega)
            clear hmx
            go_wp2_with (at_builtin; refine wpList_app1g (enc := encS) (L := (M ++ R0 ++ [r])) rowS encS_len encS_one HO.out (B7 _ _) ⟨xy, xf, xt⟩ (Q + 1) HLEN.out HMX2.out (by decide) _ _ rfl rfl rfl _ rfl rfl ?_; intro v' w7 ho7 hsh hg7; have HO7 := H7 ho7; have HOT := H7 (HOTH.out _ _ _ HVL.out hg7 HGD.out HKS.out); have HKO7 := H7 (HKO.out.trans (keeps_row HO.out.row hg7)); clear ho7 hsh hg7)
            go_roundw
            case rel => exact ⟨j + 1, R0 ++ [r] ++ [⟨xy, xf, xt⟩], HJ.out, by first | rw [e4] | simp, by rw [← List.append_assoc, ← List.append_assoc]; exact HO7.out, by have := HN.out; rw [HX.out] at this; exact this, HOT.out.1, HOT.out.2, HKO7.out⟩
            case measure => have := HJ.out; (try rw [e4]); simp [intOf]; omega
     · have hjm : j = ms := by omega
       subst hjm
       have HRK2 := H7 (show RowK L ks (k + 1) (M ++ R) by
        refine HRK.out.step HPW.out HY.out HPS.out ?_
        have := HMG.out
        rwa [List.take_of_length_le (by rw [HMS.out]; exact Nat.le_refl _)] at this)
       clear hj hlt2
       go_wp2_with fail
       go_roundw
       case rel => exact ⟨k + 1, M ++ R, _, HLT.out, by first | rw [e3] | simp, HO.out, HRK2.out, HGD.out, HPM2.out, HKS.out, HKO.out⟩
       case measure => have := HLT.out; (try rw [e3]); simp [intOf]; omega
  · have hkm : k = m := by omega
    subst hkm
    have HSET := H7 (show SetRow (fun p => hasB L p = true) M by
     refine RowK.setRow (ks := ks) (by rw [HM.out]; exact HRK.out) (fun s hs => (HME.out s.y (HSP.out s hs).1).2 (fun e => ?_))
     have : s ∈ GrOf L s.y := GrOf_mem.2 ⟨hs, rfl⟩
     rw [e] at this
     cases this)
    have HML := H7 (show M.length ≤ L.length by
     have h1 := HRK.out.len
     have hnd : (ks.take k).Nodup := (HPW.out.sublist (List.take_sublist _ _)).imp fun {a b} h => by omega
     have h2 := GrOf_sum hnd L
     omega)
    clear hk hlt
    go_wp2_with fail
    go_ret
    refine ⟨M, u3, HSET.out, HML.out, rfl, ?_, ?_, HKO.out⟩
    · exact ownsRow_mono HO.out.row HO.out.low
    · exact HO.out.st.low
end Go.Proofs.YthcdkkmjnglmjaaGreatDoor
