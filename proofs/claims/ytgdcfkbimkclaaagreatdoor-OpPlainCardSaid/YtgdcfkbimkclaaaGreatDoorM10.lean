/- Merged texts: Fld ShR ShS ShY ShT ShU Cmp ShZ ShN ShW SwA Pen PenL Line SwP SwB SwC Wk Few. -/
import Derived.Test.YtgdcfkbimkclaaaGreatDoorM1
import Derived.Test.YtgdcfkbimkclaaaGreatDoorM9
import Derived.Test.YtgdcfkbimkclaaaGreatDoorM5
import Derived.Shelf.SlSortCmp.NoneTotal
import Derived.ScopeJumps
set_option linter.unusedSimpArgs false
set_option linter.unusedVariables false
/- Fields of truths: rows of rows. -/
namespace Go.Proofs.YtgdcfkbimkclaaaGreatDoor
open Go.RowKit Go.Shelf
def encB (m : Nat) (b : Nat) : List Value := [.slice (some ⟨b, 0, none⟩) m m]
theorem encB_len (m b : Nat) : (encB m b).length = 1 := rfl
def rowV (m : Nat) (f : Nat → Bool) : List Value := (List.range m).map fun i => .bool (f i)
theorem rowV_get (m : Nat) (f : Nat → Bool) (i : Nat) (h : i < m) : (rowV m f)[i]? = some (.bool (f i)) := by simp [rowV, h]
def upd1 (f : Nat → Bool) (i : Nat) (u : Bool) : Nat → Bool := fun k => if k = i then u else f k
def upd2 (F : Nat → Nat → Bool) (j i : Nat) (u : Bool) : Nat → Nat → Bool := fun a b => if a = j ∧ b = i then u else F a b
theorem rowV_set (m : Nat) (f : Nat → Bool) (i : Nat) (u : Bool) : (rowV m f).set i (.bool u) = rowV m (upd1 f i u) := by
 refine List.ext_getElem? fun k => ?_
 rw [List.getElem?_set]
 by_cases h : i = k
 · subst h
   by_cases hm : i < m
   · simp [rowV, hm, upd1]
   · simp [rowV, hm]
 · by_cases hm : k < m
   · have : ¬ k = i := fun e => h e.symm
     simp [rowV, hm, upd1, this, h]
   · simp [rowV, hm, h]
theorem rowV_ext (m : Nat) (f f' : Nat → Bool) (h : ∀ i, i < m → f i = f' i) : rowV m f = rowV m f' := by
 unfold rowV
 refine List.map_congr_left fun i hi => ?_
 rw [h i (List.mem_range.1 hi)]
/-- The blocks of n rows of m truths each. -/
structure FldB (w0 : World) (its : List It) (base : Nat) (v : Value) (B : List Nat) (m : Nat) (F : Nat → Nat → Bool) (w : World) : Prop where
 o : StO w0 its base 160 1 (encB m) v B w
 nd : B.Nodup
 row : ∀ j b, B[j]? = some b → w.ownsRow base 4 1 (.slice (some ⟨b, 0, none⟩) m m) m (rowV m (F j))
theorem FldB.below {w0 w w' : World} {its : List It} {base : Nat} {v : Value} {B : List Nat} {m : Nat} {F : Nat → Nat → Bool} (h : FldB w0 its base v B m F w) (hb : Below w.heap.size w w') : FldB w0 its base v B m F w' :=
 ⟨h.o.below hb, h.nd, fun j b hj => ownsRow_below (h.row j b hj) hb⟩
/-- A field of the call's own. -/
def Fld (w0 : World) (its : List It) (base g cap n m : Nat) (F : Nat → Nat → Bool) (w : World) : Prop := ∃ B : List Nat, B.length = n ∧ FldB w0 its base (.slice (some ⟨g, 0, none⟩) n cap) B m F w
theorem Fld.below {w0 w w' : World} {its : List It} {base g cap n m : Nat} {F : Nat → Nat → Bool} (h : Fld w0 its base g cap n m F w) (hb : Below w.heap.size w w') : Fld w0 its base g cap n m F w' := by
 obtain ⟨B, h1, h2⟩ := h
 exact ⟨B, h1, h2.below hb⟩
theorem Fld.st {w0 w : World} {its : List It} {base g cap n m : Nat} {F : Nat → Nat → Bool} (h : Fld w0 its base g cap n m F w) : St w0 its w := by
 obtain ⟨B, h1, h2⟩ := h
 exact h2.o.st
theorem Fld.ext {w0 w : World} {its : List It} {base g cap n m : Nat} {F F' : Nat → Nat → Bool} (h : Fld w0 its base g cap n m F w) (he : ∀ j i, j < n → i < m → F j i = F' j i) : Fld w0 its base g cap n m F' w := by
 obtain ⟨B, h1, h2⟩ := h
 refine ⟨B, h1, h2.o, h2.nd, fun j b hj => ?_⟩
 rw [← rowV_ext m (F j) (F' j) (fun i hi => he j i (by rw [← h1]; exact (List.getElem?_eq_some_iff.1 hj).1) hi)]
 exact h2.row j b hj
/-- What the walk asks of a place: to read it, and to write it. -/
theorem Fld.at {w0 w : World} {its : List It} {base g cap n m : Nat} {F : Nat → Nat → Bool} (h : Fld w0 its base g cap n m F w) (j i : Nat) (hj : j < n) (hi : i < m) :
 ∃ b, base ≤ b ∧ w.cell? ⟨g, j, none⟩ = some (.slice (some ⟨b, 0, none⟩) m m) ∧ w.cell? ⟨b, i, none⟩ = some (.bool (F j i)) ∧ w.frozen? ⟨b, i, none⟩ = false ∧
  ∀ u : Bool, Fld w0 its base g cap n m (upd2 F j i u) (w.setCell ⟨b, i, none⟩ (.bool u)) := by
 obtain ⟨B, h1, h2⟩ := h
 obtain ⟨b, hb⟩ : ∃ b, B[j]? = some b := ⟨_, List.getElem?_eq_getElem (by omega)⟩
 have hr := h2.row j b hb
 obtain ⟨hbb, hlt, cur, hcur⟩ := ownsRow_block hr
 refine ⟨b, hbb, ?_, ownsRow_cell hr (rowV_get m _ i hi), ownsRow_free hr i, fun u => ?_⟩
 · have := h2.o.cell (encB_len m) j b 0 _ hb rfl
   simpa using this
 · have hg := g7c w b i (.bool u)
   have hgb : g ≠ b := by
    obtain ⟨_, _, cg, hcg⟩ := ownsRow_block (g := g) (n := B.length) (cap := cap) (by have := h2.o.row; rw [← h1] at this; exact this)
    intro e
    subst e
    rw [hcg] at hcur
    simp at hcur
   refine ⟨B, h1, ⟨⟨h2.o.st.grown (base := base) (row := some b) (fun j e => by cases e; exact hbb) h2.o.low h2.o.top hg, h2.o.row.kept hg (.inr (by simp [Value.ownBlock]; exact hgb)), h2.o.low, h2.o.top, by rw [World.size_setCell]; exact h2.o.hi⟩, h2.nd, fun j' b' hj' => ?_⟩⟩
   by_cases e : b' = b
   · subst e
     have ej : j' = j := (List.getElem?_inj (List.getElem?_eq_some_iff.1 hj').1 h2.nd).1 (hj'.trans hb.symm)
     subst ej
     have := ownsRow_set hr i (by omega) (.bool u)
     rw [rowV_set] at this
     rw [rowV_ext m (upd2 F j' i u j') (upd1 (F j') i u) (fun k _ => by simp [upd2, upd1])]
     exact this
   · have ne : ¬ j' = j := fun e2 => e (by subst e2; rw [hj'] at hb; exact Option.some.inj hb)
     rw [rowV_ext m (upd2 F j i u j') (F j') (fun k _ => by simp [upd2, ne])]
     exact (h2.row j' b' hj').kept hg (.inr (by simp [Value.ownBlock]; exact e))
/-- A field that another call made. -/
theorem Fld.into {w0 x y : World} {its : List It} {g cap n m : Nat} {F : Nat → Nat → Bool} (hs : St w0 its x) (h : Fld x [] x.heap.size g cap n m F y) : Fld w0 its x.heap.size g cap n m F y := by
 obtain ⟨B, h1, h2⟩ := h
 exact ⟨B, h1, ⟨⟨hs.below h2.o.st.low, h2.o.row, hs.size, hs.top, h2.o.hi⟩, h2.nd, h2.row⟩⟩
theorem FldB.push {w0 x y w' : World} {its : List It} {base : Nat} {v v' : Value} {B : List Nat} {m : Nat} {F : Nat → Nat → Bool} (h : FldB w0 its base v B m F x) (hy : Below x.heap.size x y) (b : Nat) (hb : x.heap.size ≤ b)
 (hrow : y.ownsRow base 4 1 (.slice (some ⟨b, 0, none⟩) m m) m (rowV m (F B.length))) (ho : StO w0 its base 160 1 (encB m) v' (B ++ [b]) w') (hg : y.grownBy w' v.ownBlock) : FldB w0 its base v' (B ++ [b]) m F w' := by
 have hne : ∀ c xs, y.ownsRow base 4 1 (.slice (some ⟨c, 0, none⟩) m m) m xs → (Value.slice (some ⟨c, 0, none⟩) m m).ownBlock = none ∨ (Value.slice (some ⟨c, 0, none⟩) m m).ownBlock ≠ v.ownBlock := by
  intro c xs hr
  refine .inr fun e => ?_
  obtain ⟨_, _, cur, hcur⟩ := ownsRow_block hr
  rcases (h.o.below hy).row.2 with ⟨rfl, _⟩ | ⟨g', cap', cur', rfl, _, hg', _⟩
  · simp [Value.ownBlock] at e
  · simp only [Value.ownBlock, Option.some.injEq] at e
    subst e
    rw [hcur] at hg'
    simp at hg'
 refine ⟨ho, ?_, fun j c hj => ?_⟩
 · refine List.nodup_append.2 ⟨h.nd, by simp, fun c hc d hd => ?_⟩
   simp at hd
   subst hd
   obtain ⟨j, hj⟩ := List.getElem?_of_mem hc
   have := (ownsRow_block (h.row j c hj)).2.1
   omega
 · rcases Nat.lt_or_ge j B.length with hlt | hge
   · rw [List.getElem?_append_left hlt] at hj
     have := ownsRow_below (h.row j c hj) hy
     exact this.kept hg (hne _ _ this)
   · obtain rfl : j = B.length := by
      have := (List.getElem?_eq_some_iff.1 hj).1
      simp at this
      omega
     rw [List.getElem?_append_right (Nat.le_refl _)] at hj
     simp at hj
     subst hj
     exact hrow.kept hg (hne _ _ hrow)
/- Layer 6: the document's Row. -/
/-- A field that is read. -/
def FldR (w : World) (g n m : Nat) (F : Nat → Nat → Bool) : Prop := g < w.heap.size ∧ ∀ j, j < n → ∃ b, b < w.heap.size ∧ w.cell? ⟨g, j, none⟩ = some (.slice (some ⟨b, 0, none⟩) m m) ∧ ∀ i, i < m → w.cell? ⟨b, i, none⟩ = some (.bool (F j i))
theorem Fld.read {w0 w : World} {its : List It} {base g cap n m : Nat} {F : Nat → Nat → Bool} (h : Fld w0 its base g cap n m F w) : FldR w g n m F := by
 obtain ⟨B, h1, h2⟩ := h
 subst h1
 refine ⟨(ownsRow_block h2.o.row).2.1, fun j hj => ?_⟩
 obtain ⟨b, hb⟩ : ∃ b, B[j]? = some b := ⟨_, List.getElem?_eq_getElem hj⟩
 have hr := h2.row j b hb
 refine ⟨b, (ownsRow_block hr).2.1, ?_, fun i hi => ownsRow_cell hr (rowV_get m _ i hi)⟩
 have := h2.o.cell (encB_len m) j b 0 _ hb rfl
 simpa using this
theorem FldR.below {w w' : World} {g n m : Nat} {F : Nat → Nat → Bool} (h : FldR w g n m F) (hb : Below w.heap.size w w') : FldR w' g n m F := by
 refine ⟨Nat.lt_of_lt_of_le h.1 hb.size, fun j hj => ?_⟩
 obtain ⟨b, h1, h2, h3⟩ := h.2 j hj
 exact ⟨b, Nat.lt_of_lt_of_le h1 hb.size, (hb.cell (p := ⟨g, j, none⟩) h.1).trans h2, fun i hi => (hb.cell (p := ⟨b, i, none⟩) h1).trans (h3 i hi)⟩
/- Layer 6: the document's Rect. -/
/-- L is THE row of spans of the places of which P holds. -/
structure SetRow (P : PtT → Prop) (L : List SpT) : Prop where
 row : RowP L
 has : ∀ p, hasB L p = true ↔ P p
theorem SetRow.unique {P : PtT → Prop} {L M : List SpT} (h : SetRow P L) (k : SetRow P M) : L = M := rowP_unique h.row k.row fun p => (h.has p).trans (k.has p).symm
theorem SetRow.congr {P Q : PtT → Prop} {L : List SpT} (h : SetRow P L) (e : ∀ p, P p ↔ Q p) : SetRow Q L := ⟨h.row, fun p => (h.has p).trans (e p)⟩
theorem RowOf.setRow {x1 y1 : Int} {n m : Nat} {F : Nat → Nat → Bool} {L : List SpT} {P : PtT → Prop} (h : RowOf x1 y1 n m F L) (hin : ∀ p, P p → (y1 ≤ p.y ∧ p.y < y1 + n) ∧ (x1 ≤ p.x ∧ p.x < x1 + m)) (hF : ∀ r c : Nat, F r c = true ↔ P ⟨x1 + c, y1 + r⟩) : SetRow P L := by
 refine ⟨h.row, fun p => (h.has p).trans ?_⟩
 have key : ∀ p : PtT, (y1 ≤ p.y ∧ x1 ≤ p.x) → (F (p.y - y1).toNat (p.x - x1).toNat = true ↔ P p) := fun p hp => by
  rw [hF]
  have e1 : x1 + ((p.x - x1).toNat : Int) = p.x := by omega
  have e2 : y1 + ((p.y - y1).toNat : Int) = p.y := by omega
  rw [e1, e2]
 constructor
 · rintro ⟨a, b, c⟩; exact (key p ⟨a.1, b.1⟩).1 c
 · intro hp; obtain ⟨a, b⟩ := hin p hp; exact ⟨a, b, (key p ⟨a.1, b.1⟩).2 hp⟩
theorem upd2_true {F : Nat → Nat → Bool} {j i a b : Nat} : upd2 F j i true a b = true ↔ (a = j ∧ b = i) ∨ F a b = true := by
 unfold upd2
 by_cases h : a = j ∧ b = i
 · simp [h]
 · rw [if_neg h]; simp [h]
/-- The places of a rectangle. -/
def RectP (a b p : PtT) : Prop := (min a.x b.x ≤ p.x ∧ p.x ≤ max a.x b.x) ∧ (min a.y b.y ≤ p.y ∧ p.y ≤ max a.y b.y)
/-- a number on the way from a to b -/
theorem way_at {a b : Int} {j : Nat} (hj : (j : Int) ≤ wayN a b) : min a b ≤ a + sideN a b * (j : Int) ∧ a + sideN a b * (j : Int) ≤ max a b ∧ sideN a b * (j : Int) = a + sideN a b * (j : Int) - a ∧ -(j : Int) ≤ sideN a b * (j : Int) ∧ sideN a b * (j : Int) ≤ (j : Int) := by
 unfold wayN at hj
 unfold sideN
 by_cases h : b < a
 · rw [if_pos h] at hj ⊢; omega
 · rw [if_neg h] at hj ⊢; omega
theorem way_back {a b c : Int} (h1 : min a b ≤ c) (h2 : c ≤ max a b) : ∃ j : Nat, (j : Int) ≤ wayN a b ∧ c = a + sideN a b * (j : Int) := by
 unfold wayN sideN
 by_cases h : b < a
 · rw [if_pos h, if_pos h]; exact ⟨(a - c).toNat, by omega, by omega⟩
 · rw [if_neg h, if_neg h]; exact ⟨(c - a).toNat, by omega, by omega⟩
/-- So far: J whole rows, and I places of the next. -/
def RectF (a b : PtT) (J I : Nat) (F : Nat → Nat → Bool) : Prop := ∀ r c : Nat, F r c = true ↔ ∃ j i : Nat, (j < J ∨ j = J ∧ i < I) ∧ (i : Int) ≤ wayN a.x b.x ∧ -79 + (r : Int) = a.y + sideN a.y b.y * (j : Int) ∧ -79 + (c : Int) = a.x + sideN a.x b.x * (i : Int)
theorem RectF.step {a b : PtT} {J I R C : Nat} {F : Nat → Nat → Bool} (h : RectF a b J I F) (hI : (I : Int) ≤ wayN a.x b.x) (hR : -79 + (R : Int) = a.y + sideN a.y b.y * (J : Int)) (hC : -79 + (C : Int) = a.x + sideN a.x b.x * (I : Int)) : RectF a b J (I + 1) (upd2 F R C true) := by
 intro r c
 rw [upd2_true, h r c]
 constructor
 · rintro (⟨rfl, rfl⟩ | ⟨j, i, h1, h2, h3, h4⟩)
   · exact ⟨J, I, .inr ⟨rfl, by omega⟩, hI, hR, hC⟩
   · exact ⟨j, i, by omega, h2, h3, h4⟩
 · rintro ⟨j, i, h1, h2, h3, h4⟩
   by_cases e : j = J ∧ i = I
   · obtain ⟨rfl, rfl⟩ := e
     left; omega
   · right; exact ⟨j, i, by omega, h2, h3, h4⟩
theorem RectF.down {a b : PtT} {J I : Nat} {F : Nat → Nat → Bool} (h : RectF a b J I F) (hI : (I : Int) = wayN a.x b.x + 1) : RectF a b (J + 1) 0 F := by
 intro r c
 rw [h r c]
 constructor
 · rintro ⟨j, i, h1, h2, h3, h4⟩; exact ⟨j, i, by omega, h2, h3, h4⟩
 · rintro ⟨j, i, h1, h2, h3, h4⟩; exact ⟨j, i, by omega, h2, h3, h4⟩
theorem RectF.all {a b : PtT} {J : Nat} {F : Nat → Nat → Bool} (h : RectF a b J 0 F) (hJ : (J : Int) = wayN a.y b.y + 1) (r c : Nat) : F r c = true ↔ RectP a b ⟨-79 + (c : Int), -79 + (r : Int)⟩ := by
 rw [h r c]
 unfold RectP
 constructor
 · rintro ⟨j, i, h1, h2, h3, h4⟩
   simp only
   rw [h3, h4]
   have a1 := way_at h2
   have a2 := way_at (a := a.y) (b := b.y) (j := j) (by omega)
   exact ⟨⟨a1.1, a1.2.1⟩, a2.1, a2.2.1⟩
 · rintro ⟨⟨h1, h2⟩, h3, h4⟩
   obtain ⟨i, i1, i2⟩ := way_back h1 h2
   obtain ⟨j, j1, j2⟩ := way_back h3 h4
   exact ⟨j, i, by omega, i1, j2, i2⟩
theorem drawn_iff (p : PtT) : drawnB p = true ↔ (-64 ≤ p.x ∧ p.x ≤ 127) ∧ (-64 ≤ p.y ∧ p.y ≤ 127) := by simp [drawnB]; omega
/- Layer 6, plain: rows that are merged. -/
theorem GrOf_mem {L : List SpT} {y : Int} {s : SpT} : s ∈ GrOf L y ↔ s ∈ L ∧ s.y = y := by simp [GrOf]
theorem hasB_GrOf (L : List SpT) (p : PtT) : hasB (GrOf L p.y) p = hasB L p := by
 rw [Bool.eq_iff_iff, hasB_iff, hasB_iff]
 constructor
 · rintro ⟨s, hs, h⟩; exact ⟨s, (GrOf_mem.1 hs).1, h⟩
 · rintro ⟨s, hs, h⟩; exact ⟨s, GrOf_mem.2 ⟨hs, h.1⟩, h⟩
theorem hasB_perm {l m : List SpT} (h : l.Perm m) (p : PtT) : hasB l p = hasB m p := by
 rw [Bool.eq_iff_iff, hasB_iff, hasB_iff]
 exact ⟨fun ⟨s, hs, k⟩ => ⟨s, h.mem_iff.1 hs, k⟩, fun ⟨s, hs, k⟩ => ⟨s, h.mem_iff.2 hs, k⟩⟩
/-- R is the row of the spans 'done', all of one Y. -/
structure MgTo (y : Int) (dn R : List SpT) : Prop where
 row : RowP R
 y_ : ∀ r ∈ R, r.y = y
 f_ : ∀ r ∈ R, ∃ q ∈ dn, q.f = r.f
 t_ : ∀ r ∈ R, ∃ q ∈ dn, q.t = r.t
 has : ∀ p, hasB R p = true ↔ hasB dn p = true
 len : R.length ≤ dn.length
theorem MgTo.new {y : Int} {dn R : List SpT} {s : SpT} (h : MgTo y dn R) (hy : s.y = y) (hft : s.f ≤ s.t) (hgt : ∀ R0 r, R = R0 ++ [r] → r.t + 1 < s.f) : MgTo y (dn ++ [s]) (R ++ [s]) := by
 have hall : ∀ q ∈ R, q.t + 1 < s.f := by
  intro q hq
  rcases List.eq_nil_or_concat R with e | ⟨R0, r, e⟩
  · rw [e] at hq; cases hq
  · have e' : R = R0 ++ [r] := by rw [e, List.concat_eq_append]
    have h1 := hgt R0 r e'
    rw [e'] at hq
    rcases List.mem_append.1 hq with hq | hq
    · have ho := h.row.ord
      rw [e'] at ho
      have h2 := (List.pairwise_append.1 ho).2.2 q hq r (by simp)
      have h3 := h.y_ q (by rw [e']; simp [hq])
      have h4 := h.y_ r (by rw [e']; simp)
      have h5 := h.row.sp r (by rw [e']; simp)
      unfold ordP at h2
      omega
    · simp at hq; subst hq; exact h1
 refine ⟨⟨fun q hq => ?_, List.pairwise_append.2 ⟨h.row.ord, List.pairwise_singleton _ _, fun q hq x hx => ?_⟩⟩, fun q hq => ?_, fun q hq => ?_, fun q hq => ?_, fun p => ?_, ?_⟩
 · rcases List.mem_append.1 hq with hq | hq
   · exact h.row.sp q hq
   · simp at hq; subst hq; exact hft
 · simp at hx; subst hx
   have h1 := hall q hq
   have h2 := h.y_ q hq
   unfold ordP; omega
 · rcases List.mem_append.1 hq with hq | hq
   · exact h.y_ q hq
   · simp at hq; subst hq; exact hy
 · rcases List.mem_append.1 hq with hq | hq
   · obtain ⟨a, b, c⟩ := h.f_ q hq; exact ⟨a, by simp [b], c⟩
   · simp at hq; subst hq; exact ⟨q, by simp, rfl⟩
 · rcases List.mem_append.1 hq with hq | hq
   · obtain ⟨a, b, c⟩ := h.t_ q hq; exact ⟨a, by simp [b], c⟩
   · simp at hq; subst hq; exact ⟨q, by simp, rfl⟩
 · rw [hasB_app, hasB_app, Bool.or_eq_true, Bool.or_eq_true, h.has p]
 · have := h.len; simp; omega
/-- M is the row of the spans of L of the first k Y. -/
structure RowK (L : List SpT) (ks : List Int) (k : Nat) (M : List SpT) : Prop where
 row : RowP M
 y_ : ∀ r ∈ M, r.y ∈ ks.take k
 has : ∀ p, hasB M p = true ↔ p.y ∈ ks.take k ∧ hasB L p = true
 t_ : ∀ r ∈ M, ∃ q ∈ L, q.t = r.t
 len : M.length ≤ ((ks.take k).map fun y => (GrOf L y).length).sum
theorem RowK.step {L : List SpT} {ks : List Int} {k : Nat} {M R s : List SpT} {y : Int} (h : RowK L ks k M) (hks : ks.Pairwise (fun x y => x < y)) (hy : ks[k]? = some y) (hp : s.Perm (GrOf L y)) (hm : MgTo y s R) : RowK L ks (k + 1) (M ++ R) := by
 have ht : ks.take (k + 1) = ks.take k ++ [y] := by rw [List.take_add_one, hy]; simp
 have hlt : ∀ z ∈ ks.take k, z < y := by
  intro z hz
  have hks' := hks
  rw [← List.take_append_drop (k + 1) ks, ht] at hks'
  exact (List.pairwise_append.1 (List.pairwise_append.1 hks').1).2.2 z hz y (by simp)
 refine ⟨⟨fun q hq => ?_, List.pairwise_append.2 ⟨h.row.ord, hm.row.ord, fun q hq x hx => ?_⟩⟩, fun q hq => ?_, fun p => ?_, fun q hq => ?_, ?_⟩
 · rcases List.mem_append.1 hq with hq | hq
   · exact h.row.sp q hq
   · exact hm.row.sp q hq
 · have h1 := hlt _ (h.y_ q hq)
   have h2 := hm.y_ x hx
   unfold ordP; omega
 · rw [ht]
   rcases List.mem_append.1 hq with hq | hq
   · simp [h.y_ q hq]
   · simp [hm.y_ q hq]
 · rw [hasB_app, Bool.or_eq_true, h.has p, hm.has p, hasB_perm hp, ht]
   simp only [List.mem_append, List.mem_singleton]
   constructor
   · rintro (⟨a, b⟩ | a)
     · exact ⟨.inl a, b⟩
     · obtain ⟨q, hq, k1, k2, k3⟩ := (hasB_iff _ _).1 a
       have := GrOf_mem.1 hq
       have e : p.y = y := by omega
       refine ⟨.inr e, ?_⟩
       rw [← hasB_GrOf, e]; exact a
   · rintro ⟨a | a, b⟩
     · exact .inl ⟨a, b⟩
     · right; rw [← a, hasB_GrOf]; exact b
 · rcases List.mem_append.1 hq with hq | hq
   · exact h.t_ q hq
   · obtain ⟨a, b, c⟩ := hm.t_ q hq
     exact ⟨a, (GrOf_mem.1 (hp.mem_iff.1 b)).1, c⟩
 · have h1 := h.len
   have h2 := hm.len
   have h3 := hp.length_eq
   rw [ht, List.map_append, List.sum_append, List.length_append]
   simp only [List.map_cons, List.map_nil, List.sum_cons, List.sum_nil]
   omega
theorem RowK.setRow {L : List SpT} {ks : List Int} {M : List SpT} (h : RowK L ks ks.length M) (hk : ∀ s ∈ L, s.y ∈ ks) : SetRow (fun p => hasB L p = true) M := by
 refine ⟨h.row, fun p => (h.has p).trans ?_⟩
 rw [List.take_length]
 refine ⟨fun ⟨_, b⟩ => b, fun b => ⟨?_, b⟩⟩
 obtain ⟨s, hs, h1, _⟩ := (hasB_iff _ _).1 b
 rw [← h1]; exact hk s hs
/- Layer 6: the document's Union, Sweep. -/
/-- A slice of rows of spans. -/
def RowsR (w : World) (a : Option Addr) (ls : List (List SpT)) : Prop := ∀ k l, ls[k]? = some l → ∃ b off a' cap', a = some ⟨b, off, none⟩ ∧ b < w.heap.size ∧ w.cell? ⟨b, off + k, none⟩ = some (.slice a' l.length cap') ∧ Elems w (.slice a' l.length cap') l.length 3 (rowC encS l)
theorem RowsR.below {w w' : World} {a : Option Addr} {ls : List (List SpT)} (h : RowsR w a ls) (hb : Below w.heap.size w w') : RowsR w' a ls := fun k l hk => by
 obtain ⟨b, off, a', cap', h1, h2, h3, h4⟩ := h k l hk
 exact ⟨b, off, a', cap', h1, Nat.lt_of_lt_of_le h2 hb.size, (hb.cell (p := ⟨b, off + k, none⟩) h2).trans h3, h4.below hb⟩
/-- The field of the places of a row. -/
def UnF (M : List SpT) (F : Nat → Nat → Bool) : Prop := ∀ r c : Nat, F r c = true ↔ hasB M ⟨-256 + (c : Int), -256 + (r : Int)⟩ = true
theorem UnF.step {M : List SpT} {F : Nat → Nat → Bool} {y f x : Int} {R C : Nat} (h : UnF (M ++ [⟨y, f, x - 1⟩]) F) (hf : f ≤ x) (hR : -256 + (R : Int) = y) (hC : -256 + (C : Int) = x) : UnF (M ++ [⟨y, f, x⟩]) (upd2 F R C true) := fun r c => by
 have := h r c
 rw [hasB_app, hasB_one, Bool.or_eq_true] at this
 rw [upd2_true, this, hasB_app, hasB_one, Bool.or_eq_true]
 simp only [inB, decide_eq_true_eq]
 constructor
 · rintro (⟨rfl, rfl⟩ | h | ⟨h1, h2, h3⟩)
   · right; omega
   · exact .inl h
   · right; omega
 · rintro (h | ⟨h1, h2, h3⟩)
   · exact .inr (.inl h)
   · by_cases e : -256 + (c : Int) = x
     · left; omega
     · right; right; omega
theorem UnF.same {M : List SpT} {F : Nat → Nat → Bool} {s : SpT} {t : Int} (h : UnF (M ++ [⟨s.y, s.f, t⟩]) F) (ht : t = s.t) : UnF (M ++ [s]) F := by subst ht; exact h
/- Layer 6: the document's Sweep. -/
theorem le_of_sq {x s : Int} (hs : 0 ≤ s) (h : x * x ≤ s * s) : x ≤ s := by
 refine Int.not_lt.1 fun hlt => ?_
 have h1 : s * s < x * x := Int.lt_of_lt_of_le (Int.mul_lt_mul_of_pos_left hlt (show 0 < s + 1 by omega) |> fun h => (by
  have h2 : (s + 1) * (s + 1) ≤ x * x := Int.mul_le_mul (by omega) (by omega) (by omega) (by omega)
  have h3 : s * s < (s + 1) * (s + 1) := by
   have : (s + 1) * (s + 1) = s * s + 2 * s + 1 := by rw [Int.add_mul, Int.mul_add]; omega
   omega
  exact Int.lt_of_lt_of_le h3 h2)) (Int.le_refl _)
 omega
theorem inRef_in {size : Int} {round : Bool} {c p : PtT} (hs : 0 ≤ size) (h : inRef size round c p = true) : (c.x - size ≤ p.x ∧ p.x ≤ c.x + size) ∧ (c.y - size ≤ p.y ∧ p.y ≤ c.y + size) := by
 have key : wayN c.x p.x ≤ size ∧ wayN c.y p.y ≤ size := by
  unfold inRef at h
  cases round
  · simpa using h
  · simp only [cond_true, decide_eq_true_eq] at h
    have h1 := Int.mul_nonneg (wayN_nonneg c.x p.x) (wayN_nonneg c.x p.x)
    have h2 := Int.mul_nonneg (wayN_nonneg c.y p.y) (wayN_nonneg c.y p.y)
    exact ⟨le_of_sq hs (by omega), le_of_sq hs (by omega)⟩
 unfold wayN at key
 split at key <;> split at key <;> omega
/-- The field of the places of which Q holds. -/
def SwF (Q : PtT → Prop) (F : Nat → Nat → Bool) : Prop := ∀ r c : Nat, F r c = true ↔ Q ⟨-79 + (c : Int), -79 + (r : Int)⟩
theorem SwF.congr {Q Q' : PtT → Prop} {F : Nat → Nat → Bool} (h : SwF Q F) (e : ∀ p, Q p ↔ Q' p) : SwF Q' F := fun r c => (h r c).trans (e _)
/-- What the places M sweep, and the place c so far. -/
def SwQ (size : Int) (round : Bool) (M : List PtT) (c : PtT) (y x : Int) (p : PtT) : Prop := (∃ c' ∈ M, inRef size round c' p = true) ∨ (inRef size round c p = true ∧ (p.y < y ∨ p.y = y ∧ p.x < x))
def SwM (size : Int) (round : Bool) (M : List PtT) (p : PtT) : Prop := ∃ c' ∈ M, inRef size round c' p = true
section
variable {size : Int} {round : Bool} {M : List PtT} {c : PtT} {y x : Int} {F : Nat → Nat → Bool}
theorem SwF.step (h : SwF (SwQ size round M c y x) F) {R C : Nat} (hR : -79 + (R : Int) = y) (hC : -79 + (C : Int) = x) (hi : inRef size round c ⟨x, y⟩ = true) : SwF (SwQ size round M c y (x + 1)) (upd2 F R C true) := fun r k => by
 rw [upd2_true, h r k]
 unfold SwQ
 simp only
 constructor
 · rintro (⟨rfl, rfl⟩ | h | ⟨h1, h2⟩)
   · right; rw [hR, hC]; exact ⟨hi, by omega⟩
   · exact .inl h
   · exact .inr ⟨h1, by omega⟩
 · rintro (h | ⟨h1, h2⟩)
   · exact .inr (.inl h)
   · by_cases e : -79 + (r : Int) = y ∧ -79 + (k : Int) = x
     · left; omega
     · right; right; exact ⟨h1, by omega⟩
theorem SwF.skip (h : SwF (SwQ size round M c y x) F) (hi : inRef size round c ⟨x, y⟩ = false) : SwF (SwQ size round M c y (x + 1)) F := h.congr fun p => by
 unfold SwQ
 constructor
 · rintro (h | ⟨h1, h2⟩)
   · exact .inl h
   · exact .inr ⟨h1, by omega⟩
 · rintro (h | ⟨h1, h2⟩)
   · exact .inl h
   · refine .inr ⟨h1, ?_⟩
     by_cases e : p.y = y ∧ p.x = x
     · obtain ⟨px, py⟩ := p
       simp only at e
       rw [e.1, e.2, hi] at h1
       cases h1
     · omega
theorem SwF.down (h : SwF (SwQ size round M c y (c.x + size + 1)) F) (hs : 0 ≤ size) : SwF (SwQ size round M c (y + 1) (c.x - size)) F := h.congr fun p => by
 unfold SwQ
 constructor
 · rintro (h | ⟨h1, h2⟩)
   · exact .inl h
   · exact .inr ⟨h1, by omega⟩
 · rintro (h | ⟨h1, h2⟩)
   · exact .inl h
   · have := inRef_in hs h1; exact .inr ⟨h1, by omega⟩
theorem SwF.done {q : Int} (h : SwF (SwQ size round M c (c.y + size + 1) q) F) (hs : 0 ≤ size) : SwF (SwM size round (M ++ [c])) F := h.congr fun p => by
 unfold SwM SwQ
 constructor
 · rintro (⟨c', h1, h2⟩ | ⟨h1, h2⟩)
   · exact ⟨c', by simp [h1], h2⟩
   · exact ⟨c, by simp, h1⟩
 · rintro ⟨c', h1, h2⟩
   rcases List.mem_append.1 h1 with h1 | h1
   · exact .inl ⟨c', h1, h2⟩
   · simp at h1; subst h1
     have := inRef_in hs h2
     exact .inr ⟨h2, by omega⟩
end
end Go.Proofs.YtgdcfkbimkclaaaGreatDoor
/- cmp.Compare at ints. -/
namespace Go.Proofs.YtgdcfkbimkclaaaGreatDoor
open Go.RowKit Go.Shelf
end Go.Proofs.YtgdcfkbimkclaaaGreatDoor
/- Layer 6: rows.row. -/
namespace Go.Proofs.YtgdcfkbimkclaaaGreatDoor
open Go.RowKit Go.Shelf Go.Maps
theorem GrD.turn {w w' : World} {base b n : Nat} {D : DataW Value} {F : Int → Value} {G : Int → List SpT} (h : GrD w base b n D F G) {y : Int} (hy : inK y) (hg : w.grownBy w' (F y).ownBlock) {s : List SpT} (hrow : w'.ownsRow base 47 3 (F y) s.length (s.flatMap encS)) (hs : s ≠ [] ↔ G y ≠ []) :
 GrD w' base b n D F (fun z => if z = y then s else G z) := by
 have hbF : some b ≠ (F y).ownBlock := fun e => by have := ((h.row y hy).lt b e.symm).1; have := h.lt; omega
 refine ⟨h.map.kept hg hbF, h.at_, fun z hz => ?_, h.apart, fun z hz => ?_, h.only, h.lt⟩
 · by_cases e : z = y
   · subst e; simp only [if_true]; exact hrow
   · simp only [if_neg e]
     refine (h.row z hz).kept hg ?_
     cases hv : (F z).ownBlock with
     | none => exact .inl rfl
     | some j => exact .inr fun e' => h.apart z y j hz hy e hv e'.symm
 · by_cases e : z = y
   · subst e; simp only [if_true]; rw [h.has z hz]; exact hs.symm
   · simp only [if_neg e]; exact h.has z hz
theorem GrD.other {w w' : World} {base b n : Nat} {D : DataW Value} {F : Int → Value} {G : Int → List SpT} (h : GrD w base b n D F G) {row : Option Nat} (hg : w.grownBy w' row) (hb : some b ≠ row) (hr : ∀ z, inK z → (F z).ownBlock = none ∨ (F z).ownBlock ≠ row) : GrD w' base b n D F G :=
 ⟨h.map.kept hg hb, h.at_, fun z hz => (h.row z hz).kept hg (hr z hz), h.apart, h.has, h.only, h.lt⟩
end Go.Proofs.YtgdcfkbimkclaaaGreatDoor
/- Layer 6: All, Count. -/
namespace Go.Proofs.YtgdcfkbimkclaaaGreatDoor
open Go.RowKit Go.Shelf
attribute [local go_sem] Oper.semAt_some
/-- The places of a span; of a row. -/
def spPts (s : SpT) : List PtT := (List.range (s.t - s.f + 1).toNat).map fun (i : Nat) => ⟨s.f + (i : Int), s.y⟩
def ptsL (l : List SpT) : List PtT := l.flatMap spPts
noncomputable def allL (l : List SpT) : List PtT := bif rightB l then ptsL l else []
theorem spPts_len (s : SpT) : (spPts s).length = (s.t - s.f + 1).toNat := by simp [spPts]
theorem spPts_get (s : SpT) (i : Nat) (h : i < (s.t - s.f + 1).toNat) : (spPts s)[i]? = some ⟨s.f + (i : Int), s.y⟩ := by simp [spPts, h]
/-- How many places the first k spans have. -/
def posL (l : List SpT) (k : Nat) : Nat := (ptsL (l.take k)).length
theorem posL_succ {l : List SpT} {k : Nat} {s : SpT} (hx : l[k]? = some s) : posL l (k + 1) = posL l k + (s.t - s.f + 1).toNat := by
 unfold posL ptsL
 rw [List.take_add_one, hx]
 simp [spPts_len]
theorem posL_all (l : List SpT) : posL l l.length = (ptsL l).length := by unfold posL; rw [List.take_length]
theorem ptsL_split {l : List SpT} {k : Nat} {s : SpT} (hx : l[k]? = some s) : ptsL l = ptsL (l.take k) ++ (spPts s ++ ptsL (l.drop (k + 1))) := by
 obtain ⟨hk, e⟩ := List.getElem?_eq_some_iff.1 hx
 unfold ptsL
 conv => lhs; rw [← List.take_append_drop k l, List.drop_eq_getElem_cons hk, e]
 simp
theorem ptsL_at {l : List SpT} {k : Nat} {s : SpT} (hx : l[k]? = some s) (i : Nat) (hi : i < (s.t - s.f + 1).toNat) : (ptsL l)[posL l k + i]? = some ⟨s.f + (i : Int), s.y⟩ := by
 rw [ptsL_split hx]
 unfold posL
 rw [List.getElem?_append_right (by omega), Nat.add_sub_cancel_left, List.getElem?_append_left (by rw [spPts_len]; exact hi), spPts_get s i hi]
theorem posL_le {l : List SpT} {k : Nat} {s : SpT} (hx : l[k]? = some s) (i : Nat) (hi : i ≤ (s.t - s.f + 1).toNat) : posL l k + i ≤ (ptsL l).length := by
 rw [ptsL_split hx]
 unfold posL
 simp [spPts_len]
 omega
theorem Elems.keepsAt {w w' : World} {bs : List Nat} {a : Option Addr} {n cap size : Nat} {c : Nat → Value} (h : Elems w (.slice a n cap) n size c) (hb : ∀ b off, a = some ⟨b, off, none⟩ → b ∈ bs) (hk : KeepsAt bs w w') : Elems w' (.slice a n cap) n size c := by
 rcases h with h | ⟨b, off, cap', e, hlt, hc⟩
 · exact .inl h
 · cases e
   have e1 := hk b (hb b off rfl)
   refine .inr ⟨b, off, cap, rfl, ?_, fun j hj => by rw [← hc j hj]; simp only [World.cell?, e1]⟩
   rw [Array.getElem?_eq_getElem hlt] at e1
   exact (Array.getElem?_eq_some_iff.1 e1).1
theorem cell_keepsAt {w w' : World} {bs : List Nat} {b o : Nat} {v : Value} (h : w.cell? ⟨b, o, none⟩ = some v) (hb : b ∈ bs) (hk : KeepsAt bs w w') : w'.cell? ⟨b, o, none⟩ = some v := by
 rw [← h]; simp only [World.cell?, hk b hb]
theorem keepsAt_lt {w w' : World} {bs : List Nat} (hk : KeepsAt bs w w') (h : ∀ b ∈ bs, b < w.heap.size) : ∀ b ∈ bs, b < w'.heap.size := fun b hb => by
 have h1 := hk b hb
 rw [Array.getElem?_eq_getElem (h b hb)] at h1
 exact (Array.getElem?_eq_some_iff.1 h1).1
/-- Between two places. -/
structure AllAt (own : World → Nat → Prop) (bs : List Nat) (N0 : Nat) (N : Nat) (J : List (Fin N) → World → Prop) (W : World) (p : Nat) (wr : World) : Prop where
 j : J (firsts N p) wr
 ko : KO own bs N0 W wr
 wf : ∀ q, own wr q → q < wr.heap.size
theorem AllAt.below {own : World → Nat → Prop} {bs : List Nat} {N0 N : Nat} {J : List (Fin N) → World → Prop} {W : World} {p : Nat} {wr w' : World} (h : AllAt own bs N0 N J W p wr) (ho : OwnSt own N0) (hJd : ∀ pre x y, J pre x → Below x.heap.size x y → J pre y)
 (hN : N0 ≤ W.heap.size) (hbs : ∀ b ∈ bs, b < W.heap.size) (hb : Below wr.heap.size wr w') : AllAt own bs N0 N J W p w' := by
 have k := KO.of_below (own := own) (bs := bs) ho hb (Nat.le_trans hN h.ko.size) (keepsAt_lt h.ko.at_ hbs)
 exact ⟨hJd _ _ _ h.j hb, h.ko.trans k, k.wf h.wf⟩
set_option maxRecDepth 100000 in
set_option maxHeartbeats 2000000 in
theorem all1_right (n : Nat) (hn : 1 ≤ n) (own : World → Nat → Prop) (N0 : Nat) (ho : OwnSt own N0) (L Bs : Nat) (bs : List Nat) (a : Option Addr) (m cap : Nat) (l : List SpT) (hl : l.length = m) (hm : m ≤ 1000000000) (hr : rightB l = true)
 (J Jx : List (Fin (ptsL l).length) → World → Prop) (hJd : ∀ pre x y, J pre x → Below x.heap.size x y → J pre y) (hb1 : Bs ∈ bs) (hb2 : ∀ b off, a = some ⟨b, off, none⟩ → b ∈ bs)
 (hY : ∀ pre x W, J pre W → pre.length < (ptsL l).length → YieldAt Fence.wide (n - 1) Tryz.prog L #[((ptsL l)[x.1]).val] W fun e W' =>
  (e = .returned (.bool true) ∧ J (pre ++ [x]) W' ∧ KO own bs N0 W W') ∨ (e = .returned (.bool false) ∧ Jx (pre ++ [x]) W'))
 (W : World) (hN : N0 ≤ W.heap.size) (hBs : ∀ c ∈ bs, c < W.heap.size) (hwf : ∀ q, own W q → q < W.heap.size) (hc : W.cell? ⟨Bs, 0, none⟩ = some (.slice a m cap)) (hh : Elems W (.slice a m cap) m 3 (rowC encS l)) (h0 : J [] W) :
 CallsIn Fence.wide n Tryz.prog 79 #[.func (.yield L) #[] #[], .pointer (some ⟨Bs, 0, none⟩)] W fun e W' => (∃ v, e = .returned v) ∧
  ((∃ ys, ys = List.finRange (ptsL l).length ∧ J ys W') ∨ (∃ pre, pre <+: List.finRange (ptsL l).length ∧ Jx pre W')) := by
 have HY := H7 hY
 have HL := H7 hl
 have HR := H7 hr
 have HO := H7 ho
 have HCH := H7 (check_any a m cap l hl hm W hh)
 have HD := H7 (fun (p : Nat) (x y : World) (h : AllAt own bs N0 (ptsL l).length J W p x) (hb : Below x.heap.size x y) => h.below ho hJd hN hBs hb)
 have HC : Hid (∀ wr, KeepsAt bs W wr → wr.cell? ⟨Bs, 0, none⟩ = some (.slice a m cap) ∧ Elems wr (.slice a m cap) m 3 (rowC encS l)) := H7 fun wr hk => ⟨cell_keepsAt hc hb1 hk, hh.keepsAt hb2 hk⟩
 have HA := H7 (show AllAt own bs N0 (ptsL l).length J W 0 W from ⟨h0, KO.refl _ _ _ _, hwf⟩)
 have HN := H7 hN
 have HRP := H7 ((rightB_iff l).1 hr)
 have c0 := (HC.out W (KeepsAt.refl _ _)).1
 clear hY hl hr ho hJd hb1 hb2 hBs hc hh h0 hwf hN
 refine callsIn_of_wp Tryz.func79 rfl trivial ?_ rfl
 simp only [Tryz.ntmps79, List.size_toArray, List.length_cons, List.length_nil, Nat.reduceAdd, Nat.reduceSub, Array.replicate_succ, Array.replicate_zero, List.push_toArray, List.append_toArray, List.nil_append, List.cons_append]
 gi_wp2
 apply wpIn_scope
 gi_wp2_with fail
 refine (callsIn_wide.2 HCH.out).mono ?_
 rintro e w2 ⟨rfl, hb_⟩
 have HA := H7 (HD.out _ _ _ HA.out hb_)
 rw [HR.out, errOf_true]
 clear hb_ HCH c0
 have c0 := (HC.out w2 HA.out.ko.at_).1
 gi_wp2
 apply wpIn_label
 gi_wp2
 clear c0
 gi_loopw [11] (fun i wr => ∃ k : Nat, k ≤ m ∧ i = .int .i64 k ∧ AllAt own bs N0 (ptsL l).length J W (posL l k) wr) (fun i _ => m - (intOf i).toNat)
 case atStart => exact ⟨0, by omega, rfl, HA.out⟩
 case round =>
  obtain ⟨k, hk, rfl, ha⟩ := hrel
  clear HA
  have HA := H7 ha
  clear ha
  by_cases hlt : k < m
  · have HLT := H7 (show k < l.length by rw [HL.out]; exact hlt)
    have wk : wrap64 ((k : Int) + 1) = ((k + 1 : Nat) : Int) := by unfold wrap64; omega
    obtain ⟨s, hx⟩ : ∃ s, l[k]? = some s := ⟨_, List.getElem?_eq_getElem HLT.out⟩
    obtain ⟨bb, off, rfl, hbb, c0, c1, c2⟩ := spCells HL.out (HC.out wr HA.out.ko.at_).2 k s hx
    have hs := (spB_iff s).1 (by have := HRP.out.sp k HLT.out; rwa [(List.getElem?_eq_some_iff.1 hx).2] at this)
    have HAT := H7 (fun i hi => ptsL_at hx i hi)
    have HLE := H7 (fun i hi => posL_le hx i hi)
    have HS := H7 (posL_succ hx)
    have HSB := H7 hs
    obtain ⟨sy, sf, st⟩ := s
    simp only at c0 c1 c2 HAT HLE HS HSB
    clear hx hbb hs
    gi_wp2
    obtain ⟨q, hq⟩ : ∃ q, wr.heap.size = q := ⟨_, rfl⟩
    obtain ⟨w3, hw3⟩ : ∃ w3, wr.alloc (.cells #[.int .i64 sy, .int .i64 sf, .int .i64 st] 47) = w3 := ⟨_, rfl⟩
    have hb3 : Below wr.heap.size wr w3 := by rw [← hw3]; exact (B7 _ _).alloc (Nat.le_refl _) _
    have HA3 := H7 (HD.out _ _ _ HA.out hb3)
    have hq3 : w3.heap[q]? = some (.cells #[.int .i64 sy, .int .i64 sf, .int .i64 st] 47 (0, 0)) := by rw [← hw3, ← hq]; exact World.alloc_heap_new wr _
    have hno : ¬ own w3 q := by
     intro h
     have h1 := (HO.out wr w3 (fun k hk => hb3.block k (by have := HN.out; have := HA.out.ko.size; omega)) q).1 h
     have := HA.out.wf q h1
     omega
    have hNq : N0 ≤ q := by have := HN.out; have := HA.out.ko.size; omega
    have HNQ := H7 hNq
    have HQ := H7 (And.intro hno hq3)
    rw [hw3]
    simp only [hq]
    clear hw3 hq hb3 hq3 hno hNq c0 c1 c2 HA
    gi_loopw [5] (fun x wi => ∃ i : Nat, (i : Int) ≤ st - sf + 1 ∧ x = .int .i64 (sf + (i : Int)) ∧ AllAt own bs N0 (ptsL l).length J W (posL l k + i) wi ∧ ¬ own wi q ∧ wi.heap[q]? = some (.cells #[.int .i64 sy, .int .i64 sf, .int .i64 st] 47 (0, 0))) (fun x _ => (st + 1 - intOf x).toNat)
    case atStart => exact ⟨0, by have := HSB.out; omega, by simp, HA3.out, HQ.out⟩
    case round =>
     obtain ⟨i, hi, rfl, ha, hno, hq3⟩ := hrel
     have HA := H7 ha
     have HNO := H7 hno
     have HQ3 := H7 hq3
     have k0 := c7b (k := 0) hq3 rfl
     have k2 := c7b (k := 2) hq3 rfl
     clear ha hno hq3 HA3 HQ
     by_cases hlt2 : sf + (i : Int) ≤ st
     · have wi1 : wrap64 (sf + (i : Int) + 1) = sf + ((i + 1 : Nat) : Int) := by have := HSB.out; unfold wrap64; omega
       have hii : i < (st - sf + 1).toNat := by omega
       have hpl : posL l k + i < (ptsL l).length := by have := HLE.out (i + 1) (by omega); omega
       obtain ⟨fn, tmps, assign, body, hy, hR⟩ := HY.out _ (⟨posL l k + i, hpl⟩ : Fin (ptsL l).length) wr HA.out.j (by rw [firsts_length (by omega)]; exact hpl)
       have he : (ptsL l)[posL l k + i] = ⟨sf + (i : Int), sy⟩ := by have := HAT.out i hii; rw [List.getElem?_eq_getElem hpl] at this; exact Option.some.inj this
       simp only [he, PtT.val] at hy
       have hs := firsts_succ (N := (ptsL l).length) (k := posL l k + i) hpl
       rw [hs] at hR
       have HPL := H7 hpl
       clear hs he hii hpl
       gi_wp2
       refine hR.mono ?_
       rintro e w4 (⟨rfl, hJ4, hk4⟩ | ⟨rfl, hJx⟩)
       · obtain ⟨n4, q4⟩ := hk4.rest q _ HNQ.out HQ3.out rfl HNO.out
         have HA4 := H7 (show AllAt own bs N0 (ptsL l).length J W (posL l k + (i + 1)) w4 from ⟨hJ4, HA.out.ko.trans hk4, hk4.wf HA.out.wf⟩)
         have HQ4 := H7 (And.intro n4 q4)
         clear hJ4 hk4 n4 q4
         gi_wp2
         go_roundw
         case rel => exact ⟨i + 1, by omega, by rw [wi1], HA4.out, HQ4.out⟩
         case measure => simp [intOf]; omega
       · have HJ3 := H7 hJx
         clear hJx
         gi_wp2; rw [Exit.noGoto_normal]
         go_end0
         exact ⟨⟨_, rfl⟩, .inr ⟨_, firsts_prefix _ _, HJ3.out⟩⟩
     · have HE := H7 (show posL l k + i = posL l (k + 1) by (rw [HS.out, show i = (st - sf + 1).toNat by omega]))
       clear hi
       gi_wp2
       go_roundw
       case rel => exact ⟨k + 1, hlt, by simp, by have := HA.out; rwa [HE.out] at this⟩
       case measure => simp [intOf]; omega
  · obtain rfl : k = m := by omega
    have HJ := H7 (show J (List.finRange (ptsL l).length) wr by have := HA.out.j; rwa [← HL.out, posL_all, firsts_all] at this)
    clear hk hlt
    gi_wp2; rw [Exit.noGoto_normal]
    go_end0
    exact ⟨⟨_, rfl⟩, .inl ⟨_, rfl, HJ.out⟩⟩
set_option maxRecDepth 100000 in
theorem all1_wrong (n : Nat) (L Bs : Nat) (a : Option Addr) (m cap : Nat) (l : List SpT) (hl : l.length = m) (hm : m ≤ 1000000000) (hr : rightB l = false) (R : World → Prop) (hJd : ∀ x y, R x → Below x.heap.size x y → R y)
 (W : World) (hc : W.cell? ⟨Bs, 0, none⟩ = some (.slice a m cap)) (hh : Elems W (.slice a m cap) m 3 (rowC encS l)) (h0 : R W) :
 CallsIn Fence.wide n Tryz.prog 79 #[.func (.yield L) #[] #[], .pointer (some ⟨Bs, 0, none⟩)] W fun e W' => (∃ v, e = .returned v) ∧ R W' := by
 have HR := H7 hr
 have HCH := H7 (check_any a m cap l hl hm W hh)
 have HJ := H7 (fun y hb => hJd W y h0 hb)
 clear hh hr hJd h0
 refine callsIn_of_wp Tryz.func79 rfl trivial ?_ rfl
 simp only [Tryz.ntmps79, List.size_toArray, List.length_cons, List.length_nil, Nat.reduceAdd, Nat.reduceSub, Array.replicate_succ, Array.replicate_zero, List.push_toArray, List.append_toArray, List.nil_append, List.cons_append]
 gi_wp2
 apply wpIn_scope
 gi_wp2_with fail
 refine (callsIn_wide.2 HCH.out).mono ?_
 rintro e w2 ⟨rfl, hb_⟩
 have HK := H7 (HJ.out _ hb_)
 rw [HR.out, errOf_false]
 clear hb_ HCH hc
 gi_wp2; rw [Exit.noGoto_ret]
 refine bodyPost_ret (results_none rfl _ _ _) rfl ?_
 exact ⟨⟨_, rfl⟩, HK.out⟩
theorem all_iter (own : World → Nat → Prop) (w : World) (ho : OwnSt own w.heap.size) (hwf : ∀ q, own w q → q < w.heap.size) (Bs : Nat) (bs : List Nat) (a : Option Addr) (m cap : Nat) (l : List SpT) (hl : l.length = m) (hm : m ≤ 1000000000) (A : List PtT) (hA : allL l = A)
 (hbs : ∀ c ∈ bs, c < w.heap.size) (hb1 : Bs ∈ bs) (hb2 : ∀ b off, a = some ⟨b, off, none⟩ → b ∈ bs) (hc : w.cell? ⟨Bs, 0, none⟩ = some (.slice a m cap)) (hh : Elems w (.slice a m cap) m 3 (rowC encS l)) :
 IterO Tryz.prog 79 #[.pointer (some ⟨Bs, 0, none⟩)] A.length (fun i => #[(A[i.1]).val]) own bs w := by
 unfold allL at hA
 cases hr : rightB l
 · rw [hr, cond_false] at hA
   subst hA
   intro n hn1 L J Jx W hW hJ _ hY h0
   refine (all1_wrong n L Bs a m cap l hl hm hr (J []) (fun x y h hb => hJ [] x y none h (below_grown hb) (by simp)) W ((hW.cell (p := ⟨Bs, 0, none⟩) (hbs Bs hb1)).trans hc) (hh.below hW) h0).mono ?_
   rintro e w' ⟨h1, h2⟩
   exact ⟨h1, .inl ⟨_, rfl, h2⟩⟩
 · rw [hr, cond_true] at hA
   subst hA
   intro n hn1 L J Jx W hW hJ _ hY h0
   have e := ho w W (fun k hk => hW.block k hk)
   exact all1_right n hn1 own w.heap.size ho L Bs bs a m cap l hl hm hr J Jx (fun pre x y h hb => hJ pre x y none h (below_grown hb) (by simp)) hb1 hb2 hY W hW.size (fun c hc => Nat.lt_of_lt_of_le (hbs c hc) hW.size) (fun q hq => Nat.lt_of_lt_of_le (hwf q ((e q).1 hq)) hW.size)
    ((hW.cell (p := ⟨Bs, 0, none⟩) (hbs Bs hb1)).trans hc) (hh.below hW) h0
theorem all_any (a : Option Addr) (n cap : Nat) (w : World) :
 Calls Tryz.prog 33 #[.slice a n cap] w fun e w' => e = .returned (.func (.func 79) #[] #[.pointer (some ⟨w.heap.size, 0, none⟩)]) ∧ w.alloc (.cells #[.slice a n cap] 41) = w' := by
 go_enter Tryz.func33, Tryz.ntmps33
 go_wp2
 go_ret
 exact ⟨rfl, rfl⟩
/- Layer 6: about. -/
end Go.Proofs.YtgdcfkbimkclaaaGreatDoor
/- Layer 6: what stays while rows grow; a range over an iterator whose value gets a box. -/
namespace Go.Proofs.YtgdcfkbimkclaaaGreatDoor
open Go.RowKit Go.Shelf Go.Maps
/-- A kept thing lies apart from S. -/
def It.free (S : Nat → Prop) : It → Prop
 | .blk p _ => ¬ S p
 | .row _ _ _ _ hi => ∀ k, S k → hi ≤ k
theorem St.turned {w0 x y : World} {its : List It} {S : Nat → Prop} (h : St w0 its x) (ht : Turned S x y) (h0 : ∀ k, S k → w0.heap.size ≤ k) (hf : ∀ i ∈ its, i.free S) : St w0 its y := by
 refine ⟨h.low.trans (ht.below h.low.size h0), fun i hi => ?_, h.ord, fun i hi => Nat.le_trans (h.top i hi) ht.size⟩
 have hok := h.ok i hi
 have hfi := hf i hi
 cases i with
 | blk p o => exact (ht.block p (b7t hok) hfi).trans hok
 | row v n size c hi' =>
  refine ⟨?_, hok.2⟩
  rcases hok.1 with e | ⟨b, off, cap, rfl, hlt, hc⟩
  · exact .inl e
  · refine .inr ⟨b, off, cap, rfl, Nat.lt_of_lt_of_le hlt ht.size, fun j hj => ?_⟩
    by_cases hn : n = 0
    · subst hn; omega
    · have hbb := (hok.2 _ _ _ rfl).resolve_left hn
      rw [← hc j hj]
      exact World.cell?_of_block (ht.block b hlt (fun hs => by have := hfi b hs; simp at hbb; omega))
theorem keepsFrom_below {B : Nat} {x y : World} (h : Below x.heap.size x y) : KeepsFrom B x y := (show KeepsOthers x y from ⟨h.size, fun j o hj _ => (h.block j (b7t hj)).trans hj⟩).from B
/-- The state of a call that puts spans into a map of rows; no row lies in a block of bs. -/
structure GrS (w0 : World) (its : List It) (bs : List Nat) (base b : Nat) (L : List SpT) (W : World) : Prop where
 st : St w0 its W
 gr : ∃ n D F, n ≤ L.length ∧ GrD W base b n D F (GrOf L) ∧ ∀ z, inK z → ∀ j, (F z).ownBlock = some j → base ≤ j ∧ j ∉ bs
 hi : base ≤ W.heap.size
theorem GrS.below {w0 x y : World} {its : List It} {bs : List Nat} {base b : Nat} {L : List SpT} (h : GrS w0 its bs base b L x) (hb : Below x.heap.size x y) : GrS w0 its bs base b L y := by
 obtain ⟨n, D, F, h1, h2, h3⟩ := h.gr
 exact ⟨h.st.below hb, ⟨n, D, F, h1, h2.kept hb, h3⟩, Nat.le_trans h.hi hb.size⟩
/-- Blocks that are there, and that no row uses, may be added. -/
theorem GrS.more {w0 x : World} {its : List It} {bs bs' : List Nat} {base b : Nat} {L : List SpT} (h : GrS w0 its bs base b L x) (hn : ∀ c ∈ bs', c ∈ bs ∨ c < base ∨ ∃ y : World, y.heap.size ≤ c ∧ ∀ n D F, GrD x base b n D F (GrOf L) → (∀ z, inK z → ∀ j, (F z).ownBlock = some j → j < y.heap.size)) : GrS w0 its bs' base b L x := by
 obtain ⟨n, D, F, h1, h2, h3⟩ := h.gr
 refine ⟨h.st, ⟨n, D, F, h1, h2, fun z hz j hj => ⟨(h3 z hz j hj).1, fun hm => ?_⟩⟩, h.hi⟩
 rcases hn j hm with h4 | h4 | ⟨y, h4, h5⟩
 · exact (h3 z hz j hj).2 h4
 · have := (h3 z hz j hj).1; omega
 · have := h5 n D F h2 z hz j hj; omega
theorem GrS.fresh {w0 x y : World} {its : List It} {base b : Nat} {L : List SpT} (h : GrS w0 its [] base b L x) (hb : Below x.heap.size x y) (bs : List Nat) (hbs : ∀ c ∈ bs, c < base ∨ x.heap.size ≤ c) : GrS w0 its bs base b L y := by
 obtain ⟨n, D, F, h1, h2, h3⟩ := h.gr
 refine ⟨h.st.below hb, ⟨n, D, F, h1, h2.kept hb, fun z hz j hj => ⟨(h3 z hz j hj).1, fun hm => ?_⟩⟩, Nat.le_trans h.hi hb.size⟩
 have h4 := (h2.row z hz).lt j hj
 rcases hbs j hm with h5 | h5 <;> omega
/-- A put. -/
theorem GrS.put {w0 w : World} {its : List It} {bs : List Nat} {base b pr : Nat} {L : List SpT} (h : GrS w0 its bs base b L w) (s : SpT) (hy : inK s.y) (hL : L.length < 100000000) (hpr : .blk pr (.cells #[.map (some b)] 213 (0, 0)) ∈ its) (hpb : pr < base ∧ pr ≠ b)
 (hb0 : w0.heap.size ≤ b) (hbase : w0.heap.size ≤ base) (hits : ∀ i ∈ its, i.free (fun k => k = b ∨ base ≤ k)) (hbs : ∀ c ∈ bs, c ≠ b ∧ c < w.heap.size) :
 Calls Tryz.prog 158 #[.pointer (some ⟨pr, 0, none⟩), s.val] w fun e w' => e = .returned (.tuple #[]) ∧ GrS w0 its bs base b (L ++ [s]) w' ∧ KeepsAt bs w w' ∧ w.heap.size ≤ w'.heap.size ∧
  (∀ (k : Nat) (o : Obj), k ≠ b → w.heap[k]? = some o → o.isCells = false → w'.heap[k]? = some o) ∧ (∀ (k : Nat) (o : Obj), k ≠ b → w.heap[k]? = some o → (∀ cur, o ≠ .cells cur 47 (0, 0)) → w'.heap[k]? = some o) := by
 obtain ⟨n, D, F, h1, h2, h3⟩ := h.gr
 have hown : ∀ k, (F s.y).ownBlock = some k → base ≤ k := fun k hk => (h3 _ hy k hk).1
 refine (put_any s hy pr base b n D F L (by omega) (by omega) w h2 h.hi (h.st.ok _ hpr) (fun e => by have := hown _ e; omega) hpb.2).mono ?_
 rintro e w' ⟨rfl, v', D', hgr, hloc, ht⟩
 have ht' : Turned (fun k => k = b ∨ base ≤ k) w w' := ht.mono fun k _ hk => hk.imp id (hown k)
 have hcl : ∀ k, (F s.y).ownBlock = some k → ∃ cur, w.heap[k]? = some (.cells cur 47 (0, 0)) := fun k hk => by
  rcases (h2.row _ hy).2 with ⟨e1, _⟩ | ⟨g, cap, cur, e1, _, hgg, _⟩
  · rw [e1] at hk; cases hk
  · rw [e1] at hk
    obtain rfl : g = k := by simpa [Value.ownBlock] using hk
    exact ⟨cur, hgg⟩
 refine ⟨rfl, ⟨h.st.turned ht' (fun k hk => by rcases hk with rfl | hk; exact hb0; omega) hits, ⟨n + 1, D', _, by simp; omega, hgr, fun z hz j hj => ?_⟩, Nat.le_trans h.hi ht.size⟩, fun c hc => ?_, ht.size, fun k o hkb hk ho => ?_, fun k o hkb hk ho => ?_⟩
 · by_cases e : z = s.y
   · subst e
     simp only [if_true] at hj
     rcases hloc with hl | ⟨g, hl, hge⟩
     · rw [hl] at hj; exact h3 _ hz j hj
     · rw [hl] at hj; cases hj
       exact ⟨by have := h.hi; omega, fun hm => by have := (hbs _ hm).2; omega⟩
   · simp only [if_neg e] at hj; exact h3 _ hz j hj
 · exact ht.block c (hbs c hc).2 (fun hs => by
    rcases hs with e | e
    · exact (hbs c hc).1 e
    · exact (h3 _ hy c e).2 hc)
 · refine (ht.block k (b7t hk) (fun hs => ?_)).trans hk
   rcases hs with e | e
   · exact hkb e
   · obtain ⟨cur, hcur⟩ := hcl k e
     rw [hcur] at hk; cases hk; cases ho
 · refine (ht.block k (b7t hk) (fun hs => ?_)).trans hk
   rcases hs with e | e
   · exact hkb e
   · obtain ⟨cur, hcur⟩ := hcl k e
     rw [hcur] at hk; cases hk; exact ho cur rfl
end Go.Proofs.YtgdcfkbimkclaaaGreatDoor
/- shape: the pen's step. -/
namespace Go.Proofs.YtgdcfkbimkclaaaGreatDoor
open Go.RowKit Go.Shelf
/-- A pen's block. -/
def PenAt (p : Nat) (x y lx ly sx sy n m r : Int) (w : World) : Prop :=
 w.heap[p]? = some (.cells #[.int .i64 x, .int .i64 y, .int .i64 lx, .int .i64 ly, .int .i64 sx, .int .i64 sy, .int .i64 n, .int .i64 m, .int .i64 r] 208 (0, 0))
theorem PenAt.kept {p : Nat} {x y lx ly sx sy n m r : Int} {w w' : World} (h : PenAt p x y lx ly sx sy n m r w) (hb : Below w.heap.size w w') : PenAt p x y lx ly sx sy n m r w' := (hb.block p (b7t h)).trans h
/- The plain law of the pen: its places are the line's. -/
theorem less_zero (n m : Int) : lessN n m 0 = 0 := by
 unfold lessN
 split
 · rw [Int.mul_zero, Int.zero_mul, Int.zero_add]; exact Int.ediv_eq_zero_of_lt (by omega) (by omega)
 · rfl
theorem less_le {n m i : Int} (hn : 0 < n) (hm : 0 ≤ m) (hmn : m ≤ n) (hi : 0 ≤ i) : 0 ≤ lessN n m i ∧ lessN n m i ≤ i := by
 unfold lessN
 rw [if_pos hn]
 have h0 : 0 ≤ i * m := Int.mul_nonneg hi hm
 have h1 : i * m ≤ i * n := Int.mul_le_mul_of_nonneg_left hmn hi
 have e0 : 2 * i * m = 2 * (i * m) := by grind
 refine ⟨Int.ediv_nonneg (by omega) (by omega), ?_⟩
 have e2 : (i + 1) * (2 * n) = 2 * (i * n) + 2 * n := by grind
 have := Int.ediv_lt_of_lt_mul (a := 2 * i * m + n) (b := i + 1) (by omega : 0 < 2 * n) (by omega)
 omega
theorem less_le_m {n m i : Int} (hm : 0 ≤ m) (hmn : m ≤ n) (hi : 0 ≤ i) (hin : i ≤ n) : 0 ≤ lessN n m i ∧ lessN n m i ≤ m := by
 by_cases hn : 0 < n
 · refine ⟨(less_le hn hm hmn hi).1, ?_⟩
   unfold lessN
   rw [if_pos hn]
   have h2 : i * m ≤ n * m := Int.mul_le_mul_of_nonneg_right hin hm
   have e0 : 2 * i * m = 2 * (i * m) := by grind
   have e2 : (m + 1) * (2 * n) = 2 * (n * m) + 2 * n := by grind
   have := Int.ediv_lt_of_lt_mul (a := 2 * i * m + n) (b := m + 1) (by omega : 0 < 2 * n) (by omega)
   omega
 · unfold lessN; rw [if_neg hn]; omega
/-- What a pen keeps of its line. -/
structure LineD (a b : PtT) (lx ly sx sy n m : Int) : Prop where
 top : n = wayMax a b
 mle : 0 ≤ m ∧ m ≤ n
 unit : (-1 ≤ lx ∧ lx ≤ 1) ∧ (-1 ≤ ly ∧ ly ≤ 1) ∧ (-1 ≤ sx ∧ sx ≤ 1) ∧ (-1 ≤ sy ∧ sy ≤ 1)
 pt : ∀ i : Int, 0 ≤ i → i ≤ n → linePt a b i = ⟨a.x + lx * i + sx * lessN n m i, a.y + ly * i + sy * lessN n m i⟩
 fin : ∀ i : Int, 0 ≤ i → i ≤ n → (linePt a b i = b ↔ i = n)
/-- A coordinate of a line lies not far. -/
theorem unit_mul {u i : Int} (hu : -1 ≤ u ∧ u ≤ 1) (h0 : 0 ≤ i) : -i ≤ u * i ∧ u * i ≤ i := by
 rcases (by omega : u = -1 ∨ u = 0 ∨ u = 1) with rfl | rfl | rfl <;> omega
theorem LineD.near {a b : PtT} {lx ly sx sy n m : Int} (h : LineD a b lx ly sx sy n m) (hn : n ≤ 200) (ha : (-64 ≤ a.x ∧ a.x ≤ 127) ∧ (-64 ≤ a.y ∧ a.y ≤ 127)) {i : Int} (h0 : 0 ≤ i) (h1 : i ≤ n) :
 (-1000 ≤ a.x + lx * i + sx * lessN n m i ∧ a.x + lx * i + sx * lessN n m i ≤ 1000) ∧ (-1000 ≤ a.y + ly * i + sy * lessN n m i ∧ a.y + ly * i + sy * lessN n m i ≤ 1000) := by
 have hl := less_le_m (n := n) (m := m) (i := i) h.mle.1 h.mle.2 h0 h1
 have := h.mle
 have e1 := unit_mul h.unit.1 h0
 have e2 := unit_mul h.unit.2.1 h0
 have e3 := unit_mul h.unit.2.2.1 hl.1
 have e4 := unit_mul h.unit.2.2.2 hl.1
 omega
section
variable {P : Program} {a : Act} {w : World} {Q : Exit → Act → World → Prop}
end
end Go.Proofs.YtgdcfkbimkclaaaGreatDoor
/- shape.Line. -/
namespace Go.Proofs.YtgdcfkbimkclaaaGreatDoor
open Go.RowKit Go.Shelf
section
variable {α : Type} {w0 x y : World} {its : List It} {base : Nat} {e : TypeId} {k : Nat} {enc : α → List Value} {v : Value} {L : List α}
/-- A row of one element. -/
theorem StO.one (h : St w0 its x) (e : TypeId) (enc : α → List Value) (q : α) (hk : (enc q).length = k) : StO w0 its x.heap.size e k enc (.slice (some ⟨x.heap.size, 0, none⟩) 1 1) [q] (x.alloc (.cells (enc q).toArray e (0, 0))) := by
 refine ⟨h.below ((B7 _ _).alloc (Nat.le_refl _) _), ⟨by simp [hk], .inr ⟨x.heap.size, 1, (enc q).toArray, rfl, Nat.le_refl _, World.alloc_heap_new _ _, Nat.le_refl _, by decide, by simp [hk], ?_⟩⟩, h.size, h.top, by simp⟩
 simp [← hk]
/-- The newest block is written by a call. -/
theorem StO.pen {p : Nat} {o o' : Obj} (h : StO w0 (.blk p o :: its) base e k enc v L x) (ht : Turned (fun j => j = p) x y) (hp : y.heap[p]? = some o') : StO w0 (.blk p o' :: its) base e k enc v L y := by
 have hpb : p < base := h.top (.blk p o) (by simp)
 have hord := h.st.ord
 have hd : St w0 its y := h.st.drop1.turned ht (fun j hj => by rw [hj]; exact hord.1) (fun i hi => by
  have htop := hord.2.1 i hi
  cases i with
  | blk b ob => exact fun e => by simp only [It.top] at htop; omega
  | row v n s c hi' => exact fun j hj => by simp only [It.top] at htop; omega)
 refine ⟨⟨hd.low, fun i hi => ?_, ⟨hord.1, hord.2.1, hord.2.2⟩, fun i hi => ?_⟩, h.row.kept (row := some p) ⟨ht.os, ht.tape, ht.output, ht.size, fun j hj hn => ht.block j hj (fun e => hn (by rw [e]))⟩ ?_, h.low, fun i hi => ?_, Nat.le_trans h.hi ht.size⟩
 · rcases List.mem_cons.1 hi with rfl | hi
   · exact hp
   · exact hd.ok i hi
 · rcases List.mem_cons.1 hi with rfl | hi
   · exact b7t hp
   · exact hd.top i hi
 · cases hv : v.ownBlock with
   | none => exact .inl rfl
   | some j => exact .inr (fun e => by have := (h.row.lt j hv).1; cases e; omega)
 · rcases List.mem_cons.1 hi with rfl | hi
   · exact hpb
   · exact h.top i (by simp [hi])
end
theorem LineD.start {a b : PtT} {lx ly sx sy n m : Int} (h : LineD a b lx ly sx sy n m) : linePt a b 0 = a := by
 rw [h.pt 0 (by omega) (by have := h.mle; omega), less_zero]
 simp
end Go.Proofs.YtgdcfkbimkclaaaGreatDoor
/- Layer 6, plain: the spans about a place are the brush's places. -/
namespace Go.Proofs.YtgdcfkbimkclaaaGreatDoor
open Go.RowKit Go.Shelf
end Go.Proofs.YtgdcfkbimkclaaaGreatDoor
/- Layer 6: Sweep. -/
namespace Go.Proofs.YtgdcfkbimkclaaaGreatDoor
open Go.RowKit Go.Shelf Go.Maps
attribute [local go_sem] Oper.semAt_some
/-- It returns THE row of the places of which Q holds, if something holds, and no error; else none, and an error. -/
def GivesSet (ok : Bool) (Q : PtT → Prop) (er : Int) (w : World) (e : Ending) (w' : World) : Prop := ∃ M, (ok = true → SetRow Q M) ∧ (ok = false → M = []) ∧ M.length ≤ 1000000 ∧ GivesRowE 47 3 M.length (M.flatMap encS) (errOf ok er) w e w'
theorem itOrd_sub {w0 : World} : ∀ {its its' : List It}, its'.Sublist its → ItOrd w0 its → ItOrd w0 its'
 | _, _, .slnil, h => h
 | .blk _ _ :: _, _, .cons _ hs, h => itOrd_sub hs h.2.2
 | .row _ _ _ _ _ :: _, _, .cons _ hs, h => itOrd_sub hs h
 | .blk _ _ :: _, _, .cons_cons _ hs, h => ⟨h.1, fun j hj => h.2.1 j (hs.subset hj), itOrd_sub hs h.2.2⟩
 | .row _ _ _ _ _ :: its, .row _ _ _ _ _ :: its', .cons_cons _ hs, h => show ItOrd w0 its' from itOrd_sub (its := its) hs h
theorem St.sub {w0 x : World} {its its' : List It} (h : St w0 its x) (hs : its'.Sublist its) : St w0 its' x := ⟨h.low, fun i hi => h.ok i (hs.subset hi), itOrd_sub hs h.ord, fun i hi => h.top i (hs.subset hi)⟩
theorem GrD.rebase {w : World} {base base' b n : Nat} {D : DataW Value} (h : GrD w base b n D (fun _ => nilS) (fun _ => [])) (hb : base ≤ base') : GrD w base' b n D (fun _ => nilS) (fun _ => []) :=
 ⟨h.map, h.at_, fun _ _ => World.ownsRow_nil _ _ _ _, fun _ _ _ _ _ _ h => (by cases h), h.has, h.only, Nat.lt_of_lt_of_le h.lt hb⟩
theorem GrOf_nil : GrOf [] = fun _ => [] := rfl
theorem GrS.start {w0 x y : World} {its : List It} (hst : St w0 its y) (hb : Below (x.heap.size + 1) (x.alloc (.map #[] 0)) y) (hs : x.heap.size + 1 ≤ y.heap.size) : GrS w0 its [] y.heap.size x.heap.size [] y :=
 ⟨hst, ⟨0, .map [], fun _ => nilS, Nat.zero_le _, by rw [GrOf_nil]; exact ((GrD.start x).kept (by simpa using hb)).rebase hs, fun _ _ _ h => by cases h⟩, Nat.le_refl _⟩
theorem Marks.keep {lo : Nat} {Ds : List Nat} {x y : World} (h : Marks lo Ds x) (hk : ∀ (k : Nat), x.heap[k]? = some (.deferred (some [])) → y.heap[k]? = some (.deferred (some []))) : Marks lo Ds y :=
 ⟨h.nd, fun D hD => ⟨(h.blk D hD).1, hk D (h.blk D hD).2⟩⟩
theorem Marks.below {lo : Nat} {Ds : List Nat} {x y : World} (h : Marks lo Ds x) (hb : Below x.heap.size x y) : Marks lo Ds y := h.keep fun k hk => (hb.block k (b7t hk)).trans hk
theorem with_actIn {F : Fence} {n : Nat} {P : Program} {c : Code} {Q : Exit → Act → World → Prop} {a : Act} {w : World} (h : ∀ a0 : Act, a0 = a → c.wpIn F n P Q a0 w) : c.wpIn F n P Q a w := h a rfl
/- Layer 6: Disc, Square, Union. -/
end Go.Proofs.YtgdcfkbimkclaaaGreatDoor
/- Layer 6: what the statements call, as rows that are read; the rows that 'wakes' looks at. -/
namespace Go.Proofs.YtgdcfkbimkclaaaGreatDoor
open Go.RowKit Go.Shelf
section
variable {α : Type}
/-- A row to be read, and a code. -/
def Got (k : Nat) (enc : α → List Value) (L : List α) (n : Nat) (er : Int) (w : World) (e : Ending) (w' : World) : Prop :=
 L.length = n ∧ ∃ a cap, e = .returned (.tuple #[.slice a n cap, .int .i64 er]) ∧ Elems w' (.slice a n cap) n k (rowC enc L) ∧ Below w.heap.size w w'
theorem GivesRowE.got {k : Nat} {enc : α → List Value} (hk : ∀ q, (enc q).length = k) {E : TypeId} {L : List α} {er : Int} {w : World} {e : Ending} {w' : World} (h : GivesRowE E k L.length (L.flatMap enc) er w e w') : Got k enc L L.length er w e w' := by
 obtain ⟨v, rfl, hr, hb⟩ := h
 have he := ownsRow_rows hk hr
 obtain ⟨a, cap, rfl, -⟩ := he.shape
 exact ⟨rfl, a, cap, rfl, he, hb⟩
theorem Got.is {k : Nat} {enc : α → List Value} {L M : List α} {n : Nat} {er er' : Int} {w : World} {e : Ending} {w' : World} (h : Got k enc L L.length er w e w') (h1 : L = M) (hn : M.length = n) (h2 : er = er') : Got k enc M n er' w e w' := by
 subst h1 h2
 rw [← hn]
 exact h
end
theorem GivesSet.got {ok : Bool} {P : PtT → Prop} {er : Int} {w : World} {e : Ending} {w' : World} (h : GivesSet ok P er w e w') : ∃ M, (ok = true → SetRow P M) ∧ (ok = false → M = []) ∧ M.length ≤ 1000000 ∧ Got 3 encS M M.length (errOf ok er) w e w' := by
 obtain ⟨M, h1, h2, h3, h4⟩ := h
 exact ⟨M, h1, h2, h3, h4.got encS_len⟩
/-- A set whose row is known. -/
theorem GivesSet.known {ok : Bool} {P : PtT → Prop} {er : Int} {w : World} {e : Ending} {w' : World} (h : GivesSet ok P er w e w') (hok : ok = true) {L : List SpT} (hL : SetRow P L) (n : Nat) (hn : L.length = n) : Got 3 encS L n 0 w e w' := by
 obtain ⟨M, h1, h2, h3, h4⟩ := h.got
 exact h4.is ((h1 hok).unique hL) hn (by rw [hok]; rfl)
end Go.Proofs.YtgdcfkbimkclaaaGreatDoor
/- Layer 6: few. -/
namespace Go.Proofs.YtgdcfkbimkclaaaGreatDoor
open Go.RowKit Go.Shelf
/-- A row to be read. -/
def GotR {α : Type} (k : Nat) (enc : α → List Value) (L : List α) (n : Nat) (w : World) (e : Ending) (w' : World) : Prop :=
 L.length = n ∧ ∃ a cap, e = .returned (.slice a n cap) ∧ n ≤ cap ∧ Elems w' (.slice a n cap) n k (rowC enc L) ∧ Below w.heap.size w w'
theorem Cloned.got {α : Type} {E : TypeId} {k : Nat} {enc : α → List Value} (hk : ∀ q, (enc q).length = k) {L : List α} {sv : Value} {w : World} {e : Ending} {w' : World} (h : Cloned E k L.length (L.flatMap enc) sv w e w') : GotR k enc L L.length w e w' := by
 obtain ⟨v, rfl, hr, -, hb⟩ := h
 have he := ownsRow_rows hk hr
 have hc : ∃ a cap, v = .slice a L.length cap ∧ L.length ≤ cap := by
  rcases hr.2 with ⟨rfl, h0⟩ | ⟨g, cap, cur, rfl, _, _, h1, _⟩
  · exact ⟨none, 0, by rw [h0], by omega⟩
  · exact ⟨_, cap, rfl, h1⟩
 obtain ⟨a, cap, rfl, h1⟩ := hc
 exact ⟨rfl, a, cap, rfl, h1, he, hb⟩
end Go.Proofs.YtgdcfkbimkclaaaGreatDoor
