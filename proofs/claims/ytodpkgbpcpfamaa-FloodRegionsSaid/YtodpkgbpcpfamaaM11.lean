/- Merged texts: ShQ Fld ShR ShS ShY ShT ShU Cmp ShZ ShW SwA. -/
import Derived.Test.YtodpkgbpcpfamaaM10
import Derived.Test.YtodpkgbpcpfamaaM1
import Derived.Test.YtodpkgbpcpfamaaM9
/- Layer 6, plain: the row of spans of a field of truths, place by place. -/
namespace Go.Proofs.Ytodpkgbpcpfamaa
set_option linter.unusedSimpArgs false
set_option linter.unusedVariables false
open Go.RowKit Go.Shelf

/-- L is the row of spans of the places of a box of which F holds. -/
structure RowOf (x1 y1 : Int) (n m : Nat) (F : Nat → Nat → Bool) (L : List SpT) : Prop where
 row : RowP L
 box : ∀ s ∈ L, y1 ≤ s.y ∧ s.y < y1 + n ∧ x1 ≤ s.f ∧ s.t < x1 + m
 has : ∀ p, hasB L p = true ↔ (y1 ≤ p.y ∧ p.y < y1 + n) ∧ (x1 ≤ p.x ∧ p.x < x1 + m) ∧ F (p.y - y1).toNat (p.x - x1).toNat = true
theorem RowOf.unique {x1 y1 : Int} {n m : Nat} {F : Nat → Nat → Bool} {L M : List SpT} (h : RowOf x1 y1 n m F L) (k : RowOf x1 y1 n m F M) : L = M :=
 rowP_unique h.row k.row fun p => (h.has p).trans (k.has p).symm
/-- So far: j rows, and i places. -/
structure RowTo (x1 y1 : Int) (m : Nat) (F : Nat → Nat → Bool) (L : List SpT) (j i : Nat) : Prop where
 row : RowP L
 box : ∀ s ∈ L, y1 ≤ s.y ∧ s.y ≤ y1 + j ∧ x1 ≤ s.f ∧ s.t < x1 + m ∧ (s.y = y1 + j → s.t < x1 + i)
 has : ∀ p, hasB L p = true ↔ (x1 ≤ p.x ∧ p.x < x1 + m) ∧ y1 ≤ p.y ∧ (p.y < y1 + j ∨ p.y = y1 + j ∧ p.x < x1 + i) ∧ F (p.y - y1).toNat (p.x - x1).toNat = true
/-- Is a span open? -/
def OpenTo (x1 y1 : Int) (L : List SpT) (j i : Nat) : Bool → Prop
 | true => ∃ L0 s, L = L0 ++ [s] ∧ s.y = y1 + (j : Int) ∧ s.t = x1 + (i : Int) - 1
 | false => ∀ s ∈ L, s.y = y1 + (j : Int) → s.t + 1 < x1 + (i : Int)
theorem rowP_nil : RowP [] := ⟨by simp, List.Pairwise.nil⟩
theorem rowTo_start (x1 y1 : Int) (m : Nat) (F : Nat → Nat → Bool) : RowTo x1 y1 m F [] 0 0 :=
 ⟨rowP_nil, by simp, fun p => by simp [hasB]; omega⟩
theorem hasB_app (L M : List SpT) (p : PtT) : hasB (L ++ M) p = (hasB L p || hasB M p) := by simp [hasB]
theorem hasB_one (s : SpT) (p : PtT) : hasB [s] p = inB p s := by simp [hasB]
variable {x1 y1 : Int} {m : Nat} {F : Nat → Nat → Bool} {L : List SpT} {j i : Nat}
theorem RowTo.skip (h : RowTo x1 y1 m F L j i) (hi : i < m) (hF : F j i = false) : RowTo x1 y1 m F L j (i + 1) ∧ OpenTo x1 y1 L j (i + 1) false := by
 refine ⟨⟨h.row, fun s hs => ?_, fun p => ?_⟩, fun s hs e => ?_⟩
 · obtain ⟨a, b, c, d, e⟩ := h.box s hs
   exact ⟨a, b, c, d, fun e' => by have := e e'; omega⟩
 · rw [h.has p]
   constructor
   · rintro ⟨a, b, c, d⟩
     exact ⟨a, b, by omega, d⟩
   · rintro ⟨a, b, c, d⟩
     refine ⟨a, b, ?_, d⟩
     rcases c with c | ⟨c1, c2⟩
     · exact .inl c
     · refine .inr ⟨c1, ?_⟩
       refine Int.not_le.1 fun hle => ?_
       rw [show (p.y - y1).toNat = j by omega, show (p.x - x1).toNat = i by omega, hF] at d
       cases d
 · have := (h.box s hs).2.2.2.2 e
   omega
theorem RowTo.open (h : RowTo x1 y1 m F L j i) (hi : i < m) (hF : F j i = true) {L0 : List SpT} {s : SpT} (hL : L = L0 ++ [s]) (hy : s.y = y1 + (j : Int)) (ht : s.t = x1 + (i : Int) - 1) :
 RowTo x1 y1 m F (L0 ++ [⟨s.y, s.f, x1 + (i : Int)⟩]) j (i + 1) ∧ OpenTo x1 y1 (L0 ++ [⟨s.y, s.f, x1 + (i : Int)⟩]) j (i + 1) true := by
 subst hL
 obtain ⟨h1, h2, h3⟩ := List.pairwise_append.1 h.row.ord
 have hs := h.row.sp s (by simp)
 obtain ⟨b1, b2, b3, b4, b5⟩ := h.box s (by simp)
 have hbefore : ∀ q ∈ L0, q.y < s.y ∨ q.y = s.y ∧ q.t + 1 < s.f := fun q hq => by
  have := h3 q hq s (by simp); unfold ordP at this; exact this
 refine ⟨⟨⟨fun q hq => ?_, ?_⟩, fun q hq => ?_, fun p => ?_⟩, _, _, rfl, hy, by simp; omega⟩
 · rcases List.mem_append.1 hq with hq | hq
   · exact h.row.sp q (by simp [hq])
   · simp at hq; subst hq; simp only; omega
 · refine List.pairwise_append.2 ⟨h1, List.pairwise_singleton _ _, fun q hq r hr => ?_⟩
   simp at hr; subst hr
   have := hbefore q hq
   unfold ordP; simp only; omega
 · rcases List.mem_append.1 hq with hq | hq
   · obtain ⟨a, b, c, d, e⟩ := h.box q (by simp [hq])
     exact ⟨a, b, c, d, fun e' => by have := e e'; omega⟩
   · simp at hq; subst hq
     simp only
     exact ⟨b1, b2, b3, by omega, fun _ => by omega⟩
 · have hp := h.has p
   rw [hasB_app, hasB_one, Bool.or_eq_true] at hp ⊢
   simp only [inB, decide_eq_true_eq] at hp ⊢
   constructor
   · rintro (a | ⟨a1, a2, a3⟩)
     · obtain ⟨c1, c2, c3, c4⟩ := hp.1 (.inl a)
       exact ⟨c1, c2, by omega, c4⟩
     · by_cases e : p.x ≤ s.t
       · obtain ⟨c1, c2, c3, c4⟩ := hp.1 (.inr ⟨a1, a2, e⟩)
         exact ⟨c1, c2, by omega, c4⟩
       · refine ⟨by omega, by omega, by omega, ?_⟩
         rw [show (p.y - y1).toNat = j by omega, show (p.x - x1).toNat = i by omega]
         exact hF
   · rintro ⟨c1, c2, c3, c4⟩
     by_cases e : p.y = y1 + (j : Int) ∧ p.x = x1 + (i : Int)
     · right; omega
     · rcases hp.2 ⟨c1, c2, by omega, c4⟩ with a | a
       · exact .inl a
       · right; omega
theorem RowTo.new (h : RowTo x1 y1 m F L j i) (hi : i < m) (hF : F j i = true) (ho : OpenTo x1 y1 L j i false) :
 RowTo x1 y1 m F (L ++ [⟨y1 + (j : Int), x1 + (i : Int), x1 + (i : Int)⟩]) j (i + 1) ∧ OpenTo x1 y1 (L ++ [⟨y1 + (j : Int), x1 + (i : Int), x1 + (i : Int)⟩]) j (i + 1) true := by
 refine ⟨⟨⟨fun q hq => ?_, ?_⟩, fun q hq => ?_, fun p => ?_⟩, _, _, rfl, rfl, by simp; omega⟩
 · rcases List.mem_append.1 hq with hq | hq
   · exact h.row.sp q hq
   · simp at hq; subst hq; simp
 · refine List.pairwise_append.2 ⟨h.row.ord, List.pairwise_singleton _ _, fun q hq r hr => ?_⟩
   simp at hr; subst hr
   have h1 := h.box q hq
   have h2 := ho q hq
   unfold ordP; simp only; omega
 · rcases List.mem_append.1 hq with hq | hq
   · obtain ⟨a, b, c, d, e⟩ := h.box q hq
     exact ⟨a, b, c, d, fun e' => by have := e e'; omega⟩
   · simp at hq; subst hq
     simp only
     exact ⟨by omega, by omega, by omega, by omega, fun _ => by omega⟩
 · have hp := h.has p
   rw [hasB_app, hasB_one, Bool.or_eq_true, hp]
   simp only [inB, decide_eq_true_eq]
   constructor
   · rintro (⟨c1, c2, c3, c4⟩ | ⟨a1, a2, a3⟩)
     · exact ⟨c1, c2, by omega, c4⟩
     · refine ⟨by omega, by omega, by omega, ?_⟩
       rw [show (p.y - y1).toNat = j by omega, show (p.x - x1).toNat = i by omega]
       exact hF
   · rintro ⟨c1, c2, c3, c4⟩
     by_cases e : p.y = y1 + (j : Int) ∧ p.x = x1 + (i : Int)
     · right; omega
     · left; exact ⟨c1, c2, by omega, c4⟩
theorem RowTo.down (h : RowTo x1 y1 m F L j m) : RowTo x1 y1 m F L (j + 1) 0 ∧ OpenTo x1 y1 L (j + 1) 0 false := by
 refine ⟨⟨h.row, fun s hs => ?_, fun p => ?_⟩, fun s hs e => ?_⟩
 · obtain ⟨a, b, c, d, e⟩ := h.box s hs
   exact ⟨a, by omega, c, d, fun e' => by omega⟩
 · rw [h.has p]
   constructor
   · rintro ⟨a, b, c, d⟩
     exact ⟨a, b, by omega, d⟩
   · rintro ⟨a, b, c, d⟩
     exact ⟨a, b, by omega, d⟩
 · have := (h.box s hs).2.1
   omega
theorem RowTo.rowOf {n : Nat} (h : RowTo x1 y1 m F L n 0) : RowOf x1 y1 n m F L := by
 refine ⟨h.row, fun s hs => ?_, fun p => ?_⟩
 · obtain ⟨a, b, c, d, e⟩ := h.box s hs
   have := h.row.sp s hs
   refine ⟨a, ?_, c, d⟩
   by_cases e' : s.y = y1 + n
   · have := e e'; omega
   · omega
 · rw [h.has p]
   constructor
   · rintro ⟨a, b, c, d⟩
     exact ⟨by omega, a, d⟩
   · rintro ⟨a, b, c⟩
     exact ⟨b, a.1, by omega, c⟩
end Go.Proofs.Ytodpkgbpcpfamaa

/- Fields of truths: rows of rows. -/
namespace Go.Proofs.Ytodpkgbpcpfamaa
set_option linter.unusedSimpArgs false
set_option linter.unusedVariables false
open Go.RowKit Go.Shelf

def encB (m : Nat) (b : Nat) : List Value := [.slice (some ⟨b, 0, none⟩) m m]
theorem encB_len (m b : Nat) : (encB m b).length = 1 := rfl
def rowV (m : Nat) (f : Nat → Bool) : List Value := (List.range m).map fun i => .bool (f i)
theorem rowV_get (m : Nat) (f : Nat → Bool) (i : Nat) (h : i < m) : (rowV m f)[i]? = some (.bool (f i)) := by simp [rowV, h]
def upd1 (f : Nat → Bool) (i : Nat) (u : Bool) : Nat → Bool := fun k => if k = i then u else f k
def upd2 (F : Nat → Nat → Bool) (j i : Nat) (u : Bool) : Nat → Nat → Bool := fun a b => if a = j ∧ b = i then u else F a b
theorem rowV_set (m : Nat) (f : Nat → Bool) (i : Nat) (u : Bool) : (rowV m f).set i (.bool u) = rowV m (upd1 f i u) := by
 refine List.ext_getElem? fun k => ?_
 rw [List.getElem?_set]
 by_cases h : i = k
 · subst h
   by_cases hm : i < m
   · simp [rowV, hm, upd1]
   · simp [rowV, hm]
 · by_cases hm : k < m
   · have : ¬ k = i := fun e => h e.symm
     simp [rowV, hm, upd1, this, h]
   · simp [rowV, hm, h]
theorem rowV_ext (m : Nat) (f f' : Nat → Bool) (h : ∀ i, i < m → f i = f' i) : rowV m f = rowV m f' := by
 unfold rowV
 refine List.map_congr_left fun i hi => ?_
 rw [h i (List.mem_range.1 hi)]

/-- The blocks of n rows of m truths each. -/
structure FldB (w0 : World) (its : List It) (base : Nat) (v : Value) (B : List Nat) (m : Nat) (F : Nat → Nat → Bool) (w : World) : Prop where
 o : StO w0 its base 102 1 (encB m) v B w
 nd : B.Nodup
 row : ∀ j b, B[j]? = some b → w.ownsRow base 4 1 (.slice (some ⟨b, 0, none⟩) m m) m (rowV m (F j))
theorem FldB.below {w0 w w' : World} {its : List It} {base : Nat} {v : Value} {B : List Nat} {m : Nat} {F : Nat → Nat → Bool} (h : FldB w0 its base v B m F w) (hb : Below w.heap.size w w') : FldB w0 its base v B m F w' :=
 ⟨h.o.below hb, h.nd, fun j b hj => ownsRow_below (h.row j b hj) hb⟩
/-- A field of the call's own. -/
def Fld (w0 : World) (its : List It) (base g cap n m : Nat) (F : Nat → Nat → Bool) (w : World) : Prop := ∃ B : List Nat, B.length = n ∧ FldB w0 its base (.slice (some ⟨g, 0, none⟩) n cap) B m F w
theorem Fld.below {w0 w w' : World} {its : List It} {base g cap n m : Nat} {F : Nat → Nat → Bool} (h : Fld w0 its base g cap n m F w) (hb : Below w.heap.size w w') : Fld w0 its base g cap n m F w' := by
 obtain ⟨B, h1, h2⟩ := h
 exact ⟨B, h1, h2.below hb⟩
theorem Fld.st {w0 w : World} {its : List It} {base g cap n m : Nat} {F : Nat → Nat → Bool} (h : Fld w0 its base g cap n m F w) : St w0 its w := by
 obtain ⟨B, h1, h2⟩ := h
 exact h2.o.st
theorem Fld.ext {w0 w : World} {its : List It} {base g cap n m : Nat} {F F' : Nat → Nat → Bool} (h : Fld w0 its base g cap n m F w) (he : ∀ j i, j < n → i < m → F j i = F' j i) : Fld w0 its base g cap n m F' w := by
 obtain ⟨B, h1, h2⟩ := h
 refine ⟨B, h1, h2.o, h2.nd, fun j b hj => ?_⟩
 rw [← rowV_ext m (F j) (F' j) (fun i hi => he j i (by rw [← h1]; exact (List.getElem?_eq_some_iff.1 hj).1) hi)]
 exact h2.row j b hj
/-- What the walk asks of a place: to read it, and to write it. -/
theorem Fld.at {w0 w : World} {its : List It} {base g cap n m : Nat} {F : Nat → Nat → Bool} (h : Fld w0 its base g cap n m F w) (j i : Nat) (hj : j < n) (hi : i < m) :
 ∃ b, base ≤ b ∧ w.cell? ⟨g, j, none⟩ = some (.slice (some ⟨b, 0, none⟩) m m) ∧ w.cell? ⟨b, i, none⟩ = some (.bool (F j i)) ∧ w.frozen? ⟨b, i, none⟩ = false ∧
  ∀ u : Bool, Fld w0 its base g cap n m (upd2 F j i u) (w.setCell ⟨b, i, none⟩ (.bool u)) := by
 obtain ⟨B, h1, h2⟩ := h
 obtain ⟨b, hb⟩ : ∃ b, B[j]? = some b := ⟨_, List.getElem?_eq_getElem (by omega)⟩
 have hr := h2.row j b hb
 obtain ⟨hbb, hlt, cur, hcur⟩ := ownsRow_block hr
 refine ⟨b, hbb, ?_, ownsRow_cell hr (rowV_get m _ i hi), ownsRow_free hr i, fun u => ?_⟩
 · have := h2.o.cell (encB_len m) j b 0 _ hb rfl
   simpa using this
 · have hg := grownBy_setCellAt w b i (.bool u)
   have hgb : g ≠ b := by
    obtain ⟨_, _, cg, hcg⟩ := ownsRow_block (g := g) (n := B.length) (cap := cap) (by have := h2.o.row; rw [← h1] at this; exact this)
    intro e
    subst e
    rw [hcg] at hcur
    simp at hcur
   refine ⟨B, h1, ⟨⟨h2.o.st.grown (base := base) (row := some b) (fun j e => by cases e; exact hbb) h2.o.low h2.o.top hg, h2.o.row.kept hg (.inr (by simp [Value.ownBlock]; exact hgb)), h2.o.low, h2.o.top, by rw [World.size_setCell]; exact h2.o.hi⟩, h2.nd, fun j' b' hj' => ?_⟩⟩
   by_cases e : b' = b
   · subst e
     have ej : j' = j := (List.getElem?_inj (List.getElem?_eq_some_iff.1 hj').1 h2.nd).1 (hj'.trans hb.symm)
     subst ej
     have := ownsRow_set hr i (by omega) (.bool u)
     rw [rowV_set] at this
     rw [rowV_ext m (upd2 F j' i u j') (upd1 (F j') i u) (fun k _ => by simp [upd2, upd1])]
     exact this
   · have ne : ¬ j' = j := fun e2 => e (by subst e2; rw [hj'] at hb; exact Option.some.inj hb)
     rw [rowV_ext m (upd2 F j i u j') (F j') (fun k _ => by simp [upd2, ne])]
     exact (h2.row j' b' hj').kept hg (.inr (by simp [Value.ownBlock]; exact e))
/-- A field that another call made. -/
theorem Fld.into {w0 x y : World} {its : List It} {g cap n m : Nat} {F : Nat → Nat → Bool} (hs : St w0 its x) (h : Fld x [] x.heap.size g cap n m F y) : Fld w0 its x.heap.size g cap n m F y := by
 obtain ⟨B, h1, h2⟩ := h
 exact ⟨B, h1, ⟨⟨hs.below h2.o.st.low, h2.o.row, hs.size, hs.top, h2.o.hi⟩, h2.nd, h2.row⟩⟩

theorem infoB : (Try.prog.info? 4).map (fun i => (i.zero, i.size, i.bytes)) = some (some (.bool false), 1, 1) := by kernel_rfl
theorem madeB (m : Nat) : (madeCells (Value.bool false).cells (m * 1)).toList = rowV m (fun _ => false) := by
 refine List.ext_getElem? fun i => ?_
 unfold madeCells rowV
 by_cases h : i < m
 · simp [h, Value.cells, Nat.mod_one]
 · simp [h, Value.cells]
theorem St.quiet {w0 x y : World} {its : List It} (h : St w0 its x) (hg : x.grownBy y none) : Below x.heap.size x y := ⟨hg.os, hg.tape, hg.output, hg.size, fun k hk => hg.block k hk (by simp)⟩
theorem FldB.push {w0 x y w' : World} {its : List It} {base : Nat} {v v' : Value} {B : List Nat} {m : Nat} {F : Nat → Nat → Bool} (h : FldB w0 its base v B m F x) (hy : Below x.heap.size x y) (b : Nat) (hb : x.heap.size ≤ b)
 (hrow : y.ownsRow base 4 1 (.slice (some ⟨b, 0, none⟩) m m) m (rowV m (F B.length))) (ho : StO w0 its base 102 1 (encB m) v' (B ++ [b]) w') (hg : y.grownBy w' v.ownBlock) : FldB w0 its base v' (B ++ [b]) m F w' := by
 have hne : ∀ c xs, y.ownsRow base 4 1 (.slice (some ⟨c, 0, none⟩) m m) m xs → (Value.slice (some ⟨c, 0, none⟩) m m).ownBlock = none ∨ (Value.slice (some ⟨c, 0, none⟩) m m).ownBlock ≠ v.ownBlock := by
  intro c xs hr
  refine .inr fun e => ?_
  obtain ⟨_, _, cur, hcur⟩ := ownsRow_block hr
  rcases (h.o.below hy).row.2 with ⟨rfl, _⟩ | ⟨g', cap', cur', rfl, _, hg', _⟩
  · simp [Value.ownBlock] at e
  · simp only [Value.ownBlock, Option.some.injEq] at e
    subst e
    rw [hcur] at hg'
    simp at hg'
 refine ⟨ho, ?_, fun j c hj => ?_⟩
 · refine List.nodup_append.2 ⟨h.nd, by simp, fun c hc d hd => ?_⟩
   simp at hd
   subst hd
   obtain ⟨j, hj⟩ := List.getElem?_of_mem hc
   have := (ownsRow_block (h.row j c hj)).2.1
   omega
 · rcases Nat.lt_or_ge j B.length with hlt | hge
   · rw [List.getElem?_append_left hlt] at hj
     have := ownsRow_below (h.row j c hj) hy
     exact this.kept hg (hne _ _ this)
   · obtain rfl : j = B.length := by
      have := (List.getElem?_eq_some_iff.1 hj).1
      simp at this
      omega
     rw [List.getElem?_append_right (Nat.le_refl _)] at hj
     simp at hj
     subst hj
     exact hrow.kept hg (hne _ _ hrow)

end Go.Proofs.Ytodpkgbpcpfamaa

/- Layer 6: the document's Row. -/
namespace Go.Proofs.Ytodpkgbpcpfamaa
set_option linter.unusedSimpArgs false
set_option linter.unusedVariables false
open Go.RowKit Go.Shelf

/-- A field that is read. -/
def FldR (w : World) (g n m : Nat) (F : Nat → Nat → Bool) : Prop := g < w.heap.size ∧ ∀ j, j < n → ∃ b, b < w.heap.size ∧ w.cell? ⟨g, j, none⟩ = some (.slice (some ⟨b, 0, none⟩) m m) ∧ ∀ i, i < m → w.cell? ⟨b, i, none⟩ = some (.bool (F j i))
theorem Fld.read {w0 w : World} {its : List It} {base g cap n m : Nat} {F : Nat → Nat → Bool} (h : Fld w0 its base g cap n m F w) : FldR w g n m F := by
 obtain ⟨B, h1, h2⟩ := h
 subst h1
 refine ⟨(ownsRow_block h2.o.row).2.1, fun j hj => ?_⟩
 obtain ⟨b, hb⟩ : ∃ b, B[j]? = some b := ⟨_, List.getElem?_eq_getElem hj⟩
 have hr := h2.row j b hb
 refine ⟨b, (ownsRow_block hr).2.1, ?_, fun i hi => ownsRow_cell hr (rowV_get m _ i hi)⟩
 have := h2.o.cell (encB_len m) j b 0 _ hb rfl
 simpa using this
theorem FldR.below {w w' : World} {g n m : Nat} {F : Nat → Nat → Bool} (h : FldR w g n m F) (hb : Below w.heap.size w w') : FldR w' g n m F := by
 refine ⟨Nat.lt_of_lt_of_le h.1 hb.size, fun j hj => ?_⟩
 obtain ⟨b, h1, h2, h3⟩ := h.2 j hj
 exact ⟨b, Nat.lt_of_lt_of_le h1 hb.size, (hb.cell (p := ⟨g, j, none⟩) h.1).trans h2, fun i hi => (hb.cell (p := ⟨b, i, none⟩) h1).trans (h3 i hi)⟩

set_option maxRecDepth 100000 in
set_option maxHeartbeats 1000000 in
theorem refRow_any (x1 y1 : Int) (n m : Nat) (hn2 : n ≤ 1000) (hm2 : m ≤ 1000) (hx : -1000 ≤ x1 ∧ x1 ≤ 1000) (hy : -1000 ≤ y1 ∧ y1 ≤ 1000) (x2 y2 : Int) (hx2 : x2 = x1 + (m : Int) - 1) (hy2 : y2 = y1 + (n : Int) - 1) (g cap : Nat) (F : Nat → Nat → Bool) (w : World) (hf : FldR w g n m F) :
 Calls Try.prog 45 #[.agg #[.int .i64 x1, .int .i64 y1, .int .i64 x2, .int .i64 y2], .slice (some ⟨g, 0, none⟩) n cap] w fun e w' => ∃ L, RowOf x1 y1 n m F L ∧ GivesRow 33 3 L.length (L.flatMap encS) w e w' := by
 have HS := Lib.hid (St.start w)
 have HF := Lib.hid hf
 have HX := Lib.hid (And.intro hx hy)
 have HX2 := Lib.hid (And.intro hx2 hy2)
 clear hf hx hy hx2 hy2
 go_enter Try.func45, Try.ntmps45
 repeat ((fail_if_success (with_reducible refine stop_at (id := 1) ?_)); (first | go_values | go_skip | go_guarded | go_step | go_upon | go_back | (simp only [Int.not_lt, Int.not_le] at *; go_simp) | (go_values <;> (try go_simp)) | (go_ite <;> go_prune <;> (try go_simp)) | (split <;> (first | (rename_i hx; exact (hx _ rfl).elim) | go_prune))))
 have hs_ := (HS.out.alloc (.cells #[.int .i64 x1, .int .i64 y1, .int .i64 x2, .int .i64 y2] 100))
 obtain ⟨w1, hw_⟩ : ∃ w1 : World, (w.alloc (.cells #[.int .i64 x1, .int .i64 y1, .int .i64 x2, .int .i64 y2] 100)) = w1 := ⟨_, rfl⟩
 rw [hw_] at hs_
 try simp only [World.size_alloc] at hs_
 have HS := Lib.hid hs_
 rw [hw_]
 clear hw_ hs_
 have HO := Lib.hid (StO.start HS.out 33 3 encS)
 obtain ⟨N1, hN1⟩ : ∃ N1, w1.heap.size = N1 := ⟨_, rfl⟩
 rw [hN1] at HO
 have k1 := cell_of_block (k := 1) (HS.out.blockAt 0 rfl) rfl
 go_wp2_with fail
 clear k1 HS
 go_loopw [5, 6] (fun v y wr => ∃ (j : Nat) (L : List SpT), j ≤ n ∧ y = .int .i64 (y1 + (j : Int)) ∧ StO w [.blk w.heap.size (.cells #[.int .i64 x1, .int .i64 y1, .int .i64 x2, .int .i64 y2] 100 (0, 0))] N1 33 3 encS v L wr ∧ RowTo x1 y1 m F L j 0 ∧ L.length ≤ j * m) (fun _ y _ => (y2 + 1 - intOf y).toNat)
 case atStart => exact ⟨0, [], by omega, by simp, HO.out, rowTo_start _ _ _ _, by simp⟩
 case round =>
  obtain ⟨j, L, hj, rfl, ho, ht, hlen⟩ := hrel
  clear HO hN1
  have HO := Lib.hid ho
  have HT := Lib.hid ht
  have HLEN := Lib.hid hlen
  clear ho ht hlen
  have k0 := cell_of_block (k := 0) (HO.out.st.blockAt 0 rfl) rfl
  have k3 := cell_of_block (k := 3) (HO.out.st.blockAt 0 rfl) rfl
  by_cases hlt : y1 + (j : Int) ≤ y2
  · have hjn : j < n := by have := HX2.out; omega
    have HOP := Lib.hid (show OpenTo x1 y1 L j 0 false from fun s hs e => by have := (HT.out.box s hs).2.2.2.2 e; have := (HT.out.box s hs).2.2.1; have := HT.out.row.sp s hs; omega)
    have HJ := Lib.hid hjn
    go_wp2_with fail
    clear k0 k3
    go_loopw [5, 7, 8] (fun v o x wr => ∃ (i : Nat) (L : List SpT) (ob : Bool), i ≤ m ∧ x = .int .i64 (x1 + (i : Int)) ∧ o = .bool ob ∧ StO w [.blk w.heap.size (.cells #[.int .i64 x1, .int .i64 y1, .int .i64 x2, .int .i64 y2] 100 (0, 0))] N1 33 3 encS v L wr ∧ RowTo x1 y1 m F L j i ∧ OpenTo x1 y1 L j i ob ∧ L.length ≤ j * m + i) (fun _ _ x _ => (x2 + 1 - intOf x).toNat)
    case atStart => exact ⟨0, L, false, by omega, by simp, rfl, HO.out, HT.out, HOP.out, by simpa using HLEN.out⟩
    case round =>
     obtain ⟨i, L, ob, hi, rfl, rfl, ho, ht, hop, hlen⟩ := hrel
     clear HO HT HLEN HOP
     have HO := Lib.hid ho
     have HT := Lib.hid ht
     have HOP := Lib.hid hop
     have HLEN := Lib.hid hlen
     clear ho ht hop hlen
     have k2 := cell_of_block (k := 2) (HO.out.st.blockAt 0 rfl) rfl
     by_cases hlt2 : x1 + (i : Int) ≤ x2
     · have him : i < m := by have := HX2.out; omega
       have HI := Lib.hid him
       have e3 : wrap64 (x1 + (i : Int) + 1) = x1 + ((i + 1 : Nat) : Int) := by have := HX.out; unfold wrap64; omega
       obtain ⟨b, hb0, hb1, hb2⟩ := (HF.out.below HO.out.st.low).2 j HJ.out
       have HC := Lib.hid (fun w' (hC : Below wr.heap.size wr w') => And.intro ((hC.cell (p := ⟨g, j, none⟩) (Nat.lt_of_lt_of_le HF.out.1 HO.out.st.low.size)).trans hb1) ((hC.cell (p := ⟨b, i, none⟩) hb0).trans (hb2 i him)))
       clear hb0 hb1 hb2
       obtain ⟨fv, hfv⟩ : ∃ fv, F j i = fv := ⟨_, rfl⟩
       rw [hfv] at HC
       have HFV := Lib.hid hfv
       clear hfv
       go_wp2_with fail
       clear k2
       refine (wpIn_wide (n := 0)).1 ?_
       apply wp_region_vals 14 (Rl := [(eqv _), (eqv _), (eqv _), (eqv _), (eqv _), (eqv _), (eqv _), (eqv _), (eqv _), (eqv _), (eqv _), (eqv _), (eqv _), (eqv _)]) (C := (fun x y => Below wr.heap.size x y))
       case hm => kernel_rfl
       case hk => rfl
       case hCr => exact (fun x => Below.refl _ x)
       case hCt => intro _ _ _; exact (fun h k => h.trans k)
       case hst => exact ⟨fun _ _ _ _ h => h, fun _ _ _ _ h => h, fun _ _ _ _ h => h, fun _ _ _ _ h => h, fun _ _ _ _ h => h, fun _ _ _ _ h => h, fun _ _ _ _ h => h, fun _ _ _ _ h => h, fun _ _ _ _ h => h, fun _ _ _ _ h => h, fun _ _ _ _ h => h, fun _ _ _ _ h => h, fun _ _ _ _ h => h, fun _ _ _ _ h => h, trivial⟩
       case hfo => kernel_rfl
       case ht => kernel_rfl
       case hC0 => exact ((Below.refl _ _).drew)
       case hsteps =>
        refine ⟨?_, ?_, ?_, ?_, ?_, ?_, ?_, ?_, ?_, ?_, ?_, ?_, ?_, ?_, trivial⟩
        · intro a' w' hA hC hD; have s1 : a'.tmps[1]? = some _ := (hA.at 1 (by kernel_rfl)).trans rfl; clear hA hD; refine stepOk_plain rfl ?_; intro K hK; gi_wp2; exact hK _ _ rfl ((fun x => Below.refl _ x) _)
        · intro a' w' hA hC hD; have s6 : a'.tmps[6]? = some _ := (hA.at 6 (by kernel_rfl)).trans rfl; clear hA hD; refine stepOk_plain rfl ?_; intro K hK; gi_wp2; exact hK _ _ rfl ((fun x => Below.refl _ x) _)
        · intro a' w' hA hC hD; have s2 : a'.tmps[2]? = some _ := (hA.at 2 (by kernel_rfl)).trans rfl; clear hA hD; refine stepOk_plain rfl ?_; intro K hK; gi_wp2; exact hK _ _ rfl ((fun x => Below.refl _ x) _)
        · intro a' w' hA hC hD; obtain ⟨u27, s27, r27⟩ := hD ⟨2, .data⟩ (by simp) rfl _ rfl; replace r27 : u27 = _ := r27; subst r27
          have b1 := cell_of_block (k := 1) ((HO.out.st.below hC).blockAt 0 rfl) rfl
          clear hA hD; refine stepOk_plain rfl ?_; intro K hK; gi_wp2; exact hK _ _ rfl ((fun x => Below.refl _ x) _)
        · intro a' w' hA hC hD; obtain ⟨u26, s26, r26⟩ := hD ⟨1, .data⟩ (by simp) rfl _ rfl; replace r26 : u26 = _ := r26; subst r26; obtain ⟨u28, s28, r28⟩ := hD ⟨3, .data⟩ (by simp) rfl _ rfl; replace r28 : u28 = _ := r28; subst r28; clear hA hD; refine stepOk_plain rfl ?_; intro K hK; gi_wp2; rw [(show y1 + (j : Int) - y1 = (j : Int) by omega)]; exact hK _ _ rfl ((fun x => Below.refl _ x) _)
        · intro a' w' hA hC hD; obtain ⟨u25, s25, r25⟩ := hD ⟨0, .data⟩ (by simp) rfl _ rfl; replace r25 : u25 = _ := r25; subst r25; obtain ⟨u29, s29, r29⟩ := hD ⟨4, .data⟩ (by simp) rfl _ rfl; replace r29 : u29 = _ := r29; subst r29; clear hA hD; refine stepOk_plain rfl ?_; intro K hK; gi_wp2; exact hK _ _ rfl ((fun x => Below.refl _ x) _)
        · intro a' w' hA hC hD; obtain ⟨u30, s30, r30⟩ := hD ⟨5, .data⟩ (by simp) rfl _ rfl; replace r30 : u30 = _ := r30; subst r30
          have c1 := (HC.out w' hC).1
          clear hA hD; refine stepOk_plain rfl ?_; intro K hK; gi_wp2; exact hK _ _ rfl ((fun x => Below.refl _ x) _)
        · intro a' w' hA hC hD; have s8 : a'.tmps[8]? = some _ := (hA.at 8 (by kernel_rfl)).trans rfl; clear hA hD; refine stepOk_plain rfl ?_; intro K hK; gi_wp2; exact hK _ _ rfl ((fun x => Below.refl _ x) _)
        · intro a' w' hA hC hD; have s2 : a'.tmps[2]? = some _ := (hA.at 2 (by kernel_rfl)).trans rfl; clear hA hD; refine stepOk_plain rfl ?_; intro K hK; gi_wp2; exact hK _ _ rfl ((fun x => Below.refl _ x) _)
        · intro a' w' hA hC hD; obtain ⟨u33, s33, r33⟩ := hD ⟨8, .data⟩ (by simp) rfl _ rfl; replace r33 : u33 = _ := r33; subst r33
          have b0 := cell_of_block (k := 0) ((HO.out.st.below hC).blockAt 0 rfl) rfl
          clear hA hD; refine stepOk_plain rfl ?_; intro K hK; gi_wp2; exact hK _ _ rfl ((fun x => Below.refl _ x) _)
        · intro a' w' hA hC hD; obtain ⟨u32, s32, r32⟩ := hD ⟨7, .data⟩ (by simp) rfl _ rfl; replace r32 : u32 = _ := r32; subst r32; obtain ⟨u34, s34, r34⟩ := hD ⟨9, .data⟩ (by simp) rfl _ rfl; replace r34 : u34 = _ := r34; subst r34; clear hA hD; refine stepOk_plain rfl ?_; intro K hK; gi_wp2; rw [(show x1 + (i : Int) - x1 = (i : Int) by omega)]; exact hK _ _ rfl ((fun x => Below.refl _ x) _)
        · intro a' w' hA hC hD; obtain ⟨u31, s31, r31⟩ := hD ⟨6, .data⟩ (by simp) rfl _ rfl; replace r31 : u31 = _ := r31; subst r31; obtain ⟨u35, s35, r35⟩ := hD ⟨10, .data⟩ (by simp) rfl _ rfl; replace r35 : u35 = _ := r35; subst r35; clear hA hD; refine stepOk_plain rfl ?_; intro K hK; gi_wp2; exact hK _ _ rfl ((fun x => Below.refl _ x) _)
        · intro a' w' hA hC hD; obtain ⟨u36, s36, r36⟩ := hD ⟨11, .data⟩ (by simp) rfl _ rfl; replace r36 : u36 = _ := r36; subst r36
          have c2 := (HC.out w' hC).2
          clear hA hD; refine stepOk_plain rfl ?_; intro K hK; gi_wp2; exact hK _ _ rfl ((fun x => Below.refl _ x) _)
        · intro a' w' hA hC hD; obtain ⟨u37, s37, r37⟩ := hD ⟨12, .data⟩ (by simp) rfl _ rfl; replace r37 : u37 = _ := r37; subst r37; clear hA hD; refine stepOk_plain rfl ?_; intro K hK; gi_wp2; exact hK _ _ rfl ((fun x => Below.refl _ x) _)
       case hend =>
        intro w3 hC
        simp only [EndFrom, eqv, forall_eq, Act.put, List.length_cons, List.length_nil, List.drop_succ_cons, List.drop_zero, Nat.reduceAdd, List.setIfInBounds_toArray, List.set_cons_succ, List.set_cons_zero]
        have HW := Lib.hid (HO.out.below hC)
        clear hC HO HC
        gi_wp2
        cases fv
        · have HR := Lib.hid (HT.out.skip HI.out HFV.out)
          go_wp2_with fail
          go_roundw
          case rel => exact ⟨i + 1, L, false, by omega, by simp; omega, rfl, HW.out, HR.out.1, HR.out.2, by have := HLEN.out; omega⟩
          case measure => simp [intOf]; omega
        · cases ob
          · have HR := Lib.hid (HT.out.new HI.out HFV.out HOP.out)
            have HLB := Lib.hid (show L.length < 1000000000 by
             have := HLEN.out
             have h1 := HJ.out
             have h2 : j * m ≤ 1000 * 1000 := Nat.mul_le_mul (by omega) hm2
             omega)
            have wl : wrap64 (L.length : Int) = (L.length : Int) := by have := HLB.out; unfold wrap64; omega
            go_wp2_with (at_builtin; refine wpList_app1 rowS encS_len encS_one HW.out (Below.refl _ _) ⟨y1 + (j : Int), x1 + (i : Int), x1 + (i : Int)⟩ _ rfl HLB.out (by decide) _ _ rfl rfl rfl _ rfl rfl ?_; rintro v' w5 ho5 ⟨ad5, cp5, rfl⟩; obtain ⟨g5, rfl, -⟩ := ho5.head; have c5 := ho5.cell encS_len L.length ⟨y1 + (j : Int), x1 + (i : Int), x1 + (i : Int)⟩ 2 (.int .i64 (x1 + (i : Int))) (by simp) rfl; have f5 := ho5.free (L.length * 3 + 2); have HO5 := Lib.hid ho5; clear ho5)
            go_roundw
            case rel => exact ⟨i + 1, _, true, by omega, by simp; omega, rfl, HO5.out.setLast encS_len ⟨y1 + (j : Int), x1 + (i : Int), x1 + (i : Int)⟩ 2 _ (by omega) rfl, HR.out.1, HR.out.2, by have := HLEN.out; simp; omega⟩
            case measure => simp [intOf]; omega
          · obtain ⟨L0, s, rfl, hsy, hst⟩ := HOP.out
            have HR := Lib.hid (HT.out.open HI.out HFV.out rfl hsy hst)
            have hl0 : (L0 ++ [s]).length = L0.length + 1 := by simp
            have HLB := Lib.hid (show L0.length < 1000000000 by
             have := HLEN.out
             rw [hl0] at this
             have h1 := HJ.out
             have h2 : j * m ≤ 1000 * 1000 := Nat.mul_le_mul (by omega) hm2
             omega)
            have HL := Lib.hid hl0
            obtain ⟨ad, cp, hv, hg⟩ := HW.out.shape
            rw [hl0] at hv hg
            obtain ⟨g5, rfl⟩ := hg.resolve_left (by omega)
            subst hv
            have wl : wrap64 (L0.length : Int) = (L0.length : Int) := by have := HLB.out; unfold wrap64; omega
            have c5 := HW.out.cell encS_len L0.length s 2 (.int .i64 s.t) (by simp) rfl
            have f5 := HW.out.free (L0.length * 3 + 2)
            clear hsy hst hl0 hg
            go_wp2_with fail
            go_roundw
            case rel => exact ⟨i + 1, _, true, by omega, by simp; omega, rfl, HW.out.setLast encS_len ⟨s.y, s.f, x1 + (i : Int)⟩ 2 _ (by omega) rfl, HR.out.1, HR.out.2, by have := HLEN.out; rw [HL.out] at this; simp; omega⟩
            case measure => simp [intOf]; omega
     · have him : i = m := by have := HX2.out; omega
       subst him
       have HD := Lib.hid HT.out.down
       clear hi
       have e4 : wrap64 (y1 + (j : Int) + 1) = y1 + ((j + 1 : Nat) : Int) := by have := HX.out; have := HJ.out; unfold wrap64; omega
       go_wp2_with fail
       go_roundw
       case rel => exact ⟨j + 1, L, HJ.out, by simp; omega, HO.out, HD.out.1, by have := HLEN.out; rw [Nat.add_one_mul]; exact this⟩
       case measure => simp [intOf]; omega
  · have hjn : j = n := by have := HX2.out; omega
    subst hjn
    clear hj
    go_wp2_with fail
    go_ret
    exact ⟨L, HT.out.rowOf, _, rfl, ownsRow_mono HO.out.row HO.out.low, HO.out.st.low⟩
end Go.Proofs.Ytodpkgbpcpfamaa

/- Layer 6: the document's Rect. -/
namespace Go.Proofs.Ytodpkgbpcpfamaa
set_option linter.unusedSimpArgs false
set_option linter.unusedVariables false
open Go.RowKit Go.Shelf

/-- L is THE row of spans of the places of which P holds. -/
structure SetRow (P : PtT → Prop) (L : List SpT) : Prop where
 row : RowP L
 has : ∀ p, hasB L p = true ↔ P p
theorem SetRow.unique {P : PtT → Prop} {L M : List SpT} (h : SetRow P L) (k : SetRow P M) : L = M := rowP_unique h.row k.row fun p => (h.has p).trans (k.has p).symm
theorem SetRow.congr {P Q : PtT → Prop} {L : List SpT} (h : SetRow P L) (e : ∀ p, P p ↔ Q p) : SetRow Q L := ⟨h.row, fun p => (h.has p).trans (e p)⟩
theorem RowOf.setRow {x1 y1 : Int} {n m : Nat} {F : Nat → Nat → Bool} {L : List SpT} {P : PtT → Prop} (h : RowOf x1 y1 n m F L) (hin : ∀ p, P p → (y1 ≤ p.y ∧ p.y < y1 + n) ∧ (x1 ≤ p.x ∧ p.x < x1 + m)) (hF : ∀ r c : Nat, F r c = true ↔ P ⟨x1 + c, y1 + r⟩) : SetRow P L := by
 refine ⟨h.row, fun p => (h.has p).trans ?_⟩
 have key : ∀ p : PtT, (y1 ≤ p.y ∧ x1 ≤ p.x) → (F (p.y - y1).toNat (p.x - x1).toNat = true ↔ P p) := fun p hp => by
  rw [hF]
  have e1 : x1 + ((p.x - x1).toNat : Int) = p.x := by omega
  have e2 : y1 + ((p.y - y1).toNat : Int) = p.y := by omega
  rw [e1, e2]
 constructor
 · rintro ⟨a, b, c⟩; exact (key p ⟨a.1, b.1⟩).1 c
 · intro hp; obtain ⟨a, b⟩ := hin p hp; exact ⟨a, b, (key p ⟨a.1, b.1⟩).2 hp⟩
theorem upd2_true {F : Nat → Nat → Bool} {j i a b : Nat} : upd2 F j i true a b = true ↔ (a = j ∧ b = i) ∨ F a b = true := by
 unfold upd2
 by_cases h : a = j ∧ b = i
 · simp [h]
 · rw [if_neg h]; simp [h]

/-- The places of a rectangle. -/
def RectP (a b p : PtT) : Prop := (min a.x b.x ≤ p.x ∧ p.x ≤ max a.x b.x) ∧ (min a.y b.y ≤ p.y ∧ p.y ≤ max a.y b.y)
/-- a number on the way from a to b -/
theorem way_at {a b : Int} {j : Nat} (hj : (j : Int) ≤ wayN a b) : min a b ≤ a + sideN a b * (j : Int) ∧ a + sideN a b * (j : Int) ≤ max a b ∧ sideN a b * (j : Int) = a + sideN a b * (j : Int) - a ∧ -(j : Int) ≤ sideN a b * (j : Int) ∧ sideN a b * (j : Int) ≤ (j : Int) := by
 unfold wayN at hj
 unfold sideN
 by_cases h : b < a
 · rw [if_pos h] at hj ⊢; omega
 · rw [if_neg h] at hj ⊢; omega
theorem way_back {a b c : Int} (h1 : min a b ≤ c) (h2 : c ≤ max a b) : ∃ j : Nat, (j : Int) ≤ wayN a b ∧ c = a + sideN a b * (j : Int) := by
 unfold wayN sideN
 by_cases h : b < a
 · rw [if_pos h, if_pos h]; exact ⟨(a - c).toNat, by omega, by omega⟩
 · rw [if_neg h, if_neg h]; exact ⟨(c - a).toNat, by omega, by omega⟩
/-- So far: J whole rows, and I places of the next. -/
def RectF (a b : PtT) (J I : Nat) (F : Nat → Nat → Bool) : Prop := ∀ r c : Nat, F r c = true ↔ ∃ j i : Nat, (j < J ∨ j = J ∧ i < I) ∧ (i : Int) ≤ wayN a.x b.x ∧ -79 + (r : Int) = a.y + sideN a.y b.y * (j : Int) ∧ -79 + (c : Int) = a.x + sideN a.x b.x * (i : Int)
theorem RectF.step {a b : PtT} {J I R C : Nat} {F : Nat → Nat → Bool} (h : RectF a b J I F) (hI : (I : Int) ≤ wayN a.x b.x) (hR : -79 + (R : Int) = a.y + sideN a.y b.y * (J : Int)) (hC : -79 + (C : Int) = a.x + sideN a.x b.x * (I : Int)) : RectF a b J (I + 1) (upd2 F R C true) := by
 intro r c
 rw [upd2_true, h r c]
 constructor
 · rintro (⟨rfl, rfl⟩ | ⟨j, i, h1, h2, h3, h4⟩)
   · exact ⟨J, I, .inr ⟨rfl, by omega⟩, hI, hR, hC⟩
   · exact ⟨j, i, by omega, h2, h3, h4⟩
 · rintro ⟨j, i, h1, h2, h3, h4⟩
   by_cases e : j = J ∧ i = I
   · obtain ⟨rfl, rfl⟩ := e
     left; omega
   · right; exact ⟨j, i, by omega, h2, h3, h4⟩
theorem RectF.down {a b : PtT} {J I : Nat} {F : Nat → Nat → Bool} (h : RectF a b J I F) (hI : (I : Int) = wayN a.x b.x + 1) : RectF a b (J + 1) 0 F := by
 intro r c
 rw [h r c]
 constructor
 · rintro ⟨j, i, h1, h2, h3, h4⟩; exact ⟨j, i, by omega, h2, h3, h4⟩
 · rintro ⟨j, i, h1, h2, h3, h4⟩; exact ⟨j, i, by omega, h2, h3, h4⟩
theorem RectF.all {a b : PtT} {J : Nat} {F : Nat → Nat → Bool} (h : RectF a b J 0 F) (hJ : (J : Int) = wayN a.y b.y + 1) (r c : Nat) : F r c = true ↔ RectP a b ⟨-79 + (c : Int), -79 + (r : Int)⟩ := by
 rw [h r c]
 unfold RectP
 constructor
 · rintro ⟨j, i, h1, h2, h3, h4⟩
   simp only
   rw [h3, h4]
   have a1 := way_at h2
   have a2 := way_at (a := a.y) (b := b.y) (j := j) (by omega)
   exact ⟨⟨a1.1, a1.2.1⟩, a2.1, a2.2.1⟩
 · rintro ⟨⟨h1, h2⟩, h3, h4⟩
   obtain ⟨i, i1, i2⟩ := way_back h1 h2
   obtain ⟨j, j1, j2⟩ := way_back h3 h4
   exact ⟨j, i, by omega, i1, j2, i2⟩
end Go.Proofs.Ytodpkgbpcpfamaa

/- Layer 6, plain: rows that are merged. -/
namespace Go.Proofs.Ytodpkgbpcpfamaa
set_option linter.unusedSimpArgs false
set_option linter.unusedVariables false
open Go.RowKit Go.Shelf

theorem GrOf_mem {L : List SpT} {y : Int} {s : SpT} : s ∈ GrOf L y ↔ s ∈ L ∧ s.y = y := by simp [GrOf]
theorem hasB_GrOf (L : List SpT) (p : PtT) : hasB (GrOf L p.y) p = hasB L p := by
 rw [Bool.eq_iff_iff, hasB_iff, hasB_iff]
 constructor
 · rintro ⟨s, hs, h⟩; exact ⟨s, (GrOf_mem.1 hs).1, h⟩
 · rintro ⟨s, hs, h⟩; exact ⟨s, GrOf_mem.2 ⟨hs, h.1⟩, h⟩
theorem hasB_perm {l m : List SpT} (h : l.Perm m) (p : PtT) : hasB l p = hasB m p := by
 rw [Bool.eq_iff_iff, hasB_iff, hasB_iff]
 exact ⟨fun ⟨s, hs, k⟩ => ⟨s, h.mem_iff.1 hs, k⟩, fun ⟨s, hs, k⟩ => ⟨s, h.mem_iff.2 hs, k⟩⟩
/-- R is the row of the spans 'done', all of one Y. -/
structure MgTo (y : Int) (dn R : List SpT) : Prop where
 row : RowP R
 y_ : ∀ r ∈ R, r.y = y
 f_ : ∀ r ∈ R, ∃ q ∈ dn, q.f = r.f
 t_ : ∀ r ∈ R, ∃ q ∈ dn, q.t = r.t
 has : ∀ p, hasB R p = true ↔ hasB dn p = true
 len : R.length ≤ dn.length
theorem MgTo.new {y : Int} {dn R : List SpT} {s : SpT} (h : MgTo y dn R) (hy : s.y = y) (hft : s.f ≤ s.t) (hgt : ∀ R0 r, R = R0 ++ [r] → r.t + 1 < s.f) : MgTo y (dn ++ [s]) (R ++ [s]) := by
 have hall : ∀ q ∈ R, q.t + 1 < s.f := by
  intro q hq
  rcases List.eq_nil_or_concat R with e | ⟨R0, r, e⟩
  · rw [e] at hq; cases hq
  · have e' : R = R0 ++ [r] := by rw [e, List.concat_eq_append]
    have h1 := hgt R0 r e'
    rw [e'] at hq
    rcases List.mem_append.1 hq with hq | hq
    · have ho := h.row.ord
      rw [e'] at ho
      have h2 := (List.pairwise_append.1 ho).2.2 q hq r (by simp)
      have h3 := h.y_ q (by rw [e']; simp [hq])
      have h4 := h.y_ r (by rw [e']; simp)
      have h5 := h.row.sp r (by rw [e']; simp)
      unfold ordP at h2
      omega
    · simp at hq; subst hq; exact h1
 refine ⟨⟨fun q hq => ?_, List.pairwise_append.2 ⟨h.row.ord, List.pairwise_singleton _ _, fun q hq x hx => ?_⟩⟩, fun q hq => ?_, fun q hq => ?_, fun q hq => ?_, fun p => ?_, ?_⟩
 · rcases List.mem_append.1 hq with hq | hq
   · exact h.row.sp q hq
   · simp at hq; subst hq; exact hft
 · simp at hx; subst hx
   have h1 := hall q hq
   have h2 := h.y_ q hq
   unfold ordP; omega
 · rcases List.mem_append.1 hq with hq | hq
   · exact h.y_ q hq
   · simp at hq; subst hq; exact hy
 · rcases List.mem_append.1 hq with hq | hq
   · obtain ⟨a, b, c⟩ := h.f_ q hq; exact ⟨a, by simp [b], c⟩
   · simp at hq; subst hq; exact ⟨q, by simp, rfl⟩
 · rcases List.mem_append.1 hq with hq | hq
   · obtain ⟨a, b, c⟩ := h.t_ q hq; exact ⟨a, by simp [b], c⟩
   · simp at hq; subst hq; exact ⟨q, by simp, rfl⟩
 · rw [hasB_app, hasB_app, Bool.or_eq_true, Bool.or_eq_true, h.has p]
 · have := h.len; simp; omega

/-- M is the row of the spans of L of the first k Y. -/
structure RowK (L : List SpT) (ks : List Int) (k : Nat) (M : List SpT) : Prop where
 row : RowP M
 y_ : ∀ r ∈ M, r.y ∈ ks.take k
 has : ∀ p, hasB M p = true ↔ p.y ∈ ks.take k ∧ hasB L p = true
 t_ : ∀ r ∈ M, ∃ q ∈ L, q.t = r.t
 len : M.length ≤ ((ks.take k).map fun y => (GrOf L y).length).sum
theorem RowK.step {L : List SpT} {ks : List Int} {k : Nat} {M R s : List SpT} {y : Int} (h : RowK L ks k M) (hks : ks.Pairwise (fun x y => x < y)) (hy : ks[k]? = some y) (hp : s.Perm (GrOf L y)) (hm : MgTo y s R) : RowK L ks (k + 1) (M ++ R) := by
 have ht : ks.take (k + 1) = ks.take k ++ [y] := by rw [List.take_add_one, hy]; simp
 have hlt : ∀ z ∈ ks.take k, z < y := by
  intro z hz
  have hks' := hks
  rw [← List.take_append_drop (k + 1) ks, ht] at hks'
  exact (List.pairwise_append.1 (List.pairwise_append.1 hks').1).2.2 z hz y (by simp)
 refine ⟨⟨fun q hq => ?_, List.pairwise_append.2 ⟨h.row.ord, hm.row.ord, fun q hq x hx => ?_⟩⟩, fun q hq => ?_, fun p => ?_, fun q hq => ?_, ?_⟩
 · rcases List.mem_append.1 hq with hq | hq
   · exact h.row.sp q hq
   · exact hm.row.sp q hq
 · have h1 := hlt _ (h.y_ q hq)
   have h2 := hm.y_ x hx
   unfold ordP; omega
 · rw [ht]
   rcases List.mem_append.1 hq with hq | hq
   · simp [h.y_ q hq]
   · simp [hm.y_ q hq]
 · rw [hasB_app, Bool.or_eq_true, h.has p, hm.has p, hasB_perm hp, ht]
   simp only [List.mem_append, List.mem_singleton]
   constructor
   · rintro (⟨a, b⟩ | a)
     · exact ⟨.inl a, b⟩
     · obtain ⟨q, hq, k1, k2, k3⟩ := (hasB_iff _ _).1 a
       have := GrOf_mem.1 hq
       have e : p.y = y := by omega
       refine ⟨.inr e, ?_⟩
       rw [← hasB_GrOf, e]; exact a
   · rintro ⟨a | a, b⟩
     · exact .inl ⟨a, b⟩
     · right; rw [← a, hasB_GrOf]; exact b
 · rcases List.mem_append.1 hq with hq | hq
   · exact h.t_ q hq
   · obtain ⟨a, b, c⟩ := hm.t_ q hq
     exact ⟨a, (GrOf_mem.1 (hp.mem_iff.1 b)).1, c⟩
 · have h1 := h.len
   have h2 := hm.len
   have h3 := hp.length_eq
   rw [ht, List.map_append, List.sum_append, List.length_append]
   simp only [List.map_cons, List.map_nil, List.sum_cons, List.sum_nil]
   omega
theorem RowK.setRow {L : List SpT} {ks : List Int} {M : List SpT} (h : RowK L ks ks.length M) (hk : ∀ s ∈ L, s.y ∈ ks) : SetRow (fun p => hasB L p = true) M := by
 refine ⟨h.row, fun p => (h.has p).trans ?_⟩
 rw [List.take_length]
 refine ⟨fun ⟨_, b⟩ => b, fun b => ⟨?_, b⟩⟩
 obtain ⟨s, hs, h1, _⟩ := (hasB_iff _ _).1 b
 rw [← h1]; exact hk s hs
end Go.Proofs.Ytodpkgbpcpfamaa

/- Layer 6: the document's Union, Sweep. -/
namespace Go.Proofs.Ytodpkgbpcpfamaa
set_option linter.unusedSimpArgs false
set_option linter.unusedVariables false
open Go.RowKit Go.Shelf

/-- A slice of rows of spans. -/
def RowsR (w : World) (a : Option Addr) (ls : List (List SpT)) : Prop := ∀ k l, ls[k]? = some l → ∃ b off a' cap', a = some ⟨b, off, none⟩ ∧ b < w.heap.size ∧ w.cell? ⟨b, off + k, none⟩ = some (.slice a' l.length cap') ∧ Elems w (.slice a' l.length cap') l.length 3 (rowC encS l)
theorem RowsR.below {w w' : World} {a : Option Addr} {ls : List (List SpT)} (h : RowsR w a ls) (hb : Below w.heap.size w w') : RowsR w' a ls := fun k l hk => by
 obtain ⟨b, off, a', cap', h1, h2, h3, h4⟩ := h k l hk
 exact ⟨b, off, a', cap', h1, Nat.lt_of_lt_of_le h2 hb.size, (hb.cell (p := ⟨b, off + k, none⟩) h2).trans h3, h4.below hb⟩
/-- The field of the places of a row. -/
def UnF (M : List SpT) (F : Nat → Nat → Bool) : Prop := ∀ r c : Nat, F r c = true ↔ hasB M ⟨-256 + (c : Int), -256 + (r : Int)⟩ = true
theorem UnF.begin {M : List SpT} {F : Nat → Nat → Bool} (h : UnF M F) (y f : Int) : UnF (M ++ [⟨y, f, f - 1⟩]) F := fun r c => by
 rw [h r c, hasB_app, hasB_one, Bool.or_eq_true]
 simp only [inB, decide_eq_true_eq]
 constructor
 · exact .inl
 · rintro (h | ⟨h1, h2, h3⟩)
   · exact h
   · omega
theorem UnF.step {M : List SpT} {F : Nat → Nat → Bool} {y f x : Int} {R C : Nat} (h : UnF (M ++ [⟨y, f, x - 1⟩]) F) (hf : f ≤ x) (hR : -256 + (R : Int) = y) (hC : -256 + (C : Int) = x) : UnF (M ++ [⟨y, f, x⟩]) (upd2 F R C true) := fun r c => by
 have := h r c
 rw [hasB_app, hasB_one, Bool.or_eq_true] at this
 rw [upd2_true, this, hasB_app, hasB_one, Bool.or_eq_true]
 simp only [inB, decide_eq_true_eq]
 constructor
 · rintro (⟨rfl, rfl⟩ | h | ⟨h1, h2, h3⟩)
   · right; omega
   · exact .inl h
   · right; omega
 · rintro (h | ⟨h1, h2, h3⟩)
   · exact .inr (.inl h)
   · by_cases e : -256 + (c : Int) = x
     · left; omega
     · right; right; omega
theorem UnF.same {M : List SpT} {F : Nat → Nat → Bool} {s : SpT} {t : Int} (h : UnF (M ++ [⟨s.y, s.f, t⟩]) F) (ht : t = s.t) : UnF (M ++ [s]) F := by subst ht; exact h
end Go.Proofs.Ytodpkgbpcpfamaa

/- Layer 6: the document's Sweep. -/
namespace Go.Proofs.Ytodpkgbpcpfamaa
set_option linter.unusedSimpArgs false
set_option linter.unusedVariables false
open Go.RowKit Go.Shelf

theorem le_of_sq {x s : Int} (hs : 0 ≤ s) (h : x * x ≤ s * s) : x ≤ s := by
 refine Int.not_lt.1 fun hlt => ?_
 have h1 : s * s < x * x := Int.lt_of_lt_of_le (Int.mul_lt_mul_of_pos_left hlt (show 0 < s + 1 by omega) |> fun h => (by
  have h2 : (s + 1) * (s + 1) ≤ x * x := Int.mul_le_mul (by omega) (by omega) (by omega) (by omega)
  have h3 : s * s < (s + 1) * (s + 1) := by
   have : (s + 1) * (s + 1) = s * s + 2 * s + 1 := by rw [Int.add_mul, Int.mul_add]; omega
   omega
  exact Int.lt_of_lt_of_le h3 h2)) (Int.le_refl _)
 omega
theorem inRef_in {size : Int} {round : Bool} {c p : PtT} (hs : 0 ≤ size) (h : inRef size round c p = true) : (c.x - size ≤ p.x ∧ p.x ≤ c.x + size) ∧ (c.y - size ≤ p.y ∧ p.y ≤ c.y + size) := by
 have key : wayN c.x p.x ≤ size ∧ wayN c.y p.y ≤ size := by
  unfold inRef at h
  cases round
  · simpa using h
  · simp only [cond_true, decide_eq_true_eq] at h
    have h1 := Int.mul_nonneg (wayN_nonneg c.x p.x) (wayN_nonneg c.x p.x)
    have h2 := Int.mul_nonneg (wayN_nonneg c.y p.y) (wayN_nonneg c.y p.y)
    exact ⟨le_of_sq hs (by omega), le_of_sq hs (by omega)⟩
 unfold wayN at key
 split at key <;> split at key <;> omega
/-- The field of the places of which Q holds. -/
def SwF (Q : PtT → Prop) (F : Nat → Nat → Bool) : Prop := ∀ r c : Nat, F r c = true ↔ Q ⟨-79 + (c : Int), -79 + (r : Int)⟩
theorem SwF.congr {Q Q' : PtT → Prop} {F : Nat → Nat → Bool} (h : SwF Q F) (e : ∀ p, Q p ↔ Q' p) : SwF Q' F := fun r c => (h r c).trans (e _)
/-- What the places M sweep, and the place c so far. -/
def SwQ (size : Int) (round : Bool) (M : List PtT) (c : PtT) (y x : Int) (p : PtT) : Prop := (∃ c' ∈ M, inRef size round c' p = true) ∨ (inRef size round c p = true ∧ (p.y < y ∨ p.y = y ∧ p.x < x))
def SwM (size : Int) (round : Bool) (M : List PtT) (p : PtT) : Prop := ∃ c' ∈ M, inRef size round c' p = true
section
variable {size : Int} {round : Bool} {M : List PtT} {c : PtT} {y x : Int} {F : Nat → Nat → Bool}
theorem SwF.begin (h : SwF (SwM size round M) F) (hs : 0 ≤ size) : SwF (SwQ size round M c (c.y - size) (c.x - size)) F := h.congr fun p => by
 unfold SwM SwQ
 constructor
 · exact .inl
 · rintro (h | ⟨h1, h2⟩)
   · exact h
   · have := inRef_in hs h1; omega
theorem SwF.step (h : SwF (SwQ size round M c y x) F) {R C : Nat} (hR : -79 + (R : Int) = y) (hC : -79 + (C : Int) = x) (hi : inRef size round c ⟨x, y⟩ = true) : SwF (SwQ size round M c y (x + 1)) (upd2 F R C true) := fun r k => by
 rw [upd2_true, h r k]
 unfold SwQ
 simp only
 constructor
 · rintro (⟨rfl, rfl⟩ | h | ⟨h1, h2⟩)
   · right; rw [hR, hC]; exact ⟨hi, by omega⟩
   · exact .inl h
   · exact .inr ⟨h1, by omega⟩
 · rintro (h | ⟨h1, h2⟩)
   · exact .inr (.inl h)
   · by_cases e : -79 + (r : Int) = y ∧ -79 + (k : Int) = x
     · left; omega
     · right; right; exact ⟨h1, by omega⟩
theorem SwF.skip (h : SwF (SwQ size round M c y x) F) (hi : inRef size round c ⟨x, y⟩ = false) : SwF (SwQ size round M c y (x + 1)) F := h.congr fun p => by
 unfold SwQ
 constructor
 · rintro (h | ⟨h1, h2⟩)
   · exact .inl h
   · exact .inr ⟨h1, by omega⟩
 · rintro (h | ⟨h1, h2⟩)
   · exact .inl h
   · refine .inr ⟨h1, ?_⟩
     by_cases e : p.y = y ∧ p.x = x
     · obtain ⟨px, py⟩ := p
       simp only at e
       rw [e.1, e.2, hi] at h1
       cases h1
     · omega
theorem SwF.down (h : SwF (SwQ size round M c y (c.x + size + 1)) F) (hs : 0 ≤ size) : SwF (SwQ size round M c (y + 1) (c.x - size)) F := h.congr fun p => by
 unfold SwQ
 constructor
 · rintro (h | ⟨h1, h2⟩)
   · exact .inl h
   · exact .inr ⟨h1, by omega⟩
 · rintro (h | ⟨h1, h2⟩)
   · exact .inl h
   · have := inRef_in hs h1; exact .inr ⟨h1, by omega⟩
theorem SwF.done {q : Int} (h : SwF (SwQ size round M c (c.y + size + 1) q) F) (hs : 0 ≤ size) : SwF (SwM size round (M ++ [c])) F := h.congr fun p => by
 unfold SwM SwQ
 constructor
 · rintro (⟨c', h1, h2⟩ | ⟨h1, h2⟩)
   · exact ⟨c', by simp [h1], h2⟩
   · exact ⟨c, by simp, h1⟩
 · rintro ⟨c', h1, h2⟩
   rcases List.mem_append.1 h1 with h1 | h1
   · exact .inl ⟨c', h1, h2⟩
   · simp at h1; subst h1
     have := inRef_in hs h2
     exact .inr ⟨h2, by omega⟩
end
end Go.Proofs.Ytodpkgbpcpfamaa

/- cmp.Compare at ints. -/
namespace Go.Proofs.Ytodpkgbpcpfamaa
set_option linter.unusedSimpArgs false
set_option linter.unusedVariables false
open Go.RowKit Go.Shelf
end Go.Proofs.Ytodpkgbpcpfamaa

/- Layer 6: rows.row. -/
namespace Go.Proofs.Ytodpkgbpcpfamaa
set_option linter.unusedSimpArgs false
set_option linter.unusedVariables false
open Go.RowKit Go.Shelf Go.Maps

theorem GrD.turn {w w' : World} {base b n : Nat} {D : DataW Value} {F : Int → Value} {G : Int → List SpT} (h : GrD w base b n D F G) {y : Int} (hy : inK y) (hg : w.grownBy w' (F y).ownBlock) {s : List SpT} (hrow : w'.ownsRow base 33 3 (F y) s.length (s.flatMap encS)) (hs : s ≠ [] ↔ G y ≠ []) :
 GrD w' base b n D F (fun z => if z = y then s else G z) := by
 have hbF : some b ≠ (F y).ownBlock := fun e => by have := ((h.row y hy).lt b e.symm).1; have := h.lt; omega
 refine ⟨h.map.kept hg hbF, h.at_, fun z hz => ?_, h.apart, fun z hz => ?_, h.only, h.lt⟩
 · by_cases e : z = y
   · subst e; simp only [if_true]; exact hrow
   · simp only [if_neg e]
     refine (h.row z hz).kept hg ?_
     cases hv : (F z).ownBlock with
     | none => exact .inl rfl
     | some j => exact .inr fun e' => h.apart z y j hz hy e hv e'.symm
 · by_cases e : z = y
   · subst e; simp only [if_true]; rw [h.has z hz]; exact hs.symm
   · simp only [if_neg e]; exact h.has z hz
theorem GrD.other {w w' : World} {base b n : Nat} {D : DataW Value} {F : Int → Value} {G : Int → List SpT} (h : GrD w base b n D F G) {row : Option Nat} (hg : w.grownBy w' row) (hb : some b ≠ row) (hr : ∀ z, inK z → (F z).ownBlock = none ∨ (F z).ownBlock ≠ row) : GrD w' base b n D F G :=
 ⟨h.map.kept hg hb, h.at_, fun z hz => (h.row z hz).kept hg (hr z hz), h.apart, h.has, h.only, h.lt⟩

end Go.Proofs.Ytodpkgbpcpfamaa

/- Layer 6: about. -/
namespace Go.Proofs.Ytodpkgbpcpfamaa
set_option linter.unusedSimpArgs false
set_option linter.unusedVariables false
open Go.RowKit Go.Shelf
attribute [local go_sem] Oper.semAt_some

end Go.Proofs.Ytodpkgbpcpfamaa

/- Layer 6: what stays while rows grow; a range over an iterator whose value gets a box. -/
namespace Go.Proofs.Ytodpkgbpcpfamaa
set_option linter.unusedSimpArgs false
set_option linter.unusedVariables false
open Go.RowKit Go.Shelf Go.Maps

/-- A kept thing lies apart from S. -/
def It.free (S : Nat → Prop) : It → Prop
 | .blk p _ => ¬ S p
 | .row _ _ _ _ hi => ∀ k, S k → hi ≤ k
theorem St.turned {w0 x y : World} {its : List It} {S : Nat → Prop} (h : St w0 its x) (ht : Turned S x y) (h0 : ∀ k, S k → w0.heap.size ≤ k) (hf : ∀ i ∈ its, i.free S) : St w0 its y := by
 refine ⟨h.low.trans (ht.below h.low.size h0), fun i hi => ?_, h.ord, fun i hi => Nat.le_trans (h.top i hi) ht.size⟩
 have hok := h.ok i hi
 have hfi := hf i hi
 cases i with
 | blk p o => exact (ht.block p (block_lt hok) hfi).trans hok
 | row v n size c hi' =>
  refine ⟨?_, hok.2⟩
  rcases hok.1 with e | ⟨b, off, cap, rfl, hlt, hc⟩
  · exact .inl e
  · refine .inr ⟨b, off, cap, rfl, Nat.lt_of_lt_of_le hlt ht.size, fun j hj => ?_⟩
    by_cases hn : n = 0
    · subst hn; omega
    · have hbb := (hok.2 _ _ _ rfl).resolve_left hn
      rw [← hc j hj]
      exact World.cell?_of_block (ht.block b hlt (fun hs => by have := hfi b hs; simp at hbb; omega))

theorem keepsFrom_below {B : Nat} {x y : World} (h : Below x.heap.size x y) : KeepsFrom B x y := (show KeepsOthers x y from ⟨h.size, fun j o hj _ => (h.block j (block_lt hj)).trans hj⟩).from B

/-- The state of a call that puts spans into a map of rows; no row lies in a block of bs. -/
structure GrS (w0 : World) (its : List It) (bs : List Nat) (base b : Nat) (L : List SpT) (W : World) : Prop where
 st : St w0 its W
 gr : ∃ n D F, n ≤ L.length ∧ GrD W base b n D F (GrOf L) ∧ ∀ z, inK z → ∀ j, (F z).ownBlock = some j → base ≤ j ∧ j ∉ bs
 hi : base ≤ W.heap.size
theorem GrS.below {w0 x y : World} {its : List It} {bs : List Nat} {base b : Nat} {L : List SpT} (h : GrS w0 its bs base b L x) (hb : Below x.heap.size x y) : GrS w0 its bs base b L y := by
 obtain ⟨n, D, F, h1, h2, h3⟩ := h.gr
 exact ⟨h.st.below hb, ⟨n, D, F, h1, h2.kept hb, h3⟩, Nat.le_trans h.hi hb.size⟩
/-- Blocks that are there, and that no row uses, may be added. -/
theorem GrS.more {w0 x : World} {its : List It} {bs bs' : List Nat} {base b : Nat} {L : List SpT} (h : GrS w0 its bs base b L x) (hn : ∀ c ∈ bs', c ∈ bs ∨ c < base ∨ ∃ y : World, y.heap.size ≤ c ∧ ∀ n D F, GrD x base b n D F (GrOf L) → (∀ z, inK z → ∀ j, (F z).ownBlock = some j → j < y.heap.size)) : GrS w0 its bs' base b L x := by
 obtain ⟨n, D, F, h1, h2, h3⟩ := h.gr
 refine ⟨h.st, ⟨n, D, F, h1, h2, fun z hz j hj => ⟨(h3 z hz j hj).1, fun hm => ?_⟩⟩, h.hi⟩
 rcases hn j hm with h4 | h4 | ⟨y, h4, h5⟩
 · exact (h3 z hz j hj).2 h4
 · have := (h3 z hz j hj).1; omega
 · have := h5 n D F h2 z hz j hj; omega
theorem GrS.fresh {w0 x y : World} {its : List It} {base b : Nat} {L : List SpT} (h : GrS w0 its [] base b L x) (hb : Below x.heap.size x y) (bs : List Nat) (hbs : ∀ c ∈ bs, c < base ∨ x.heap.size ≤ c) : GrS w0 its bs base b L y := by
 obtain ⟨n, D, F, h1, h2, h3⟩ := h.gr
 refine ⟨h.st.below hb, ⟨n, D, F, h1, h2.kept hb, fun z hz j hj => ⟨(h3 z hz j hj).1, fun hm => ?_⟩⟩, Nat.le_trans h.hi hb.size⟩
 have h4 := (h2.row z hz).lt j hj
 rcases hbs j hm with h5 | h5 <;> omega
theorem GrS.forget {w0 x : World} {its : List It} {bs : List Nat} {base b : Nat} {L : List SpT} (h : GrS w0 its bs base b L x) : GrS w0 its [] base b L x := by
 obtain ⟨n, D, F, h1, h2, h3⟩ := h.gr
 exact ⟨h.st, ⟨n, D, F, h1, h2, fun z hz j hj => ⟨(h3 z hz j hj).1, by simp⟩⟩, h.hi⟩
end Go.Proofs.Ytodpkgbpcpfamaa
