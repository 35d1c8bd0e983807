/- Merged texts: ShC ShD ShE ShF ShG ShH ShI ShK Grow Sort ShL Set Met Nbs Sea Near. -/
import Derived.Test.YtodpkgbpcpfamaaGreatM8
import Derived.Test.YtodpkgbpcpfamaaGreatM1
import Derived.Shelf.SlSortCmp.NoneTotal
import Derived.Test.YtodpkgbpcpfamaaGreatM7
import Derived.Test.YtodpkgbpcpfamaaGreatM2
import Derived.Test.YtodpkgbpcpfamaaGreatM3
import Derived.Test.YtodpkgbpcpfamaaGreatM5
import Derived.RangeFuncNested
import Derived.Deep.QuietTactic
/- Layer 6: the document's Right. -/
namespace Go.Proofs.YtodpkgbpcpfamaaGreat
set_option linter.unusedSimpArgs false
set_option linter.unusedVariables false
open Go.RowKit Go.Shelf

end Go.Proofs.YtodpkgbpcpfamaaGreat

/- Layer 6: Clip; the document's Clip, Has. -/
namespace Go.Proofs.YtodpkgbpcpfamaaGreat
set_option linter.unusedSimpArgs false
set_option linter.unusedVariables false
open Go.RowKit Go.Shelf

theorem rowS : RowT Tryz.prog 34 43 3 24 := .of (z := .agg #[.int .i64 0, .int .i64 0, .int .i64 0]) Tryz.underlying34 (by kernel_rfl) rfl (by decide)
theorem rowP : RowT Tryz.prog 46 33 2 16 := .of (z := .agg #[.int .i64 0, .int .i64 0]) Tryz.underlying46 (by kernel_rfl) rfl (by decide)
theorem encS_one (s : SpT) : ∀ u ∈ encS s, u.oneCell' = true := by
 intro u hu
 simp [encS] at hu
 rcases hu with rfl | rfl | rfl <;> rfl
theorem encP_one (s : PtT) : ∀ u ∈ encP s, u.oneCell' = true := by
 intro u hu
 simp [encP] at hu
 rcases hu with rfl | rfl <;> rfl

/-- The newest block is written. -/
theorem St.put0 {w0 x : World} {p : Nat} {c c' : Array Value} {t : TypeId} {f : Nat × Nat} {post : List It} (h : St w0 (.blk p (.cells c t f) :: post) x) (k : Nat) (v : Value) (hc : c.setIfInBounds k v = c') : St w0 (.blk p (.cells c' t f) :: post) (x.setCell ⟨p, k, none⟩ v) := by
 subst hc
 have hp := h.blockAt 0 rfl
 exact St.set (pre := []) h (by simp) (heap_set_same hp v) (fun j hj => Below.heap_setCell x ⟨p, k, none⟩ v j hj) ((Below.refl _ _).setCell (p := ⟨p, k, none⟩) (Nat.le_refl _) v)

end Go.Proofs.YtodpkgbpcpfamaaGreat

/- Layer 6: Clip. -/
namespace Go.Proofs.YtodpkgbpcpfamaaGreat
set_option linter.unusedSimpArgs false
set_option linter.unusedVariables false
open Go.RowKit Go.Shelf

/-- It returns a new row, and an error. -/
def GivesRowE (E size n : Nat) (xs : List Value) (er : Int) (w : World) (e : Ending) (w' : World) : Prop := ∃ v, e = .returned (.tuple #[v, .int .i64 er]) ∧ w'.ownsRow w.heap.size E size v n xs ∧ Below w.heap.size w w'
end Go.Proofs.YtodpkgbpcpfamaaGreat

/- Layer 6: Has. -/
namespace Go.Proofs.YtodpkgbpcpfamaaGreat
set_option linter.unusedSimpArgs false
set_option linter.unusedVariables false
open Go.RowKit Go.Shelf

def inB (p : PtT) (s : SpT) : Bool := decide (s.y = p.y ∧ s.f ≤ p.x ∧ p.x ≤ s.t)
def hasB (l : List SpT) (p : PtT) : Bool := l.any (inB p)
theorem any_true {α : Type} {q : α → Bool} {l : List α} {k : Nat} {x : α} (hx : l[k]? = some x) (h : q x = true) : l.any q = true :=
 List.any_eq_true.2 ⟨x, List.mem_of_getElem? hx, h⟩
theorem any_false {α : Type} {q : α → Bool} {l : List α} (h : ∀ (j : Nat) (x : α), l[j]? = some x → q x = false) : l.any q = false := by
 rw [List.any_eq_false]
 intro x hx
 obtain ⟨j, hj⟩ := List.getElem?_of_mem hx
 rw [h j x hj]
 simp

set_option maxRecDepth 100000 in
set_option maxHeartbeats 4000000 in
theorem has1_any (s : SpT) (p : PtT) (bp : Nat) (w : World) (hp : w.heap[bp]? = some (.cells #[.int .i64 p.x, .int .i64 p.y] 33 (0, 0))) :
 Calls Tryz.prog 33 #[s.val, .pointer (some ⟨bp, 0, none⟩)] w (Gives (.bool (inB p s)) w) := by
 obtain ⟨px, py⟩ := p
 obtain ⟨sy, sf, st⟩ := s
 simp only at hp
 have hbp := block_lt hp
 have hne : ¬ w.heap.size = bp := by omega
 have b0 := cell_of_block (k := 0) hp rfl
 have b1 := cell_of_block (k := 1) hp rfl
 clear hp
 unfold SpT.val
 by_cases g1 : sy = py
 · have g1' : (sy == py) = true := by simpa using g1
   by_cases g2 : sf ≤ px
   · by_cases g3 : px ≤ st
     · have HB := Lib.hid (show inB ⟨px, py⟩ ⟨sy, sf, st⟩ = true by unfold inB; simp only; rw [decide_eq_true_iff]; exact ⟨g1, g2, g3⟩)
       clear g1
       go_enter Tryz.func33, Tryz.ntmps33
       go_wp2_with fail
       go_ret
       exact ⟨by rw [HB.out]; rfl, by (repeat (first | exact Below.refl _ _ | assumption | refine Below.alloc ?_ (by first | omega | (simp; done) | (simp; omega)) _ | refine Below.setCell ?_ (by first | omega | (simp; done) | (simp; omega)) _ | refine Below.drew ?_))⟩
     · have HB := Lib.hid (show inB ⟨px, py⟩ ⟨sy, sf, st⟩ = false by unfold inB; simp only; rw [decide_eq_false_iff_not]; omega)
       clear g1
       go_enter Tryz.func33, Tryz.ntmps33
       go_wp2_with fail
       go_ret
       exact ⟨by rw [HB.out]; rfl, by (repeat (first | exact Below.refl _ _ | assumption | refine Below.alloc ?_ (by first | omega | (simp; done) | (simp; omega)) _ | refine Below.setCell ?_ (by first | omega | (simp; done) | (simp; omega)) _ | refine Below.drew ?_))⟩
   · have HB := Lib.hid (show inB ⟨px, py⟩ ⟨sy, sf, st⟩ = false by unfold inB; simp only; rw [decide_eq_false_iff_not]; omega)
     clear g1
     go_enter Tryz.func33, Tryz.ntmps33
     go_wp2_with fail
     go_ret
     exact ⟨by rw [HB.out]; rfl, by (repeat (first | exact Below.refl _ _ | assumption | refine Below.alloc ?_ (by first | omega | (simp; done) | (simp; omega)) _ | refine Below.setCell ?_ (by first | omega | (simp; done) | (simp; omega)) _ | refine Below.drew ?_))⟩
 · have g1' : (sy == py) = false := by simpa using g1
   have HB := Lib.hid (show inB ⟨px, py⟩ ⟨sy, sf, st⟩ = false by unfold inB; simp only; rw [decide_eq_false_iff_not]; omega)
   clear g1
   go_enter Tryz.func33, Tryz.ntmps33
   go_wp2_with fail
   go_ret
   exact ⟨by rw [HB.out]; rfl, by (repeat (first | exact Below.refl _ _ | assumption | refine Below.alloc ?_ (by first | omega | (simp; done) | (simp; omega)) _ | refine Below.setCell ?_ (by first | omega | (simp; done) | (simp; omega)) _ | refine Below.drew ?_))⟩
end Go.Proofs.YtodpkgbpcpfamaaGreat

/- Layer 6: slices.ContainsFunc at this program's predicates; shape.Has. -/
namespace Go.Proofs.YtodpkgbpcpfamaaGreat
set_option linter.unusedSimpArgs false
set_option linter.unusedVariables false
open Go.RowKit Go.Shelf

/-- What IndexFunc gives. -/
def idxI {α : Type} (q : α → Bool) (l : List α) : Int := bif l.any q then (l.findIdx q : Int) else -1
theorem idxI_hit {α : Type} {q : α → Bool} {l : List α} {k : Nat} {x : α} (hx : l[k]? = some x) (h : q x = true) (hall : ∀ (j : Nat) (y : α), l[j]? = some y → j < k → q y = false) : idxI q l = (k : Int) := by
 unfold idxI
 rw [any_true hx h]
 have hk := (List.getElem?_eq_some_iff.1 hx).1
 have e : l.findIdx q = k := by
  rw [List.findIdx_eq hk]
  refine ⟨by rw [(List.getElem?_eq_some_iff.1 hx).2]; exact h, fun j hj => ?_⟩
  have := hall j (l[j]'(by omega)) (List.getElem?_eq_getElem (by omega)) hj
  simpa using this
 rw [e]
 rfl
theorem idxI_none {α : Type} {q : α → Bool} {l : List α} (hall : ∀ (j : Nat) (y : α), l[j]? = some y → q y = false) : idxI q l = -1 := by
 unfold idxI
 rw [any_false hall]
 rfl
theorem idxI_ge {α : Type} (q : α → Bool) (l : List α) : decide (0 ≤ idxI q l) = l.any q := by
 unfold idxI
 cases l.any q <;> simp

set_option maxRecDepth 100000 in
set_option maxHeartbeats 4000000 in
theorem indexFuncHas (q : SpT → Bool) (cb : Array Value) (a : Option Addr) (n cap : Nat) (l : List SpT) (hl : l.length = n) (hn : n ≤ 1000000000) (w : World) (h : Elems w (.slice a n cap) n 3 (rowC encS l))
 (hq : ∀ (x : SpT) (y : World), Below w.heap.size w y → Calls Tryz.prog 33 (#[x.val] ++ cb) y (Gives (.bool (q x)) y)) :
 Calls Tryz.prog 60 #[.slice a n cap, .func (.func 33) #[] cb] w (Gives (.int .i64 (idxI q l)) w) := by
 have HS := Lib.hid ((St.start w).addRow h)
 have HL := Lib.hid hl
 have HQ := Lib.hid hq
 clear h hl hq
 go_enter Tryz.func60, Tryz.ntmps60
 go_wp2_with fail
 go_loopw [8] (fun i wr => ∃ k : Nat, k ≤ n ∧ i = .int .i64 (k : Int) ∧ St w [.row (.slice a n cap) n 3 (rowC encS l) w.heap.size] wr ∧ ∀ (j : Nat) (x : SpT), l[j]? = some x → j < k → q x = false) (fun i _ => n - (intOf i).toNat)
 case atStart => exact ⟨0, by omega, rfl, HS.out, fun j x _ h => by omega⟩
 case round =>
  obtain ⟨k, hk, rfl, hs, hall⟩ := hrel
  clear HS
  have HS := Lib.hid hs
  have HA := Lib.hid hall
  clear hs hall
  by_cases hlt : k < n
  · have wk : wrap64 ((k : Int) + 1) = ((k + 1 : Nat) : Int) := by unfold wrap64; omega
    obtain ⟨x, hx⟩ : ∃ x, l[k]? = some x := ⟨_, List.getElem?_eq_getElem (by rw [HL.out]; exact hlt)⟩
    obtain ⟨bb, off, rfl, hbb, c0, c1, c2⟩ := spCells HL.out (HS.out.elems 0 rfl) k x hx
    have HX := Lib.hid hx
    have HC := Lib.hid (HQ.out x)
    obtain ⟨x1, x2, x3⟩ := x
    simp only [SpT.val] at c0 c1 c2 HC
    clear hx hbb
    go_wp2_with fail
    refine (HC.out _ HS.out.low).mono ?_
    rintro e w3 ⟨rfl, hb_⟩
    have HS := Lib.hid (HS.out.below hb_)
    clear hb_ c0 c1 c2
    cases hg : q ⟨x1, x2, x3⟩
    · have HB := Lib.hid hg
      clear hg
      go_wp2_with fail
      go_roundw
      case rel => exact ⟨k + 1, hlt, by simp, HS.out, fun j x hj hjk => by rcases Nat.lt_or_eq_of_le (Nat.lt_succ_iff.1 hjk) with h | rfl; exact HA.out j x hj h; rw [HX.out] at hj; cases hj; exact HB.out⟩
      case measure => simp [intOf]; omega
    · have HB := Lib.hid (idxI_hit HX.out hg HA.out)
      clear hg
      go_wp2_with fail
      go_ret
      exact ⟨by rw [HB.out]; rfl, HS.out.low⟩
  · obtain rfl : k = n := by omega
    have HB := Lib.hid (show idxI q l = -1 from idxI_none fun j x hj => HA.out j x hj (by rw [← HL.out]; exact (List.getElem?_eq_some_iff.1 hj).1))
    clear hk hlt
    go_wp2_with fail
    go_ret
    exact ⟨by rw [HB.out]; rfl, HS.out.low⟩
theorem containsFuncHas (q : SpT → Bool) (cb : Array Value) (a : Option Addr) (n cap : Nat) (l : List SpT) (hl : l.length = n) (hn : n ≤ 1000000000) (w : World) (h : Elems w (.slice a n cap) n 3 (rowC encS l))
 (hq : ∀ (x : SpT) (y : World), Below w.heap.size w y → Calls Tryz.prog 33 (#[x.val] ++ cb) y (Gives (.bool (q x)) y)) :
 Calls Tryz.prog 34 #[.slice a n cap, .func (.func 33) #[] cb] w (Gives (.bool (l.any q)) w) := by
 have HI := Lib.hid (indexFuncHas q cb a n cap l hl hn w h hq)
 clear h hq
 rw [← idxI_ge]
 generalize idxI q l = r at HI ⊢
 go_enter Tryz.func34, Tryz.ntmps34
 go_wp2_with fail
 refine HI.out.mono ?_
 rintro e w3 ⟨rfl, hb_⟩
 go_wp2_with fail
 go_ret
 exact ⟨rfl, hb_⟩

set_option maxRecDepth 100000 in
set_option maxHeartbeats 4000000 in
theorem shHas_any (a : Option Addr) (n cap : Nat) (l : List SpT) (hl : l.length = n) (hn : n ≤ 1000000000) (p : PtT) (w : World) (h : Elems w (.slice a n cap) n 3 (rowC encS l)) :
 Calls Tryz.prog 12 #[.slice a n cap, p.val] w (Gives (.bool (rightB l && hasB l p)) w) := by
 have HS := Lib.hid ((St.start w).addRow h)
 have HL := Lib.hid hl
 obtain ⟨px, py⟩ := p
 clear h hl
 unfold PtT.val
 go_enter Tryz.func12, Tryz.ntmps12
 repeat ((fail_if_success (with_reducible refine stop_at (id := 1) ?_)); (first | go_values | go_skip | go_guarded | go_step | go_upon | go_back | (simp only [Int.not_lt, Int.not_le] at *; go_simp) | (go_values <;> (try go_simp)) | (go_ite <;> go_prune <;> (try go_simp)) | (split <;> (first | (rename_i hx; exact (hx _ rfl).elim) | go_prune))))
 have hs_ := (HS.out.alloc (.cells #[.int .i64 px, .int .i64 py] 33))
 obtain ⟨w1, hw_⟩ : ∃ w1 : World, (w.alloc (.cells #[.int .i64 px, .int .i64 py] 33)) = w1 := ⟨_, rfl⟩
 rw [hw_] at hs_
 try simp only [World.size_alloc] at hs_
 have HS := Lib.hid hs_
 rw [hw_]
 clear hw_ hs_
 go_wp2_with fail
 refine (check_any a n cap l HL.out (by omega) _ (HS.out.elems 1 rfl)).mono ?_
 rintro e w2 ⟨rfl, hb_⟩
 have HS := Lib.hid (HS.out.below hb_)
 clear hb_
 cases hr : rightB l
 · have HR := Lib.hid hr
   clear hr
   simp only [errOf, Bool.false_eq_true, if_false]
   go_wp2_with fail
   go_ret
   exact ⟨by rw [HR.out]; rfl, HS.out.low⟩
 · have HR := Lib.hid hr
   clear hr
   simp only [errOf, if_true]
   go_wp2_with fail
   refine (containsFuncHas (inB ⟨px, py⟩) #[.pointer (some ⟨w.heap.size, 0, none⟩)] a n cap l HL.out (by omega) _ (HS.out.elems 1 rfl) (fun x y hb => has1_any x ⟨px, py⟩ w.heap.size y ((HS.out.below hb).blockAt 0 rfl))).mono ?_
   rintro e w3 ⟨rfl, hb_⟩
   have HS := Lib.hid (HS.out.below hb_)
   clear hb_
   go_wp2_with fail
   go_ret
   exact ⟨by rw [HR.out]; rfl, HS.out.low⟩
end Go.Proofs.YtodpkgbpcpfamaaGreat

/- Layer 6: small closures; the document's In; Rect. -/
namespace Go.Proofs.YtodpkgbpcpfamaaGreat
set_option linter.unusedSimpArgs false
set_option linter.unusedVariables false
open Go.RowKit Go.Shelf

end Go.Proofs.YtodpkgbpcpfamaaGreat

/- Layer 6: the document's In, around. -/
namespace Go.Proofs.YtodpkgbpcpfamaaGreat
set_option linter.unusedSimpArgs false
set_option linter.unusedVariables false
open Go.RowKit Go.Shelf

def inRef (size : Int) (round : Bool) (c p : PtT) : Bool := bif round then decide (wayN c.x p.x * wayN c.x p.x + wayN c.y p.y * wayN c.y p.y ≤ size * size) else decide (wayN c.x p.x ≤ size ∧ wayN c.y p.y ≤ size)
end Go.Proofs.YtodpkgbpcpfamaaGreat

/- Layer 6: the document's Line. -/
namespace Go.Proofs.YtodpkgbpcpfamaaGreat
set_option linter.unusedSimpArgs false
set_option linter.unusedVariables false
open Go.RowKit Go.Shelf

def lessN (n m i : Int) : Int := if 0 < n then (2 * i * m + n) / (2 * n) else 0
/-- The i-th place of a line. -/
def linePt (a b : PtT) (i : Int) : PtT :=
 bif decide (wayN a.x b.x < wayN a.y b.y) then ⟨a.x + sideN a.x b.x * lessN (wayN a.y b.y) (wayN a.x b.x) i, a.y + sideN a.y b.y * i⟩
 else ⟨a.x + sideN a.x b.x * i, a.y + sideN a.y b.y * lessN (wayN a.x b.x) (wayN a.y b.y) i⟩
def wayMax (a b : PtT) : Int := max (wayN a.x b.x) (wayN a.y b.y)
theorem wayN_nonneg (a b : Int) : 0 ≤ wayN a b := by unfold wayN; split <;> omega

end Go.Proofs.YtodpkgbpcpfamaaGreat

/- A world that has drawn, and grown. -/
namespace Go.Proofs.YtodpkgbpcpfamaaGreat
set_option linter.unusedSimpArgs false
set_option linter.unusedVariables false
open Go.RowKit Go.Shelf

/-- A world that has drawn, and grown. -/
def Grows (x y : World) : Prop := ∃ q os, y = Sort.grow (x.drewN q) os
theorem Grows.refl (x : World) : Grows x x := ⟨0, #[], by simp [Sort.grow, World.drewN]⟩
theorem Grows.trans {x y z : World} (h : Grows x y) (k : Grows y z) : Grows x z := by
 obtain ⟨q, os, rfl⟩ := h
 obtain ⟨q', os', rfl⟩ := k
 refine ⟨q + q', os ++ os', ?_⟩
 simp only [Sort.grow, World.drewN]
 congr 1
 · exact Array.append_assoc
 · omega
theorem Grows.drew (x : World) : Grows x x.drew := ⟨1, #[], by show x.drew = { x.drewN 1 with heap := x.heap ++ #[] }; rw [Array.append_empty]; rfl⟩
theorem Grows.alloc (x : World) (o : Obj) : Grows x (x.alloc o) := ⟨0, #[o], by show x.alloc o = { x.drewN 0 with heap := x.heap ++ #[o] }; rw [Array.append_singleton]; rfl⟩
theorem Grows.below {x y : World} (h : Grows x y) : Below x.heap.size x y := by
 obtain ⟨q, os, rfl⟩ := h
 refine ⟨rfl, rfl, rfl, by simp [Sort.grow, World.drewN], fun k hk => ?_⟩
 show (x.heap ++ os)[k]? = x.heap[k]?
 exact Array.getElem?_append_left hk
/-- It returns v, and has drawn, and grown, alone. -/
def GivesG (v : Value) (w : World) (e : Ending) (w' : World) : Prop := e = .returned v ∧ Grows w w'
theorem GivesG.gives {v : Value} {w : World} {e : Ending} {w' : World} (h : GivesG v w e w') : Gives v w e w' := ⟨h.1, h.2.below⟩
end Go.Proofs.YtodpkgbpcpfamaaGreat

/- slices.SortFunc at a row of structs of the call's own. -/
namespace Go.Proofs.YtodpkgbpcpfamaaGreat
set_option linter.unusedSimpArgs false
set_option linter.unusedVariables false
open Go.RowKit Go.Shelf

section
variable {α : Type} [Inhabited α]
theorem flatK_get {enc : α → List Value} {k : Nat} (hk : ∀ x, (enc x).length = k) (d : List α) (j : Nat) (h : j < d.length * k) : (l_ : List Value) → l_ = d.flatMap enc → l_[j]? = some ((Sort.flatK enc k d.toArray)[j]!) := by
 rintro _ rfl
 have hk0 : 0 < k := Nat.pos_of_ne_zero (fun e => by subst e; simp at h)
 have hdiv : j / k < d.length := Nat.div_lt_of_lt_mul (by rw [Nat.mul_comm]; exact h)
 have hmod : j % k < k := Nat.mod_lt _ hk0
 have hjk : j / k * k + j % k = j := by rw [Nat.mul_comm]; exact Nat.div_add_mod j k
 have h2 := flat_get hk d (j / k) (j % k) hmod
 rw [hjk, List.getElem?_eq_getElem hdiv] at h2
 rw [h2, Sort.get_flatK _ _ _ _ (by simpa using h)]
 have e : d.toArray[j / k]! = d[j / k] := by rw [getElem!_pos d.toArray (j / k) (by simpa using hdiv)]; simp
 rw [e]
 show (enc d[j / k])[j % k]? = some _
 rw [getElem!_pos (enc d[j / k]) (j % k) (by rw [hk]; exact hmod), List.getElem?_eq_getElem (by rw [hk]; exact hmod)]

variable {P : Program} {ρ : Ren}
end
end Go.Proofs.YtodpkgbpcpfamaaGreat

/- Layer 6: slices.Equal, slices.Clone at places and spans; slices.SortFunc at spans. -/
namespace Go.Proofs.YtodpkgbpcpfamaaGreat
set_option linter.unusedSimpArgs false
set_option linter.unusedVariables false
open Go.RowKit Go.Shelf

theorem lay_eqS : Go.Proofs.SlLaysQ.n8 Tryz.prog ⟨fun | 8 => 9 | n => n, fun | 22 => 34 | 24 => 43 | 4 => 4 | 3 => 3 | 0 => 0 | n => n, fun | n => n⟩ := {
 mixed := by kernel_rfl
 f8 := ⟨Tryz.f9.name, by decide, Tryz.func9.trans (congrArg some (by kernel_rfl))⟩
 t22 := Tryz.underlying34
 a22 := Tryz.isAgg34
 z22 := Tryz.sizeOf34
 v22 := Tryz.zeroValue34
 t4 := Tryz.underlying4
 a4 := Tryz.isAgg4
 z4 := Tryz.sizeOf4
 v4 := Tryz.zeroValue4
 t3 := Tryz.underlying3
 a3 := Tryz.isAgg3
 z3 := Tryz.sizeOf3
 v3 := Tryz.zeroValue3
 t0 := Tryz.underlying0
 a0 := Tryz.isAgg0
 z0 := Tryz.sizeOf0
 v0 := Tryz.zeroValue0 }
theorem lay_eqP : Go.Proofs.SlLaysQ.n8 Tryz.prog ⟨fun | 8 => 20 | n => n, fun | 22 => 46 | 24 => 33 | 4 => 4 | 3 => 3 | 0 => 0 | n => n, fun | n => n⟩ := {
 mixed := by kernel_rfl
 f8 := ⟨Tryz.f20.name, by decide, Tryz.func20.trans (congrArg some (by kernel_rfl))⟩
 t22 := Tryz.underlying46
 a22 := Tryz.isAgg46
 z22 := Tryz.sizeOf46
 v22 := Tryz.zeroValue46
 t4 := Tryz.underlying4
 a4 := Tryz.isAgg4
 z4 := Tryz.sizeOf4
 v4 := Tryz.zeroValue4
 t3 := Tryz.underlying3
 a3 := Tryz.isAgg3
 z3 := Tryz.sizeOf3
 v3 := Tryz.zeroValue3
 t0 := Tryz.underlying0
 a0 := Tryz.isAgg0
 z0 := Tryz.sizeOf0
 v0 := Tryz.zeroValue0 }
theorem lay_sortS : Go.Proofs.SlLaysF0.n6 Tryz.prog ⟨fun | 6 => 55 | 14 => 69 | 15 => 70 | 20 => 75 | 21 => 76 | 22 => 77 | 23 => 78 | 24 => 79 | 25 => 80 | 26 => 81 | 27 => 82 | 28 => 83 | 29 => 84 | 46 => 95 | 47 => 96 | 48 => 97 | 49 => 98 | 50 => 99 | 57 => 103 | n => n, fun | 0 => 0 | 3 => 3 | 4 => 4 | 5 => 5 | 9 => 9 | 22 => 34 | 25 => 121 | 39 => 135 | 45 => 147 | 46 => 148 | 50 => 152 | 53 => 155 | 55 => 157 | 66 => 164 | 70 => 168 | 76 => 172 | 77 => 126 | 24 => 43 | n => n, fun | n => n⟩ := {
 mixed := by kernel_rfl
 f6 := ⟨Tryz.f55.name, by decide, Tryz.func55.trans (congrArg some (by kernel_rfl))⟩
 f14 := ⟨Tryz.f69.name, by decide, Tryz.func69.trans (congrArg some (by kernel_rfl))⟩
 f15 := Tryz.func70.trans (congrArg some (by kernel_rfl))
 f20 := ⟨Tryz.f75.name, by decide, Tryz.func75.trans (congrArg some (by kernel_rfl))⟩
 f21 := ⟨Tryz.f76.name, by decide, Tryz.func76.trans (congrArg some (by kernel_rfl))⟩
 f22 := ⟨Tryz.f77.name, by decide, Tryz.func77.trans (congrArg some (by kernel_rfl))⟩
 f23 := ⟨Tryz.f78.name, by decide, Tryz.func78.trans (congrArg some (by kernel_rfl))⟩
 f24 := ⟨Tryz.f79.name, by decide, Tryz.func79.trans (congrArg some (by kernel_rfl))⟩
 f25 := ⟨Tryz.f80.name, by decide, Tryz.func80.trans (congrArg some (by kernel_rfl))⟩
 f26 := ⟨Tryz.f81.name, by decide, Tryz.func81.trans (congrArg some (by kernel_rfl))⟩
 f27 := ⟨Tryz.f82.name, by decide, Tryz.func82.trans (congrArg some (by kernel_rfl))⟩
 f28 := Tryz.func83.trans (congrArg some (by kernel_rfl))
 f29 := Tryz.func84.trans (congrArg some (by kernel_rfl))
 f46 := ⟨Tryz.f95.name, by decide, Tryz.func95.trans (congrArg some (by kernel_rfl))⟩
 f47 := Tryz.func96.trans (congrArg some (by kernel_rfl))
 f48 := Tryz.func97.trans (congrArg some (by kernel_rfl))
 f49 := ⟨Tryz.f98.name, by decide, Tryz.func98.trans (congrArg some (by kernel_rfl))⟩
 f50 := ⟨Tryz.f99.name, by decide, Tryz.func99.trans (congrArg some (by kernel_rfl))⟩
 f57 := ⟨Tryz.f103.name, by decide, Tryz.func103.trans (congrArg some (by kernel_rfl))⟩
 t0 := Tryz.underlying0
 a0 := Tryz.isAgg0
 z0 := Tryz.sizeOf0
 v0 := Tryz.zeroValue0
 t3 := Tryz.underlying3
 a3 := Tryz.isAgg3
 z3 := Tryz.sizeOf3
 v3 := Tryz.zeroValue3
 t4 := Tryz.underlying4
 a4 := Tryz.isAgg4
 z4 := Tryz.sizeOf4
 v4 := Tryz.zeroValue4
 t5 := Tryz.underlying5
 a5 := Tryz.isAgg5
 z5 := Tryz.sizeOf5
 v5 := Tryz.zeroValue5
 t9 := Tryz.underlying9
 a9 := Tryz.isAgg9
 z9 := Tryz.sizeOf9
 v9 := Tryz.zeroValue9
 t22 := Tryz.underlying34
 a22 := Tryz.isAgg34
 z22 := Tryz.sizeOf34
 v22 := Tryz.zeroValue34
 t25 := Tryz.underlying121
 a25 := Tryz.isAgg121
 z25 := Tryz.sizeOf121
 v25 := Tryz.zeroValue121
 t39 := Tryz.underlying135
 a39 := Tryz.isAgg135
 z39 := Tryz.sizeOf135
 v39 := Tryz.zeroValue135
 t45 := Tryz.underlying147
 a45 := Tryz.isAgg147
 z45 := Tryz.sizeOf147
 v45 := Tryz.zeroValue147
 t46 := Tryz.underlying148
 a46 := Tryz.isAgg148
 z46 := Tryz.sizeOf148
 v46 := Tryz.zeroValue148
 t50 := Tryz.underlying152
 a50 := Tryz.isAgg152
 z50 := Tryz.sizeOf152
 v50 := Tryz.zeroValue152
 t53 := Tryz.underlying155
 a53 := Tryz.isAgg155
 z53 := Tryz.sizeOf155
 v53 := Tryz.zeroValue155
 t55 := Tryz.underlying157
 a55 := Tryz.isAgg157
 z55 := Tryz.sizeOf157
 v55 := Tryz.zeroValue157
 t66 := Tryz.underlying164
 a66 := Tryz.isAgg164
 z66 := Tryz.sizeOf164
 v66 := Tryz.zeroValue164
 t70 := Tryz.underlying168
 a70 := Tryz.isAgg168
 z70 := Tryz.sizeOf168
 v70 := Tryz.zeroValue168
 t76 := Tryz.underlying172
 a76 := Tryz.isAgg172
 z76 := Tryz.sizeOf172
 v76 := Tryz.zeroValue172
 t77 := Tryz.underlying126
 a77 := Tryz.isAgg126
 z77 := Tryz.sizeOf126
 v77 := Tryz.zeroValue126 }

def spEqB (a b : SpT) : Bool := a.y == b.y && (a.f == b.f && a.t == b.t)
theorem spEqB_iff (a b : SpT) : spEqB a b = true ↔ a = b := by
 obtain ⟨a1, a2, a3⟩ := a
 obtain ⟨b1, b2, b3⟩ := b
 simp [spEqB]
theorem run_neq_span (w : World) (a b c d e f : Int) : (binOp .neq 43 (.agg #[.int .i64 a, .int .i64 b, .int .i64 c]) (.agg #[.int .i64 d, .int .i64 e, .int .i64 f])).run Tryz.prog w = .ok (.bool (!spEqB ⟨a, b, c⟩ ⟨d, e, f⟩)) w := by
 unfold spEqB
 simp [binOp, Op.equal, Op.maxDepth, go_sem]
 by_cases h1 : a = d <;> by_cases h2 : b = e <;> by_cases h3 : c = f <;> simp [h1, h2, h3]
def ptEqB (a b : PtT) : Bool := a.x == b.x && a.y == b.y
theorem ptEqB_iff (a b : PtT) : ptEqB a b = true ↔ a = b := by
 obtain ⟨a1, a2⟩ := a
 obtain ⟨b1, b2⟩ := b
 simp [ptEqB]
theorem run_neq_point (w : World) (a b d e : Int) : (binOp .neq 33 (.agg #[.int .i64 a, .int .i64 b]) (.agg #[.int .i64 d, .int .i64 e])).run Tryz.prog w = .ok (.bool (!ptEqB ⟨a, b⟩ ⟨d, e⟩)) w := by
 unfold ptEqB
 simp [binOp, Op.equal, Op.maxDepth, go_sem]
 by_cases h1 : a = d <;> by_cases h2 : b = e <;> simp [h1, h2]
theorem neq_span : NeqAt Tryz.prog 43 (fun x => .agg (encS x).toArray) spEqB := ⟨fun x y w => run_neq_span w _ _ _ _ _ _, GuardAt.agg _ (by kernel_rfl)⟩
theorem neq_point : NeqAt Tryz.prog 33 (fun x => .agg (encP x).toArray) ptEqB := ⟨fun x y w => run_neq_point w _ _ _ _, GuardAt.agg _ (by kernel_rfl)⟩
instance : Inhabited SpT := ⟨⟨0, 0, 0⟩⟩
instance : Inhabited PtT := ⟨⟨0, 0⟩⟩
theorem infoS : (Tryz.prog.info? 43).map (fun i => (i.zero, i.size, i.bytes)) = some (some (.agg #[.int .i64 0, .int .i64 0, .int .i64 0]), 3, 24) := by kernel_rfl
theorem infoP : (Tryz.prog.info? 33).map (fun i => (i.zero, i.size, i.bytes)) = some (some (.agg #[.int .i64 0, .int .i64 0]), 2, 16) := by kernel_rfl
theorem eqS_any (s1 s2 : Value) (l m : List SpT) (w : World) (h1 : Elems w s1 l.length 3 (rowC encS l)) (h2 : Elems w s2 m.length 3 (rowC encS m)) (hl : l.length ≤ 1000000000) :
 Calls Tryz.prog 9 #[s1, s2] w (Gives (.bool (sameB l m)) w) := by
 rw [← allEq_sameB spEqB spEqB_iff]
 exact eqRows lay_eqS 3 Tryz.isAgg43 Tryz.sizeOf43 encS encS_len spEqB neq_span s1 s2 l m w h1 h2 hl
theorem eqP_any (s1 s2 : Value) (l m : List PtT) (w : World) (h1 : Elems w s1 l.length 2 (rowC encP l)) (h2 : Elems w s2 m.length 2 (rowC encP m)) (hl : l.length ≤ 1000000000) :
 Calls Tryz.prog 20 #[s1, s2] w (Gives (.bool (sameB l m)) w) := by
 rw [← allEq_sameB ptEqB ptEqB_iff]
 exact eqRows lay_eqP 2 Tryz.isAgg33 Tryz.sizeOf33 encP encP_len ptEqB neq_point s1 s2 l m w h1 h2 hl
end Go.Proofs.YtodpkgbpcpfamaaGreat

/- Layer 5: Set, Alike. -/
namespace Go.Proofs.YtodpkgbpcpfamaaGreat
set_option linter.unusedSimpArgs false
set_option linter.unusedVariables false
open Go.RowKit Go.Shelf
attribute [local go_sem] Oper.semAt_some

/-- A canvas alone. -/
def GivesC (C : CanT) (w : World) (e : Ending) (w' : World) : Prop := ∃ p', e = .returned (.pointer (some ⟨p', 0, none⟩)) ∧ CanAt w' p' C ∧ w.heap.size ≤ p' ∧ Below w.heap.size w w'
/-- Places of one colour. -/
def setC (C : CanT) (c : ColT) (ps : List PtT) : CanT := withL C (ps.map fun q => ⟨q.x, q.y, c⟩)

set_option maxRecDepth 100000 in
set_option maxHeartbeats 1000000 in
theorem set_any (C : CanT) (p : Nat) (c : ColT) (hc : okC c) (a : Option Addr) (n cap : Nat) (ps : List PtT) (hl : ps.length = n) (hn : n ≤ 1000000) (w : World) (hC : CanAt w p C) (he : Elems w (.slice a n cap) n 2 (rowC encP ps)) :
 Calls Tryz.prog 25 #[.pointer (some ⟨p, 0, none⟩), c.val, .slice a n cap] w (GivesC (setC C c ps) w) := by
 have HS := Lib.hid (St.start w)
 have HC := Lib.hid hC
 have HE := Lib.hid he
 have HL := Lib.hid (And.intro hl hn)
 have HMD := Lib.hid (fun (B : Nat) (w' : World) h h2 => madeDots_any B c a n cap ps hl hn w' h h2)
 have HDC := Lib.hid (show ∀ d ∈ ps.map fun q => (⟨q.x, q.y, c⟩ : DotT), okC d.c from fun d hd => by
  obtain ⟨q, -, rfl⟩ := List.mem_map.1 hd
  exact hc)
 unfold setC
 obtain ⟨ds, hds⟩ : ∃ ds, ps.map (fun q => (⟨q.x, q.y, c⟩ : DotT)) = ds := ⟨_, rfl⟩
 have HDN := Lib.hid (show ds.length ≤ 1000000 by rw [← hds, List.length_map, hl]; exact hn)
 rw [hds] at HMD HDC ⊢
 clear hC he hl hn hc hds
 obtain ⟨r, g, b, al⟩ := c
 unfold ColT.val
 simp only at HMD ⊢
 go_enter Tryz.func25, Tryz.ntmps25
 repeat ((fail_if_success (with_reducible refine stop_at (id := 1) ?_)); (first | go_values | go_skip | go_guarded | go_step | go_upon | go_back | (simp only [Int.not_lt, Int.not_le] at *; go_simp) | (go_values <;> (try go_simp)) | (go_ite <;> go_prune <;> (try go_simp)) | (split <;> (first | (rename_i hx; exact (hx _ rfl).elim) | go_prune))))
 have hs_ := (HS.out.alloc (.cells #[.int .u8 r, .int .u8 g, .int .u8 b, .int .u8 al] 27))
 obtain ⟨w1, hw_⟩ : ∃ w1 : World, (w.alloc (.cells #[.int .u8 r, .int .u8 g, .int .u8 b, .int .u8 al] 27)) = w1 := ⟨_, rfl⟩
 rw [hw_] at hs_
 try simp only [World.size_alloc] at hs_
 have HS := Lib.hid hs_
 rw [hw_]
 clear hw_ hs_
 go_wp2_with fail
 refine (HMD.out _ _ (HS.out.blockAt 0 rfl) (HE.out.below HS.out.low)).mono ?_
 rintro e w2 ⟨v, rfl, hr, hb⟩
 have he2 := ownsRow_rows encD_len hr
 obtain ⟨a2, c2, rfl, -⟩ := he2.shape
 have HS := Lib.hid (HS.out.below hb)
 have HE2 := Lib.hid he2
 clear hr hb he2 HMD HE
 go_wp2_with fail
 refine (canWith_any C p a2 ds.length c2 ds rfl HDN.out HDC.out _ (HC.out.below HS.out.low) HE2.out).mono ?_
 rintro e w3 ⟨p', rfl, hc3, hp3, hb3⟩
 have HR := Lib.hid (And.intro hc3 (And.intro (Nat.le_trans HS.out.size hp3) (HS.out.low.trans (hb3.mono HS.out.size))))
 clear hc3 hp3 hb3
 go_wp2_with fail
 go_ret
 exact ⟨p', rfl, HR.out⟩

theorem lay_cloneT : Go.Proofs.SlLaysE0.n41 Tryz.prog ⟨fun | 41 => 21 | n => n, fun | 22 => 22 | 23 => 67 | 4 => 4 | n => n, fun | n => n⟩ := {
 mixed := by kernel_rfl
 f41 := ⟨Tryz.f21.name, by decide, Tryz.func21.trans (congrArg some (by kernel_rfl))⟩
 t22 := Tryz.underlying22
 a22 := Tryz.isAgg22
 z22 := Tryz.sizeOf22
 v22 := Tryz.zeroValue22
 t4 := Tryz.underlying4
 a4 := Tryz.isAgg4
 z4 := Tryz.sizeOf4
 v4 := Tryz.zeroValue4 }
instance : Inhabited TileT := ⟨zeroT⟩
theorem infoTl : (Tryz.prog.info? 67).map (fun i => (i.zero, i.size, i.bytes)) = some (some (.agg Tryz.zeroCells67), 256, 256) := by kernel_rfl
theorem cloneT_any (sv : Value) (l : List TileT) (w : World) (h : Elems w sv l.length 256 (rowC encT l)) (hl : l.length ≤ 1000000) :
 Calls Tryz.prog 21 #[sv] w (Cloned 67 256 l.length (l.flatMap encT) sv w) := by
 obtain ⟨i0, hi, hz0, hz1, hz2⟩ := info_parts infoTl
 exact cloneRows lay_cloneT i0 _ 256 256 hi hz0 hz1 hz2 sizeZ (by omega) Tryz.sizeOf67 encT encT_len encT_one sv l w h (by omega) (by omega)

end Go.Proofs.YtodpkgbpcpfamaaGreat

/- Layer 8: what a search keeps of each pixel; the search by the document, and by the program. -/
namespace Go.Proofs.YtodpkgbpcpfamaaGreat
set_option linter.unusedSimpArgs false
set_option linter.unusedVariables false
open Go.RowKit Go.Shelf

/-- Of each place a number. -/
def mvL (m : Nat → Nat) : List Value := (List.range 1024).map fun i => .int .i64 (m i)
theorem mvL_len (m : Nat → Nat) : (mvL m).length = 1024 := by simp [mvL]
theorem mvL_get (m : Nat → Nat) {i : Nat} (h : i < 1024) : (mvL m)[i]? = some (.int .i64 (m i)) := by simp [mvL, h]
theorem mvL_set (m : Nat → Nat) (k v : Nat) : (mvL m).set k (.int .i64 v) = mvL fun i => if i = k then v else m i := by
 refine List.ext_getElem? fun i => ?_
 rw [List.getElem?_set]
 by_cases h : k = i
 · subst h
   by_cases hl : k < 1024
   · rw [if_pos rfl, if_pos (by rw [mvL_len]; exact hl), mvL_get _ hl, if_pos rfl]
   · rw [if_pos rfl, if_neg (by rw [mvL_len]; exact hl), List.getElem?_eq_none (by rw [mvL_len]; omega)]
 · have h' : i ≠ k := fun e => h e.symm
   by_cases hl : i < 1024
   · simp [h, h', mvL_get _ hl]
   · rw [List.getElem?_eq_none (by rw [mvL_len]; omega), List.getElem?_eq_none (by rw [mvL_len]; omega)]
     simp [h]
/-- By the document: from nothing, past what is barred. -/
structure BfP (m0 : Nat → Nat) (s t : Bf) : Prop where
 l : s.l = t.l
 m : ∀ i, s.m i = m0 i + t.m i
 new : ∀ q ∈ t.l, m0 (ixP q) = 0
 off : ∀ i, m0 i = 0 ∨ t.m i = 0
theorem BfP.meet {m0 : Nat → Nat} {s t : Bf} (h : BfP m0 s t) (n : PtT) (v : Nat) (hn : m0 (ixP n) = 0) : BfP m0 (s.meet n v) (t.meet n v) := by
 unfold Bf.meet
 have e : s.m (ixP n) = t.m (ixP n) := by rw [h.m, hn, Nat.zero_add]
 by_cases h0 : t.m (ixP n) = 0
 · rw [if_pos (e.trans h0), if_pos h0]
   refine ⟨by simp only [h.l], fun i => ?_, fun q hq => ?_, fun i => ?_⟩
   · show (if i = ixP n then v + 1 else s.m i) = m0 i + (if i = ixP n then v + 1 else t.m i)
     by_cases hi : i = ixP n
     · simp [hi, hn]
     · simp [hi, h.m]
   · rcases List.mem_append.1 hq with hq | hq
     · exact h.new q hq
     · rw [List.mem_singleton.1 hq]; exact hn
   · show _ ∨ (if i = ixP n then v + 1 else t.m i) = 0
     by_cases hi : i = ixP n
     · subst hi; exact .inl hn
     · rw [if_neg hi]; exact h.off i
 · rw [if_neg (by rw [e]; exact h0), if_neg h0]
   exact h
/-- What may be gone to past what is barred. -/
def pastB (N : PtT → Bool) (m0 : Nat → Nat) (q : PtT) : Bool := decide (m0 (ixP q) = 0) && N q
theorem BfP.look {N : PtT → Bool} {W H : Int} {m0 : Nat → Nat} {s t : Bf} (h : BfP m0 s t) {q : PtT} (hq : q ∈ t.l) (n : PtT) : BfP m0 (s.look N W H q n) (t.look (pastB N m0) W H q n) := by
 unfold Bf.look pastB
 by_cases hm : m0 (ixP n) = 0
 · rw [decide_eq_true hm, Bool.true_and]
   have e : s.m (ixP q) = t.m (ixP q) := by rw [h.m, h.new q hq, Nat.zero_add]
   rw [e]
   split
   · exact h.meet n _ hm
   · exact h
 · rw [decide_eq_false hm, Bool.false_and, Bool.and_false]
   have e : s.meet n (s.m (ixP q)) = s := by
    unfold Bf.meet
    rw [if_neg (by rw [h.m]; omega)]
   rw [e]
   simpa using h
theorem look_mem {N : PtT → Bool} {W H : Int} {t : Bf} {q n a : PtT} (ha : a ∈ t.l) : a ∈ (t.look N W H q n).l := by
 unfold Bf.look Bf.meet
 split
 · split
   · exact List.mem_append.2 (.inl ha)
   · exact ha
 · exact ha
theorem BfP.looks {N : PtT → Bool} {W H : Int} {m0 : Nat → Nat} {q : PtT} : ∀ (ns : List PtT) {s t : Bf}, BfP m0 s t → q ∈ t.l → BfP m0 (ns.foldl (Bf.look N W H q) s) (ns.foldl (Bf.look (pastB N m0) W H q) t)
 | [], _, _, h, _ => h
 | n :: ns, _, _, h, hq => BfP.looks ns (h.look hq n) (look_mem hq)
theorem BfP.goes {N : PtT → Bool} {W H : Int} {m0 : Nat → Nat} : ∀ (f k : Nat) {s t : Bf}, BfP m0 s t → BfP m0 (goB N W H f k s) (goB (pastB N m0) W H f k t)
 | 0, _, _, _, h => h
 | f + 1, k, s, t, h => by
  unfold goB
  rw [h.l]
  cases hq : t.l[k]? with
  | none => exact h
  | some q => exact BfP.goes f (k + 1) (BfP.looks (nbs q) h (List.mem_of_getElem? hq))
/-- A whole search. -/
def runB (N : PtT → Bool) (W H : Int) (m0 : Nat → Nat) (p : PtT) : Bf := goB N W H 1025 0 ((Bf.mk m0 []).meet p 0)
theorem runB_inv {N : PtT → Bool} {W H : Int} {m0 : Nat → Nat} {p : PtT} (hW : W ≤ 32) (hH : H ≤ 32) (hp : onB W H p = true) (hn : N p = true) (h0 : m0 (ixP p) = 0) : BfI N W H m0 p (runB N W H m0 p).l.length (runB N W H m0 p) :=
 BfI.goes hW hH 1025 0 _ (Nat.le_refl _) (Nat.zero_le _) (BfI.start N W H m0 p hp hn h0)
theorem goB_end {N : PtT → Bool} {W H : Int} (f k : Nat) (s : Bf) (h : s.l.length ≤ k) : goB N W H f k s = s := by
 cases f with
 | zero => rfl
 | succ f => unfold goB; rw [List.getElem?_eq_none h]
theorem goB_step {N : PtT → Bool} {W H : Int} (f k : Nat) (s : Bf) {q : PtT} (hq : s.l[k]? = some q) : goB N W H (f + 1) k s = goB N W H f (k + 1) (s.visit N W H q) := by
 show (match s.l[k]? with | none => s | some q => goB N W H f (k + 1) (s.visit N W H q)) = _
 rw [hq]
/-- A search under way: k have been visited. -/
structure BfK (N : PtT → Bool) (W H : Int) (m0 : Nat → Nat) (p : PtT) (k : Nat) (s : Bf) : Prop where
 inv : BfI N W H m0 p k s
 run : goB N W H (1025 - k) k s = runB N W H m0 p
 kl : k ≤ s.l.length
theorem BfK.start {N : PtT → Bool} {W H : Int} {m0 : Nat → Nat} {p : PtT} (hp : onB W H p = true) (hn : N p = true) (h0 : m0 (ixP p) = 0) : BfK N W H m0 p 0 ((Bf.mk m0 []).meet p 0) := ⟨BfI.start N W H m0 p hp hn h0, rfl, Nat.zero_le _⟩
theorem BfK.visit {N : PtT → Bool} {W H : Int} {m0 : Nat → Nat} {p : PtT} {k : Nat} {s : Bf} (h : BfK N W H m0 p k s) (hW : W ≤ 32) (hH : H ≤ 32) {q : PtT} (hq : s.l[k]? = some q) : BfK N W H m0 p (k + 1) (s.visit N W H q) ∧ BfG s (s.visit N W H q) := by
 obtain ⟨h1, h2⟩ := h.inv.visit hW hq
 have hl := h.inv.len hW hH
 have hk := (List.getElem?_eq_some_iff.1 hq).1
 refine ⟨⟨h1, ?_, ?_⟩, h2⟩
 · rw [← h.run, show 1025 - k = (1025 - (k + 1)) + 1 by omega, goB_step _ _ _ hq]
 · obtain ⟨e, he⟩ := h2.l
   rw [he, List.length_append]; omega
theorem BfK.done {N : PtT → Bool} {W H : Int} {m0 : Nat → Nat} {p : PtT} {k : Nat} {s : Bf} (h : BfK N W H m0 p k s) (hk : s.l.length ≤ k) : s = runB N W H m0 p := by
 rw [← h.run, goB_end _ _ _ hk]
end Go.Proofs.YtodpkgbpcpfamaaGreat

/- Layer 8: the document's Neighbours. -/
namespace Go.Proofs.YtodpkgbpcpfamaaGreat
set_option linter.unusedSimpArgs false
set_option linter.unusedVariables false
open Go.RowKit Go.Shelf

def nbL (W H : Int) (p : PtT) : List PtT := (nbs p).filter (onB W H)
end Go.Proofs.YtodpkgbpcpfamaaGreat

/- Layer 8: a search in memory; on. -/
namespace Go.Proofs.YtodpkgbpcpfamaaGreat
set_option linter.unusedSimpArgs false
set_option linter.unusedVariables false
open Go.RowKit Go.Shelf
attribute [local go_sem] Oper.semAt_some


/-- To see that a fenced walk stands at a region. -/
theorem stop_atI {F : Fence} {n : Nat} {P : Program} {id : Nat} {ops : Array Oper} {d : Bool} {Q : Exit → Act → World → Prop} {a : Act} {w : World} (h : (Code.region id ops d).wpIn F n P Q a w) : (Code.region id ops d).wpIn F n P Q a w := h
/-! ### A search in memory -/
def seaA (c : Nat) (W H : Int) (m : Nat → Nat) (v : Value) : Array Value := (Value.pointer (some ⟨c, 0, none⟩) :: .int .i64 W :: .int .i64 H :: (mvL m ++ [v])).toArray
abbrev seaO (c : Nat) (W H : Int) (m : Nat → Nat) (v : Value) : Obj := Obj.cells (seaA c W H m v) 104 (0, 0)
theorem seaA_0 (c : Nat) (W H : Int) (m : Nat → Nat) (v : Value) : (seaA c W H m v)[0]? = some (.pointer (some ⟨c, 0, none⟩)) := by simp [seaA]
theorem seaA_1 (c : Nat) (W H : Int) (m : Nat → Nat) (v : Value) : (seaA c W H m v)[1]? = some (.int .i64 W) := by simp [seaA]
theorem seaA_2 (c : Nat) (W H : Int) (m : Nat → Nat) (v : Value) : (seaA c W H m v)[2]? = some (.int .i64 H) := by simp [seaA]
theorem seaL_met (c : Nat) (W H : Int) (m : Nat → Nat) (v : Value) (i : Nat) : (Value.pointer (some ⟨c, 0, none⟩) :: .int .i64 W :: .int .i64 H :: (mvL m ++ [v]))[3 + i]? = (mvL m ++ [v])[i]? := by
 rw [show 3 + i = i + 1 + 1 + 1 by omega, List.getElem?_cons_succ, List.getElem?_cons_succ, List.getElem?_cons_succ]
theorem seaA_met (c : Nat) (W H : Int) (m : Nat → Nat) (v : Value) {i : Nat} (h : i < 1024) : (seaA c W H m v)[3 + i]? = some (.int .i64 (m i)) := by
 unfold seaA
 rw [List.getElem?_toArray, seaL_met, List.getElem?_append_left (by rw [mvL_len]; exact h), mvL_get _ h]
theorem seaA_waits (c : Nat) (W H : Int) (m : Nat → Nat) (v : Value) : (seaA c W H m v)[1027]? = some v := by
 unfold seaA
 rw [List.getElem?_toArray, show 1027 = 3 + 1024 from rfl, seaL_met, List.getElem?_append_right (by rw [mvL_len]; exact Nat.le_refl _), mvL_len]
 rfl
theorem seaA_setm (c : Nat) (W H : Int) (m : Nat → Nat) (v : Value) {k : Nat} (h : k < 1024) (u : Nat) : (seaA c W H m v).setIfInBounds (3 + k) (.int .i64 u) = seaA c W H (fun i => if i = k then u else m i) v := by
 unfold seaA
 rw [List.setIfInBounds_toArray, show 3 + k = k + 1 + 1 + 1 by omega, List.set_cons_succ, List.set_cons_succ, List.set_cons_succ, List.set_append_left _ _ (by rw [mvL_len]; exact h), mvL_set]
theorem seaA_setv (c : Nat) (W H : Int) (m : Nat → Nat) (v u : Value) : (seaA c W H m v).setIfInBounds 1027 u = seaA c W H m u := by
 unfold seaA
 rw [List.setIfInBounds_toArray, show 1027 = 1024 + 1 + 1 + 1 from rfl, List.set_cons_succ, List.set_cons_succ, List.set_cons_succ, List.set_append_right _ _ (by rw [mvL_len]; exact Nat.le_refl _), mvL_len]
 rfl
/-- A world without what lies at S and above. -/
def cutW (y : World) (S : Nat) : World := { y with heap := y.heap.extract 0 S }
theorem cutW_size {y : World} {S : Nat} (h : S ≤ y.heap.size) : (cutW y S).heap.size = S := by simp [cutW]; omega
theorem cutW_below {y : World} {S : Nat} (h : S ≤ y.heap.size) : Below S (cutW y S) y := ⟨rfl, rfl, rfl, by rw [cutW_size h]; exact h, fun k hk => by simp [cutW, Array.getElem?_extract]; intro h1; omega⟩
theorem St.cut {y : World} {S : Nat} {o : Obj} (h : y.heap[S]? = some o) : St (cutW y S) [.blk S o] y := by
 have hl := block_lt h
 refine ⟨(cutW_size (Nat.le_of_lt hl)).symm ▸ cutW_below (Nat.le_of_lt hl), ?_, ?_, ?_⟩
 · intro i hi; rw [List.mem_singleton.1 hi]; exact h
 · exact ⟨by rw [cutW_size (Nat.le_of_lt hl)]; exact Nat.le_refl _, by simp, trivial⟩
 · intro i hi; rw [List.mem_singleton.1 hi]; exact hl
/-- A search under way: what it keeps, and its row of places; since y0 nothing but it has turned. -/
structure SeaS (y0 : World) (pre post : List It) (bs : List Nat) (base S c : Nat) (W H : Int) (s : Bf) (v : Value) (x : World) : Prop where
 o : StO (cutW y0 S) (pre ++ .blk S (seaO c W H s.m v) :: post) base 33 2 encP v s.l x
 nb : ∀ j, v.ownBlock = some j → j ∉ bs
 tu : Turned (fun k => k = S) y0 x
 hp : ∀ i ∈ pre, ∃ b ob, i = .blk b ob
 y0s : y0.heap.size ≤ base
theorem SeaS.at_ {y0 : World} {pre post : List It} {bs : List Nat} {base S c : Nat} {W H : Int} {s : Bf} {v : Value} {x : World} (h : SeaS y0 pre post bs base S c W H s v x) : x.heap[S]? = some (seaO c W H s.m v) :=
 h.o.st.ok (.blk S (seaO c W H s.m v)) (List.mem_append.2 (.inr (by simp)))
theorem SeaS.below {y0 : World} {pre post : List It} {bs : List Nat} {base S c : Nat} {W H : Int} {s : Bf} {v : Value} {x y : World} (h : SeaS y0 pre post bs base S c W H s v x) (hb : Below x.heap.size x y) : SeaS y0 pre post bs base S c W H s v y :=
 ⟨h.o.below hb, h.nb, (h.tu.trans (Turned.of_grown (below_grown hb))).mono fun k _ hk => (by rcases hk with hk | hk; exact hk; cases hk), h.hp, h.y0s⟩
theorem SeaS.more {y0 : World} {pre post : List It} {bs bs' : List Nat} {base S c : Nat} {W H : Int} {s : Bf} {v : Value} {x : World} (h : SeaS y0 pre post bs base S c W H s v x) (hn : ∀ b ∈ bs', b ∈ bs ∨ x.heap.size ≤ b ∨ b < base) : SeaS y0 pre post bs' base S c W H s v x :=
 ⟨h.o, fun j hj hm => by
  have h1 := h.o.row.lt j hj
  rcases hn j hm with h2 | h2 | h2
  · exact h.nb j hj h2
  · omega
  · omega, h.tu, h.hp, h.y0s⟩
theorem SeaS.put {y0 : World} {pre post : List It} {bs : List Nat} {base S c : Nat} {W H : Int} {m : Nat → Nat} {l : List PtT} {v : Value} {x : World} (h : SeaS y0 pre post bs base S c W H ⟨m, l⟩ v x) {k : Nat} (hk : k < 1024) (u : Nat) :
 SeaS y0 pre post bs base S c W H ⟨fun i => if i = k then u else m i, l⟩ v (x.setCell ⟨S, 3 + k, none⟩ (.int .i64 u)) := by
 have hlt : ∀ j, v.ownBlock = some j → j ≠ S := fun j hj e => by
  have h1 := (h.o.row.lt j hj).1
  have h2 := h.o.top (.blk S (seaO c W H m v)) (List.mem_append.2 (.inr (by simp)))
  simp only [It.top] at h2
  omega
 refine ⟨⟨h.o.st.putAt h.hp (3 + k) _ (seaA_setm c W H m v hk u), ?_, h.o.low, fun i hi => ?_, by rw [World.size_setCell]; exact h.o.hi⟩, h.nb, ?_, h.hp, h.y0s⟩
 · refine ⟨h.o.row.1, ?_⟩
   rcases h.o.row.2 with h1 | ⟨g, cap, cur, rfl, h2, h3, h4⟩
   · exact .inl h1
   · refine .inr ⟨g, cap, cur, rfl, h2, (Below.heap_setCell x ⟨S, 3 + k, none⟩ _ g (hlt g rfl)).trans h3, h4⟩
 · rcases List.mem_append.1 hi with h1 | h1
   · exact h.o.top i (List.mem_append.2 (.inl h1))
   · rcases List.mem_cons.1 h1 with rfl | h1
     · have h2 := h.o.top (.blk S (seaO c W H m v)) (List.mem_append.2 (.inr (by simp)))
       simp only [It.top] at h2 ⊢
       exact h2
     · exact h.o.top i (List.mem_append.2 (.inr (by simp [h1])))
 · exact (h.tu.trans (Turned.of_grown (grownBy_setCellAt x S (3 + k) (.int .i64 u)))).mono fun j _ hj => (by rcases hj with hj | hj; exact hj; exact Option.some.inj hj)

set_option maxRecDepth 100000 in
set_option maxHeartbeats 2000000 in
theorem on_any (S : Nat) (W H : Int) (p : PtT) (w : World) (h1 : w.cell? ⟨S, 1, none⟩ = some (.int .i64 W)) (h2 : w.cell? ⟨S, 2, none⟩ = some (.int .i64 H)) :
 Calls Tryz.prog 43 #[.pointer (some ⟨S, 0, none⟩), p.val] w (Gives (.bool (onB W H p)) w) := by
 obtain ⟨x, y⟩ := p
 unfold PtT.val onB
 simp only
 have HC := Lib.hid (And.intro h1 h2)
 have HB := Lib.hid (And.intro (cell_lt h1) (cell_lt h2))
 have HS := Lib.hid (St.start w)
 clear h1 h2
 by_cases g1 : 0 ≤ x <;> by_cases g2 : x < W <;> by_cases g3 : 0 ≤ y <;> by_cases g4 : y < H <;> (
  go_enter Tryz.func43, Tryz.ntmps43
  repeat ((fail_if_success (with_reducible refine stop_at (id := 1) ?_)); (first | go_values | go_skip | go_guarded | go_step | go_upon | go_back | (simp only [Int.not_lt, Int.not_le] at *; go_simp) | (go_values <;> (try go_simp)) | (go_ite <;> go_prune <;> (try go_simp)) | (split <;> (first | (rename_i hx; exact (hx _ rfl).elim) | go_prune))))
  have hs_ := (HS.out.alloc (.cells #[.int .i64 x, .int .i64 y] 33))
  obtain ⟨w1, hw_⟩ : ∃ w1 : World, (w.alloc (.cells #[.int .i64 x, .int .i64 y] 33)) = w1 := ⟨_, rfl⟩
  rw [hw_] at hs_
  try simp only [World.size_alloc] at hs_
  have HS := Lib.hid hs_
  rw [hw_]
  clear hw_ hs_
  have q0 := cell_of_block (k := 0) (HS.out.blockAt 0 rfl) rfl
  have q1 := cell_of_block (k := 1) (HS.out.blockAt 0 rfl) rfl
  have c1 := (HS.out.low.cell (p := ⟨S, 1, none⟩) HB.out.1).trans HC.out.1
  have c2 := (HS.out.low.cell (p := ⟨S, 2, none⟩) HB.out.2).trans HC.out.2
  go_quiet (skip)
  go_wp2_with fail
  go_ret
  exact ⟨ret_bool (by symm; simp [g1, g2, g3, g4]), below_drewN HS.out.low _⟩)
end Go.Proofs.YtodpkgbpcpfamaaGreat

/- Layer 8: the closure that tells whether a pixel's colour is near the first one's. -/
namespace Go.Proofs.YtodpkgbpcpfamaaGreat
set_option linter.unusedSimpArgs false
set_option linter.unusedVariables false
open Go.RowKit Go.Shelf
attribute [local go_sem] Oper.semAt_some

theorem colP_ok {C : CanT} (h : okCan C) {x y : Nat} (hx : x < 8 * C.wide) (hy : y < 8 * C.high) : okC (colC C x y) := (h.tile hx hy).choose_spec.2.2

set_option maxRecDepth 100000 in
set_option maxHeartbeats 1000000 in
theorem near_cl (C : CanT) (c S Bs Bc Bt : Nat) (first : ColT) (hf : okC first) (t : Int) (q : PtT) (hq : onB (8 * (C.wide : Int)) (8 * (C.high : Int)) q = true) (w : World) (hC : CanAt w c C) (h1 : w.cell? ⟨Bs, 0, none⟩ = some (.pointer (some ⟨S, 0, none⟩))) (h2 : w.cell? ⟨S, 0, none⟩ = some (.pointer (some ⟨c, 0, none⟩)))
 (h3 : w.heap[Bc]? = some (.cells #[.int .u8 first.r, .int .u8 first.g, .int .u8 first.b, .int .u8 first.a] 27 (0, 0))) (h4 : w.cell? ⟨Bt, 0, none⟩ = some (.int .i64 t)) :
 Calls Tryz.prog 65 #[q.val, .pointer (some ⟨Bs, 0, none⟩), .pointer (some ⟨Bc, 0, none⟩), .pointer (some ⟨Bt, 0, none⟩)] w (Gives (.bool (nearB first (colP C q) t)) w) := by
 obtain ⟨⟨hx0, hxW⟩, hy0, hyH⟩ := onB_iff.1 hq
 obtain ⟨x, y⟩ := q
 simp only at hx0 hxW hy0 hyH
 obtain ⟨x, rfl⟩ := Int.eq_ofNat_of_zero_le hx0
 obtain ⟨y, rfl⟩ := Int.eq_ofNat_of_zero_le hy0
 have hx : x < 8 * C.wide := by omega
 have hy : y < 8 * C.high := by omega
 have e : colP C ⟨(x : Int), (y : Int)⟩ = colC C x y := rfl
 rw [e]
 have HAT := Lib.hid (fun w' h => at_on C c x y hx hy w' h)
 have HNE := Lib.hid (near_any first (colC C x y) hf (colP_ok hC.ok hx hy) t)
 have HCA := Lib.hid hC
 obtain ⟨cl, hcl⟩ : ∃ cl, colC C x y = cl := ⟨_, rfl⟩
 rw [hcl] at HAT HNE ⊢
 have HB := Lib.hid (And.intro (cell_lt h1) (And.intro (cell_lt h2) (And.intro (block_lt h3) (cell_lt h4))))
 have HH := Lib.hid (And.intro h1 (And.intro h2 (And.intro h3 h4)))
 have HS := Lib.hid (St.start w)
 obtain ⟨fr, fg, fb, fa⟩ := first
 obtain ⟨r, g, bl, al⟩ := cl
 obtain ⟨nb, hnb⟩ : ∃ nb, nearB ⟨fr, fg, fb, fa⟩ ⟨r, g, bl, al⟩ t = nb := ⟨_, rfl⟩
 rw [hnb] at HNE ⊢
 unfold ColT.val at *
 unfold PtT.val
 simp only at *
 clear hf hq hC h1 h2 h3 h4 hx0 hxW hy0 hyH hx hy e hcl hnb
 go_enter Tryz.func65, Tryz.ntmps65
 repeat ((fail_if_success (with_reducible refine stop_at (id := 1) ?_)); (first | go_values | go_skip | go_guarded | go_step | go_upon | go_back | (simp only [Int.not_lt, Int.not_le] at *; go_simp) | (go_values <;> (try go_simp)) | (go_ite <;> go_prune <;> (try go_simp)) | (split <;> (first | (rename_i hx; exact (hx _ rfl).elim) | go_prune))))
 have hs_ := (HS.out.alloc (.cells #[.int .i64 x, .int .i64 y] 33))
 obtain ⟨w3, hw_⟩ : ∃ w3 : World, (w.alloc (.cells #[.int .i64 x, .int .i64 y] 33)) = w3 := ⟨_, rfl⟩
 rw [hw_] at hs_
 try simp only [World.size_alloc] at hs_
 have HS := Lib.hid hs_
 rw [hw_]
 clear hw_ hs_
 refine (wpIn_wide (n := 0)).1 ?_
 refine wp_region_factsE (by kernel_rfl) [(fun v_ _ _ => v_ = (.pointer (some ⟨S, 0, none⟩) : Value)), (fun v_ _ _ => v_ = (.pointer (some ⟨S, 0, none⟩) : Value)), (fun v_ _ _ => v_ = (.pointer (some ⟨S, 0, none⟩) : Value)), (fun v_ _ _ => v_ = (.pointer (some ⟨c, 0, none⟩) : Value)), (fun v_ _ _ => v_ = (.pointer (some ⟨w.heap.size, 0, none⟩) : Value)), (fun v_ _ _ => v_ = (.int .i64 (x : Int) : Value)), (fun v_ _ _ => v_ = (.pointer (some ⟨w.heap.size, 1, none⟩) : Value)), (fun v_ _ _ => v_ = (.int .i64 (y : Int) : Value)), (fun v_ _ _ => v_ = (.tuple #[.agg #[.int .u8 r, .int .u8 g, .int .u8 bl, .int .u8 al], .bool true] : Value)), (fun v_ _ _ => v_ = (.tuple #[.agg #[.int .u8 r, .int .u8 g, .int .u8 bl, .int .u8 al], .bool true] : Value)), (fun v_ _ _ => v_ = (.agg #[.int .u8 r, .int .u8 g, .int .u8 bl, .int .u8 al] : Value)), (fun v_ _ _ => v_ = (.bool true : Value)), (fun v_ e_ w_ => ∃ q, v_ = .pointer (some ⟨q, 0, none⟩) ∧ w3.heap.size ≤ q ∧ (w_.heap[q]? = some (.cells #[.int .u8 0, .int .u8 0, .int .u8 0, .int .u8 0] 27 (0, 0)) ∨ w_.heap[q]? = some (.cells #[.int .u8 r, .int .u8 g, .int .u8 bl, .int .u8 al] 27 (0, 0)))), (fun v_ e_ w_ => ∀ q, e_ 6 = .pointer (some ⟨q, 0, none⟩) → w_.heap[q]? = some (.cells #[.int .u8 r, .int .u8 g, .int .u8 bl, .int .u8 al] 27 (0, 0)))] (fun x y => FillC w3.heap.size (.cells #[.int .u8 0, .int .u8 0, .int .u8 0, .int .u8 0] 27 (0, 0)) (.cells #[.int .u8 r, .int .u8 g, .int .u8 bl, .int .u8 al] 27 (0, 0)) x y) (fun x => FillC.refl _ _ _ x) (fun h k => FillC.trans h k) ⟨fun _ _ _ _ _ h => h, fun _ _ _ _ _ h => h, fun _ _ _ _ _ h => h, fun _ _ _ _ _ h => h, fun _ _ _ _ _ h => h, fun _ _ _ _ _ h => h, fun _ _ _ _ _ h => h, fun _ _ _ _ _ h => h, fun _ _ _ _ _ h => h, fun _ _ _ _ _ h => h, fun _ _ _ _ _ h => h, fun _ _ _ _ _ h => h, fun _ _ _ _ hC ⟨q, e, h, h2⟩ => ⟨q, e, h, FillC.either hC h2⟩, fun _ _ _ _ hC h q e => FillC.filled hC (h q e), trivial⟩ (by kernel_rfl) (by kernel_rfl) (FillC.grow (grows_drew _) (Nat.le_refl _)) ⟨fun _ _ _ _ _ h => h, fun _ _ _ _ _ h => h, fun _ _ _ _ _ h => h, fun _ _ _ _ _ h => h, fun _ _ _ _ _ h => h, fun _ _ _ _ _ h => h, fun _ _ _ _ _ h => h, fun _ _ _ _ _ h => h, fun _ _ _ _ _ h => h, fun _ _ _ _ _ h => h, fun _ _ _ _ _ h => h, fun _ _ _ _ _ h => h, fun _ _ _ _ _ h => h, fun v env env' x he h q e => h q ((he ⟨12, .data⟩ (by simp) rfl _ _ rfl rfl).trans e), trivial⟩ ?steps ?fin
 case steps =>
  refine ⟨?_, ?_, ?_, ?_, ?_, ?_, ?_, ?_, ?_, ?_, ?_, ?_, ?_, ?_, trivial⟩
  · intro a' w' hA hC hD; have s1 : a'.tmps[1]? = some (.pointer (some ⟨Bs, 0, none⟩)) := (hA.at 1 (by kernel_rfl)).trans rfl
    have hCz := FillC.size hC
    have b1 := ((HS.out.low.trans (hC.1.mono HS.out.low.size)).cell (p := ⟨Bs, 0, none⟩) HB.out.1).trans HH.out.1
    clear hA hD; refine stepOk_plain rfl ?_; intro K hK; gi_wp2; exact hK (.pointer (some ⟨S, 0, none⟩)) _ rfl ((fun x => FillC.refl _ _ _ x) _)
  · intro a' w' hA hC hD; obtain ⟨u9, s9, r9⟩ := hD ⟨0, .data⟩ (by simp) rfl _ rfl; replace r9 : u9 = .pointer (some ⟨S, 0, none⟩) := r9; subst r9
    have hCz := FillC.size hC
    clear hA hD; refine stepOk_plain rfl ?_; intro K hK; gi_wp2; exact hK (.pointer (some ⟨S, 0, none⟩)) _ rfl ((fun x => FillC.refl _ _ _ x) _)
  · intro a' w' hA hC hD; obtain ⟨u10, s10, r10⟩ := hD ⟨1, .data⟩ (by simp) rfl _ rfl; replace r10 : u10 = .pointer (some ⟨S, 0, none⟩) := r10; subst r10
    have hCz := FillC.size hC
    clear hA hD; refine stepOk_plain rfl ?_; intro K hK; gi_wp2; exact hK (.pointer (some ⟨S, 0, none⟩)) _ rfl ((fun x => FillC.refl _ _ _ x) _)
  · intro a' w' hA hC hD; obtain ⟨u11, s11, r11⟩ := hD ⟨2, .data⟩ (by simp) rfl _ rfl; replace r11 : u11 = .pointer (some ⟨S, 0, none⟩) := r11; subst r11
    have hCz := FillC.size hC
    have b1 := ((HS.out.low.trans (hC.1.mono HS.out.low.size)).cell (p := ⟨S, 0, none⟩) HB.out.2.1).trans HH.out.2.1
    clear hA hD; refine stepOk_plain rfl ?_; intro K hK; gi_wp2; exact hK (.pointer (some ⟨c, 0, none⟩)) _ rfl ((fun x => FillC.refl _ _ _ x) _)
  · intro a' w' hA hC hD; have s4 : a'.tmps[4]? = some (.pointer (some ⟨w.heap.size, 0, none⟩)) := (hA.at 4 (by kernel_rfl)).trans rfl
    have hCz := FillC.size hC
    clear hA hD; refine stepOk_plain rfl ?_; intro K hK; gi_wp2; exact hK (.pointer (some ⟨w.heap.size, 0, none⟩)) _ rfl ((fun x => FillC.refl _ _ _ x) _)
  · intro a' w' hA hC hD; obtain ⟨u13, s13, r13⟩ := hD ⟨4, .data⟩ (by simp) rfl _ rfl; replace r13 : u13 = .pointer (some ⟨w.heap.size, 0, none⟩) := r13; subst r13
    have hCz := FillC.size hC
    have d0 := cell_of_block (k := 0) ((hC.1.block _ (HS.out.lt 0 rfl)).trans (HS.out.blockAt 0 rfl)) rfl
    clear hA hD; refine stepOk_plain rfl ?_; intro K hK; gi_wp2; exact hK (.int .i64 (x : Int)) _ rfl ((fun x => FillC.refl _ _ _ x) _)
  · intro a' w' hA hC hD; have s4 : a'.tmps[4]? = some (.pointer (some ⟨w.heap.size, 0, none⟩)) := (hA.at 4 (by kernel_rfl)).trans rfl
    have hCz := FillC.size hC
    clear hA hD; refine stepOk_plain rfl ?_; intro K hK; gi_wp2; exact hK (.pointer (some ⟨w.heap.size, 1, none⟩)) _ rfl ((fun x => FillC.refl _ _ _ x) _)
  · intro a' w' hA hC hD; obtain ⟨u15, s15, r15⟩ := hD ⟨6, .data⟩ (by simp) rfl _ rfl; replace r15 : u15 = .pointer (some ⟨w.heap.size, 1, none⟩) := r15; subst r15
    have hCz := FillC.size hC
    have d1 := cell_of_block (k := 1) ((hC.1.block _ (HS.out.lt 0 rfl)).trans (HS.out.blockAt 0 rfl)) rfl
    clear hA hD; refine stepOk_plain rfl ?_; intro K hK; gi_wp2; exact hK (.int .i64 (y : Int)) _ rfl ((fun x => FillC.refl _ _ _ x) _)
  · intro a' w' hA hC hD; obtain ⟨u12, s12, r12⟩ := hD ⟨3, .data⟩ (by simp) rfl _ rfl; replace r12 : u12 = .pointer (some ⟨c, 0, none⟩) := r12; subst r12; obtain ⟨u14, s14, r14⟩ := hD ⟨5, .data⟩ (by simp) rfl _ rfl; replace r14 : u14 = .int .i64 (x : Int) := r14; subst r14; obtain ⟨u16, s16, r16⟩ := hD ⟨7, .data⟩ (by simp) rfl _ rfl; replace r16 : u16 = .int .i64 (y : Int) := r16; subst r16
    have hCz := FillC.size hC
    clear hA hD; refine stepOk_plain rfl ?_; intro K hK
    gi_wp2_with fail; refine (callsIn_wide.2 (HAT.out _ (HCA.out.below (HS.out.low.trans (hC.1.mono HS.out.low.size))))).mono ?_; rintro e w5 ⟨rfl, hb⟩; exact hK _ _ rfl (FillC.grow hb hCz)
  · intro a' w' hA hC hD; obtain ⟨u17, s17, r17⟩ := hD ⟨8, .data⟩ (by simp) rfl _ rfl; replace r17 : u17 = .tuple #[.agg #[.int .u8 r, .int .u8 g, .int .u8 bl, .int .u8 al], .bool true] := r17; subst r17
    have hCz := FillC.size hC
    clear hA hD; refine stepOk_plain rfl ?_; intro K hK; gi_wp2; exact hK (.tuple #[.agg #[.int .u8 r, .int .u8 g, .int .u8 bl, .int .u8 al], .bool true]) _ rfl ((fun x => FillC.refl _ _ _ x) _)
  · intro a' w' hA hC hD; obtain ⟨u8, s8, r8⟩ := hD ⟨9, .data⟩ (by simp) rfl _ rfl; replace r8 : u8 = .tuple #[.agg #[.int .u8 r, .int .u8 g, .int .u8 bl, .int .u8 al], .bool true] := r8; subst r8
    have hCz := FillC.size hC
    clear hA hD; refine stepOk_plain rfl ?_; intro K hK; gi_wp2; exact hK (.agg #[.int .u8 r, .int .u8 g, .int .u8 bl, .int .u8 al]) _ rfl ((fun x => FillC.refl _ _ _ x) _)
  · intro a' w' hA hC hD; obtain ⟨u8, s8, r8⟩ := hD ⟨9, .data⟩ (by simp) rfl _ rfl; replace r8 : u8 = .tuple #[.agg #[.int .u8 r, .int .u8 g, .int .u8 bl, .int .u8 al], .bool true] := r8; subst r8
    have hCz := FillC.size hC
    clear hA hD; refine stepOk_plain rfl ?_; intro K hK; gi_wp2; exact hK (.bool true) _ rfl ((fun x => FillC.refl _ _ _ x) _)
  · intro a' w' hA hC hD
    have hCz := FillC.size hC
    clear hA hD; refine stepOk_plain rfl ?_; intro K hK; gi_wp2; exact hK (.pointer (some ⟨w'.heap.size, 0, none⟩)) _ ⟨w'.heap.size, rfl, hCz, .inl (World.alloc_heap_new _ _)⟩ (FillC.grow ((Below.refl _ _).alloc (Nat.le_refl _) _) hCz)
  · intro a' w' hA hC hD; obtain ⟨u6, s6, r6⟩ := hD ⟨12, .data⟩ (by simp) rfl _ rfl; replace r6 : (fun v_ e_ w_ => ∃ q, v_ = .pointer (some ⟨q, 0, none⟩) ∧ w3.heap.size ≤ q ∧ (w_.heap[q]? = some (.cells #[.int .u8 0, .int .u8 0, .int .u8 0, .int .u8 0] 27 (0, 0)) ∨ w_.heap[q]? = some (.cells #[.int .u8 r, .int .u8 g, .int .u8 bl, .int .u8 al] 27 (0, 0)))) u6 (envOf a') w' := r6; obtain ⟨u18, s18, r18⟩ := hD ⟨10, .data⟩ (by simp) rfl _ rfl; replace r18 : u18 = .agg #[.int .u8 r, .int .u8 g, .int .u8 bl, .int .u8 al] := r18; subst r18
    have hCz := FillC.size hC
    have henv : envOf a' 6 = u6 := by (unfold envOf; rw [s6]; rfl)
    clear hA hD; refine stepOk_plain rfl ?_; intro K hK
    obtain ⟨q, rfl, hge, hq⟩ := r6; obtain ⟨y0, y1, y2, y3, hy⟩ := either4 hq; have d0 := cell_of_block (k := 0) (v := y0) hy rfl; have d1 := cell_of_block (k := 1) (v := y1) hy rfl; have d2 := cell_of_block (k := 2) (v := y2) hy rfl; have d3 := cell_of_block (k := 3) (v := y3) hy rfl; have fr := free_of_block hy; gi_wp2
    exact hK undef _ (fun q' e => by rw [henv] at e; cases e; exact (fill4 (n₀ := w3.heap.size) hge hq).2) (fill4 (n₀ := w3.heap.size) hge hq).1
 case fin =>
  intro w4 env hC
  simp only [EndFromE, forall_eq, Option.some.injEq, forall_eq', reduceCtorEq, false_implies, implies_true, forall_const, Act.put, List.length_cons, List.length_nil, List.drop_succ_cons, List.drop_zero, Nat.reduceAdd, List.setIfInBounds_toArray, List.set_cons_succ, List.set_cons_zero]
  rintro _ _ _ _ _ _ _ _ _ _ _ _ v6 ⟨q6, rfl, hge, _⟩ he hs
  have h6 := hs q6 he
  have HS := Lib.hid (HS.out.below hC.1)
  have d0 := cell_of_block (k := 0) h6 rfl
  have d1 := cell_of_block (k := 1) h6 rfl
  have d2 := cell_of_block (k := 2) h6 rfl
  have d3 := cell_of_block (k := 3) h6 rfl
  have hb3 := (HS.out.low.block _ HB.out.2.2.1).trans HH.out.2.2.1
  have k0 := cell_of_block (k := 0) hb3 rfl
  have k1 := cell_of_block (k := 1) hb3 rfl
  have k2 := cell_of_block (k := 2) hb3 rfl
  have k3 := cell_of_block (k := 3) hb3 rfl
  have t0 := (HS.out.low.cell (p := ⟨Bt, 0, none⟩) HB.out.2.2.2).trans HH.out.2.2.2
  clear hs he h6 hC hge hb3
  gi_wp2
  go_wp2_with fail
  refine (HNE.out _).mono ?_
  rintro e w5 ⟨rfl, hb_⟩
  have HS := Lib.hid (HS.out.below hb_)
  clear hb_
  go_wp2_with fail
  go_ret
  exact ⟨rfl, HS.out.low⟩
end Go.Proofs.YtodpkgbpcpfamaaGreat
