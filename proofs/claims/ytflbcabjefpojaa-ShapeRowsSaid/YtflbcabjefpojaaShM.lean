/- Layer 6: the map of rows, by Y. -/
import Derived.Test.YtflbcabjefpojaaShL
import Derived.Maps.AppendAt
import Derived.Maps.OwnSet
import Derived.Maps.RangeWalk
namespace Go.Proofs.Ytflbcabjefpojaa
set_option linter.unusedSimpArgs false
set_option linter.unusedVariables false
open Go.RowKit Go.Shelf Go.Maps

def heldR (v : Value) : Option (DataW Value × List MemPlace) := some (.held v, [])
def nilS : Value := .slice none 0 0
def inK (y : Int) : Prop := -1000 ≤ y ∧ y ≤ 1000
theorem inK_wf {y : Int} (h : inK y) : (Lit.int .i64 y).wf = true := WalkArith.wf_i64 (by unfold inK at h; omega)

/-- Block b is a map that holds at each Y a row of the call's own; no two in one block. -/
structure GrD (w : World) (base b n : Nat) (D : DataW Value) (F : Int → Value) (G : Int → List SpT) : Prop where
  map : w.ownsMap Try.prog 3 heldR b n D
  at_ : ∀ y, inK y → D.atKey (.int .i64 y) (.held nilS) = .held (F y)
  row : ∀ y, inK y → w.ownsRow base 39 3 (F y) (G y).length ((G y).flatMap encS)
  apart : ∀ y z j, inK y → inK z → y ≠ z → (F y).ownBlock = some j → (F z).ownBlock ≠ some j
  has : ∀ y, inK y → (Maps.has D (.int .i64 y) = true ↔ G y ≠ [])
  only : ∀ k, Maps.has D k = true → ∃ y, inK y ∧ k = .int .i64 y
  lt : b < base

theorem keyedI : Keyed Try.prog 3 := int_keyed Try.underlying3
theorem GrD.look {w : World} {base b n : Nat} {D : DataW Value} {F : Int → Value} {G : Int → List SpT} (h : GrD w base b n D F G) {y : Int} (hy : inK y) :
    (Instr.lookup 74 (.map (some b)) (.int .i64 y) false).run Try.prog w = .ok (F y) w := by
  obtain ⟨v, ps, hrun, hv⟩ := h.map.lookup keyedI Try.underlying74 (Try.zeroValue29 w) (zd := .held nilS) (zp := []) rfl (keyOf_int_mk Try.underlying3 (inK_wf hy))
  rw [h.at_ y hy] at hv
  simp only [heldR, Option.some.injEq, Prod.mk.injEq, DataW.held.injEq] at hv
  rw [hrun, hv.1]
theorem GrD.start (w : World) : GrD (w.alloc (.map #[] 0)) (w.heap.size + 1) w.heap.size 0 (.map []) (fun _ => nilS) (fun _ => []) :=
  ⟨World.ownsMap_made _ _ _ _, fun _ _ => rfl, fun _ _ => World.ownsRow_nil _ _ _ _, fun _ _ _ _ _ _ h => (by cases h), fun _ _ => (by simp [Maps.has]), fun _ h => (by simp [Maps.has] at h), Nat.lt_succ_self _⟩
theorem GrD.kept {w w' : World} {base b n : Nat} {D : DataW Value} {F : Int → Value} {G : Int → List SpT} (h : GrD w base b n D F G) (hb : Below w.heap.size w w') : GrD w' base b n D F G :=
  ⟨h.map.kept (row := none) ⟨hb.os, hb.tape, hb.output, hb.size, fun k hk _ => hb.block k hk⟩ (by simp), h.at_, fun y hy => ownsRow_below (h.row y hy) hb, h.apart, h.has, h.only, h.lt⟩

theorem GrD.put {w0 w : World} {base b n : Nat} {D : DataW Value} {F : Int → Value} {G : Int → List SpT} (h : GrD w0 base b n D F G) {y : Int} (hy : inK y) (hn : n < maxLen) (hg : w0.grownBy w (F y).ownBlock) {v' : Value} {L : List SpT}
    (hrow : w.ownsRow base 39 3 v' L.length (L.flatMap encS)) (hL : L ≠ []) (hloc : v'.ownBlock = (F y).ownBlock ∨ ∃ g, v'.ownBlock = some g ∧ w0.heap.size ≤ g) :
    ∃ w2, (Instr.mapUpdate 74 (.map (some b)) (.int .i64 y) v').run Try.prog w = .ok () w2 ∧ GrD w2 base b (n + 1) (D.put (.int .i64 y) (.held v')) (fun z => if z = y then v' else F z) (fun z => if z = y then L else G z) ∧ w.grownBy w2 (some b) := by
  have hbF : some b ≠ (F y).ownBlock := fun e => by have := ((h.row y hy).lt b e.symm).1; have := h.lt; omega
  have hm := h.map.kept hg hbF
  have hkey := keyOf_int_mk (P := Try.prog) Try.underlying3 (inK_wf hy)
  obtain ⟨w2, hrun, hm2, hg2⟩ := hm.update keyedI Try.underlying74 hn hkey (val := v') rfl
  have hik : WideAt.IsKeyLit (Lit.int .i64 y) := by first | trivial | exact Maps.isKeyLit_of_keyOf hkey | simp [WideAt.IsKeyLit]
  have hne : ∀ z, z ≠ y → (Lit.int .i64 z) ≠ (Lit.int .i64 y) := fun z hz e => hz (by cases e; rfl)
  have hrowb : ∀ (x : World) (v : Value) (k : Nat) (xs : List Value), x.ownsRow base 39 3 v k xs → v.ownBlock = none ∨ v.ownBlock ≠ some b := fun x v k xs hr => by
    cases hv : v.ownBlock with
    | none => exact .inl rfl
    | some j => exact .inr fun e => by cases e; have := (hr.lt b hv).1; have := h.lt; omega
  refine ⟨w2, hrun, ⟨hm2, fun z hz => ?_, fun z hz => ?_, fun z z' j hz hz' hne' hj => ?_, fun z hz => ?_, fun k hk => ?_, h.lt⟩, hg2⟩
  · by_cases e : z = y
    · subst e; rw [atKey_put_same hm.isMap hik]; simp
    · rw [atKey_put_other (hne z e), h.at_ z hz]; simp [e]
  · by_cases e : z = y
    · subst e; simp only [if_true]; exact hrow.kept hg2 (hrowb _ _ _ _ hrow)
    · simp only [if_neg e]
      have hr := h.row z hz
      refine (hr.kept hg ?_).kept hg2 (hrowb _ _ _ _ hr)
      cases hv : (F z).ownBlock with
      | none => exact .inl rfl
      | some j => exact .inr fun e' => h.apart z y j hz hy e hv e'.symm
  · by_cases e : z = y
    · subst e
      have e2 : ¬ z' = z := fun e2 => hne' e2.symm
      simp only [if_true, if_neg e2] at hj ⊢
      rcases hloc with hl | ⟨g, hl, hge⟩
      · rw [hl] at hj; exact h.apart z z' j hz hz' hne' hj
      · rw [hl] at hj; cases hj
        intro hj'
        have := ((h.row z' hz').lt _ hj').2
        omega
    · by_cases e' : z' = y
      · subst e'
        simp only [if_neg e, if_true] at hj ⊢
        rcases hloc with hl | ⟨g, hl, hge⟩
        · rw [hl]; exact fun hj' => h.apart z' z j hz' hz (fun e => hne' e.symm) hj' hj
        · rw [hl]; intro hj'; cases hj'
          have := ((h.row z hz).lt _ hj).2
          omega
      · simp only [if_neg e, if_neg e'] at hj ⊢
        exact h.apart z z' j hz hz' hne' hj
  · by_cases e : z = y
    · subst e; rw [has_put_same hm.isMap hik]; simp [hL]
    · rw [has_put_other (hne z e), h.has z hz]; simp [e]
  · by_cases e : k = .int .i64 y
    · exact ⟨y, hy, e⟩
    · rw [has_put_other e] at hk; exact h.only k hk
end Go.Proofs.Ytflbcabjefpojaa
