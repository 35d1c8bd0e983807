/- Package ident: how ids stand: cmp.Compare, cmp.Or, Compare, Less; the document's Right, Less. -/
import Derived.Test.YtppaheekpmgifaaDoorState
import Derived.Test.YtppaheekpmgifaaDoorIdent
import Derived.Shelf.SlSortCmp.NoneTotal
namespace Go.Proofs.YtppaheekpmgifaaDoor
set_option linter.unusedSimpArgs false
set_option linter.unusedVariables false
open Go.RowKit Go.Shelf

/-- A world that has drawn, and grown. -/
def Grows (x y : World) : Prop := ∃ q os, y = Sort.grow (x.drewN q) os
theorem Grows.refl (x : World) : Grows x x := ⟨0, #[], by simp [Sort.grow, World.drewN]⟩
theorem Grows.trans {x y z : World} (h : Grows x y) (k : Grows y z) : Grows x z := by
  obtain ⟨q, os, rfl⟩ := h
  obtain ⟨q', os', rfl⟩ := k
  refine ⟨q + q', os ++ os', ?_⟩
  simp only [Sort.grow, World.drewN]
  congr 1
  · exact Array.append_assoc
  · omega
theorem Grows.drew (x : World) : Grows x x.drew := ⟨1, #[], by show x.drew = { x.drewN 1 with heap := x.heap ++ #[] }; rw [Array.append_empty]; rfl⟩
theorem Grows.alloc (x : World) (o : Obj) : Grows x (x.alloc o) := ⟨0, #[o], by show x.alloc o = { x.drewN 0 with heap := x.heap ++ #[o] }; rw [Array.append_singleton]; rfl⟩
theorem Grows.below {x y : World} (h : Grows x y) : Below x.heap.size x y := by
  obtain ⟨q, os, rfl⟩ := h
  refine ⟨rfl, rfl, rfl, by simp [Sort.grow, World.drewN], fun k hk => ?_⟩
  show (x.heap ++ os)[k]? = x.heap[k]?
  exact Array.getElem?_append_left hk
/-- It returns v, and has drawn, and grown, alone. -/
def GivesG (v : Value) (w : World) (e : Ending) (w' : World) : Prop := e = .returned v ∧ Grows w w'
theorem GivesG.gives {v : Value} {w : World} {e : Ending} {w' : World} (h : GivesG v w e w') : Gives v w e w' := ⟨h.1, h.2.below⟩

theorem isNaN_u64 (x : Int) (w : World) : Calls Tryd.prog 55 #[.int .u64 x] w fun e w' => e = .returned (.bool false) ∧ w = w' := by
  go_enter Tryd.func55, Tryd.ntmps55
  go_wp2
  go_ret
  exact ⟨rfl, rfl⟩
theorem cmp_u64 (x y : Int) (w : World) : Calls Tryd.prog 46 #[.int .u64 x, .int .u64 y] w fun e w' => e = .returned (.int .i64 (Lib.compareInt x y)) ∧ w = w' := by
  unfold Lib.compareInt
  by_cases h1 : x < y
  · go_enter Tryd.func46, Tryd.ntmps46
    go_wp2_with (go_at_call 55; refine (isNaN_u64 _ _).mono ?_; rintro e w' ⟨rfl, rfl⟩)
    go_ret
    exact ⟨ret_int (by simp [h1]), rfl⟩
  · by_cases h2 : y < x
    · go_enter Tryd.func46, Tryd.ntmps46
      go_wp2_with (go_at_call 55; refine (isNaN_u64 _ _).mono ?_; rintro e w' ⟨rfl, rfl⟩)
      go_ret
      exact ⟨rfl, rfl⟩
    · go_enter Tryd.func46, Tryd.ntmps46
      go_wp2_with (go_at_call 55; refine (isNaN_u64 _ _).mono ?_; rintro e w' ⟨rfl, rfl⟩)
      go_ret
      exact ⟨rfl, rfl⟩

theorem isNaN_i64 (x : Int) (w : World) : Calls Tryd.prog 56 #[.int .i64 x] w fun e w' => e = .returned (.bool false) ∧ w = w' := by
  go_enter Tryd.func56, Tryd.ntmps56
  go_wp2
  go_ret
  exact ⟨rfl, rfl⟩
theorem cmp_i64 (x y : Int) (w : World) : Calls Tryd.prog 47 #[.int .i64 x, .int .i64 y] w fun e w' => e = .returned (.int .i64 (Lib.compareInt x y)) ∧ w = w' := by
  unfold Lib.compareInt
  by_cases h1 : x < y
  · go_enter Tryd.func47, Tryd.ntmps47
    go_wp2_with (go_at_call 56; refine (isNaN_i64 _ _).mono ?_; rintro e w' ⟨rfl, rfl⟩)
    go_ret
    exact ⟨ret_int (by simp [h1]), rfl⟩
  · by_cases h2 : y < x
    · go_enter Tryd.func47, Tryd.ntmps47
      go_wp2_with (go_at_call 56; refine (isNaN_i64 _ _).mono ?_; rintro e w' ⟨rfl, rfl⟩)
      go_ret
      exact ⟨rfl, rfl⟩
    · go_enter Tryd.func47, Tryd.ntmps47
      go_wp2_with (go_at_call 56; refine (isNaN_i64 _ _).mono ?_; rintro e w' ⟨rfl, rfl⟩)
      go_ret
      exact ⟨rfl, rfl⟩

/-- The first that is not 0, of three. -/
def or3 (a b c : Int) : Int := if a = 0 then if b = 0 then c else b else a
set_option maxRecDepth 100000 in
set_option maxHeartbeats 1000000 in
theorem or_any (q : Nat) (a b c : Int) (w : World) (hq : w.heap[q]? = some (.cells #[.int .i64 a, .int .i64 b, .int .i64 c] 3 (0, 0))) :
    Calls Tryd.prog 45 #[.slice (some ⟨q, 0, none⟩) 3 3] w fun e w' => e = .returned (.int .i64 (or3 a b c)) ∧ w = w' := by
  have c0 := cell_of_block (k := 0) (v := .int .i64 a) hq rfl
  have c1 := cell_of_block (k := 1) (v := .int .i64 b) hq rfl
  have c2 := cell_of_block (k := 2) (v := .int .i64 c) hq rfl
  clear hq
  unfold or3
  by_cases ha : a = 0
  · subst ha
    by_cases hb : b = 0
    · subst hb
      by_cases hc : c = 0
      · subst hc
        go_enter Tryd.func45, Tryd.ntmps45
        go_wp2_with fail
        refine wp_loop_rounds 4 ?_
        rw [rounds_succ]; go_wp2_with fail; rw [rounds_succ]; go_wp2_with fail; rw [rounds_succ]; go_wp2_with fail; rw [rounds_succ]; go_wp2_with fail
        go_ret
        exact ⟨rfl, rfl⟩
      · go_enter Tryd.func45, Tryd.ntmps45
        go_wp2_with fail
        refine wp_loop_rounds 3 ?_
        rw [rounds_succ]; go_wp2_with fail; rw [rounds_succ]; go_wp2_with fail; rw [rounds_succ]; go_wp2_with fail
        go_ret
        exact ⟨rfl, rfl⟩
    · go_enter Tryd.func45, Tryd.ntmps45
      go_wp2_with fail
      refine wp_loop_rounds 2 ?_
      rw [rounds_succ]; go_wp2_with fail; rw [rounds_succ]; go_wp2_with fail
      go_ret
      exact ⟨by simp [hb], rfl⟩
  · go_enter Tryd.func45, Tryd.ntmps45
    go_wp2_with fail
    refine wp_loop_rounds 1 ?_
    rw [rounds_succ]; go_wp2_with fail
    go_ret
    exact ⟨by simp [ha], rfl⟩

deriving instance DecidableEq for IdT
/-- Does one id stand ahead? -/
def idLess (a b : IdT) : Bool := if a.time ≠ b.time then decide (a.time < b.time) else if a.site ≠ b.site then decide (a.site < b.site) else decide (a.seq < b.seq)
/-- How two ids stand. -/
def cmpId (a b : IdT) : Int := if a = b then 0 else or3 (Lib.compareInt a.time b.time) (Lib.compareInt a.site b.site) (Lib.compareInt a.seq b.seq)
theorem cmpId_lt (a b : IdT) : decide (cmpId a b < 0) = idLess a b := by
  obtain ⟨a1, a2, a3⟩ := a
  obtain ⟨b1, b2, b3⟩ := b
  unfold cmpId idLess or3 Lib.compareInt
  dsimp only
  rw [Bool.eq_iff_iff]
  by_cases h : (⟨a1, a2, a3⟩ : IdT) = ⟨b1, b2, b3⟩
  · rw [if_pos h]
    simp only [IdT.mk.injEq] at h
    obtain ⟨rfl, rfl, rfl⟩ := h
    simp
  · rw [if_neg h]
    simp only [IdT.mk.injEq] at h
    by_cases h1 : a1 = b1
    · subst h1
      by_cases h2 : a2 = b2
      · subst h2
        have h3 : a3 ≠ b3 := fun e => h ⟨rfl, rfl, e⟩
        rcases Int.lt_or_lt_of_ne h3 with h3 | h3
        · simp [h3]
        · simp [Int.lt_asymm h3, h3]
      · rcases Int.lt_or_lt_of_ne h2 with h3 | h3
        · simp [h3, h2]
        · simp [Int.lt_asymm h3, h3, h2]
    · rcases Int.lt_or_lt_of_ne h1 with h3 | h3
      · simp [h3, h1]
      · simp [Int.lt_asymm h3, h3, h1]
end Go.Proofs.YtppaheekpmgifaaDoor
