/- Layer 6: places, spans, boxes; which may be drawn. -/
import Derived.Test.YtflbcabjefpojaaBase
namespace Go.Proofs.Ytflbcabjefpojaa
set_option linter.unusedSimpArgs false
set_option linter.unusedVariables false
open Go.RowKit Go.Shelf

structure PtT where
  x : Int
  y : Int
deriving DecidableEq
def PtT.val (p : PtT) : Value := .agg #[.int .i64 p.x, .int .i64 p.y]
def encP (p : PtT) : List Value := [.int .i64 p.x, .int .i64 p.y]
theorem encP_len (p : PtT) : (encP p).length = 2 := rfl
structure SpT where
  y : Int
  f : Int
  t : Int
deriving DecidableEq
def SpT.val (s : SpT) : Value := .agg #[.int .i64 s.y, .int .i64 s.f, .int .i64 s.t]
def encS (s : SpT) : List Value := [.int .i64 s.y, .int .i64 s.f, .int .i64 s.t]
theorem encS_len (s : SpT) : (encS s).length = 3 := rfl
structure BxT where
  x : Int
  y : Int
  x2 : Int
  y2 : Int
deriving DecidableEq
def BxT.val (b : BxT) : Value := .agg #[.int .i64 b.x, .int .i64 b.y, .int .i64 b.x2, .int .i64 b.y2]

/-- May it be drawn? -/
def drawnB (p : PtT) : Bool := decide (-64 ≤ p.x ∧ p.x ≤ 127 ∧ -64 ≤ p.y ∧ p.y ≤ 127)
def sizeB (n : Int) : Bool := decide (0 ≤ n ∧ n ≤ 15)
def reachB (n : Int) : Bool := decide (-256 ≤ n ∧ n ≤ 255)

set_option maxRecDepth 100000 in
set_option maxHeartbeats 1000000 in
theorem drawn_any (p : PtT) (w : World) : Calls Try.prog 38 #[p.val] w (Gives (.bool (drawnB p)) w) := by
  obtain ⟨x, y⟩ := p
  unfold PtT.val drawnB
  dsimp only
  by_cases h1 : -64 ≤ min x y
  · by_cases h2 : max x y ≤ 127
    · go_enter Try.func38, Try.ntmps38
      go_wp2_with fail
      go_ret
      exact ⟨ret_bool (by symm; simp; omega), (Below.refl _ _).alloc (Nat.le_refl _) _⟩
    · go_enter Try.func38, Try.ntmps38
      go_wp2_with fail
      go_ret
      exact ⟨ret_bool (by symm; simp; omega), (Below.refl _ _).alloc (Nat.le_refl _) _⟩
  · go_enter Try.func38, Try.ntmps38
    go_wp2_with fail
    go_ret
    exact ⟨ret_bool (by symm; simp; omega), (Below.refl _ _).alloc (Nat.le_refl _) _⟩

theorem refSize_any (n : Int) (w : World) : Calls Try.prog 12 #[.int .i64 n] w (Gives (.bool (sizeB n)) w) := by
  unfold sizeB
  by_cases h1 : 0 ≤ n
  · go_enter Try.func12, Try.ntmps12
    go_wp2
    go_ret
    exact ⟨ret_bool (by simp [h1]), Below.refl _ _⟩
  · go_enter Try.func12, Try.ntmps12
    go_wp2
    go_ret
    exact ⟨ret_bool (by symm; simp; omega), Below.refl _ _⟩
theorem refReach_any (n : Int) (w : World) : Calls Try.prog 53 #[.int .i64 n] w (Gives (.bool (reachB n)) w) := by
  unfold reachB
  by_cases h1 : -256 ≤ n
  · go_enter Try.func53, Try.ntmps53
    go_wp2
    go_ret
    exact ⟨ret_bool (by simp [h1]), Below.refl _ _⟩
  · go_enter Try.func53, Try.ntmps53
    go_wp2
    go_ret
    exact ⟨ret_bool (by symm; simp; omega), Below.refl _ _⟩
set_option maxRecDepth 100000 in
set_option maxHeartbeats 1000000 in
theorem refDrawn_any (p : PtT) (w : World) : Calls Try.prog 15 #[p.val] w (Gives (.bool (drawnB p)) w) := by
  obtain ⟨x, y⟩ := p
  unfold PtT.val drawnB
  dsimp only
  by_cases h1 : -64 ≤ x
  · by_cases h2 : x ≤ 127
    · by_cases h3 : -64 ≤ y
      · go_enter Try.func15, Try.ntmps15
        go_wp2_with fail
        go_ret
        exact ⟨ret_bool (by simp [h1, h2, h3]), (Below.refl _ _).alloc (Nat.le_refl _) _⟩
      · go_enter Try.func15, Try.ntmps15
        go_wp2_with fail
        go_ret
        exact ⟨ret_bool (by symm; simp; omega), (Below.refl _ _).alloc (Nat.le_refl _) _⟩
    · go_enter Try.func15, Try.ntmps15
      go_wp2_with fail
      go_ret
      exact ⟨ret_bool (by symm; simp; omega), (Below.refl _ _).alloc (Nat.le_refl _) _⟩
  · go_enter Try.func15, Try.ntmps15
    go_wp2_with fail
    go_ret
    exact ⟨ret_bool (by symm; simp; omega), (Below.refl _ _).alloc (Nat.le_refl _) _⟩

/-- The way, and its side. -/
def wayN (a b : Int) : Int := if b < a then a - b else b - a
def sideN (a b : Int) : Int := if b < a then -1 else 1
set_option maxRecDepth 100000 in
set_option maxHeartbeats 1000000 in
theorem refAway_any (a b : Int) (w : World) : Calls Try.prog 52 #[.int .i64 a, .int .i64 b] w (Gives (.tuple #[.int .i64 (wrap64 (wayN a b)), .int .i64 (sideN a b)]) w) := by
  unfold wayN sideN
  by_cases h1 : b < a
  · rw [if_pos h1, if_pos h1]
    go_enter Try.func52, Try.ntmps52
    go_wp2
    refine bodyPost_ret (v := .tuple #[.int .i64 (wrap64 (a - b)), .int .i64 (-1)]) (by simp [results, Try.results52, go_sem]) rfl ⟨rfl, Below.refl _ _⟩
  · rw [if_neg h1, if_neg h1]
    go_enter Try.func52, Try.ntmps52
    go_wp2
    refine bodyPost_ret (v := .tuple #[.int .i64 (wrap64 (b - a)), .int .i64 1]) (by simp [results, Try.results52, go_sem]) rfl ⟨rfl, Below.refl _ _⟩
end Go.Proofs.Ytflbcabjefpojaa
