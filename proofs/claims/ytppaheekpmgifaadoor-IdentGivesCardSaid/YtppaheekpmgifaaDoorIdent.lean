/- Contracts of the functions of package ident that only compute. -/
import Derived.Test.YtppaheekpmgifaaDoorBaseB
namespace Go.Proofs.YtppaheekpmgifaaDoor
set_option linter.unusedSimpArgs false
set_option linter.unusedVariables false
open Go.RowKit Go.Shelf

/-- The greatest time. -/
def MaxT : Int := 4611686018427387904

theorem maxT_eq : MaxT = 4611686018427387904 := rfl

structure IdT where
  time : Int
  site : Int
  seq : Int

def IdT.val (i : IdT) : Value := .agg #[.int .u64 i.time, .int .i64 i.site, .int .u64 i.seq]

def siteOk (n : Int) : Bool := decide (1 ≤ n ∧ n ≤ 8)

def idOk (i : IdT) : Bool := decide (1 ≤ i.time ∧ i.time ≤ MaxT) && (siteOk i.site && decide (1 ≤ i.seq ∧ i.seq ≤ MaxT))

theorem idOk_iff (i : IdT) : idOk i = true ↔ (1 ≤ i.time ∧ i.time ≤ MaxT) ∧ (1 ≤ i.site ∧ i.site ≤ 8) ∧ (1 ≤ i.seq ∧ i.seq ≤ MaxT) := by
  simp [idOk, siteOk]

theorem site_any (n : Int) (w : World) :
    Calls Tryd.prog 39 #[.int .i64 n] w fun e w' => e = .returned (.bool (siteOk n)) ∧ w = w' := by
  unfold siteOk
  by_cases h1 : 1 ≤ n
  · go_enter Tryd.func39, Tryd.ntmps39
    go_wp2
    go_ret
    exact ⟨by simp [h1], rfl⟩
  · go_enter Tryd.func39, Tryd.ntmps39
    go_wp2
    go_ret
    exact ⟨by simp; omega, rfl⟩

theorem idCheck_any (i : IdT) (w : World) :
    Calls Tryd.prog 14 #[i.val] w (Gives (.int .i64 (errOf (idOk i) 210)) w) := by
  obtain ⟨t, s, q⟩ := i
  unfold IdT.val idOk MaxT
  dsimp only
  by_cases h1 : 1 ≤ t
  · by_cases h2 : t ≤ 4611686018427387904
    · cases hs : siteOk s
      · go_enter Tryd.func14, Tryd.ntmps14
        go_wp2_with (go_at_call 39; refine (site_any _ _).mono ?_; rintro e w' ⟨rfl, rfl⟩)
        go_ret
        exact ⟨ret_int (by simp [errOf]), (Below.refl _ _).alloc (Nat.le_refl _) _⟩
      · by_cases h3 : 1 ≤ q
        · by_cases h4 : q ≤ 4611686018427387904
          · go_enter Tryd.func14, Tryd.ntmps14
            go_wp2_with (go_at_call 39; refine (site_any _ _).mono ?_; rintro e w' ⟨rfl, rfl⟩)
            go_ret
            exact ⟨ret_int (by simp [errOf, h1, h2, h3, h4]), (Below.refl _ _).alloc (Nat.le_refl _) _⟩
          · go_enter Tryd.func14, Tryd.ntmps14
            go_wp2_with (go_at_call 39; refine (site_any _ _).mono ?_; rintro e w' ⟨rfl, rfl⟩)
            go_ret
            exact ⟨ret_int (by simp [errOf]; omega), (Below.refl _ _).alloc (Nat.le_refl _) _⟩
        · go_enter Tryd.func14, Tryd.ntmps14
          go_wp2_with (go_at_call 39; refine (site_any _ _).mono ?_; rintro e w' ⟨rfl, rfl⟩)
          go_ret
          exact ⟨ret_int (by simp [errOf]; omega), (Below.refl _ _).alloc (Nat.le_refl _) _⟩
    · go_enter Tryd.func14, Tryd.ntmps14
      go_wp2_with fail
      go_ret
      exact ⟨ret_int (by simp [errOf]; omega), (Below.refl _ _).alloc (Nat.le_refl _) _⟩
  · go_enter Tryd.func14, Tryd.ntmps14
    go_wp2_with fail
    go_ret
    exact ⟨ret_int (by simp [errOf]; omega), (Below.refl _ _).alloc (Nat.le_refl _) _⟩
end Go.Proofs.YtppaheekpmgifaaDoor
