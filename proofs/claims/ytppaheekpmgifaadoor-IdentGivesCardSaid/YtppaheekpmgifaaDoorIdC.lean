/- The document's answer for ids: Right, Less. Package ident: Less. -/
import Derived.Test.YtppaheekpmgifaaDoorIdB
namespace Go.Proofs.YtppaheekpmgifaaDoor
set_option linter.unusedSimpArgs false
set_option linter.unusedVariables false
open Go.RowKit Go.Shelf

theorem refSite_any (n : Int) (w : World) : Calls Tryd.prog 19 #[.int .i64 n] w fun e w' => e = .returned (.bool (siteOk n)) ∧ w = w' := by
  unfold siteOk
  by_cases h1 : 1 ≤ n
  · go_enter Tryd.func19, Tryd.ntmps19
    go_wp2
    go_ret
    exact ⟨by simp [h1], rfl⟩
  · go_enter Tryd.func19, Tryd.ntmps19
    go_wp2
    go_ret
    exact ⟨by simp; omega, rfl⟩

set_option maxRecDepth 100000 in
set_option maxHeartbeats 1000000 in
theorem refIdRight_any (i : IdT) (w : World) : Calls Tryd.prog 27 #[i.val] w (Gives (.bool (idOk i)) w) := by
  obtain ⟨t, s, q⟩ := i
  unfold IdT.val idOk MaxT
  dsimp only
  by_cases h1 : 1 ≤ t
  · by_cases h2 : t ≤ 4611686018427387904
    · cases hs : siteOk s
      · go_enter Tryd.func27, Tryd.ntmps27
        go_wp2_with (go_at_call 19; refine (refSite_any _ _).mono ?_; rintro e w' ⟨rfl, rfl⟩)
        go_ret
        exact ⟨by simp, (Below.refl _ _).alloc (Nat.le_refl _) _⟩
      · by_cases h3 : 1 ≤ q
        · go_enter Tryd.func27, Tryd.ntmps27
          go_wp2_with (go_at_call 19; refine (refSite_any _ _).mono ?_; rintro e w' ⟨rfl, rfl⟩)
          go_ret
          exact ⟨by simp [h1, h2, h3], (Below.refl _ _).alloc (Nat.le_refl _) _⟩
        · go_enter Tryd.func27, Tryd.ntmps27
          go_wp2_with (go_at_call 19; refine (refSite_any _ _).mono ?_; rintro e w' ⟨rfl, rfl⟩)
          go_ret
          exact ⟨ret_bool (by symm; simp; omega), (Below.refl _ _).alloc (Nat.le_refl _) _⟩
    · go_enter Tryd.func27, Tryd.ntmps27
      go_wp2_with fail
      go_ret
      exact ⟨ret_bool (by symm; simp; omega), (Below.refl _ _).alloc (Nat.le_refl _) _⟩
  · go_enter Tryd.func27, Tryd.ntmps27
    go_wp2_with fail
    go_ret
    exact ⟨ret_bool (by symm; simp; omega), (Below.refl _ _).alloc (Nat.le_refl _) _⟩

set_option maxRecDepth 100000 in
set_option maxHeartbeats 1000000 in
theorem refLess_any (a b : IdT) (w : World) : Calls Tryd.prog 28 #[a.val, b.val] w (Gives (.bool (idLess a b)) w) := by
  obtain ⟨a1, a2, a3⟩ := a
  obtain ⟨b1, b2, b3⟩ := b
  unfold IdT.val idLess
  dsimp only
  by_cases h1 : a1 = b1
  · have h1' : (a1 != b1) = false := by simpa using h1
    by_cases h2 : a2 = b2
    · have h2' : (a2 != b2) = false := by simpa using h2
      rw [if_neg (by simpa using h1), if_neg (by simpa using h2)]
      have H := Lib.hid h1
      have H2 := Lib.hid h2
      clear h1 h2
      go_enter Tryd.func28, Tryd.ntmps28
      go_wp2
      go_ret
      exact ⟨rfl, by (repeat (first | exact Below.refl _ _ | assumption | refine Below.alloc ?_ (by first | omega | (simp; done) | (simp; omega)) _ | refine Below.setCell ?_ (by first | omega | (simp; done) | (simp; omega)) _ | refine Below.drew ?_))⟩
    · have h2' : (a2 != b2) = true := by simpa using h2
      rw [if_neg (by simpa using h1), if_pos h2]
      have H := Lib.hid h1
      have H2 := Lib.hid h2
      clear h1 h2
      go_enter Tryd.func28, Tryd.ntmps28
      go_wp2
      go_ret
      exact ⟨rfl, by (repeat (first | exact Below.refl _ _ | assumption | refine Below.alloc ?_ (by first | omega | (simp; done) | (simp; omega)) _ | refine Below.setCell ?_ (by first | omega | (simp; done) | (simp; omega)) _ | refine Below.drew ?_))⟩
  · have h1' : (a1 != b1) = true := by simpa using h1
    rw [if_pos h1]
    have H := Lib.hid h1
    clear h1
    go_enter Tryd.func28, Tryd.ntmps28
    go_wp2
    go_ret
    exact ⟨rfl, by (repeat (first | exact Below.refl _ _ | assumption | refine Below.alloc ?_ (by first | omega | (simp; done) | (simp; omega)) _ | refine Below.setCell ?_ (by first | omega | (simp; done) | (simp; omega)) _ | refine Below.drew ?_))⟩
end Go.Proofs.YtppaheekpmgifaaDoor
