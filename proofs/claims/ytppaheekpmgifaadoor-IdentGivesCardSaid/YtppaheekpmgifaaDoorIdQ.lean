/- Package ident: Less, New; the document's Clock, Next, See. -/
import Derived.Test.YtppaheekpmgifaaDoorIdP
import Derived.Test.YtppaheekpmgifaaDoorIdB
namespace Go.Proofs.YtppaheekpmgifaaDoor
set_option linter.unusedSimpArgs false
set_option linter.unusedVariables false
open Go.RowKit Go.Shelf

set_option maxRecDepth 100000 in
theorem identLess_any (a b : IdT) (w : World) : Calls Tryd.prog 25 #[a.val, b.val] w (Gives (.bool (decide (cmpId a b < 0))) w) := by
  obtain ⟨C, hC⟩ : ∃ C, cmpId a b = C := ⟨_, rfl⟩
  have hcmp := fun w => compare_any a b w
  rw [hC] at hcmp
  rw [hC]
  clear hC
  have HC := Lib.hid hcmp
  clear hcmp
  obtain ⟨a1, a2, a3⟩ := a
  obtain ⟨b1, b2, b3⟩ := b
  unfold IdT.val
  go_enter Tryd.func25, Tryd.ntmps25
  go_wp2_with fail
  refine (HC.out _).mono ?_
  rintro e w2 ⟨rfl, hb⟩
  have HB := Lib.hid ((((Below.refl w.heap.size w).alloc (Nat.le_refl _) (.cells #[.int .u64 a1, .int .i64 a2, .int .u64 a3] 27)).alloc (by simp) (.cells #[.int .u64 b1, .int .i64 b2, .int .u64 b3] 27)).trans (hb.below.mono (by simp; omega)))
  clear hb HC
  go_wp2_with fail
  go_ret
  exact ⟨rfl, HB.out⟩

set_option maxRecDepth 100000 in
theorem identNew_any (n : Int) (w : World) : Calls Tryd.prog 18 #[.int .i64 n] w (Gives (.tuple #[ClkT.val (if siteOk n then ⟨n, 0, 0⟩ else clk0), .int .i64 (if siteOk n then 0 else 2)]) w) := by
  cases hs : siteOk n
  · go_enter Tryd.func18, Tryd.ntmps18
    go_wp2_with fail
    refine (site_any _ _).mono ?_
    rintro e w2 ⟨rfl, rfl⟩
    rw [hs]
    go_wp2_with fail
    refine bodyPost_ret (v := .tuple #[.agg #[.int .i64 0, .int .u64 0, .int .u64 0], .int .i64 2]) (by simp [results, Tryd.results18, go_sem]) rfl ⟨rfl, by (repeat (first | exact Below.refl _ _ | assumption | refine Below.alloc ?_ (by first | omega | (simp; done) | (simp; omega)) _ | refine Below.setCell ?_ (by first | omega | (simp; done) | (simp; omega)) _ | refine Below.drew ?_))⟩
  · go_enter Tryd.func18, Tryd.ntmps18
    go_wp2_with fail
    refine (site_any _ _).mono ?_
    rintro e w2 ⟨rfl, rfl⟩
    rw [hs]
    go_wp2_with fail
    refine bodyPost_ret (v := .tuple #[.agg #[.int .i64 n, .int .u64 0, .int .u64 0], .int .i64 0]) (by simp [results, Tryd.results18, go_sem]) rfl ⟨rfl, by (repeat (first | exact Below.refl _ _ | assumption | refine Below.alloc ?_ (by first | omega | (simp; done) | (simp; omega)) _ | refine Below.setCell ?_ (by first | omega | (simp; done) | (simp; omega)) _ | refine Below.drew ?_))⟩

set_option maxRecDepth 100000 in
set_option maxHeartbeats 1000000 in
theorem refClock_any (c : ClkT) (w : World) : Calls Tryd.prog 16 #[c.val] w (Gives (.bool (clkOk c)) w) := by
  obtain ⟨c1, c2, c3⟩ := c
  unfold ClkT.val
  cases h1 : siteOk c1
  · have hc : clkOk ⟨c1, c2, c3⟩ = false := by simp [clkOk, h1]
    rw [hc]
    go_enter Tryd.func16, Tryd.ntmps16
    go_wp2_with (refine (refSite_any _ _).mono ?_; rintro e w' ⟨rfl, rfl⟩; rw [h1])
    go_ret
    exact ⟨rfl, by (repeat (first | exact Below.refl _ _ | assumption | refine Below.alloc ?_ (by first | omega | (simp; done) | (simp; omega)) _ | refine Below.setCell ?_ (by first | omega | (simp; done) | (simp; omega)) _ | refine Below.drew ?_))⟩
  · by_cases h2 : c2 ≤ 4611686018427387904
    · by_cases h3 : c3 ≤ 4611686018427387904
      · have hc : clkOk ⟨c1, c2, c3⟩ = true := by simp [clkOk, h1, h2, h3]
        rw [hc]
        go_enter Tryd.func16, Tryd.ntmps16
        go_wp2_with (refine (refSite_any _ _).mono ?_; rintro e w' ⟨rfl, rfl⟩; rw [h1])
        go_ret
        exact ⟨rfl, by (repeat (first | exact Below.refl _ _ | assumption | refine Below.alloc ?_ (by first | omega | (simp; done) | (simp; omega)) _ | refine Below.setCell ?_ (by first | omega | (simp; done) | (simp; omega)) _ | refine Below.drew ?_))⟩
      · have hc : clkOk ⟨c1, c2, c3⟩ = false := by simp [clkOk, h3]
        have h3' : decide (c3 ≤ 4611686018427387904) = false := by simpa using h3
        clear h3
        rw [hc]
        go_enter Tryd.func16, Tryd.ntmps16
        go_wp2_with (refine (refSite_any _ _).mono ?_; rintro e w' ⟨rfl, rfl⟩; rw [h1])
        go_ret
        exact ⟨rfl, by (repeat (first | exact Below.refl _ _ | assumption | refine Below.alloc ?_ (by first | omega | (simp; done) | (simp; omega)) _ | refine Below.setCell ?_ (by first | omega | (simp; done) | (simp; omega)) _ | refine Below.drew ?_))⟩
    · have hc : clkOk ⟨c1, c2, c3⟩ = false := by simp [clkOk, h2]
      have h2' : decide (c2 ≤ 4611686018427387904) = false := by simpa using h2
      clear h2
      rw [hc]
      go_enter Tryd.func16, Tryd.ntmps16
      go_wp2_with (refine (refSite_any _ _).mono ?_; rintro e w' ⟨rfl, rfl⟩; rw [h1])
      go_ret
      exact ⟨by rfl, by (repeat (first | exact Below.refl _ _ | assumption | refine Below.alloc ?_ (by first | omega | (simp; done) | (simp; omega)) _ | refine Below.setCell ?_ (by first | omega | (simp; done) | (simp; omega)) _ | refine Below.drew ?_))⟩
end Go.Proofs.YtppaheekpmgifaaDoor
