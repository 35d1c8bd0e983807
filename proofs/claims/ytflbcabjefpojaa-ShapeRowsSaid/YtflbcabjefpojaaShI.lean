/- Layer 6: the document's In, around. -/
import Derived.Test.YtflbcabjefpojaaShH
namespace Go.Proofs.Ytflbcabjefpojaa
set_option linter.unusedSimpArgs false
set_option linter.unusedVariables false
open Go.RowKit Go.Shelf

def inRef (size : Int) (round : Bool) (c p : PtT) : Bool := bif round then decide (wayN c.x p.x * wayN c.x p.x + wayN c.y p.y * wayN c.y p.y ≤ size * size) else decide (wayN c.x p.x ≤ size ∧ wayN c.y p.y ≤ size)
theorem wayN_small {a b : Int} (h1 : -400 ≤ a ∧ a ≤ 400) (h2 : -400 ≤ b ∧ b ≤ 400) : wrap64 (wayN a b) = wayN a b ∧ -1000 ≤ wayN a b ∧ wayN a b ≤ 1000 := by
  unfold wayN wrap64
  split <;> omega

set_option maxRecDepth 100000 in
set_option maxHeartbeats 4000000 in
theorem refIn_any (c : PtT) (size : Int) (round : Bool) (p : PtT) (hc : (-400 ≤ c.x ∧ c.x ≤ 400) ∧ (-400 ≤ c.y ∧ c.y ≤ 400)) (hp : (-400 ≤ p.x ∧ p.x ≤ 400) ∧ (-400 ≤ p.y ∧ p.y ≤ 400)) (hs1 : -1000 ≤ size) (hs2 : size ≤ 1000) (w : World) :
    Calls Try.prog 46 #[c.val, .int .i64 size, .bool round, p.val] w (Gives (.bool (inRef size round c p)) w) := by
  have HAX := Lib.hid (fun w => refAway_any c.x p.x w)
  have HAY := Lib.hid (fun w => refAway_any c.y p.y w)
  obtain ⟨a1, a2⟩ := wayN_small hc.1 hp.1
  obtain ⟨b1, b2⟩ := wayN_small hc.2 hp.2
  simp only [a1] at HAX
  simp only [b1] at HAY
  unfold inRef
  obtain ⟨cx, cy⟩ := c
  obtain ⟨px, py⟩ := p
  simp only at *
  generalize wayN cx px = X at *
  generalize wayN cy py = Y at *
  generalize sideN cx px = X' at *
  generalize sideN cy py = Y' at *
  have A1 := Lib.hid (wrap_sq a2.1 a2.2 (by omega))
  have B1 := Lib.hid (wrap_sq b2.1 b2.2 (by omega))
  have C1 := Lib.hid (wrap_sq hs1 hs2 (by omega))
  have D1 := Lib.hid (wrap_sum A1.out.2 B1.out.2)
  clear a1 a2 b1 b2 hc hp hs1 hs2
  have HS := Lib.hid (St.start w)
  unfold PtT.val
  go_enter Try.func46, Try.ntmps46
  repeat ((fail_if_success (with_reducible refine stop_at (id := 1) ?_)); (first | go_values | go_skip | go_guarded | go_step | go_upon | go_back | (simp only [Int.not_lt, Int.not_le] at *; go_simp) | (go_values <;> (try go_simp)) | (go_ite <;> go_prune <;> (try go_simp)) | (split <;> (first | (rename_i hx; exact (hx _ rfl).elim) | go_prune))))
  have hs_ := ((HS.out.alloc (.cells #[.int .i64 cx, .int .i64 cy] 28)).alloc (.cells #[.int .i64 px, .int .i64 py] 28))
  obtain ⟨w1, hw_⟩ : ∃ w1 : World, ((w.alloc (.cells #[.int .i64 cx, .int .i64 cy] 28)).alloc (.cells #[.int .i64 px, .int .i64 py] 28)) = w1 := ⟨_, rfl⟩
  rw [hw_] at hs_
  try simp only [World.size_alloc] at hs_
  have HS := Lib.hid hs_
  rw [hw_]
  clear hw_ hs_
  have k0 := cell_of_block (k := 0) (HS.out.blockAt 1 rfl) rfl
  have e0 := cell_of_block (k := 0) (HS.out.blockAt 0 rfl) rfl
  go_wp2_with fail
  clear k0 e0
  refine (HAX.out _).mono ?_
  rintro e w2 ⟨rfl, hb_⟩
  have HS := Lib.hid (HS.out.below hb_)
  clear hb_
  have k0 := cell_of_block (k := 1) (HS.out.blockAt 1 rfl) rfl
  have e0 := cell_of_block (k := 1) (HS.out.blockAt 0 rfl) rfl
  go_wp2_with fail
  clear k0 e0
  refine (HAY.out _).mono ?_
  rintro e w3 ⟨rfl, hb_⟩
  have HS := Lib.hid (HS.out.below hb_)
  clear hb_
  cases round
  · by_cases g1 : X ≤ size
    · go_wp2_with fail
      go_ret
      exact ⟨by simp [g1], HS.out.low⟩
    · go_wp2_with fail
      go_ret
      exact ⟨ret_bool (by symm; simp; omega), HS.out.low⟩
  · go_wp2_with fail
    go_ret
    exact ⟨by simp [A1.out.1, B1.out.1, C1.out.1, D1.out], HS.out.low⟩

theorem refAround_any (w : World) : Calls Try.prog 44 #[] w (Gives (.agg #[.int .i64 (-79), .int .i64 (-79), .int .i64 142, .int .i64 142]) w) := by
  go_enter Try.func44, Try.ntmps44
  go_wp2
  refine bodyPost_ret (v := .agg #[.int .i64 (-79), .int .i64 (-79), .int .i64 142, .int .i64 142]) (by simp [results, Try.results44, go_sem]) rfl ⟨rfl, by (repeat (first | exact Below.refl _ _ | assumption | refine Below.alloc ?_ (by first | omega | (simp; done) | (simp; omega)) _ | refine Below.setCell ?_ (by first | omega | (simp; done) | (simp; omega)) _ | refine Below.drew ?_))⟩
end Go.Proofs.Ytflbcabjefpojaa
