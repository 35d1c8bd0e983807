/- Layer 6: Has. -/
import Derived.Test.YtflbcabjefpojaaShE
namespace Go.Proofs.Ytflbcabjefpojaa
set_option linter.unusedSimpArgs false
set_option linter.unusedVariables false
open Go.RowKit Go.Shelf

def inB (p : PtT) (s : SpT) : Bool := decide (s.y = p.y ∧ s.f ≤ p.x ∧ p.x ≤ s.t)
def hasB (l : List SpT) (p : PtT) : Bool := l.any (inB p)
theorem any_true {α : Type} {q : α → Bool} {l : List α} {k : Nat} {x : α} (hx : l[k]? = some x) (h : q x = true) : l.any q = true :=
  List.any_eq_true.2 ⟨x, List.mem_of_getElem? hx, h⟩
theorem any_false {α : Type} {q : α → Bool} {l : List α} (h : ∀ (j : Nat) (x : α), l[j]? = some x → q x = false) : l.any q = false := by
  rw [List.any_eq_false]
  intro x hx
  obtain ⟨j, hj⟩ := List.getElem?_of_mem hx
  rw [h j x hj]
  simp

set_option maxRecDepth 100000 in
set_option maxHeartbeats 4000000 in
theorem refHas_any (a : Option Addr) (n cap : Nat) (l : List SpT) (hl : l.length = n) (hn : n ≤ 1000000000) (p : PtT) (w : World) (h : Elems w (.slice a n cap) n 3 (rowC encS l)) :
    Calls Try.prog 31 #[.slice a n cap, p.val] w (Gives (.bool (hasB l p)) w) := by
  have HS := Lib.hid ((St.start w).addRow h)
  have HL := Lib.hid hl
  obtain ⟨px, py⟩ := p
  obtain ⟨B, hB⟩ : ∃ B, PtT.mk px py = B := ⟨_, rfl⟩
  have HP := Lib.hid hB
  clear h hl hB
  unfold PtT.val
  go_enter Try.func31, Try.ntmps31
  repeat ((fail_if_success (with_reducible refine stop_at (id := 1) ?_)); (first | go_values | go_skip | go_guarded | go_step | go_upon | go_back | (simp only [Int.not_lt, Int.not_le] at *; go_simp) | (go_values <;> (try go_simp)) | (go_ite <;> go_prune <;> (try go_simp)) | (split <;> (first | (rename_i hx; exact (hx _ rfl).elim) | go_prune))))
  have hs_ := (HS.out.alloc (.cells #[.int .i64 px, .int .i64 py] 28))
  obtain ⟨w1, hw_⟩ : ∃ w1 : World, (w.alloc (.cells #[.int .i64 px, .int .i64 py] 28)) = w1 := ⟨_, rfl⟩
  rw [hw_] at hs_
  try simp only [World.size_alloc] at hs_
  have HS := Lib.hid hs_
  rw [hw_]
  clear hw_ hs_
  go_wp2_with fail
  go_loopw [9] (fun i wr => ∃ k : Nat, k ≤ n ∧ i = .int .i64 (k : Int) ∧ St w [.blk w.heap.size (.cells #[.int .i64 px, .int .i64 py] 28), .row (.slice a n cap) n 3 (rowC encS l) w.heap.size] wr ∧ ∀ (j : Nat) (x : SpT), l[j]? = some x → j < k → inB B x = false) (fun i _ => n - (intOf i).toNat)
  case atStart => exact ⟨0, by omega, rfl, HS.out, fun j x _ h => by omega⟩
  case round =>
    obtain ⟨k, hk, rfl, hs, hall⟩ := hrel
    clear HS
    have HS := Lib.hid hs
    have HA := Lib.hid hall
    clear hs hall
    by_cases hlt : k < n
    · have wk : wrap64 ((k : Int) + 1) = ((k + 1 : Nat) : Int) := by unfold wrap64; omega
      obtain ⟨x, hx⟩ : ∃ x, l[k]? = some x := ⟨_, List.getElem?_eq_getElem (by rw [HL.out]; exact hlt)⟩
      obtain ⟨bb, off, rfl, hbb, c0, c1, c2⟩ := spCells HL.out (HS.out.elems 1 rfl) k x hx
      have HX := Lib.hid hx
      obtain ⟨xy, xf, xt⟩ := x
      simp only at c0 c1 c2
      clear hx hbb
      repeat ((fail_if_success (with_reducible refine stop_at (id := 4) ?_)); (first | go_values | go_skip | go_guarded | go_step | go_upon | go_back | (simp only [Int.not_lt, Int.not_le] at *; go_simp) | (go_values <;> (try go_simp)) | (go_ite <;> go_prune <;> (try go_simp)) | (split <;> (first | (rename_i hx; exact (hx _ rfl).elim) | go_prune))))
      clear c0 c1 c2
      have hs_ := (HS.out.alloc (.cells #[.int .i64 xy, .int .i64 xf, .int .i64 xt] 39))
      obtain ⟨w3, hw_⟩ : ∃ w3 : World, (wr.alloc (.cells #[.int .i64 xy, .int .i64 xf, .int .i64 xt] 39)) = w3 := ⟨_, rfl⟩
      rw [hw_] at hs_
      try simp only [World.size_alloc] at hs_
      have HS := Lib.hid hs_
      rw [hw_]
      clear hw_ hs_
      have k0 := cell_of_block (k := 0) (HS.out.blockAt 0 rfl) rfl
      have k1 := cell_of_block (k := 1) (HS.out.blockAt 0 rfl) rfl
      have k2 := cell_of_block (k := 2) (HS.out.blockAt 0 rfl) rfl
      have b0 := cell_of_block (k := 0) (HS.out.blockAt 1 rfl) rfl
      have b1 := cell_of_block (k := 1) (HS.out.blockAt 1 rfl) rfl
      by_cases g1 : xy = py
      · have g1' : (xy == py) = true := by simpa using g1
        by_cases g2 : xf ≤ px
        · by_cases g3 : px ≤ xt
          · have HB := Lib.hid (show hasB l ⟨px, py⟩ = true from any_true HX.out (by unfold inB; simp only; rw [decide_eq_true_iff]; exact ⟨g1, g2, g3⟩))
            clear g1
            go_wp2_with fail
            go_ret
            exact ⟨by rw [HB.out]; rfl, HS.out.low⟩
          · have HB := Lib.hid (show inB B ⟨xy, xf, xt⟩ = false by rw [← HP.out]; unfold inB; simp only; rw [decide_eq_false_iff_not]; omega)
            clear g1
            go_wp2_with fail
            go_roundw
            case rel => exact ⟨k + 1, hlt, by simp, HS.out.drop1, fun j x hj hjk => by rcases Nat.lt_or_eq_of_le (Nat.lt_succ_iff.1 hjk) with h | rfl; exact HA.out j x hj h; rw [HX.out] at hj; cases hj; exact HB.out⟩
            case measure => simp [intOf]; omega
        · have HB := Lib.hid (show inB B ⟨xy, xf, xt⟩ = false by rw [← HP.out]; unfold inB; simp only; rw [decide_eq_false_iff_not]; omega)
          clear g1
          go_wp2_with fail
          go_roundw
          case rel => exact ⟨k + 1, hlt, by simp, HS.out.drop1, fun j x hj hjk => by rcases Nat.lt_or_eq_of_le (Nat.lt_succ_iff.1 hjk) with h | rfl; exact HA.out j x hj h; rw [HX.out] at hj; cases hj; exact HB.out⟩
          case measure => simp [intOf]; omega
      · have g1' : (xy == py) = false := by simpa using g1
        have HB := Lib.hid (show inB B ⟨xy, xf, xt⟩ = false by rw [← HP.out]; unfold inB; simp only; rw [decide_eq_false_iff_not]; omega)
        clear g1
        go_wp2_with fail
        go_roundw
        case rel => exact ⟨k + 1, hlt, by simp, HS.out.drop1, fun j x hj hjk => by rcases Nat.lt_or_eq_of_le (Nat.lt_succ_iff.1 hjk) with h | rfl; exact HA.out j x hj h; rw [HX.out] at hj; cases hj; exact HB.out⟩
        case measure => simp [intOf]; omega
    · obtain rfl : k = n := by omega
      have HB := Lib.hid (show hasB l ⟨px, py⟩ = false from any_false fun j x hj => by rw [HP.out]; exact HA.out j x hj (by rw [← HL.out]; exact (List.getElem?_eq_some_iff.1 hj).1))
      clear hk hlt
      go_wp2_with fail
      go_ret
      exact ⟨by rw [HB.out]; rfl, HS.out.low⟩

set_option maxRecDepth 100000 in
set_option maxHeartbeats 4000000 in
theorem has1_any (s : SpT) (p : PtT) (bp : Nat) (w : World) (hp : w.heap[bp]? = some (.cells #[.int .i64 p.x, .int .i64 p.y] 28 (0, 0))) :
    Calls Try.prog 55 #[s.val, .pointer (some ⟨bp, 0, none⟩)] w (Gives (.bool (inB p s)) w) := by
  obtain ⟨px, py⟩ := p
  obtain ⟨sy, sf, st⟩ := s
  simp only at hp
  have hbp := block_lt hp
  have hne : ¬ w.heap.size = bp := by omega
  have b0 := cell_of_block (k := 0) hp rfl
  have b1 := cell_of_block (k := 1) hp rfl
  clear hp
  unfold SpT.val
  by_cases g1 : sy = py
  · have g1' : (sy == py) = true := by simpa using g1
    by_cases g2 : sf ≤ px
    · by_cases g3 : px ≤ st
      · have HB := Lib.hid (show inB ⟨px, py⟩ ⟨sy, sf, st⟩ = true by unfold inB; simp only; rw [decide_eq_true_iff]; exact ⟨g1, g2, g3⟩)
        clear g1
        go_enter Try.func55, Try.ntmps55
        go_wp2_with fail
        go_ret
        exact ⟨by rw [HB.out]; rfl, by (repeat (first | exact Below.refl _ _ | assumption | refine Below.alloc ?_ (by first | omega | (simp; done) | (simp; omega)) _ | refine Below.setCell ?_ (by first | omega | (simp; done) | (simp; omega)) _ | refine Below.drew ?_))⟩
      · have HB := Lib.hid (show inB ⟨px, py⟩ ⟨sy, sf, st⟩ = false by unfold inB; simp only; rw [decide_eq_false_iff_not]; omega)
        clear g1
        go_enter Try.func55, Try.ntmps55
        go_wp2_with fail
        go_ret
        exact ⟨by rw [HB.out]; rfl, by (repeat (first | exact Below.refl _ _ | assumption | refine Below.alloc ?_ (by first | omega | (simp; done) | (simp; omega)) _ | refine Below.setCell ?_ (by first | omega | (simp; done) | (simp; omega)) _ | refine Below.drew ?_))⟩
    · have HB := Lib.hid (show inB ⟨px, py⟩ ⟨sy, sf, st⟩ = false by unfold inB; simp only; rw [decide_eq_false_iff_not]; omega)
      clear g1
      go_enter Try.func55, Try.ntmps55
      go_wp2_with fail
      go_ret
      exact ⟨by rw [HB.out]; rfl, by (repeat (first | exact Below.refl _ _ | assumption | refine Below.alloc ?_ (by first | omega | (simp; done) | (simp; omega)) _ | refine Below.setCell ?_ (by first | omega | (simp; done) | (simp; omega)) _ | refine Below.drew ?_))⟩
  · have g1' : (sy == py) = false := by simpa using g1
    have HB := Lib.hid (show inB ⟨px, py⟩ ⟨sy, sf, st⟩ = false by unfold inB; simp only; rw [decide_eq_false_iff_not]; omega)
    clear g1
    go_enter Try.func55, Try.ntmps55
    go_wp2_with fail
    go_ret
    exact ⟨by rw [HB.out]; rfl, by (repeat (first | exact Below.refl _ _ | assumption | refine Below.alloc ?_ (by first | omega | (simp; done) | (simp; omega)) _ | refine Below.setCell ?_ (by first | omega | (simp; done) | (simp; omega)) _ | refine Below.drew ?_))⟩
end Go.Proofs.Ytflbcabjefpojaa
