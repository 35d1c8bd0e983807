/- Package vector: Covers, both, Has, Next; an id of a site. -/
import Derived.Test.YtppaheekpmgifaaVecF
namespace Go.Proofs.Ytppaheekpmgifaa
set_option linter.unusedSimpArgs false
set_option linter.unusedVariables false
open Go.RowKit Go.Shelf

/-- Are two vectors the same? -/
def vecEq (a b : Nat → Int) : Bool := (List.range 9).all fun k => a k == b k
theorem vecEq_iff (a b : Nat → Int) : vecEq a b = true ↔ ∀ k, k < 9 → a k = b k := by
  unfold vecEq
  rw [List.all_eq_true]
  constructor
  · intro h k hk
    simpa using h k (List.mem_range.2 hk)
  · intro h k hk
    simpa using h k (List.mem_range.1 hk)

theorem run_vecEq (a b : Nat → Int) (w : World) : (binOp .eql 24 (.agg #[.int .u64 (a 0), .int .u64 (a 1), .int .u64 (a 2), .int .u64 (a 3), .int .u64 (a 4), .int .u64 (a 5), .int .u64 (a 6), .int .u64 (a 7), .int .u64 (a 8)])
    (.agg #[.int .u64 (b 0), .int .u64 (b 1), .int .u64 (b 2), .int .u64 (b 3), .int .u64 (b 4), .int .u64 (b 5), .int .u64 (b 6), .int .u64 (b 7), .int .u64 (b 8)])).run Try.prog w = .ok (.bool (vecEq a b)) w := by
  obtain ⟨i0, hi, _, hz1, _⟩ := info_parts info22
  exact run_eql_array w 24 22 9 .u64 i0 Try.underlying24 Try.underlying22 hi hz1 _ _ a b (fun k hk => lit9_get a k hk) (fun k hk => lit9_get b k hk)

/-- Does one cover another one? -/
def covers (a b : Nat → Int) : Bool := vecOk a && vecOk b && vecEq (fun s => max (a s) (b s)) a

theorem covers_any (a b : Nat → Int) (w : World) : Calls Try.prog 10 #[vecV a, vecV b] w (Gives (.bool (covers a b)) w) := by
  have hq := run_vecEq (mergeN max a (fun _ => b) 1) a
  have hm : vecEq (mergeN max a (fun _ => b) 1) a = vecEq (fun s => max (a s) (b s)) a := rfl
  have hel : ∀ (W : World) (q : Nat), W.heap[q]? = some (.cells (lit9 b) 24 (0, 0)) → Elems W (.slice (some ⟨q, 0, none⟩) 1 1) 1 9 (vecCells fun _ => b) := fun W q hq => by
    refine .inr ⟨q, 0, 1, rfl, block_lt hq, fun j hj => ?_⟩
    rw [Nat.zero_add]
    unfold vecCells
    rw [show j % 9 = j from by omega]
    exact cell_of_block hq (lit9_get b j (by omega))
  cases hv : vecOk a && vecOk b
  · have hno : ¬ (vecOk a = true ∧ ∀ i, i < 1 → vecOk b = true) := fun ⟨h1, h2⟩ => by
      have := h2 0 (by omega)
      rw [h1, this] at hv
      cases hv
    have Hno := Lib.hid hno
    have Hel := Lib.hid hel
    have Hv := Lib.hid hv
    have hcov : covers a b = false := by unfold covers; rw [hv]; rfl
    clear hno hel hv hq hm
    go_enter Try.func10, Try.ntmps10
    simp only [vecV, lit9, hcov]
    clear hcov
    go_wp2_with fail
    refine (join_no a _ 1 (fun _ => b) _ (by omega) (Hel.out _ _ (newBlock _ _ _ (by simp))) Hno.out).mono ?_
    rintro e w1 ⟨rfl, hb⟩
    obtain ⟨hc, hf⟩ := bcell hb
    have hz := hb.size
    simp at hz
    simp only [vecV, lit9]
    go_wp2
    go_ret
    exact ⟨rfl, (show Below w.heap.size w _ by (repeat (first | exact Below.refl _ _ | assumption | refine Below.alloc ?_ (by first | omega | (simp; done) | (simp; omega)) _ | refine Below.setCell ?_ (by first | omega | (simp; done) | (simp; omega)) _ | refine Below.drew ?_))).trans (hb.mono (by simp; omega)) |>.alloc (by omega) _⟩
  · rw [Bool.and_eq_true] at hv
    have Hel := Lib.hid hel
    have hcov : covers a b = vecEq (mergeN max a (fun _ => b) 1) a := by unfold covers; rw [hv.1, hv.2, hm]; rfl
    have Hv := Lib.hid hv
    clear hel hv hm
    go_enter Try.func10, Try.ntmps10
    simp only [vecV, lit9, hcov]
    clear hcov
    go_wp2_with fail
    refine (join_ok a _ 1 (fun _ => b) _ (by omega) (Hel.out _ _ (newBlock _ _ _ (by simp))) Hv.out.1 (fun _ _ => Hv.out.2)).mono ?_
    rintro e w1 ⟨rfl, hb⟩
    obtain ⟨hc, hf⟩ := bcell hb
    have hz := hb.size
    simp at hz
    have hz0 : w.heap.size < w1.heap.size := by omega
    simp only [vecV, lit9]
    go_wp2
    go_ret
    exact ⟨rfl, (show Below w.heap.size w _ by (repeat (first | exact Below.refl _ _ | assumption | refine Below.alloc ?_ (by first | omega | (simp; done) | (simp; omega)) _ | refine Below.setCell ?_ (by first | omega | (simp; done) | (simp; omega)) _ | refine Below.drew ?_))).trans (hb.mono (by simp; omega)) |>.alloc (by omega) _⟩
end Go.Proofs.Ytppaheekpmgifaa
