/- Package vector: Join, Meet. -/
import Derived.Test.YtppaheekpmgifaaVecE
namespace Go.Proofs.Ytppaheekpmgifaa
set_option linter.unusedSimpArgs false
set_option linter.unusedVariables false
open Go.RowKit Go.Shelf

theorem join1_ok (p q : Nat) (v : Nat → Int) (sv : Value) (n : Nat) (x : Nat → Nat → Int) (w : World) (hn : n ≤ 1000000) (hp : w.heap[p]? = some (.cells (lit9 v) 24 (0, 0))) (hq : w.heap[q]? = some (.cells #[sv] 42 (0, 0)))
    (he : Elems w sv n 9 (vecCells x)) (hv : vecOk v = true) (hx : ∀ i, i < n → vecOk (x i) = true) :
    Calls Try.prog 34 #[.pointer (some ⟨p, 0, none⟩), .pointer (some ⟨q, 0, none⟩)] w (Gives (vecV (mergeN max v x n)) w) := by
  have c0 := cell_of_block hp (lit9_get _ 0 (by omega))
  have c1 := cell_of_block hp (lit9_get _ 1 (by omega))
  have c2 := cell_of_block hp (lit9_get _ 2 (by omega))
  have c3 := cell_of_block hp (lit9_get _ 3 (by omega))
  have c4 := cell_of_block hp (lit9_get _ 4 (by omega))
  have c5 := cell_of_block hp (lit9_get _ 5 (by omega))
  have c6 := cell_of_block hp (lit9_get _ 6 (by omega))
  have c7 := cell_of_block hp (lit9_get _ 7 (by omega))
  have c8 := cell_of_block hp (lit9_get _ 8 (by omega))
  have lp := block_lt hp
  have lq := block_lt hq
  have d0 := cell_of_block (k := 0) (v := sv) hq rfl
  have He := Lib.hid he
  have Hx := Lib.hid hx
  have Hv := Lib.hid hv
  clear he hx hv hp hq
  go_enter Try.func34, Try.ntmps34
  go_wp2_with fail
  refine (merged_yes 36 max (enters_of Try.func36 (by kernel_rfl) rfl) max_fn v sv n x _ hn (He.out.below (by (repeat (first | exact Below.refl _ _ | assumption | refine Below.alloc ?_ (by first | omega | (simp; done) | (simp; omega)) _ | refine Below.setCell ?_ (by first | omega | (simp; done) | (simp; omega)) _ | refine Below.drew ?_)))) Hv.out Hx.out).mono ?_
  rintro e w1 ⟨rfl, hb⟩
  obtain ⟨hc, hf⟩ := bcell hb
  have hz := hb.size
  simp at hz
  simp only [vecV, lit9]
  go_wp2
  refine bodyPost_ret (v := vecV (mergeN max v x n)) (by simp [vecV, lit9, results, Try.results34, go_sem, hc]) rfl ⟨rfl, ?_⟩
  exact below_set9 _ (((Below.refl _ _).alloc (Nat.le_refl _) _).trans (hb.mono (by simp))) (Nat.le_refl _)

theorem join1_no (p q : Nat) (v : Nat → Int) (sv : Value) (n : Nat) (x : Nat → Nat → Int) (w : World) (hn : n ≤ 1000000) (hp : w.heap[p]? = some (.cells (lit9 v) 24 (0, 0))) (hq : w.heap[q]? = some (.cells #[sv] 42 (0, 0)))
    (he : Elems w sv n 9 (vecCells x)) (hno : ¬ (vecOk v = true ∧ ∀ i, i < n → vecOk (x i) = true)) :
    Calls Try.prog 34 #[.pointer (some ⟨p, 0, none⟩), .pointer (some ⟨q, 0, none⟩)] w (Raises 230 w) := by
  have c0 := cell_of_block hp (lit9_get _ 0 (by omega))
  have c1 := cell_of_block hp (lit9_get _ 1 (by omega))
  have c2 := cell_of_block hp (lit9_get _ 2 (by omega))
  have c3 := cell_of_block hp (lit9_get _ 3 (by omega))
  have c4 := cell_of_block hp (lit9_get _ 4 (by omega))
  have c5 := cell_of_block hp (lit9_get _ 5 (by omega))
  have c6 := cell_of_block hp (lit9_get _ 6 (by omega))
  have c7 := cell_of_block hp (lit9_get _ 7 (by omega))
  have c8 := cell_of_block hp (lit9_get _ 8 (by omega))
  have lp := block_lt hp
  have lq := block_lt hq
  have d0 := cell_of_block (k := 0) (v := sv) hq rfl
  have He := Lib.hid he
  have Hno := Lib.hid hno
  clear he hno hp hq
  go_enter Try.func34, Try.ntmps34
  go_wp2_with fail
  refine (merged_no 36 v sv n x _ hn (He.out.below (by (repeat (first | exact Below.refl _ _ | assumption | refine Below.alloc ?_ (by first | omega | (simp; done) | (simp; omega)) _ | refine Below.setCell ?_ (by first | omega | (simp; done) | (simp; omega)) _ | refine Below.drew ?_)))) Hno.out).mono ?_
  rintro e w1 ⟨rfl, hb⟩
  exact ⟨rfl, rfl, ((Below.refl _ _).alloc (Nat.le_refl _) _).trans (hb.mono (by simp))⟩

theorem join_ok (v : Nat → Int) (sv : Value) (n : Nat) (x : Nat → Nat → Int) (w : World) (hn : n ≤ 1000000) (he : Elems w sv n 9 (vecCells x)) (hv : vecOk v = true) (hx : ∀ i, i < n → vecOk (x i) = true) :
    Calls Try.prog 8 #[vecV v, sv] w (Gives (.tuple #[vecV (mergeN max v x n), .int .i64 0]) w) := by
  have hmf : ∀ (fn : Fn) (first cap : Array Value) (w : World), (Instr.makeFunc fn first cap).run Try.prog w = .ok (.func fn first cap) w := fun _ _ _ _ => rfl
  have He := Lib.hid he
  have Hx := Lib.hid hx
  have Hv := Lib.hid hv
  clear he hx hv
  obtain ⟨a, m, c, rfl⟩ : ∃ a m c, sv = .slice a m c := by
    rcases He.out with ⟨e, _⟩ | ⟨b, off, cap, e, _⟩
    · exact ⟨_, _, _, e⟩
    · exact ⟨_, _, _, e⟩
  go_enter Try.func8, Try.ntmps8
  simp only [vecV, lit9]
  go_wp2_with fail
  refine (tries_ok 34 _ _ (mergeN max v x n) (enters_of Try.func34 (by kernel_rfl) rfl) (fun w1 hb => join1_ok w.heap.size (w.heap.size + 1) v _ n x w1 hn ?g1 ?g2 (He.out.below ?g3) Hv.out Hx.out)).mono ?_
  case g1 => exact (hb.block _ (by simp; omega)).trans (heap_alloc_keeps (heap_alloc_keeps (World.alloc_heap_new w _) _) _)
  case g2 =>
    refine (hb.block _ (by simp)).trans (heap_alloc_keeps ?_ _)
    have := World.alloc_heap_new (w.alloc (.cells (lit9 v) 24)) (.cells #[.slice a m c] 42)
    rw [World.size_alloc] at this
    exact this
  case g3 => exact (show Below w.heap.size w _ by (repeat (first | exact Below.refl _ _ | assumption | refine Below.alloc ?_ (by first | omega | (simp; done) | (simp; omega)) _ | refine Below.setCell ?_ (by first | omega | (simp; done) | (simp; omega)) _ | refine Below.drew ?_))).trans (hb.mono (by simp; omega))
  rintro e w1 ⟨rfl, hb⟩
  obtain ⟨hc, hf⟩ := bcell hb
  have hz := hb.size
  simp at hz
  simp only [vecV, lit9]
  go_wp2
  refine bodyPost_ret (v := .tuple #[vecV (mergeN max v x n), .int .i64 0]) (by simp [vecV, lit9, results, Try.results8, go_sem, hc]) rfl ⟨rfl, ?_⟩
  exact below_set9 _ ((show Below w.heap.size w _ by (repeat (first | exact Below.refl _ _ | assumption | refine Below.alloc ?_ (by first | omega | (simp; done) | (simp; omega)) _ | refine Below.setCell ?_ (by first | omega | (simp; done) | (simp; omega)) _ | refine Below.drew ?_))).trans (hb.mono (by simp; omega))) (by omega)

theorem join_no (v : Nat → Int) (sv : Value) (n : Nat) (x : Nat → Nat → Int) (w : World) (hn : n ≤ 1000000) (he : Elems w sv n 9 (vecCells x)) (hno : ¬ (vecOk v = true ∧ ∀ i, i < n → vecOk (x i) = true)) :
    Calls Try.prog 8 #[vecV v, sv] w (Gives (.tuple #[vecV (fun _ => 0), .int .i64 230]) w) := by
  have hmf : ∀ (fn : Fn) (first cap : Array Value) (w : World), (Instr.makeFunc fn first cap).run Try.prog w = .ok (.func fn first cap) w := fun _ _ _ _ => rfl
  have He := Lib.hid he
  have Hno := Lib.hid hno
  clear he hno
  obtain ⟨a, m, c, rfl⟩ : ∃ a m c, sv = .slice a m c := by
    rcases He.out with ⟨e, _⟩ | ⟨b, off, cap, e, _⟩
    · exact ⟨_, _, _, e⟩
    · exact ⟨_, _, _, e⟩
  go_enter Try.func8, Try.ntmps8
  simp only [vecV, lit9]
  go_wp2_with fail
  refine (tries_err 34 _ _ 230 (enters_of Try.func34 (by kernel_rfl) rfl) (fun w1 hb => join1_no w.heap.size (w.heap.size + 1) v _ n x w1 hn ?g1 ?g2 (He.out.below ?g3) Hno.out)).mono ?_
  case g1 => exact (hb.block _ (by simp; omega)).trans (heap_alloc_keeps (heap_alloc_keeps (World.alloc_heap_new w _) _) _)
  case g2 =>
    refine (hb.block _ (by simp)).trans (heap_alloc_keeps ?_ _)
    have := World.alloc_heap_new (w.alloc (.cells (lit9 v) 24)) (.cells #[.slice a m c] 42)
    rw [World.size_alloc] at this
    exact this
  case g3 => exact (show Below w.heap.size w _ by (repeat (first | exact Below.refl _ _ | assumption | refine Below.alloc ?_ (by first | omega | (simp; done) | (simp; omega)) _ | refine Below.setCell ?_ (by first | omega | (simp; done) | (simp; omega)) _ | refine Below.drew ?_))).trans (hb.mono (by simp; omega))
  rintro e w1 ⟨rfl, hb⟩
  obtain ⟨hc, hf⟩ := bcell hb
  have hz := hb.size
  simp at hz
  simp only [vecV, lit9]
  go_wp2
  refine bodyPost_ret (v := .tuple #[vecV (fun _ => 0), .int .i64 230]) (by simp [vecV, lit9, results, Try.results8, go_sem, hc]) rfl ⟨rfl, ?_⟩
  exact below_set9 (fun _ => 0) ((show Below w.heap.size w _ by (repeat (first | exact Below.refl _ _ | assumption | refine Below.alloc ?_ (by first | omega | (simp; done) | (simp; omega)) _ | refine Below.setCell ?_ (by first | omega | (simp; done) | (simp; omega)) _ | refine Below.drew ?_))).trans (hb.mono (by simp; omega))) (by omega)

theorem meet1_ok (p q : Nat) (v : Nat → Int) (sv : Value) (n : Nat) (x : Nat → Nat → Int) (w : World) (hn : n ≤ 1000000) (hp : w.heap[p]? = some (.cells (lit9 v) 24 (0, 0))) (hq : w.heap[q]? = some (.cells #[sv] 42 (0, 0)))
    (he : Elems w sv n 9 (vecCells x)) (hv : vecOk v = true) (hx : ∀ i, i < n → vecOk (x i) = true) :
    Calls Try.prog 38 #[.pointer (some ⟨p, 0, none⟩), .pointer (some ⟨q, 0, none⟩)] w (Gives (vecV (mergeN min v x n)) w) := by
  have c0 := cell_of_block hp (lit9_get _ 0 (by omega))
  have c1 := cell_of_block hp (lit9_get _ 1 (by omega))
  have c2 := cell_of_block hp (lit9_get _ 2 (by omega))
  have c3 := cell_of_block hp (lit9_get _ 3 (by omega))
  have c4 := cell_of_block hp (lit9_get _ 4 (by omega))
  have c5 := cell_of_block hp (lit9_get _ 5 (by omega))
  have c6 := cell_of_block hp (lit9_get _ 6 (by omega))
  have c7 := cell_of_block hp (lit9_get _ 7 (by omega))
  have c8 := cell_of_block hp (lit9_get _ 8 (by omega))
  have lp := block_lt hp
  have lq := block_lt hq
  have d0 := cell_of_block (k := 0) (v := sv) hq rfl
  have He := Lib.hid he
  have Hx := Lib.hid hx
  have Hv := Lib.hid hv
  clear he hx hv hp hq
  go_enter Try.func38, Try.ntmps38
  go_wp2_with fail
  refine (merged_yes 39 min (enters_of Try.func39 (by kernel_rfl) rfl) min_fn v sv n x _ hn (He.out.below (by (repeat (first | exact Below.refl _ _ | assumption | refine Below.alloc ?_ (by first | omega | (simp; done) | (simp; omega)) _ | refine Below.setCell ?_ (by first | omega | (simp; done) | (simp; omega)) _ | refine Below.drew ?_)))) Hv.out Hx.out).mono ?_
  rintro e w1 ⟨rfl, hb⟩
  obtain ⟨hc, hf⟩ := bcell hb
  have hz := hb.size
  simp at hz
  simp only [vecV, lit9]
  go_wp2
  refine bodyPost_ret (v := vecV (mergeN min v x n)) (by simp [vecV, lit9, results, Try.results38, go_sem, hc]) rfl ⟨rfl, ?_⟩
  exact below_set9 _ (((Below.refl _ _).alloc (Nat.le_refl _) _).trans (hb.mono (by simp))) (Nat.le_refl _)

theorem meet1_no (p q : Nat) (v : Nat → Int) (sv : Value) (n : Nat) (x : Nat → Nat → Int) (w : World) (hn : n ≤ 1000000) (hp : w.heap[p]? = some (.cells (lit9 v) 24 (0, 0))) (hq : w.heap[q]? = some (.cells #[sv] 42 (0, 0)))
    (he : Elems w sv n 9 (vecCells x)) (hno : ¬ (vecOk v = true ∧ ∀ i, i < n → vecOk (x i) = true)) :
    Calls Try.prog 38 #[.pointer (some ⟨p, 0, none⟩), .pointer (some ⟨q, 0, none⟩)] w (Raises 230 w) := by
  have c0 := cell_of_block hp (lit9_get _ 0 (by omega))
  have c1 := cell_of_block hp (lit9_get _ 1 (by omega))
  have c2 := cell_of_block hp (lit9_get _ 2 (by omega))
  have c3 := cell_of_block hp (lit9_get _ 3 (by omega))
  have c4 := cell_of_block hp (lit9_get _ 4 (by omega))
  have c5 := cell_of_block hp (lit9_get _ 5 (by omega))
  have c6 := cell_of_block hp (lit9_get _ 6 (by omega))
  have c7 := cell_of_block hp (lit9_get _ 7 (by omega))
  have c8 := cell_of_block hp (lit9_get _ 8 (by omega))
  have lp := block_lt hp
  have lq := block_lt hq
  have d0 := cell_of_block (k := 0) (v := sv) hq rfl
  have He := Lib.hid he
  have Hno := Lib.hid hno
  clear he hno hp hq
  go_enter Try.func38, Try.ntmps38
  go_wp2_with fail
  refine (merged_no 39 v sv n x _ hn (He.out.below (by (repeat (first | exact Below.refl _ _ | assumption | refine Below.alloc ?_ (by first | omega | (simp; done) | (simp; omega)) _ | refine Below.setCell ?_ (by first | omega | (simp; done) | (simp; omega)) _ | refine Below.drew ?_)))) Hno.out).mono ?_
  rintro e w1 ⟨rfl, hb⟩
  exact ⟨rfl, rfl, ((Below.refl _ _).alloc (Nat.le_refl _) _).trans (hb.mono (by simp))⟩

theorem meet_ok (v : Nat → Int) (sv : Value) (n : Nat) (x : Nat → Nat → Int) (w : World) (hn : n ≤ 1000000) (he : Elems w sv n 9 (vecCells x)) (hv : vecOk v = true) (hx : ∀ i, i < n → vecOk (x i) = true) :
    Calls Try.prog 9 #[vecV v, sv] w (Gives (.tuple #[vecV (mergeN min v x n), .int .i64 0]) w) := by
  have hmf : ∀ (fn : Fn) (first cap : Array Value) (w : World), (Instr.makeFunc fn first cap).run Try.prog w = .ok (.func fn first cap) w := fun _ _ _ _ => rfl
  have He := Lib.hid he
  have Hx := Lib.hid hx
  have Hv := Lib.hid hv
  clear he hx hv
  obtain ⟨a, m, c, rfl⟩ : ∃ a m c, sv = .slice a m c := by
    rcases He.out with ⟨e, _⟩ | ⟨b, off, cap, e, _⟩
    · exact ⟨_, _, _, e⟩
    · exact ⟨_, _, _, e⟩
  go_enter Try.func9, Try.ntmps9
  simp only [vecV, lit9]
  go_wp2_with fail
  refine (tries_ok 38 _ _ (mergeN min v x n) (enters_of Try.func38 (by kernel_rfl) rfl) (fun w1 hb => meet1_ok w.heap.size (w.heap.size + 1) v _ n x w1 hn ?g1 ?g2 (He.out.below ?g3) Hv.out Hx.out)).mono ?_
  case g1 => exact (hb.block _ (by simp; omega)).trans (heap_alloc_keeps (heap_alloc_keeps (World.alloc_heap_new w _) _) _)
  case g2 =>
    refine (hb.block _ (by simp)).trans (heap_alloc_keeps ?_ _)
    have := World.alloc_heap_new (w.alloc (.cells (lit9 v) 24)) (.cells #[.slice a m c] 42)
    rw [World.size_alloc] at this
    exact this
  case g3 => exact (show Below w.heap.size w _ by (repeat (first | exact Below.refl _ _ | assumption | refine Below.alloc ?_ (by first | omega | (simp; done) | (simp; omega)) _ | refine Below.setCell ?_ (by first | omega | (simp; done) | (simp; omega)) _ | refine Below.drew ?_))).trans (hb.mono (by simp; omega))
  rintro e w1 ⟨rfl, hb⟩
  obtain ⟨hc, hf⟩ := bcell hb
  have hz := hb.size
  simp at hz
  simp only [vecV, lit9]
  go_wp2
  refine bodyPost_ret (v := .tuple #[vecV (mergeN min v x n), .int .i64 0]) (by simp [vecV, lit9, results, Try.results9, go_sem, hc]) rfl ⟨rfl, ?_⟩
  exact below_set9 _ ((show Below w.heap.size w _ by (repeat (first | exact Below.refl _ _ | assumption | refine Below.alloc ?_ (by first | omega | (simp; done) | (simp; omega)) _ | refine Below.setCell ?_ (by first | omega | (simp; done) | (simp; omega)) _ | refine Below.drew ?_))).trans (hb.mono (by simp; omega))) (by omega)

theorem meet_no (v : Nat → Int) (sv : Value) (n : Nat) (x : Nat → Nat → Int) (w : World) (hn : n ≤ 1000000) (he : Elems w sv n 9 (vecCells x)) (hno : ¬ (vecOk v = true ∧ ∀ i, i < n → vecOk (x i) = true)) :
    Calls Try.prog 9 #[vecV v, sv] w (Gives (.tuple #[vecV (fun _ => 0), .int .i64 230]) w) := by
  have hmf : ∀ (fn : Fn) (first cap : Array Value) (w : World), (Instr.makeFunc fn first cap).run Try.prog w = .ok (.func fn first cap) w := fun _ _ _ _ => rfl
  have He := Lib.hid he
  have Hno := Lib.hid hno
  clear he hno
  obtain ⟨a, m, c, rfl⟩ : ∃ a m c, sv = .slice a m c := by
    rcases He.out with ⟨e, _⟩ | ⟨b, off, cap, e, _⟩
    · exact ⟨_, _, _, e⟩
    · exact ⟨_, _, _, e⟩
  go_enter Try.func9, Try.ntmps9
  simp only [vecV, lit9]
  go_wp2_with fail
  refine (tries_err 38 _ _ 230 (enters_of Try.func38 (by kernel_rfl) rfl) (fun w1 hb => meet1_no w.heap.size (w.heap.size + 1) v _ n x w1 hn ?g1 ?g2 (He.out.below ?g3) Hno.out)).mono ?_
  case g1 => exact (hb.block _ (by simp; omega)).trans (heap_alloc_keeps (heap_alloc_keeps (World.alloc_heap_new w _) _) _)
  case g2 =>
    refine (hb.block _ (by simp)).trans (heap_alloc_keeps ?_ _)
    have := World.alloc_heap_new (w.alloc (.cells (lit9 v) 24)) (.cells #[.slice a m c] 42)
    rw [World.size_alloc] at this
    exact this
  case g3 => exact (show Below w.heap.size w _ by (repeat (first | exact Below.refl _ _ | assumption | refine Below.alloc ?_ (by first | omega | (simp; done) | (simp; omega)) _ | refine Below.setCell ?_ (by first | omega | (simp; done) | (simp; omega)) _ | refine Below.drew ?_))).trans (hb.mono (by simp; omega))
  rintro e w1 ⟨rfl, hb⟩
  obtain ⟨hc, hf⟩ := bcell hb
  have hz := hb.size
  simp at hz
  simp only [vecV, lit9]
  go_wp2
  refine bodyPost_ret (v := .tuple #[vecV (fun _ => 0), .int .i64 230]) (by simp [vecV, lit9, results, Try.results9, go_sem, hc]) rfl ⟨rfl, ?_⟩
  exact below_set9 (fun _ => 0) ((show Below w.heap.size w _ by (repeat (first | exact Below.refl _ _ | assumption | refine Below.alloc ?_ (by first | omega | (simp; done) | (simp; omega)) _ | refine Below.setCell ?_ (by first | omega | (simp; done) | (simp; omega)) _ | refine Below.drew ?_))).trans (hb.mono (by simp; omega))) (by omega)
end Go.Proofs.Ytppaheekpmgifaa
