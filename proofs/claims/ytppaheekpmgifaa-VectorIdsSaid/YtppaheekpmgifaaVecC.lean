/- Package vector: need, tries. -/
import Derived.Test.YtppaheekpmgifaaVecB
namespace Go.Proofs.Ytppaheekpmgifaa
set_option linter.unusedSimpArgs false
set_option linter.unusedVariables false
open Go.RowKit Go.Shelf

/-- It panics with an error's number, and nothing that was there has changed. -/
def Raises (x : Int) (w : World) (e : Ending) (w' : World) : Prop := e = .panicked [{ v := .iface 26 (.int .i64 x), recovered := false }] ∧ Below w.heap.size w w'

theorem need_ok (x : Int) (w : World) : Calls Try.prog 43 #[.bool true, .int .i64 x] w fun e w' => e = .returned (.tuple #[]) ∧ w = w' := by
  go_enter Try.func43, Try.ntmps43
  go_wp2
  go_end0
  exact ⟨rfl, rfl⟩

theorem need_no (x : Int) (w : World) : Calls Try.prog 43 #[.bool false, .int .i64 x] w fun e w' => e = .panicked [{ v := .iface 26 (.int .i64 x), recovered := false }] ∧ w = w' := by
  go_enter Try.func43, Try.ntmps43
  go_wp2
  exact ⟨rfl, rfl, rfl⟩

set_option maxRecDepth 100000 in
set_option maxHeartbeats 1000000 in
theorem catch_panicking (p q : Nat) (hpq : p ≠ q) (o : Nat → Int) (y x : Int) (older : List PanicEntry) (w : World) (hp : w.heap[p]? = some (.cells (lit9 o) 24 (0, 0))) (hq : w.heap[q]? = some (.cells #[.int .i64 y] 26 (0, 0))) :
    CallsD Try.prog 48 #[.pointer (some ⟨p, 0, none⟩), .pointer (some ⟨q, 0, none⟩)] (.panicking ({ v := .iface 26 (.int .i64 x), recovered := false } :: older)) w fun e u' w' =>
      e = .returned (.tuple #[]) ∧ u' = .panicking ({ v := .iface 26 (.int .i64 x), recovered := true } :: older) ∧
      (w'.heap[p]? = some (.cells (lit9 fun _ => 0) 24 (0, 0)) ∧ w'.heap[q]? = some (.cells #[.int .i64 x] 26 (0, 0)) ∧ ∀ n₀, n₀ ≤ p → n₀ ≤ q → Below n₀ w w') := by
  have c0 := cell_of_block hp (lit9_get o 0 (by omega))
  have c1 := cell_of_block hp (lit9_get o 1 (by omega))
  have c2 := cell_of_block hp (lit9_get o 2 (by omega))
  have c3 := cell_of_block hp (lit9_get o 3 (by omega))
  have c4 := cell_of_block hp (lit9_get o 4 (by omega))
  have c5 := cell_of_block hp (lit9_get o 5 (by omega))
  have c6 := cell_of_block hp (lit9_get o 6 (by omega))
  have c7 := cell_of_block hp (lit9_get o 7 (by omega))
  have c8 := cell_of_block hp (lit9_get o 8 (by omega))
  have fp := free_of_block hp
  have dq := cell_of_block (k := 0) hq rfl
  have fq := free_of_block hq 0
  have lp := block_lt hp
  have lq := block_lt hq
  have Hp := Lib.hid hp
  have Hq := Lib.hid hq
  clear hp hq
  have hqp : ¬ q = p := fun e => hpq e.symm
  refine callsD_of_wpS Try.func48 rfl fun c₀ cs hu => ?_
  simp only [Try.ntmps48, List.size_toArray, List.length_cons, List.length_nil, Nat.reduceAdd, Nat.reduceSub, Array.replicate_succ, Array.replicate_zero, List.push_toArray, List.append_toArray, List.nil_append, List.cons_append]
  apply wpS_seq
  apply wpS_region
  simp [wpOpsS, go_sem, recoverD, hu, Exit.thenS]
  refine wpS_of_wp ?_
  have hta : ∀ w, (Instr.typeAssert (.iface 26 (.int .i64 x)) 20 26 true).run Try.prog w = .ok (.tuple #[.int .i64 x, .bool true]) w := fun _ => by kernel_rfl
  go_wp2
  refine ⟨rfl, _, rfl, _, results_none rfl _ _ _, rfl, rfl, ?_, ?_, ?_⟩
  · exact heap_alloc_keeps (heap_set_other (heap_set9 (fun _ => 0) Hp.out) (fun e => hpq e.symm) _) _
  · exact heap_alloc_keeps (heap_set_same (heap_set9_other (fun _ => 0) Hq.out hpq) _) _
  · intro n₀ h1 h2
    refine Below.alloc (Below.setCell (below_set9 (fun _ => 0) (Below.refl _ _) h1) (by simpa using h2) _) (by simp; omega) _

theorem catch_idle (p q : Addr) (w : World) :
    CallsD Try.prog 48 #[.pointer (some p), .pointer (some q)] .returning w fun e u' w' => e = .returned (.tuple #[]) ∧ u' = .returning ∧ w = w' := by
  refine callsD_of_wpS Try.func48 rfl fun c₀ cs hu => ?_
  simp only [Try.ntmps48, List.size_toArray, List.length_cons, List.length_nil, Nat.reduceAdd, Nat.reduceSub, Array.replicate_succ, Array.replicate_zero, List.push_toArray, List.append_toArray, List.nil_append, List.cons_append]
  apply wpS_seq
  apply wpS_region
  simp [wpOpsS, go_sem, recoverD, hu, Exit.thenS]
  refine wpS_of_wp ?_
  go_wp2
  exact ⟨rfl, c₀.mode, rfl, _, results_none rfl _ _ _, rfl, hu, rfl⟩

/-- 'tries' over a closure that returns. -/
theorem tries_ok (g : Nat) (lb : Array Value) (w : World) (o : Nat → Int) (hg : ∀ args w, (callFunc g args).run Try.prog w = .ok (.enter g args) w)
    (h : ∀ w1, Below w.heap.size w w1 → Calls Try.prog g lb w1 (Gives (vecV o) w1)) :
    Calls Try.prog 33 #[.func (.func g) #[] lb] w (Gives (.tuple #[vecV o, .int .i64 0]) w) := by
  have hmf : ∀ (fn : Fn) (first cap : Array Value) (w : World), (Instr.makeFunc fn first cap).run Try.prog w = .ok (.func fn first cap) w := fun _ _ _ _ => rfl
  have H := Lib.hid h
  clear h
  go_enter_defers Try.func33, Try.ntmps33
  go_wp2_with fail
  refine (H.out _ (by (repeat (first | exact Below.refl _ _ | assumption | refine Below.alloc ?_ (by first | omega | (simp; done) | (simp; omega)) _ | refine Below.setCell ?_ (by first | omega | (simp; done) | (simp; omega)) _ | refine Below.drew ?_)))).mono ?_
  rintro e w1 ⟨rfl, hb⟩
  obtain ⟨hc, hf⟩ := bcell hb
  have hz := hb.size
  simp at hz
  simp only [vecV, lit9]
  go_wp2
  refine leaves_cons (f := 48) (args := #[.pointer (some ⟨w.heap.size, 0, none⟩), .pointer (some ⟨w.heap.size + 1, 0, none⟩)]) (by simp) (by simp [go_sem]) ?_
  refine (catch_idle _ _ _).mono ?_
  rintro e u' w'' ⟨rfl, rfl, rfl⟩
  have h0 : w1.heap[w.heap.size]? = some (.cells (lit9 fun _ => 0) 24 (0, 0)) := (hb.block _ (by simp; omega)).trans (heap_alloc_keeps (World.alloc_heap_new w _) _)
  have h1 : w1.heap[w.heap.size + 1]? = some (.cells #[.int .i64 0] 26 (0, 0)) := by
    refine (hb.block _ (by simp)).trans ?_
    have := World.alloc_heap_new (w.alloc (.cells (lit9 fun _ => 0) 24)) (.cells #[.int .i64 0] 26)
    rw [World.size_alloc] at this
    exact this
  have g0 := heap_set_other (b' := w.heap.size + 1) (k := 0) (heap_set9 o h0) (by omega : w.heap.size + 1 ≠ w.heap.size) (.int .i64 0)
  have g1 := heap_set_same (k := 0) (heap_set9_other o h1 (by omega : w.heap.size ≠ w.heap.size + 1)) (.int .i64 0)
  have hB := Below.setCell (p := ⟨w.heap.size + 1, 0, none⟩) (below_set9 (p := w.heap.size) o (hb.mono (B' := w.heap.size) (by simp; omega)) (Nat.le_refl _)) (by simp) (.int .i64 0)
  have hB2 : Below w.heap.size w _ := ((((Below.refl w.heap.size w).alloc (Nat.le_refl _) _).alloc (by simp) _).trans hB)
  clear hc hf hz hb
  revert g0 g1 hB2
  clear hB
  generalize World.setCell _ _ (Value.int IntKind.i64 0) = W2
  intro g0 g1 hB2
  have c0 := cell_of_block g0 (lit9_get o 0 (by omega))
  have c1 := cell_of_block g0 (lit9_get o 1 (by omega))
  have c2 := cell_of_block g0 (lit9_get o 2 (by omega))
  have c3 := cell_of_block g0 (lit9_get o 3 (by omega))
  have c4 := cell_of_block g0 (lit9_get o 4 (by omega))
  have c5 := cell_of_block g0 (lit9_get o 5 (by omega))
  have c6 := cell_of_block g0 (lit9_get o 6 (by omega))
  have c7 := cell_of_block g0 (lit9_get o 7 (by omega))
  have c8 := cell_of_block g0 (lit9_get o 8 (by omega))
  have d0 := cell_of_block (k := 0) (v := .int .i64 0) g1 rfl
  clear h0 h1 g0 g1
  simp [Leaves, settle, results, Try.results33, go_sem, c0, c1, c2, c3, c4, c5, c6, c7, c8, d0]
  exact ⟨rfl, hB2⟩

/-- 'tries' over a closure that panics with an error. -/
theorem tries_err (g : Nat) (lb : Array Value) (w : World) (x : Int) (hg : ∀ args w, (callFunc g args).run Try.prog w = .ok (.enter g args) w)
    (h : ∀ w1, Below w.heap.size w w1 → Calls Try.prog g lb w1 (Raises x w1)) :
    Calls Try.prog 33 #[.func (.func g) #[] lb] w (Gives (.tuple #[vecV fun _ => 0, .int .i64 x]) w) := by
  have hmf : ∀ (fn : Fn) (first cap : Array Value) (w : World), (Instr.makeFunc fn first cap).run Try.prog w = .ok (.func fn first cap) w := fun _ _ _ _ => rfl
  have H := Lib.hid h
  clear h
  go_enter_defers Try.func33, Try.ntmps33
  go_wp2_with fail
  refine (H.out _ (by (repeat (first | exact Below.refl _ _ | assumption | refine Below.alloc ?_ (by first | omega | (simp; done) | (simp; omega)) _ | refine Below.setCell ?_ (by first | omega | (simp; done) | (simp; omega)) _ | refine Below.drew ?_)))).mono ?_
  rintro e w1 ⟨rfl, hb⟩
  have h0 : w1.heap[w.heap.size]? = some (.cells (lit9 fun _ => 0) 24 (0, 0)) := (hb.block _ (by simp; omega)).trans (heap_alloc_keeps (World.alloc_heap_new w _) _)
  have h1 : w1.heap[w.heap.size + 1]? = some (.cells #[.int .i64 0] 26 (0, 0)) := by
    refine (hb.block _ (by simp)).trans ?_
    have := World.alloc_heap_new (w.alloc (.cells (lit9 fun _ => 0) 24)) (.cells #[.int .i64 0] 26)
    rw [World.size_alloc] at this
    exact this
  have hB1 : Below w.heap.size w w1 := ((((Below.refl w.heap.size w).alloc (Nat.le_refl _) _).alloc (by simp) _).trans (hb.mono (B' := w.heap.size) (by simp; omega)))
  clear hb
  refine leaves_cons (f := 48) (args := #[.pointer (some ⟨w.heap.size, 0, none⟩), .pointer (some ⟨w.heap.size + 1, 0, none⟩)]) (by simp) (by simp [go_sem]) ?_
  refine (catch_panicking _ _ (by omega) _ _ _ _ _ h0 h1).mono ?_
  rintro e u' W2 ⟨rfl, rfl, g0, g1, hb2⟩
  have hB2 := hB1.trans (hb2 w.heap.size (Nat.le_refl _) (by omega))
  have c0 := cell_of_block g0 (lit9_get (fun _ => 0) 0 (by omega))
  have c1 := cell_of_block g0 (lit9_get (fun _ => 0) 1 (by omega))
  have c2 := cell_of_block g0 (lit9_get (fun _ => 0) 2 (by omega))
  have c3 := cell_of_block g0 (lit9_get (fun _ => 0) 3 (by omega))
  have c4 := cell_of_block g0 (lit9_get (fun _ => 0) 4 (by omega))
  have c5 := cell_of_block g0 (lit9_get (fun _ => 0) 5 (by omega))
  have c6 := cell_of_block g0 (lit9_get (fun _ => 0) 6 (by omega))
  have c7 := cell_of_block g0 (lit9_get (fun _ => 0) 7 (by omega))
  have c8 := cell_of_block g0 (lit9_get (fun _ => 0) 8 (by omega))
  have d0 := cell_of_block (k := 0) (v := .int .i64 x) g1 rfl
  clear h0 h1 g0 g1 hB1 hb2
  simp [Leaves, settle, results, Try.results33, go_sem, c0, c1, c2, c3, c4, c5, c6, c7, c8, d0]
  exact ⟨rfl, hB2⟩
end Go.Proofs.Ytppaheekpmgifaa
