/- Package ident: clocks: need, tries. -/
import Derived.Test.YtppaheekpmgifaaDoorIdH
namespace Go.Proofs.YtppaheekpmgifaaDoor
set_option linter.unusedSimpArgs false
set_option linter.unusedVariables false
open Go.RowKit Go.Shelf

structure ClkT where
  site : Int
  time : Int
  seq : Int
def ClkT.cells (c : ClkT) : Array Value := #[.int .i64 c.site, .int .u64 c.time, .int .u64 c.seq]
def ClkT.val (c : ClkT) : Value := .agg #[.int .i64 c.site, .int .u64 c.time, .int .u64 c.seq]
def clk0 : ClkT := ⟨0, 0, 0⟩
def clkOk (c : ClkT) : Bool := siteOk c.site && (decide (c.time ≤ 4611686018427387904) && decide (c.seq ≤ 4611686018427387904))

/-- It panics with an error's number. -/
def Panics (x : Int) (e : Ending) : Prop := e = .panicked [{ v := .iface 29 (.int .i64 x), recovered := false }]

theorem iNeed_ok (x : Int) (w : World) : Calls Tryd.prog 54 #[.bool true, .int .i64 x] w fun e w' => e = .returned (.tuple #[]) ∧ w = w' := by
  go_enter Tryd.func54, Tryd.ntmps54
  go_wp2
  go_end0
  exact ⟨rfl, rfl⟩

theorem iNeed_no (x : Int) (w : World) : Calls Tryd.prog 54 #[.bool false, .int .i64 x] w fun e w' => e = .panicked [{ v := .iface 29 (.int .i64 x), recovered := false }] ∧ w = w' := by
  go_enter Tryd.func54, Tryd.ntmps54
  go_wp2
  exact ⟨rfl, rfl, rfl⟩

theorem heap_set3 {w : World} {p : Nat} {t : TypeId} {f : Nat × Nat} {a b c x y z : Value} (hp : w.heap[p]? = some (.cells #[a, b, c] t f)) :
    (((w.setCell ⟨p, 0, none⟩ x).setCell ⟨p, 1, none⟩ y).setCell ⟨p, 2, none⟩ z).heap[p]? = some (.cells #[x, y, z] t f) :=
  heap_set_same (k := 2) (heap_set_same (k := 1) (heap_set_same (k := 0) hp x) y) z
theorem heap_set3_other {w : World} {p b : Nat} {ob : Obj} {x y z : Value} (h : w.heap[b]? = some ob) (hne : p ≠ b) :
    (((w.setCell ⟨p, 0, none⟩ x).setCell ⟨p, 1, none⟩ y).setCell ⟨p, 2, none⟩ z).heap[b]? = some ob :=
  heap_set_other (heap_set_other (heap_set_other h hne _) hne _) hne _
theorem below_set3 {n₀ : Nat} {a w : World} {p : Nat} {x y z : Value} (h : Below n₀ a w) (hp : n₀ ≤ p) : Below n₀ a (((w.setCell ⟨p, 0, none⟩ x).setCell ⟨p, 1, none⟩ y).setCell ⟨p, 2, none⟩ z) :=
  Below.setCell (Below.setCell (Below.setCell h hp _) hp _) hp _
theorem heap_set3_eq {w : World} {p b : Nat} {x y z : Value} (hne : b ≠ p) : (((w.setCell ⟨p, 0, none⟩ x).setCell ⟨p, 1, none⟩ y).setCell ⟨p, 2, none⟩ z).heap[b]? = w.heap[b]? :=
  (Below.heap_setCell _ ⟨p, 2, none⟩ _ _ hne).trans ((Below.heap_setCell _ ⟨p, 1, none⟩ _ _ hne).trans (Below.heap_setCell _ ⟨p, 0, none⟩ _ _ hne))

set_option maxRecDepth 100000 in
set_option maxHeartbeats 1000000 in
theorem iCatch_panicking (p q : Nat) (hpq : p ≠ q) (o : ClkT) (y x : Int) (older : List PanicEntry) (w : World) (hp : w.heap[p]? = some (.cells o.cells 41 (0, 0))) (hq : w.heap[q]? = some (.cells #[.int .i64 y] 29 (0, 0))) :
    CallsD Tryd.prog 53 #[.pointer (some ⟨p, 0, none⟩), .pointer (some ⟨q, 0, none⟩)] (.panicking ({ v := .iface 29 (.int .i64 x), recovered := false } :: older)) w fun e u' w' =>
      e = .returned (.tuple #[]) ∧ u' = .panicking ({ v := .iface 29 (.int .i64 x), recovered := true } :: older) ∧
      (w'.heap[p]? = some (.cells clk0.cells 41 (0, 0)) ∧ w'.heap[q]? = some (.cells #[.int .i64 x] 29 (0, 0)) ∧ (∀ n₀, n₀ ≤ p → n₀ ≤ q → Below n₀ w w') ∧ ∀ k, k < w.heap.size → k ≠ p → k ≠ q → w'.heap[k]? = w.heap[k]?) := by
  obtain ⟨o1, o2, o3⟩ := o
  unfold ClkT.cells at hp
  have c0 := cell_of_block (k := 0) (v := .int .i64 o1) hp rfl
  have c1 := cell_of_block (k := 1) (v := .int .u64 o2) hp rfl
  have c2 := cell_of_block (k := 2) (v := .int .u64 o3) hp rfl
  have fp := free_of_block hp
  have dq := cell_of_block (k := 0) hq rfl
  have fq := free_of_block hq 0
  have lp := block_lt hp
  have lq := block_lt hq
  have Hp := Lib.hid hp
  have Hq := Lib.hid hq
  clear hp hq
  have hqp : ¬ q = p := fun e => hpq e.symm
  refine callsD_of_wpS Tryd.func53 rfl fun c₀ cs hu => ?_
  simp only [Tryd.ntmps53, List.size_toArray, List.length_cons, List.length_nil, Nat.reduceAdd, Nat.reduceSub, Array.replicate_succ, Array.replicate_zero, List.push_toArray, List.append_toArray, List.nil_append, List.cons_append]
  apply wpS_seq
  apply wpS_region
  simp [wpOpsS, go_sem, recoverD, hu, Exit.thenS]
  refine wpS_of_wp ?_
  have hta : ∀ w, (Instr.typeAssert (.iface 29 (.int .i64 x)) 20 29 true).run Tryd.prog w = .ok (.tuple #[.int .i64 x, .bool true]) w := fun _ => by kernel_rfl
  go_wp2
  refine ⟨rfl, _, rfl, _, results_none rfl _ _ _, rfl, rfl, ?_, ?_, ?_, ?_⟩
  · exact heap_set_other (heap_set3 Hp.out) (fun e => hpq e.symm) _
  · exact heap_set_same (heap_set3_other Hq.out hpq) _
  · intro n₀ h1 h2
    exact Below.setCell (below_set3 (Below.refl _ _) h1) (by simpa using h2) _
  · intro k hk h1 h2
    rw [Below.heap_setCell _ _ _ _ h2, Below.heap_setCell _ _ _ _ h1, Below.heap_setCell _ _ _ _ h1, Below.heap_setCell _ _ _ _ h1]

theorem iCatch_idle (p q : Addr) (w : World) :
    CallsD Tryd.prog 53 #[.pointer (some p), .pointer (some q)] .returning w fun e u' w' => e = .returned (.tuple #[]) ∧ u' = .returning ∧ w = w' := by
  refine callsD_of_wpS Tryd.func53 rfl fun c₀ cs hu => ?_
  simp only [Tryd.ntmps53, List.size_toArray, List.length_cons, List.length_nil, Nat.reduceAdd, Nat.reduceSub, Array.replicate_succ, Array.replicate_zero, List.push_toArray, List.append_toArray, List.nil_append, List.cons_append]
  apply wpS_seq
  apply wpS_region
  simp [wpOpsS, go_sem, recoverD, hu, Exit.thenS]
  refine wpS_of_wp ?_
  go_wp2
  exact ⟨rfl, c₀.mode, rfl, _, results_none rfl _ _ _, rfl, hu, rfl⟩

set_option maxRecDepth 100000 in
set_option maxHeartbeats 1000000 in
theorem checkClock_any (c : ClkT) (w : World) : Calls Tryd.prog 17 #[c.val] w (GivesG (.int .i64 (errOf (clkOk c) 211)) w) := by
  obtain ⟨c1, c2, c3⟩ := c
  unfold ClkT.val
  cases h1 : siteOk c1
  · have hc : clkOk ⟨c1, c2, c3⟩ = false := by simp [clkOk, h1]
    rw [hc]
    go_enter Tryd.func17, Tryd.ntmps17
    go_wp2_with (refine (site_any _ _).mono ?_; rintro e w' ⟨rfl, rfl⟩; rw [h1])
    go_ret
    exact ⟨rfl, Grows.alloc _ _⟩
  · by_cases h2 : c2 ≤ 4611686018427387904
    · by_cases h3 : c3 ≤ 4611686018427387904
      · have hc : clkOk ⟨c1, c2, c3⟩ = true := by simp [clkOk, h1, h2, h3]
        rw [hc]
        go_enter Tryd.func17, Tryd.ntmps17
        go_wp2_with (refine (site_any _ _).mono ?_; rintro e w' ⟨rfl, rfl⟩; rw [h1])
        go_ret
        exact ⟨rfl, Grows.alloc _ _⟩
      · have hc : clkOk ⟨c1, c2, c3⟩ = false := by simp [clkOk, h3]
        have h3' : 4611686018427387904 < c3 := by omega
        clear h3
        rw [hc]
        go_enter Tryd.func17, Tryd.ntmps17
        go_wp2_with (refine (site_any _ _).mono ?_; rintro e w' ⟨rfl, rfl⟩; rw [h1])
        go_ret
        exact ⟨rfl, Grows.alloc _ _⟩
    · have hc : clkOk ⟨c1, c2, c3⟩ = false := by simp [clkOk, h2]
      have h2' : 4611686018427387904 < c2 := by omega
      clear h2
      rw [hc]
      go_enter Tryd.func17, Tryd.ntmps17
      go_wp2_with (refine (site_any _ _).mono ?_; rintro e w' ⟨rfl, rfl⟩; rw [h1])
      go_ret
      exact ⟨rfl, Grows.alloc _ _⟩
end Go.Proofs.YtppaheekpmgifaaDoor
