/- Package ident: tries over a closure. -/
import Derived.Test.YtppaheekpmgifaaDoorIdJ
namespace Go.Proofs.YtppaheekpmgifaaDoor
set_option linter.unusedSimpArgs false
set_option linter.unusedVariables false
open Go.RowKit Go.Shelf

def But2 (p q : Nat) (w w' : World) : Prop := Below 0 w w' ∧ ∀ k, k < w.heap.size → k ≠ p → k ≠ q → w'.heap[k]? = w.heap[k]?

/-- What 'tries' returns. -/
def trR (o : ClkT) : Option Int → Value
  | none => .tuple #[o.val, .int .i64 0]
  | some n => .tuple #[clk0.val, .int .i64 n]
/-- How the closure ends. -/
def Went (o : ClkT) (H : Nat) (e : Ending) (w2 : World) : Option Int → Prop
  | none => e = .returned (.tuple #[]) ∧ w2.heap[H]? = some (.cells o.cells 92 (0, 0))
  | some n => Panics n e

set_option maxRecDepth 100000 in
set_option maxHeartbeats 1000000 in
theorem iTries_any (g p : Nat) (c o : ClkT) (ob : Obj) (x : Option Int) (w : World) (hg : ∀ args w, (callFunc g args).run Tryd.prog w = .ok (.enter g args) w) (hc : clkOk c = true) (hp : p < w.heap.size)
    (h : ∀ w1 H, w.heap.size < H → Below w.heap.size w w1 → w1.heap[H]? = some (.cells c.cells 92 (0, 0)) →
      Calls Tryd.prog g #[.pointer (some ⟨H, 0, none⟩), .pointer (some ⟨p, 0, none⟩)] w1 fun e w2 =>
        Went o H e w2 x ∧ w2.heap[p]? = some ob ∧ But2 p H w1 w2) :
    Calls Tryd.prog 40 #[c.val, .func (.func g) #[] #[.pointer (some ⟨p, 0, none⟩)]] w fun e w' =>
      e = .returned (trR o x) ∧ w'.heap[p]? = some ob ∧ But p w.heap.size w w' := by
  have hmf : ∀ (fn : Fn) (first cap : Array Value) (w : World), (Instr.makeFunc fn first cap).run Tryd.prog w = .ok (.func fn first cap) w := fun _ _ _ _ => rfl
  obtain ⟨c1, c2, c3⟩ := c
  have HC := Lib.hid hc
  have Hx := Lib.hid h
  have Hp := Lib.hid hp
  clear hc h hp
  unfold ClkT.val
  go_enter_defers Tryd.func40, Tryd.ntmps40
  go_wp2_with fail
  refine (checkClock_any ⟨c1, c2, c3⟩ _).mono ?_
  rintro e w1 ⟨rfl, hb⟩
  rw [HC.out]
  have HB := Lib.hid hb.below
  clear hb
  simp only [errOf]
  go_wp2_with fail
  refine (iNeed_ok _ _).mono ?_
  rintro e w2 ⟨rfl, rfl⟩
  have Ha := Lib.hid (show w1.heap[w.heap.size]? = some (.cells #[.int .i64 c1, .int .u64 c2, .int .u64 c3] 41 (0, 0)) by
    refine (HB.out.block _ (by simp; omega)).trans ?_
    exact heap_alloc_keeps (heap_alloc_keeps (World.alloc_heap_new w (.cells #[.int .i64 c1, .int .u64 c2, .int .u64 c3] 41)) (.cells clk0.cells 41)) (.cells #[.int .i64 0] 29))
  have h0 := Lib.hid (show w1.heap[w.heap.size + 1]? = some (.cells clk0.cells 41 (0, 0)) by
    refine (HB.out.block _ (by simp)).trans ?_
    have := heap_alloc_keeps (World.alloc_heap_new (w.alloc (.cells #[.int .i64 c1, .int .u64 c2, .int .u64 c3] 41)) (.cells clk0.cells 41)) (.cells #[.int .i64 0] 29)
    rw [World.size_alloc] at this
    exact this)
  have h1 := Lib.hid (show w1.heap[w.heap.size + 2]? = some (.cells #[.int .i64 0] 29 (0, 0)) by
    refine (HB.out.block _ (by simp)).trans ?_
    have := World.alloc_heap_new ((w.alloc (.cells #[.int .i64 c1, .int .u64 c2, .int .u64 c3] 41)).alloc (.cells clk0.cells 41)) (.cells #[.int .i64 0] 29)
    rw [World.size_alloc, World.size_alloc] at this
    exact this)
  have hB1 := Lib.hid (show Below w.heap.size w w1 from (((((Below.refl w.heap.size w).alloc (Nat.le_refl _) _).alloc (by simp) _).alloc (by simp; omega) _).trans (HB.out.mono (B' := w.heap.size) (by simp; omega))))
  have hl := Lib.hid (show w.heap.size + 3 ≤ w1.heap.size by have := HB.out.size; simp at this; omega)
  clear HB
  have a0 := cell_of_block (k := 0) (v := .int .i64 c1) Ha.out rfl
  have a1 := cell_of_block (k := 1) (v := .int .u64 c2) Ha.out rfl
  have a2 := cell_of_block (k := 2) (v := .int .u64 c3) Ha.out rfl
  go_wp2_with fail
  clear a0 a1 a2
  have hl2 := hl.out
  refine (Hx.out _ w1.heap.size (by omega) (hB1.out.alloc (by have := hB1.out.size; omega) _) (World.alloc_heap_new _ _)).mono ?_
  intro e w2 hh
  obtain ⟨he, hpp, hbt⟩ := hh
  have k0 := Lib.hid ((hbt.2 (w.heap.size + 1) (by simp; omega) (by have := Hp.out; omega) (by omega)).trans (heap_alloc_keeps h0.out _))
  have k1 := Lib.hid ((hbt.2 (w.heap.size + 2) (by simp; omega) (by have := Hp.out; omega) (by omega)).trans (heap_alloc_keeps h1.out _))
  have kB := Lib.hid (show But p w.heap.size w w2 from ⟨(hB1.out.mono (Nat.zero_le _)).trans (((Below.refl 0 w1).alloc (Nat.zero_le _) _).trans hbt.1), fun k hk hkp => ((hbt.2 k (by simp; omega) hkp (by omega)).trans (Below.heap_alloc _ _ k (by omega))).trans (hB1.out.block k hk)⟩)
  have kP := Lib.hid hpp
  have kl := Lib.hid (show w.heap.size + 3 ≤ w2.heap.size by have := hbt.1.size; simp at this; omega)
  generalize hH : w1.heap.size = H at *
  have kH := Lib.hid (show w.heap.size + 3 ≤ H by omega)
  clear hpp hbt h0 h1 Ha hB1 hl hl2 Hx hg HC
  cases x with
  | none =>
    obtain ⟨rfl, ho⟩ := he
    obtain ⟨o1, o2, o3⟩ := o
    have b0 := cell_of_block (k := 0) (v := .int .i64 o1) ho rfl
    have b1 := cell_of_block (k := 1) (v := .int .u64 o2) ho rfl
    have b2 := cell_of_block (k := 2) (v := .int .u64 o3) ho rfl
    have q0 := cell_of_block (k := 0) (v := .int .i64 0) k0.out rfl
    have q1 := cell_of_block (k := 1) (v := .int .u64 0) k0.out rfl
    have q2 := cell_of_block (k := 2) (v := .int .u64 0) k0.out rfl
    have q3 := cell_of_block (k := 0) (v := .int .i64 0) k1.out rfl
    have f0 := free_of_block k0.out
    have f1 := free_of_block k1.out
    clear ho hH
    go_wp2_with fail
    refine leaves_cons (f := 53) (args := #[.pointer (some ⟨w.heap.size + 1, 0, none⟩), .pointer (some ⟨w.heap.size + 2, 0, none⟩)]) (by simp) (by simp [go_sem]) ?_
    refine (iCatch_idle _ _ _).mono ?_
    rintro e u' w'' ⟨rfl, rfl, rfl⟩
    clear b0 b1 b2 q0 q1 q2 q3 f0 f1
    have g0 := heap_set_other (b' := w.heap.size + 2) (k := 0) (heap_set3 (x := .int .i64 o1) (y := .int .u64 o2) (z := .int .u64 o3) k0.out) (by omega : w.heap.size + 2 ≠ w.heap.size + 1) (.int .i64 0)
    have g1 := heap_set_same (k := 0) (heap_set3_other (x := .int .i64 o1) (y := .int .u64 o2) (z := .int .u64 o3) k1.out (by omega : w.heap.size + 1 ≠ w.heap.size + 2)) (.int .i64 0)
    have gp := heap_set_other (b' := w.heap.size + 2) (k := 0) (heap_set3_other (p := w.heap.size + 1) (x := .int .i64 o1) (y := .int .u64 o2) (z := .int .u64 o3) kP.out (by have := Hp.out; omega)) (by have := Hp.out; omega) (.int .i64 0)
    have gb : But p w.heap.size w _ := ⟨Below.setCell (p := ⟨w.heap.size + 2, 0, none⟩) (below_set3 (p := w.heap.size + 1) (x := .int .i64 o1) (y := .int .u64 o2) (z := .int .u64 o3) kB.out.1 (Nat.zero_le _)) (Nat.zero_le _) (.int .i64 0), fun k hk hkp => by
      rw [Below.heap_setCell _ _ _ _ (by simp; omega), heap_set3_eq (by omega)]
      exact kB.out.2 k hk hkp⟩
    revert g0 g1 gp gb
    generalize World.setCell _ _ (Value.int IntKind.i64 0) = W2
    intro g0 g1 gp gb
    have c0 := cell_of_block (k := 0) (v := .int .i64 o1) g0 rfl
    have c1 := cell_of_block (k := 1) (v := .int .u64 o2) g0 rfl
    have c2 := cell_of_block (k := 2) (v := .int .u64 o3) g0 rfl
    have d0 := cell_of_block (k := 0) (v := .int .i64 0) g1 rfl
    clear g0 g1
    simp [Leaves, settle, results, Tryd.results40, go_sem, c0, c1, c2, d0]
    exact ⟨rfl, gp, gb⟩
  | some n =>
    have he2 : Panics n e := he
    unfold Panics at he2
    subst he2
    clear he hH kH
    refine leaves_cons (f := 53) (args := #[.pointer (some ⟨w.heap.size + 1, 0, none⟩), .pointer (some ⟨w.heap.size + 2, 0, none⟩)]) (by simp) (by simp [go_sem]) ?_
    refine (iCatch_panicking _ _ (by omega) _ _ _ _ _ k0.out k1.out).mono ?_
    rintro e u' W2 ⟨rfl, rfl, g0, g1, hb2, hs2⟩
    have gp := (hs2 p (by have := Hp.out; have := kl.out; omega) (by have := Hp.out; omega) (by have := Hp.out; omega)).trans kP.out
    have gb : But p w.heap.size w W2 := ⟨kB.out.1.trans (hb2 0 (by omega) (by omega)), fun k hk hkp => (hs2 k (by have := kl.out; omega) (by omega) (by omega)).trans (kB.out.2 k hk hkp)⟩
    have c0 := cell_of_block (k := 0) (v := .int .i64 0) g0 rfl
    have c1 := cell_of_block (k := 1) (v := .int .u64 0) g0 rfl
    have c2 := cell_of_block (k := 2) (v := .int .u64 0) g0 rfl
    have d0 := cell_of_block (k := 0) (v := .int .i64 n) g1 rfl
    clear g0 g1 hb2 hs2
    simp [Leaves, settle, results, Tryd.results40, go_sem, c0, c1, c2, d0]
    exact ⟨rfl, gp, gb⟩
end Go.Proofs.YtppaheekpmgifaaDoor
