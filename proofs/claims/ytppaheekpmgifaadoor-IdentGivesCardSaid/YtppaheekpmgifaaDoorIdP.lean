/- Package ident: See, whole. -/
import Derived.Test.YtppaheekpmgifaaDoorIdO
namespace Go.Proofs.YtppaheekpmgifaaDoor
set_option linter.unusedSimpArgs false
set_option linter.unusedVariables false
open Go.RowKit Go.Shelf

def timesB (ts : Nat → Int) (n : Nat) : Bool := (List.range n).all fun j => decide (ts j ≤ 4611686018427387904)
theorem timesB_iff (ts : Nat → Int) (n : Nat) : timesB ts n = true ↔ timesOk ts n := by simp [timesB, timesOk]
def seC (ts : Nat → Int) (n : Nat) (c : ClkT) : ClkT := if clkOk c && timesB ts n then ⟨c.site, seeTo ts c.time n, c.seq⟩ else clk0
def seE (ts : Nat → Int) (n : Nat) (c : ClkT) : Int := if clkOk c then (if timesB ts n then 0 else 2) else 211

theorem seeTries_any (c : ClkT) (ts : Nat → Int) (n cap p : Nat) (a : Option Addr) (hn : n ≤ 1000000000) (w : World) (hp : w.heap[p]? = some (.cells #[.slice a n cap] 38 (0, 0)))
    (hE : Elems w (.slice a n cap) n 1 (fun j => .int .u64 (ts j))) :
    Calls Tryd.prog 40 #[c.val, .func (.func 43) #[] #[.pointer (some ⟨p, 0, none⟩)]] w fun e w' =>
      e = .returned (.tuple #[(seC ts n c).val, .int .i64 (seE ts n c)]) ∧ But p w.heap.size w w' := by
  have lp := block_lt hp
  have hg : ∀ args w, (callFunc 43 args).run Tryd.prog w = .ok (.enter 43 args) w := fun args w => by simp [go_sem]
  have hfn : ∀ w1 H, w.heap.size < H → Below w.heap.size w w1 → w1.heap[H]? = some (.cells c.cells 92 (0, 0)) →
      Calls Tryd.prog 43 #[.pointer (some ⟨H, 0, none⟩), .pointer (some ⟨p, 0, none⟩)] w1 fun e w' =>
      ((timesOk ts n ∧ e = .returned (.tuple #[]) ∧ w'.heap[H]? = some (.cells (ClkT.cells ⟨c.site, seeTo ts c.time n, c.seq⟩) 92 (0, 0))) ∨ (¬ timesOk ts n ∧ Panics 2 e)) ∧ But H w1.heap.size w1 w' := fun w1 H hH hb h1 =>
    seeFn_any H p n cap a (by omega) hn ts c w1 h1 ((hb.block p lp).trans hp) fun wr hr =>
      hE.below ⟨hr.1.os.trans hb.os, hr.1.tape.trans hb.tape, hr.1.output.trans hb.output, Nat.le_trans hb.size hr.1.size, fun k hk => (hr.2 k (by have := hb.size; omega) (by omega)).trans (hb.block k hk)⟩
  cases hc : clkOk c
  · refine (tries_wrong _ c hc w).mono ?_
    rintro e w' ⟨rfl, hb⟩
    exact ⟨by simp [seC, seE, hc], hb.mono (Nat.zero_le _), fun k hk _ => hb.block k hk⟩
  · cases ht : timesB ts n
    · have hno : ¬ timesOk ts n := fun h => by rw [(timesB_iff ts n).2 h] at ht; cases ht
      refine (iTries_any _ p c c (.cells #[.slice a n cap] 38) (some 2) w hg hc lp ?_).mono ?_
      · intro w1 H hH hb h1
        refine (hfn w1 H hH hb h1).mono ?_
        rintro e w2 ⟨he, hb2⟩
        have l1 := block_lt ((hb.block p lp).trans hp)
        rcases he with ⟨h, _⟩ | ⟨_, he⟩
        · exact absurd h hno
        · exact ⟨he, (hb2.2 p l1 (by omega)).trans ((hb.block p lp).trans hp), hb2.1, fun k hk _ hkH => hb2.2 k hk hkH⟩
      · rintro e w' ⟨rfl, h1, h2⟩
        exact ⟨by simp [seC, seE, hc, ht, trR], h2⟩
    · have hyes := (timesB_iff ts n).1 ht
      refine (iTries_any _ p c ⟨c.site, seeTo ts c.time n, c.seq⟩ (.cells #[.slice a n cap] 38) none w hg hc lp ?_).mono ?_
      · intro w1 H hH hb h1
        refine (hfn w1 H hH hb h1).mono ?_
        rintro e w2 ⟨he, hb2⟩
        have l1 := block_lt ((hb.block p lp).trans hp)
        rcases he with ⟨_, he, h3⟩ | ⟨h, _⟩
        · exact ⟨⟨he, h3⟩, (hb2.2 p l1 (by omega)).trans ((hb.block p lp).trans hp), hb2.1, fun k hk _ hkH => hb2.2 k hk hkH⟩
        · exact absurd hyes h
      · rintro e w' ⟨rfl, h1, h2⟩
        exact ⟨by simp [seC, seE, hc, ht, trR], h2⟩

set_option maxRecDepth 100000 in
set_option maxHeartbeats 1000000 in
theorem identSee_any (c : ClkT) (ts : Nat → Int) (n : Nat) (sv : Value) (hn : n ≤ 1000000000) (w : World) (hE : Elems w sv n 1 (fun j => .int .u64 (ts j))) :
    Calls Tryd.prog 21 #[c.val, sv] w (Gives (.tuple #[(seC ts n c).val, .int .i64 (seE ts n c)]) w) := by
  have hmf : ∀ (fn : Fn) (first cap : Array Value) (w : World), (Instr.makeFunc fn first cap).run Tryd.prog w = .ok (.func fn first cap) w := fun _ _ _ _ => rfl
  obtain ⟨a, cap, rfl, hs⟩ := hE.shape
  clear hs
  obtain ⟨C, hC⟩ : ∃ C, seC ts n c = C := ⟨_, rfl⟩
  obtain ⟨E, hE'⟩ : ∃ E, seE ts n c = E := ⟨_, rfl⟩
  have hT := fun p => seeTries_any c ts n cap p a hn
  rw [hC, hE'] at hT
  rw [hC, hE']
  clear hC hE'
  have HT := Lib.hid hT
  have HE := Lib.hid hE
  clear hT hE
  obtain ⟨c1, c2, c3⟩ := c
  obtain ⟨C1, C2, C3⟩ := C
  unfold ClkT.val
  go_enter Tryd.func21, Tryd.ntmps21
  go_wp2_with fail
  have hp0 : (((w.alloc (.cells #[.int .i64 c1, .int .u64 c2, .int .u64 c3] 41)).alloc (.cells #[.slice a n cap] 38)).alloc (.cells #[.int .i64 0, .int .u64 0, .int .u64 0] 41)).heap[w.heap.size + 1]? = some (.cells #[.slice a n cap] 38 (0, 0)) := by
    have := heap_alloc_keeps (World.alloc_heap_new (w.alloc (.cells #[.int .i64 c1, .int .u64 c2, .int .u64 c3] 41)) (.cells #[.slice a n cap] 38)) (.cells #[.int .i64 0, .int .u64 0, .int .u64 0] 41)
    rw [World.size_alloc] at this
    exact this
  have hB0 := (((Below.refl w.heap.size w).alloc (Nat.le_refl _) (.cells #[.int .i64 c1, .int .u64 c2, .int .u64 c3] 41)).alloc (by simp) (.cells #[.slice a n cap] 38)).alloc (by simp; omega) (.cells #[.int .i64 0, .int .u64 0, .int .u64 0] 41)
  refine (HT.out (w.heap.size + 1) _ hp0 (HE.out.below hB0)).mono ?_
  clear hp0
  rintro e w2 ⟨rfl, hbt⟩
  have k1 : w2.heap[w.heap.size + 1 + 1]? = some (.cells #[.int .i64 0, .int .u64 0, .int .u64 0] 41 (0, 0)) := by
    refine (hbt.2 _ (by simp) (by omega)).trans ?_
    have := World.alloc_heap_new ((w.alloc (.cells #[.int .i64 c1, .int .u64 c2, .int .u64 c3] 41)).alloc (.cells #[.slice a n cap] 38)) (.cells #[.int .i64 0, .int .u64 0, .int .u64 0] 41)
    rw [World.size_alloc, World.size_alloc] at this
    exact this
  have kB : Below w.heap.size w w2 := hB0.trans ⟨hbt.1.os, hbt.1.tape, hbt.1.output, hbt.1.size, fun k hk => hbt.2 k (by simp; omega) (by omega)⟩
  have K1 := Lib.hid k1
  have KB := Lib.hid kB
  have d0 := cell_of_block (k := 0) (v := .int .i64 0) k1 rfl
  have d1 := cell_of_block (k := 1) (v := .int .u64 0) k1 rfl
  have d2 := cell_of_block (k := 2) (v := .int .u64 0) k1 rfl
  have fz := free_of_block k1
  clear k1 kB hbt hB0 HT HE
  simp only [ClkT.val]
  go_wp2_with fail
  refine bodyPost_ret (v := .tuple #[.agg #[.int .i64 C1, .int .u64 C2, .int .u64 C3], .int .i64 E]) (by simp [results, Tryd.results21, go_sem, d0, d1, d2]) rfl ⟨rfl, ?_⟩
  exact below_set3 KB.out (by omega)
end Go.Proofs.YtppaheekpmgifaaDoor
