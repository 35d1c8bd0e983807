/- Package ident: Next. -/
import Derived.Test.YtppaheekpmgifaaDoorIdL
namespace Go.Proofs.YtppaheekpmgifaaDoor
set_option linter.unusedSimpArgs false
set_option linter.unusedVariables false
open Go.RowKit Go.Shelf

def id0 : IdT := ⟨0, 0, 0⟩
def IdT.cells (i : IdT) : Array Value := #[.int .u64 i.time, .int .i64 i.site, .int .u64 i.seq]
def nxC (c : ClkT) : ClkT := if clkOk c && nextOk c then clkOn c else clk0
def nxI (c : ClkT) : IdT := if clkOk c && nextOk c then clkId (clkOn c) else id0
def nxE (c : ClkT) : Int := if clkOk c then (if nextOk c then 0 else 212) else 211

set_option maxRecDepth 100000 in
set_option maxHeartbeats 1000000 in
theorem nextFn_ok (H p : Nat) (hne : p ≠ H) (c : ClkT) (hf : c.Fits) (hn : nextOk c = true) (w : World) (hH : w.heap[H]? = some (.cells c.cells 92 (0, 0))) (hp : w.heap[p]? = some (.cells id0.cells 27 (0, 0))) :
    Calls Tryd.prog 41 #[.pointer (some ⟨H, 0, none⟩), .pointer (some ⟨p, 0, none⟩)] w fun e w' =>
      e = .returned (.tuple #[]) ∧ w'.heap[H]? = some (.cells (clkOn c).cells 92 (0, 0)) ∧ w'.heap[p]? = some (.cells (clkId (clkOn c)).cells 27 (0, 0)) ∧ But2 p H w w' := by
  have lp := Lib.hid (block_lt hp)
  have HH := Lib.hid hH
  have Hp := Lib.hid hp
  have Hf := Lib.hid hf
  have Hn := Lib.hid hn
  clear hH hp hf hn
  obtain ⟨c1, c2, c3⟩ := c
  go_enter Tryd.func41, Tryd.ntmps41
  go_wp2_with fail
  refine (handNext_ok H ⟨c1, c2, c3⟩ Hf.out Hn.out w HH.out).mono ?_
  rintro e w2 ⟨rfl, h1, h2, h3⟩
  have hp2 := (h3 p lp.out hne).trans Hp.out
  unfold IdT.cells id0 at hp2
  have K1 := Lib.hid h1
  have K2 := Lib.hid hp2
  have K3 := Lib.hid h3
  have K4 := Lib.hid h2
  have d0 := cell_of_block (k := 0) (v := .int .u64 0) hp2 rfl
  have d1 := cell_of_block (k := 1) (v := .int .i64 0) hp2 rfl
  have d2 := cell_of_block (k := 2) (v := .int .u64 0) hp2 rfl
  have fz := free_of_block hp2
  clear h1 h2 h3 hp2
  simp only [clkId, clkOn, IdT.val]
  go_wp2_with fail
  go_end0
  refine ⟨rfl, ?_, ?_, ?_⟩
  · exact heap_set3_other K1.out hne
  · exact heap_set3 K2.out
  · exact ⟨below_set3 K4.out (Nat.zero_le _), fun k hk hkp hkH => (heap_set3_eq hkp).trans (K3.out k hk hkH)⟩

set_option maxRecDepth 100000 in
theorem nextFn_no (H p : Nat) (c : ClkT) (hn : nextOk c = false) (w : World) (hH : w.heap[H]? = some (.cells c.cells 92 (0, 0))) :
    Calls Tryd.prog 41 #[.pointer (some ⟨H, 0, none⟩), .pointer (some ⟨p, 0, none⟩)] w fun e w' => Panics 212 e ∧ Below w.heap.size w w' := by
  have HH := Lib.hid hH
  have Hn := Lib.hid hn
  clear hH hn
  go_enter Tryd.func41, Tryd.ntmps41
  go_wp2_with fail
  refine (handNext_no H c Hn.out w HH.out).mono ?_
  rintro e w2 ⟨he, h1⟩
  unfold Panics at he
  subst he
  exact ⟨rfl, rfl, h1⟩

theorem nextTries_any (c : ClkT) (hf : c.Fits) (p : Nat) (w : World) (hp : w.heap[p]? = some (.cells id0.cells 27 (0, 0))) :
    Calls Tryd.prog 40 #[c.val, .func (.func 41) #[] #[.pointer (some ⟨p, 0, none⟩)]] w fun e w' =>
      e = .returned (.tuple #[(nxC c).val, .int .i64 (nxE c)]) ∧ w'.heap[p]? = some (.cells (nxI c).cells 27 (0, 0)) ∧ But p w.heap.size w w' := by
  have lp := block_lt hp
  have hg : ∀ args w, (callFunc 41 args).run Tryd.prog w = .ok (.enter 41 args) w := fun args w => by simp [go_sem]
  cases hc : clkOk c
  · refine (tries_wrong _ c hc w).mono ?_
    rintro e w' ⟨rfl, hb⟩
    refine ⟨by simp [nxC, nxE, hc], ?_, hb.mono (Nat.zero_le _), fun k hk _ => hb.block k hk⟩
    simp only [nxI, hc, Bool.false_and]
    exact (hb.block p lp).trans hp
  · cases hn : nextOk c
    · refine (iTries_any _ p c c (.cells id0.cells 27) (some 212) w hg hc lp ?_).mono ?_
      · intro w1 H hH hb h1
        refine (nextFn_no H p c hn w1 h1).mono ?_
        rintro e w2 ⟨he, hb2⟩
        have l1 := block_lt ((hb.block p lp).trans hp)
        exact ⟨he, (hb2.block p l1).trans ((hb.block p lp).trans hp), hb2.mono (Nat.zero_le _), fun k hk _ _ => hb2.block k hk⟩
      · rintro e w' ⟨rfl, h1, h2⟩
        exact ⟨by simp [nxC, nxE, hc, hn, trR], by simpa [nxI, hc, hn] using h1, h2⟩
    · refine (iTries_any _ p c (clkOn c) (.cells (clkId (clkOn c)).cells 27) none w hg hc lp ?_).mono ?_
      · intro w1 H hH hb h1
        refine (nextFn_ok H p (by omega) c hf hn w1 h1 ((hb.block p lp).trans hp)).mono ?_
        rintro e w2 ⟨he, h2, h3, h4⟩
        exact ⟨⟨he, h2⟩, h3, h4⟩
      · rintro e w' ⟨rfl, h1, h2⟩
        exact ⟨by simp [nxC, nxE, hc, hn, trR], by simpa [nxI, hc, hn] using h1, h2⟩
end Go.Proofs.YtppaheekpmgifaaDoor
