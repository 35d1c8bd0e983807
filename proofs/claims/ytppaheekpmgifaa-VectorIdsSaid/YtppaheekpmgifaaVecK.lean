/- Package vector: With. -/
import Derived.Test.YtppaheekpmgifaaVecJ
namespace Go.Proofs.Ytppaheekpmgifaa
set_option linter.unusedSimpArgs false
set_option linter.unusedVariables false
open Go.RowKit Go.Shelf

/-- What taking the first k ids of a row comes to. -/
def withTo (v : Nat → Int) (x : Nat → IdT) : Nat → Except Int (Nat → Int)
  | 0 => .ok v
  | k + 1 => match withTo v x k with
    | .error e => .error e
    | .ok u => takeB u (x k)

theorem withTo_error {v : Nat → Int} {x : Nat → IdT} {k : Nat} {e : Int} (h : withTo v x k = .error e) : ∀ n, k ≤ n → withTo v x n = .error e := by
  intro n hn
  induction n with
  | zero => obtain rfl : k = 0 := by omega
            exact h
  | succ n ih =>
    rcases Nat.lt_or_eq_of_le hn with h' | rfl
    · simp only [withTo, ih (by omega)]
    · exact h
theorem takeB_nonneg {v u : Nat → Int} {i : IdT} (h0 : ∀ j, 0 ≤ v j) (h : takeB v i = .ok u) : ∀ j, 0 ≤ u j := by
  unfold takeB at h
  split at h
  · cases h
  · split at h
    · cases h
    · split at h
      · cases h
      · cases h
        intro j
        unfold upd
        split
        · have := h0 i.site.toNat; omega
        · exact h0 j
theorem withTo_nonneg {v : Nat → Int} {x : Nat → IdT} (h0 : ∀ j, 0 ≤ v j) : ∀ {k : Nat} {u : Nat → Int}, withTo v x k = .ok u → ∀ j, 0 ≤ u j
  | 0, u, h => by cases h; exact h0
  | k + 1, u, h => by
    simp only [withTo] at h
    cases hk : withTo v x k with
    | error e => rw [hk] at h; cases h
    | ok u' => rw [hk] at h; exact takeB_nonneg (withTo_nonneg h0 hk) h

/-- A row of ids. -/
def idCells (x : Nat → IdT) (j : Nat) : Value := match j % 3 with
  | 0 => .int .u64 (x (j / 3)).time
  | 1 => .int .i64 (x (j / 3)).site
  | _ => .int .u64 (x (j / 3)).seq
theorem idElem {w : World} {b off n : Nat} {x : Nat → IdT} (hc : ∀ j, j < n * 3 → w.cell? ⟨b, off + j, none⟩ = some (idCells x j)) {k : Nat} (hk : k < n) :
    w.cell? ⟨b, off + k * 3, none⟩ = some (.int .u64 (x k).time) ∧ w.cell? ⟨b, off + k * 3 + 1, none⟩ = some (.int .i64 (x k).site) ∧ w.cell? ⟨b, off + k * 3 + 2, none⟩ = some (.int .u64 (x k).seq) := by
  have key : ∀ j, j < 3 → w.cell? ⟨b, off + k * 3 + j, none⟩ = some (idCells x (k * 3 + j)) := by
    intro j hj
    have h := hc (k * 3 + j) (by omega)
    rwa [← Nat.add_assoc] at h
  have e0 := key 0 (by omega)
  have e1 := key 1 (by omega)
  have e2 := key 2 (by omega)
  unfold idCells at e0 e1 e2
  rw [show (k * 3 + 0) % 3 = 0 from by omega, show (k * 3 + 0) / 3 = k from by omega] at e0
  rw [show (k * 3 + 1) % 3 = 1 from by omega, show (k * 3 + 1) / 3 = k from by omega] at e1
  rw [show (k * 3 + 2) % 3 = 2 from by omega, show (k * 3 + 2) / 3 = k from by omega] at e2
  exact ⟨e0, e1, e2⟩

/-- How a call that takes ids ends. -/
def WithEnds (r : Except Int (Nat → Int)) (w : World) (e : Ending) (w' : World) : Prop :=
  match r with
  | .error x => Raises x w e w'
  | .ok u => Gives (vecV u) w e w'

set_option maxRecDepth 100000 in
set_option maxHeartbeats 2000000 in
theorem with1_any (p q : Nat) (v : Nat → Int) (h0 : ∀ j, 0 ≤ v j) (sv : Value) (n : Nat) (x : Nat → IdT) (w : World) (hn : n ≤ 1000000) (hp : w.heap[p]? = some (.cells (lit9 v) 24 (0, 0))) (hq : w.heap[q]? = some (.cells #[sv] 50 (0, 0)))
    (he : Elems w sv n 3 (idCells x)) (hv : vecOk v = true) :
    Calls Try.prog 42 #[.pointer (some ⟨p, 0, none⟩), .pointer (some ⟨q, 0, none⟩)] w (WithEnds (withTo v x n) w) := by
  have hmf : ∀ (fn : Fn) (first cap : Array Value) (w : World), (Instr.makeFunc fn first cap).run Try.prog w = .ok (.func fn first cap) w := fun _ _ _ _ => rfl
  obtain ⟨a, cap, rfl, hs⟩ := he.shape
  clear he
  have He := Lib.hid hs
  clear hs
  obtain ⟨c0, c1, c2, c3, c4, c5, c6, c7, c8⟩ := vec9 hp
  have lp := block_lt hp
  have lq := block_lt hq
  have d0 := cell_of_block (k := 0) (v := .slice a n cap) hq rfl
  have Hp := Lib.hid hp
  have Hv := Lib.hid hv
  have H0 := Lib.hid h0
  clear hp hq hv h0
  go_enter Try.func42, Try.ntmps42
  go_wp2_with fail
  refine (vecCheck_any v _).mono ?_
  rintro e w1 ⟨rfl, hb⟩
  rw [Hv.out]
  simp only [errOf]
  have hbr := (hb.block _ (by simp)).trans (World.alloc_heap_new w (.cells (lit9 fun _ => 0) 24))
  have hB := ((Below.refl w.heap.size w).alloc (Nat.le_refl _) (.cells (lit9 fun _ => 0) 24)).trans (hb.mono (by simp))
  have hp1 := (hB.block _ lp).trans Hp.out
  obtain ⟨e0, e1, e2, e3, e4, e5, e6, e7, e8⟩ := vec9 hp1
  have e9 := (hB.cell (p := ⟨q, 0, none⟩) lq).trans d0
  have HB := Lib.hid hB
  have Hbr := Lib.hid hbr
  have lq1 : q < w1.heap.size := Nat.lt_of_lt_of_le lq hB.size
  clear hp1 hB hbr hb Hp c0 c1 c2 c3 c4 c5 c6 c7 c8 d0
  go_wp2_with (go_at_call 43; refine (need_ok _ _).mono ?_; rintro e w' ⟨rfl, rfl⟩)
  go_loopw [18] (fun i wr => ∃ k : Nat, k ≤ n ∧ i = .int .i64 k ∧ ∃ u, withTo v x k = .ok u ∧ wr.heap[w1.heap.size]? = some (.cells (lit9 u) 67 (0, 0)) ∧ Below w1.heap.size w1 wr) (fun i _ => n - (intOf i).toNat)
  case atStart => exact ⟨0, Nat.zero_le _, rfl, v, rfl, World.alloc_heap_new _ _, (Below.refl _ _).alloc (Nat.le_refl _) _⟩
  case round =>
    obtain ⟨k, hk, rfl, u, hu, hbh, hbl⟩ := hrel
    have Hu := Lib.hid hu
    have Hbh := Lib.hid hbh
    have Hbl := Lib.hid hbl
    clear hu hbh hbl
    by_cases hkn : k < n
    · obtain ⟨b, off, rfl, hlt, hc⟩ := He.out.resolve_left (by omega)
      obtain ⟨f0, f1, f2⟩ := idElem (fun j hj => ((HB.out.trans (Hbl.out.mono HB.out.size)).cell (p := ⟨b, off + j, none⟩) hlt).trans (hc j hj)) hkn
      clear hc
      go_wp2_with fail
      refine (take_any w1.heap.size u (withTo_nonneg H0.out Hu.out) (x k) _ (heap_alloc_keeps Hbh.out _)).mono ?_
      intro e w3 ht
      unfold Takes at ht
      have hlk := block_lt Hbh.out
      clear f0 f1 f2
      cases htk : takeB u (x k) with
      | error z =>
        rw [htk] at ht
        obtain ⟨rfl, hb3⟩ := ht
        refine ⟨rfl, ?_⟩
        have hw : withTo v x (k + 1) = .error z := by simp only [withTo, Hu.out, htk]
        unfold WithEnds
        rw [withTo_error hw n (by omega)]
        exact ⟨rfl, HB.out.trans ((Hbl.out.trans ((Below.refl _ wr).alloc (Nat.le_refl _) _ |>.mono Hbl.out.size)).mono HB.out.size |>.trans (hb3.mono (by have h1 := HB.out.size; have h2 := Hbl.out.size; simp; omega)))⟩
      | ok u2 =>
        rw [htk] at ht
        obtain ⟨rfl, hb3, hb4, _⟩ := ht
        have hw : withTo v x (k + 1) = .ok u2 := by simp only [withTo, Hu.out, htk]
        have Hw := Lib.hid hw
        have Hb3 := Lib.hid hb3
        have Hb4 := Lib.hid (Hbl.out.trans (((Below.refl _ wr).alloc (Nat.le_refl _) _ |>.mono Hbl.out.size).trans hb4))
        clear hw hb3 hb4 htk hlk
        dsimp only
        go_wp2_with fail
        go_roundw
        case rel => exact ⟨k + 1, by omega, by go_num, u2, Hw.out, Hb3.out, Hb4.out⟩
        case measure => simp [intOf]; omega
    · obtain rfl : n = k := by omega
      obtain ⟨c0, c1, c2, c3, c4, c5, c6, c7, c8⟩ := vec9 Hbh.out
      have Hr := Lib.hid ((Hbl.out.block _ (block_lt Hbr.out)).trans Hbr.out)
      obtain ⟨d0, d1, d2, d3, d4, d5, d6, d7, d8⟩ := vec9 Hr.out
      have fr := free_of_block Hr.out
      go_wp2_with fail
      refine bodyPost_ret (v := vecV u) (by simp [vecV, lit9, results, Try.results42, go_sem, d0, d1, d2, d3, d4, d5, d6, d7, d8]) rfl ?_
      unfold WithEnds
      rw [Hu.out]
      exact ⟨rfl, below_set9 _ (HB.out.trans (Hbl.out.mono HB.out.size)) (Nat.le_refl _)⟩

theorem with1_bad (p q : Nat) (v : Nat → Int) (w : World) (hp : w.heap[p]? = some (.cells (lit9 v) 24 (0, 0))) (hv : vecOk v = false) :
    Calls Try.prog 42 #[.pointer (some ⟨p, 0, none⟩), .pointer (some ⟨q, 0, none⟩)] w (Raises 230 w) := by
  obtain ⟨c0, c1, c2, c3, c4, c5, c6, c7, c8⟩ := vec9 hp
  have lp := block_lt hp
  have Hv := Lib.hid hv
  clear hp hv
  go_enter Try.func42, Try.ntmps42
  go_wp2_with fail
  refine (vecCheck_any v _).mono ?_
  rintro e w1 ⟨rfl, hb⟩
  rw [Hv.out]
  simp only [errOf]
  have hB := ((Below.refl w.heap.size w).alloc (Nat.le_refl _) (.cells (lit9 fun _ => 0) 24)).trans (hb.mono (by simp))
  have HB := Lib.hid hB
  clear hB hb
  go_wp2_with (go_at_call 43; refine (need_no _ _).mono ?_; rintro e w' ⟨rfl, rfl⟩)
  exact ⟨rfl, rfl, HB.out⟩

def withB (v : Nat → Int) (x : Nat → IdT) (n : Nat) : Except Int (Nat → Int) := if vecOk v = true then withTo v x n else .error 230

/-- What is handed back: a vector, and no error; or an error. -/
def resV (r : Except Int (Nat → Int)) : Value := match r with
  | .error e => .tuple #[vecV (fun _ => 0), .int .i64 e]
  | .ok u => .tuple #[vecV u, .int .i64 0]

set_option maxHeartbeats 1000000 in
theorem with_any (v : Nat → Int) (h0 : ∀ j, 0 ≤ v j) (sv : Value) (n : Nat) (x : Nat → IdT) (w : World) (hn : n ≤ 1000000) (he : Elems w sv n 3 (idCells x)) :
    Calls Try.prog 17 #[vecV v, sv] w (Gives (resV (withB v x n)) w) := by
  have hmf : ∀ (fn : Fn) (first cap : Array Value) (w : World), (Instr.makeFunc fn first cap).run Try.prog w = .ok (.func fn first cap) w := fun _ _ _ _ => rfl
  have He := Lib.hid he
  have H0 := Lib.hid h0
  clear he h0
  obtain ⟨a, m, c, rfl⟩ : ∃ a m c, sv = .slice a m c := by
    rcases He.out with ⟨e, _⟩ | ⟨b, off, cap, e, _⟩
    · exact ⟨_, _, _, e⟩
    · exact ⟨_, _, _, e⟩
  have key : ∀ w1, Below (w.heap.size + 1 + 1 + 1) (((w.alloc (.cells (lit9 v) 24)).alloc (.cells #[.slice a m c] 50)).alloc (.cells (lit9 fun _ => 0) 24)) w1 →
      w1.heap[w.heap.size]? = some (.cells (lit9 v) 24 (0, 0)) ∧ w1.heap[w.heap.size + 1]? = some (.cells #[.slice a m c] 50 (0, 0)) ∧ Elems w1 (.slice a m c) n 3 (idCells x) := by
    intro w1 hb
    refine ⟨(hb.block _ (by omega)).trans (heap_alloc_keeps (heap_alloc_keeps (World.alloc_heap_new w _) _) _), (hb.block _ (by omega)).trans (heap_alloc_keeps (newBlock _ _ _ (by simp)) _), He.out.below ?_⟩
    exact ((((Below.refl w.heap.size w).alloc (Nat.le_refl _) _).alloc (by simp) _).alloc (by simp; omega) _).trans (hb.mono (by omega))
  have Key := Lib.hid key
  clear key
  cases hr : withB v x n with
  | error z =>
    unfold resV
    have HR := Lib.hid (show ∀ w1, w1.heap[w.heap.size]? = some (.cells (lit9 v) 24 (0, 0)) → w1.heap[w.heap.size + 1]? = some (.cells #[.slice a m c] 50 (0, 0)) → Elems w1 (.slice a m c) n 3 (idCells x) → Calls Try.prog 42 #[.pointer (some ⟨w.heap.size, 0, none⟩), .pointer (some ⟨w.heap.size + 1, 0, none⟩)] w1 (Raises z w1) from by
      intro w1 g1 g2 g3
      unfold withB at hr
      split at hr
      · rename_i hv
        refine (with1_any _ _ v H0.out _ n x w1 hn g1 g2 g3 hv).mono ?_
        intro e w2 h
        unfold WithEnds at h
        rw [hr] at h
        exact h
      · rename_i hv
        cases hr
        exact with1_bad _ _ v w1 g1 (by simpa using hv))
    clear hr
    go_enter Try.func17, Try.ntmps17
    simp only [vecV, lit9]
    go_wp2_with fail
    refine (tries_err 42 _ _ z (enters_of Try.func42 (by kernel_rfl) rfl) (fun w1 hb => HR.out w1 (Key.out w1 (by simpa [lit9] using hb)).1 (Key.out w1 (by simpa [lit9] using hb)).2.1 (Key.out w1 (by simpa [lit9] using hb)).2.2)).mono ?_
    rintro e w1 ⟨rfl, hb⟩
    obtain ⟨hc, hf⟩ := bcell hb
    have hz := hb.size
    simp at hz
    simp only [vecV, lit9]
    go_wp2
    refine bodyPost_ret (v := .tuple #[vecV (fun _ => 0), .int .i64 z]) (by simp [vecV, lit9, results, Try.results17, go_sem, hc]) rfl ⟨rfl, ?_⟩
    exact below_set9 (fun _ => 0) ((show Below w.heap.size w _ by (repeat (first | exact Below.refl _ _ | assumption | refine Below.alloc ?_ (by first | omega | (simp; done) | (simp; omega)) _ | refine Below.setCell ?_ (by first | omega | (simp; done) | (simp; omega)) _ | refine Below.drew ?_))).trans (hb.mono (by simp; omega))) (by omega)
  | ok u =>
    unfold resV
    have HR := Lib.hid (show ∀ w1, w1.heap[w.heap.size]? = some (.cells (lit9 v) 24 (0, 0)) → w1.heap[w.heap.size + 1]? = some (.cells #[.slice a m c] 50 (0, 0)) → Elems w1 (.slice a m c) n 3 (idCells x) → Calls Try.prog 42 #[.pointer (some ⟨w.heap.size, 0, none⟩), .pointer (some ⟨w.heap.size + 1, 0, none⟩)] w1 (Gives (vecV u) w1) from by
      intro w1 g1 g2 g3
      unfold withB at hr
      split at hr
      · rename_i hv
        refine (with1_any _ _ v H0.out _ n x w1 hn g1 g2 g3 hv).mono ?_
        intro e w2 h
        unfold WithEnds at h
        rw [hr] at h
        exact h
      · cases hr)
    clear hr
    go_enter Try.func17, Try.ntmps17
    simp only [vecV, lit9]
    go_wp2_with fail
    refine (tries_ok 42 _ _ u (enters_of Try.func42 (by kernel_rfl) rfl) (fun w1 hb => HR.out w1 (Key.out w1 (by simpa [lit9] using hb)).1 (Key.out w1 (by simpa [lit9] using hb)).2.1 (Key.out w1 (by simpa [lit9] using hb)).2.2)).mono ?_
    rintro e w1 ⟨rfl, hb⟩
    obtain ⟨hc, hf⟩ := bcell hb
    have hz := hb.size
    simp at hz
    simp only [vecV, lit9]
    go_wp2
    refine bodyPost_ret (v := .tuple #[vecV u, .int .i64 0]) (by simp [vecV, lit9, results, Try.results17, go_sem, hc]) rfl ⟨rfl, ?_⟩
    exact below_set9 _ ((show Below w.heap.size w _ by (repeat (first | exact Below.refl _ _ | assumption | refine Below.alloc ?_ (by first | omega | (simp; done) | (simp; omega)) _ | refine Below.setCell ?_ (by first | omega | (simp; done) | (simp; omega)) _ | refine Below.drew ?_))).trans (hb.mono (by simp; omega))) (by omega)
end Go.Proofs.Ytppaheekpmgifaa
