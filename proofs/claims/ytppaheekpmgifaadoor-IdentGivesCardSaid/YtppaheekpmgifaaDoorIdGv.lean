/- gessolaw11.IdentGives: ids that clocks give rise, and are never one. -/
import Derived.Test.YtppaheekpmgifaaDoorIdMp
import Derived.Test.YtppaheekpmgifaaDoorIdTo
import Derived.Test.YtppaheekpmgifaaDoorIdCl
namespace Go.Proofs.YtppaheekpmgifaaDoor
set_option linter.unusedSimpArgs false
set_option linter.unusedVariables false
open Go.RowKit Go.Shelf

structure TurnT where
  site : Int
  sees : Bool
  time : Int
def encT (t : TurnT) : List Value := [.int .i64 t.site, .bool t.sees, .int .u64 t.time]
theorem encT_len (t : TurnT) : (encT t).length = 3 := rfl
theorem turnCellsX {w : World} {a : Option Addr} {cap : Nat} {l : List TurnT} (h : Elems w (.slice a l.length cap) l.length 3 (rowC encT l)) (k : Nat) (x : TurnT) (hx : l[k]? = some x) :
    ∃ b off, a = some ⟨b, off, none⟩ ∧ w.cell? ⟨b, off + k * 3, none⟩ = some (.int .i64 x.site) ∧ w.cell? ⟨b, off + k * 3 + 1, none⟩ = some (.bool x.sees) ∧ w.cell? ⟨b, off + k * 3 + 2, none⟩ = some (.int .u64 x.time) := by
  have hk := (List.getElem?_eq_some_iff.1 hx).1
  rcases h with ⟨e, h0⟩ | ⟨b, off, cap', e, hlt, hc⟩
  · omega
  · cases e
    have h := rowElem encT_len hc hx
    exact ⟨b, off, rfl, by simpa using h 0 _ rfl, h 1 _ rfl, h 2 _ rfl⟩

theorem arr_lit {a b c : Value} : Arr #[a, b, c, a, b, c, a, b, c, a, b, c, a, b, c, a, b, c, a, b, c, a, b, c, a, b, c] (fun _ => [a, b, c]) := by
  refine ⟨rfl, fun n r v hn hr hv => ?_⟩
  have hn' : n = 0 ∨ n = 1 ∨ n = 2 ∨ n = 3 ∨ n = 4 ∨ n = 5 ∨ n = 6 ∨ n = 7 ∨ n = 8 := by omega
  have hr' : r = 0 ∨ r = 1 ∨ r = 2 := by omega
  rcases hr' with rfl | rfl | rfl <;> rcases hn' with rfl | rfl | rfl | rfl | rfl | rfl | rfl | rfl | rfl <;> simpa using hv
/-- What holds of the clocks, the last ids, and what was given, behind i turns. -/
structure GInv (cl : Nat → ClkT) (la : Nat → IdT) (es : List MapEntry) (i : Nat) : Prop where
  site : ∀ n, 1 ≤ n → n < 9 → (cl n).site = n
  time : ∀ n, 1 ≤ n → n < 9 → 0 ≤ (cl n).time ∧ (cl n).time ≤ 1099511627776 + i
  seq : ∀ n, 1 ≤ n → n < 9 → 0 ≤ (cl n).seq ∧ (cl n).seq ≤ i
  last : ∀ n, 1 ≤ n → n < 9 → (la n).seq = (cl n).seq ∧ (0 < (la n).seq → (la n).time ≤ (cl n).time)
  keys : ∀ e ∈ es, ∃ k : IdT, e.key = k.val ∧ ∃ n : Nat, 1 ≤ n ∧ n < 9 ∧ k.site = n ∧ k.seq ≤ (cl n).seq
def updF {α : Type} (f : Nat → α) (n : Nat) (x : α) : Nat → α := fun k => if k = n then x else f k
theorem GInv.see {cl la es i} (h : GInv cl la es i) {n : Nat} (h1 : 1 ≤ n) (h9 : n < 9) {tt : Int} (ht : 0 ≤ tt ∧ tt < 1099511627776) : GInv (updF cl n ⟨n, max (cl n).time tt, (cl n).seq⟩) la es (i + 1) := by
  refine ⟨fun k a b => ?_, fun k a b => ?_, fun k a b => ?_, fun k a b => ?_, fun e he => ?_⟩
  · unfold updF; by_cases e : k = n
    · subst e; simp
    · simp [e, h.site k a b]
  · have := h.time k a b
    unfold updF; by_cases e : k = n
    · subst e; simp; omega
    · simp [e]; omega
  · have := h.seq k a b
    unfold updF; by_cases e : k = n
    · subst e; simp; omega
    · simp [e]; omega
  · have := h.last k a b
    unfold updF; by_cases e : k = n
    · subst e; simp; exact ⟨this.1, fun h0 => by have := this.2 h0; omega⟩
    · simp [e]; exact this
  · obtain ⟨k, hk, m, m1, m9, hs, hq⟩ := h.keys e he
    refine ⟨k, hk, m, m1, m9, hs, ?_⟩
    unfold updF; by_cases e : m = n
    · subst e; simpa using hq
    · simpa [e] using hq
theorem GInv.next {cl la es i} (h : GInv cl la es i) {n : Nat} (h1 : 1 ≤ n) (h9 : n < 9) (v : Value) (bo : Nat) :
    GInv (updF cl n ⟨n, (cl n).time + 1, (cl n).seq + 1⟩) (updF la n ⟨(cl n).time + 1, n, (cl n).seq + 1⟩) (es ++ [{ key := IdT.val ⟨(cl n).time + 1, n, (cl n).seq + 1⟩, val := v, born := bo }]) (i + 1) := by
  refine ⟨fun k a b => ?_, fun k a b => ?_, fun k a b => ?_, fun k a b => ?_, fun e he => ?_⟩
  · unfold updF; by_cases e : k = n
    · subst e; simp
    · simp [e, h.site k a b]
  · have := h.time k a b
    unfold updF; by_cases e : k = n
    · subst e; simp; omega
    · simp [e]; omega
  · have := h.seq k a b
    unfold updF; by_cases e : k = n
    · subst e; simp; omega
    · simp [e]; omega
  · have := h.last k a b
    unfold updF; by_cases e : k = n
    · subst e; simp
    · simp [e]; exact this
  · rcases List.mem_append.1 he with he | he
    · obtain ⟨k, hk, m, m1, m9, hs, hq⟩ := h.keys e he
      refine ⟨k, hk, m, m1, m9, hs, ?_⟩
      unfold updF; by_cases e : m = n
      · subst e; simp; omega
      · simpa [e] using hq
    · simp at he
      subst he
      exact ⟨_, rfl, n, h1, h9, rfl, by simp [updF]⟩
theorem GInv.nokey {cl la es i} (h : GInv cl la es i) {n : Nat} (h1 : 1 ≤ n) (h9 : n < 9) : NoKey ⟨(cl n).time + 1, n, (cl n).seq + 1⟩ es := by
  intro e he
  obtain ⟨k, hk, m, m1, m9, hs, hq⟩ := h.keys e he
  refine ⟨k, hk, ?_⟩
  cases hx : idEqB ⟨(cl n).time + 1, n, (cl n).seq + 1⟩ k with
  | false => rfl
  | true =>
    have := (idEqB_iff _ _).1 hx
    subst this
    simp only at hs hq
    have : m = n := by omega
    subst this
    omega

theorem turnN (x : Int) : ∃ n : Nat, wrap64 (1 + wrap64 ((IntKind.u64.wrap x).tmod 8)) = (n : Int) ∧ 1 ≤ n ∧ n < 9 := by
  have h0 : 0 ≤ IntKind.u64.wrap x := by rw [IntKind.wrap_u64]; omega
  rw [Int.tmod_eq_emod_of_nonneg h0]
  generalize IntKind.u64.wrap x = y
  refine ⟨(1 + y % 8).toNat, ?_, by omega, by omega⟩
  unfold wrap64
  omega
theorem seeOk {c : ClkT} (h : clkOk c = true) {tt : Int} (ht : tt ≤ 4611686018427387904) : seC (fun _ => tt) 1 c = ⟨c.site, max c.time tt, c.seq⟩ ∧ seE (fun _ => tt) 1 c = 0 := by
  have hb : timesB (fun _ => tt) 1 = true := by simp [timesB, ht]
  unfold seC seE
  rw [h, hb]
  exact ⟨rfl, rfl⟩
theorem one_row {w : World} {q : Nat} {t : Int} (h : w.heap[q]? = some (.cells #[.int .u64 t] 25 (0, 0))) : Elems w (.slice (some ⟨q, 0, none⟩) 1 1) 1 1 (fun _ => .int .u64 ((fun _ => t) 0)) :=
  .inr ⟨q, 0, 1, rfl, block_lt h, fun j hj => by
    obtain rfl : j = 0 := by omega
    exact cell_of_block (k := 0) h rfl⟩
theorem GInv.clk {cl la es i} (h : GInv cl la es i) (hi : i ≤ 60) {n : Nat} (h1 : 1 ≤ n) (h9 : n < 9) : clkOk (cl n) = true ∧ nextOk (cl n) = true ∧ (cl n).Fits := by
  have a := h.site n h1 h9
  have b := h.time n h1 h9
  have c := h.seq n h1 h9
  refine ⟨?_, ?_, ?_⟩
  · simp [clkOk, siteOk, a]; omega
  · simp [nextOk]; omega
  · unfold ClkT.Fits; omega
theorem set3A_idem (cs : Array Value) (n : Nat) (a b c : Value) : set3A (set3A cs n a b c) n a b c = set3A cs n a b c := by
  apply Array.ext_getElem?
  intro j
  unfold set3A
  by_cases e0 : j = n * 3
  · subst e0
    rw [Array.getElem?_setIfInBounds_ne (by omega), Array.getElem?_setIfInBounds_ne (by omega), Array.getElem?_setIfInBounds_ne (i := n * 3 + 2) (by omega), Array.getElem?_setIfInBounds_ne (i := n * 3 + 1) (by omega)]
    simp [Array.getElem?_setIfInBounds]
  · by_cases e1 : j = n * 3 + 1
    · subst e1
      rw [Array.getElem?_setIfInBounds_ne (by omega), Array.getElem?_setIfInBounds_ne (i := n * 3 + 2) (by omega)]
      simp [Array.getElem?_setIfInBounds]
    · by_cases e2 : j = n * 3 + 2
      · subst e2
        simp [Array.getElem?_setIfInBounds]
      · rw [Array.getElem?_setIfInBounds_ne (by omega), Array.getElem?_setIfInBounds_ne (by omega), Array.getElem?_setIfInBounds_ne (by omega)]
theorem upd_at {w : World} {b : Nat} {o : Obj} (h : b < w.heap.size) : ({ w with heap := w.heap.setIfInBounds b o } : World).heap[b]? = some o := by simp [h]
theorem upd_other {w : World} {b j : Nat} {o ob : Obj} (hj : j ≠ b) (h : w.heap[j]? = some ob) : ({ w with heap := w.heap.setIfInBounds b o } : World).heap[j]? = some ob := by
  show (w.heap.setIfInBounds b o)[j]? = some ob
  rw [Array.getElem?_setIfInBounds_ne (fun e => hj e.symm)]
  exact h
theorem upd_below {n₀ : Nat} {w : World} {b : Nat} {o : Obj} (h : n₀ ≤ b) : Below n₀ w { w with heap := w.heap.setIfInBounds b o } :=
  ⟨rfl, rfl, rfl, by simp, fun k hk => by
    show (w.heap.setIfInBounds b o)[k]? = _
    rw [Array.getElem?_setIfInBounds_ne (by omega)]⟩
theorem FillM.fst {n₀ : Nat} {p p' : Nat} {Z S Z' S' : Obj} {x y : World} (hne : p ≠ p') (hl : Below n₀ x y) (hy : y.heap[p]? = some S) (ho : ∀ j ob, j ≠ p → x.heap[j]? = some ob → y.heap[j]? = some ob) : FillM n₀ [(p, Z, S), (p', Z', S')] x y :=
  FillM.one (p := p) (Z := Z) (S := S) (List.mem_cons_self ..) (by
    intro q hq e
    rcases List.mem_cons.1 hq with rfl | hq
    · rfl
    · obtain rfl := List.mem_singleton.1 hq
      exact absurd e.symm hne) hl hy ho
theorem FillM.snd {n₀ : Nat} {p p' : Nat} {Z S Z' S' : Obj} {x y : World} (hne : p ≠ p') (hl : Below n₀ x y) (hy : y.heap[p']? = some S') (ho : ∀ j ob, j ≠ p' → x.heap[j]? = some ob → y.heap[j]? = some ob) : FillM n₀ [(p, Z, S), (p', Z', S')] x y :=
  FillM.one (p := p') (Z := Z') (S := S') (List.mem_cons_of_mem _ (List.mem_cons_self ..)) (by
    intro q hq e
    rcases List.mem_cons.1 hq with rfl | hq
    · exact absurd e hne
    · obtain rfl := List.mem_singleton.1 hq
      rfl) hl hy ho
theorem arr_either {w : World} {p n : Nat} {ls : Array Value} {f : Nat → List Value} {t : TypeId} {a b c x y z : Value} (h : Arr ls f) (hn : n < 9) (hf : f n = [x, y, z]) (he : w.heap[p]? = some (.cells ls t (0, 0)) ∨ w.heap[p]? = some (.cells (set3A ls n a b c) t (0, 0))) :
    ∃ y0 y1 y2, w.cell? ⟨p, n * 3, none⟩ = some y0 ∧ w.cell? ⟨p, n * 3 + 1, none⟩ = some y1 ∧ w.cell? ⟨p, n * 3 + 2, none⟩ = some y2 ∧ ∀ k, w.frozen? ⟨p, k, none⟩ = false := by
  rcases he with he | he
  · obtain ⟨h0, h1, h2⟩ := h.cells he hn hf
    exact ⟨_, _, _, h0, h1, h2, free_of_block he⟩
  · obtain ⟨h0, h1, h2⟩ := (h.set3 n hn a b c).cells he hn (by simp; exact ⟨rfl, rfl, rfl⟩)
    exact ⟨_, _, _, h0, h1, h2, free_of_block he⟩
theorem arr_fill {w : World} {p n : Nat} {ls : Array Value} {t : TypeId} {a b c : Value} (he : w.heap[p]? = some (.cells ls t (0, 0)) ∨ w.heap[p]? = some (.cells (set3A ls n a b c) t (0, 0))) :
    (((w.setCell ⟨p, n * 3, none⟩ a).setCell ⟨p, n * 3 + 1, none⟩ b).setCell ⟨p, n * 3 + 2, none⟩ c).heap[p]? = some (.cells (set3A ls n a b c) t (0, 0)) := by
  rcases he with he | he
  · exact heap_setN he n a b c
  · rw [heap_setN he n a b c, set3A_idem]
theorem obj_ne {cs cs' : Array Value} {t t' : TypeId} (h : t ≠ t') : Obj.cells cs t (0, 0) ≠ Obj.cells cs' t' (0, 0) := by
  intro e
  injection e with _ e2
  exact h e2
/-- The world between turns. -/
structure GW (w : World) (p3 mB p8 : Nat) (cl : Nat → ClkT) (la : Nat → IdT) (es : Array MapEntry) (clock : Nat) (cs ls : Array Value) (W : World) : Prop where
  low : Below w.heap.size w W
  h3 : W.heap[p3]? = some (.cells cs 57 (0, 0))
  a3 : Arr cs (fun n => encC (cl n))
  hm : W.heap[mB]? = some (.map es clock)
  h8 : W.heap[p8]? = some (.cells ls 59 (0, 0))
  a8 : Arr ls (fun n => encId (la n))
theorem GW.below {w p3 mB p8 cl la es clock cs ls W W'} (h : GW w p3 mB p8 cl la es clock cs ls W) (k : Below W.heap.size W W') : GW w p3 mB p8 cl la es clock cs ls W' :=
  ⟨h.low.trans (k.mono h.low.size), (k.block _ (block_lt h.h3)).trans h.h3, h.a3, (k.block _ (block_lt h.hm)).trans h.hm, (k.block _ (block_lt h.h8)).trans h.h8, h.a8⟩
theorem makeMap_any (w : World) : (Instr.makeMap 58 none).run Tryd.prog w = .ok (.map (some w.heap.size)) (w.alloc (.map #[] 0)) := rfl

set_option maxRecDepth 100000 in
set_option maxHeartbeats 4000000 in
theorem identGives_any (l : List TurnT) (hg : ∀ t ∈ l, (-9223372036854775808 ≤ t.site ∧ t.site ≤ 9223372036854775807) ∧ (0 ≤ t.time ∧ t.time < 18446744073709551616)) (a : Option Addr) (cap : Nat) (hlm : l.length ≤ maxLen) (w : World) (ht : Tab w)
    (he : Elems w (.slice a l.length cap) l.length 3 (rowC encT l)) :
    Calls Tryd.prog 6 #[.slice a l.length cap] w (Gives (.bool true) w) := by
  have HT := Lib.hid ht
  have HG := Lib.hid hg
  have HE := Lib.hid he
  unfold maxLen at hlm
  clear ht hg he
  go_enter Tryd.func6, Tryd.ntmps6
  go_wp2_with fail
  refine (wakes_any _ HT.out).mono ?_
  rintro e w1 ⟨rfl, hb⟩
  have HB1 := Lib.hid hb
  clear hb
  go_wp2_with fail
  go_loopw [4] (fun i wr => ∃ (n : Nat) (cs : Array Value), 1 ≤ n ∧ n ≤ 9 ∧ i = .int .i64 (n : Int) ∧ Below w.heap.size w wr ∧ wr.heap[w1.heap.size]? = some (.cells cs 57 (0, 0)) ∧ Arr cs (fun k => encC (if 1 ≤ k ∧ k < n then ⟨k, 0, 0⟩ else clk0))) (fun i _ => 9 - (intOf i).toNat)
  case atStart =>
    refine ⟨1, _, by omega, by omega, rfl, HB1.out.alloc HB1.out.size _, newBlock _ _ _ rfl, arr_lit.congr fun n _ => ?_⟩
    rw [if_neg (by omega)]
    rfl
  case round =>
    obtain ⟨n, cs, n1, n9, rfl, hb, hcs, harr⟩ := hrel
    have HB := Lib.hid hb
    have HCS := Lib.hid hcs
    have HAR := Lib.hid harr
    have hz1 := HB1.out.size
    clear hb hcs harr
    by_cases h8 : n ≤ 8
    · have g1 : decide ((n : Int) ≤ 8) = true := by simp; omega
      have wk : wrap64 ((n : Int) + 1) = ((n + 1 : Nat) : Int) := by unfold wrap64; omega
      have hso : siteOk (n : Int) = true := by simp [siteOk]; omega
      have HN := Lib.hid (fun w => identNew_any (n : Int) w)
      simp only [hso, if_true] at HN
      clear hso
      unfold ClkT.val at HN
      go_wp2_with fail
      refine (HN.out _).mono ?_
      rintro e w2 ⟨rfl, hb⟩
      have hcs2 := (hb.block _ (block_lt HCS.out)).trans HCS.out
      have HB2 := Lib.hid (HB.out.trans (hb.mono HB.out.size))
      have HCS2 := Lib.hid hcs2
      clear hb hcs2
      obtain ⟨o0, o1, o2⟩ := HAR.out.cells (w := w2.alloc (.cells #[.int .i64 (n : Int), .int .u64 0, .int .u64 0] 41)) (heap_alloc_keeps HCS2.out _) (n := n) (by omega) (by rw [if_neg (by omega)]; rfl)
      have of := free_of_block (w := w2.alloc (.cells #[.int .i64 (n : Int), .int .u64 0, .int .u64 0] 41)) (heap_alloc_keeps HCS2.out _)
      go_wp2_with fail
      go_roundw
      case rel =>
        refine ⟨n + 1, _, by omega, by omega, by simp, ?_, heap_setN (heap_alloc_keeps HCS2.out _) n _ _ _, (HAR.out.set3 n (by omega) _ _ _).congr fun k hk => ?_⟩
        · exact below_setN (HB2.out.alloc HB2.out.size _) hz1
        · by_cases e : k = n
          · subst e; rw [if_pos rfl, if_pos ⟨by omega, by omega⟩]; rfl
          · rw [if_neg e]
            by_cases h : 1 ≤ k ∧ k < n
            · rw [if_pos h, if_pos (by omega)]
            · rw [if_neg h, if_neg (by omega)]
      case measure => simp [intOf]; omega
    · obtain rfl : n = 9 := by omega
      clear n1 n9 h8
      have hmm := makeMap_any
      go_wp2_with fail
      have hzr := HB.out.size
      have h3_ := block_lt HCS.out
      have hgw : GW w w1.heap.size wr.heap.size (wr.heap.size + 1) (fun k => if 1 ≤ k ∧ k < 9 then ⟨k, 0, 0⟩ else clk0) (fun _ => ⟨0, 0, 0⟩) #[] 0 cs _ ((wr.alloc (.map #[] 0)).alloc (.cells #[.int .u64 0, .int .i64 0, .int .u64 0, .int .u64 0, .int .i64 0, .int .u64 0, .int .u64 0, .int .i64 0, .int .u64 0, .int .u64 0, .int .i64 0, .int .u64 0, .int .u64 0, .int .i64 0, .int .u64 0, .int .u64 0, .int .i64 0, .int .u64 0, .int .u64 0, .int .i64 0, .int .u64 0, .int .u64 0, .int .i64 0, .int .u64 0, .int .u64 0, .int .i64 0, .int .u64 0] 59)) :=
        ⟨(HB.out.alloc hzr _).alloc (by simp; omega) _, heap_alloc_keeps (heap_alloc_keeps HCS.out _) _, HAR.out, heap_alloc_keeps (newBlock wr _ _ rfl) _, newBlock _ _ _ (by simp), arr_lit.congr fun _ _ => rfl⟩
      have HGW := Lib.hid hgw
      have H3 := Lib.hid h3_
      clear hgw hmm h3_
      obtain ⟨mB, hmB⟩ : ∃ mB, wr.heap.size = mB := ⟨_, rfl⟩
      obtain ⟨p3, hp3⟩ : ∃ p3, w1.heap.size = p3 := ⟨_, rfl⟩
      rw [hmB, hp3] at HGW ⊢
      rw [hmB, hp3] at H3
      rw [hp3] at hz1
      generalize ((wr.alloc (.map #[] 0)).alloc (.cells #[.int .u64 0, .int .i64 0, .int .u64 0, .int .u64 0, .int .i64 0, .int .u64 0, .int .u64 0, .int .i64 0, .int .u64 0, .int .u64 0, .int .i64 0, .int .u64 0, .int .u64 0, .int .i64 0, .int .u64 0, .int .u64 0, .int .i64 0, .int .u64 0, .int .u64 0, .int .i64 0, .int .u64 0, .int .u64 0, .int .i64 0, .int .u64 0, .int .u64 0, .int .i64 0, .int .u64 0] 59)) = wA at HGW ⊢
      clear hmB hp3 HCS HAR HB hzr HB1
      go_loopw [36] (fun i wx => ∃ (k : Nat) (cl : Nat → ClkT) (la : Nat → IdT) (es : Array MapEntry) (clock : Nat) (cs ls : Array Value), k ≤ l.length ∧ k ≤ 60 ∧ i = .int .i64 (k : Int) ∧ GInv cl la es.toList k ∧ GW w p3 mB (mB + 1) cl la es clock cs ls wx) (fun i _ => l.length - (intOf i).toNat)
      case atStart =>
        refine ⟨0, _, _, _, _, _, _, by omega, by omega, rfl, ⟨fun n a b => ?_, fun n a b => ?_, fun n a b => ?_, fun n a b => ?_, fun e he => by simp at he⟩, HGW.out⟩
        all_goals simp [a, b]
      case round =>
        obtain ⟨k, cl, la, es, clock, cs, ls, hk, hk60, rfl, hgi, hgw⟩ := hrel
        have HGI := Lib.hid hgi
        have HGW := Lib.hid hgw
        clear hgi hgw
        by_cases hlt : k < l.length
        · have wk : wrap64 ((k : Int) + 1) = ((k + 1 : Nat) : Int) := by unfold wrap64; omega
          obtain ⟨x, hx⟩ : ∃ x, l[k]? = some x := ⟨_, List.getElem?_eq_getElem hlt⟩
          have HX := Lib.hid (HG.out x (List.mem_of_getElem? hx))
          obtain ⟨bb, off, rfl, c0, c1, c2⟩ := turnCellsX (HE.out.below HGW.out.low) k x hx
          obtain ⟨x1, x2, x3⟩ := x
          simp only at c0 c1 c2
          clear hx
          by_cases h60 : k = 60
          · have hq : ((k : Int) == 60) = true := by simp [h60]
            clear h60 hk60
            go_wp2_with fail
            go_ret
            exact ⟨rfl, HGW.out.low.alloc HGW.out.low.size _⟩
          · have hq : ((k : Int) == 60) = false := by simp; omega
            have hk59 : k < 60 := by omega
            clear h60 hk60
            have HK59 := Lib.hid hk59
            have HLT := Lib.hid hlt
            clear hk59
            repeat ((fail_if_success (with_reducible refine stop_at (id := 17) ?_)); (first | go_values | go_skip | go_guarded | go_step | go_upon | go_back | (simp only [Int.not_lt, Int.not_le] at *; go_simp) | (go_values <;> (try go_simp)) | (go_ite <;> go_prune <;> (try go_simp)) | (split <;> (first | (rename_i hx; exact (hx _ rfl).elim) | go_prune))))
            have HPT := Lib.hid (block_lt HGW.out.h8)
            have hgw2 := HGW.out.below ((Below.refl wr.heap.size wr).alloc (Nat.le_refl _) (.cells #[.int .i64 x1, .bool x2, .int .u64 x3] 61))
            have htb : (wr.alloc (.cells #[.int .i64 x1, .bool x2, .int .u64 x3] 61)).heap[wr.heap.size]? = some (.cells #[.int .i64 x1, .bool x2, .int .u64 x3] 61 (0, 0)) := newBlock _ _ _ rfl
            have HGW := Lib.hid hgw2
            have HTB := Lib.hid htb
            obtain ⟨pT, hpT⟩ : ∃ pT, wr.heap.size = pT := ⟨_, rfl⟩
            rw [hpT] at HTB HPT ⊢
            generalize (wr.alloc (.cells #[.int .i64 x1, .bool x2, .int .u64 x3] 61)) = W0 at HGW HTB ⊢
            clear hgw2 htb c0 c1 c2 hpT
            have d0 := cell_of_block (k := 0) HTB.out rfl
            repeat ((fail_if_success (with_reducible refine stop_at (id := 18) ?_)); (first | go_values | go_skip | go_guarded | go_step | go_upon | go_back | (simp only [Int.not_lt, Int.not_le] at *; go_simp) | (go_values <;> (try go_simp)) | (go_ite <;> go_prune <;> (try go_simp)) | (split <;> (first | (rename_i hx; exact (hx _ rfl).elim) | go_prune))))
            clear d0
            obtain ⟨n, hn, n1, n9⟩ := turnN x1
            rw [hn]
            clear hn
            obtain ⟨kok, knx, kfit⟩ := HGI.out.clk (by have := HK59.out; omega) n1 n9
            have ksite := HGI.out.site n n1 n9
            have ktime := HGI.out.time n n1 n9
            have kseq := HGI.out.seq n n1 n9
            obtain ⟨q2, hq2⟩ : ∃ q2, (cl n).time = q2 := ⟨_, rfl⟩
            obtain ⟨q3, hq3⟩ : ∃ q3, (cl n).seq = q3 := ⟨_, rfl⟩
            have hcl : cl n = ⟨n, q2, q3⟩ := by rw [← hq2, ← hq3, ← ksite]
            rw [hcl] at kok knx kfit
            rw [hq2] at ktime
            rw [hq3] at kseq
            have HCL := Lib.hid hcl
            have HQ2 := Lib.hid hq2
            have HQ3 := Lib.hid hq3
            have hz := HX.out.2
            have c3 := HGW.out.a3.cells HGW.out.h3 n9 (by rw [hcl]; rfl)
            have HC3 := Lib.hid c3
            clear ksite hq2 hq3 hcl c3
            cases x2
            · clear hz
              have klast := HGI.out.last n n1 n9
              obtain ⟨⟨r1, r2, r3⟩, hla⟩ : ∃ r, la n = r := ⟨_, rfl⟩
              rw [hla, HQ2.out, HQ3.out] at klast
              obtain ⟨rfl, hlt2⟩ : r3 = q3 ∧ (0 < q3 → r1 ≤ q2) := ⟨klast.1, fun h => klast.2 (by rw [klast.1]; exact h)⟩
              have HLA := Lib.hid hla
              have hnk : NoKey ⟨q2 + 1, n, r3 + 1⟩ es.toList := by have h := HGI.out.nokey n1 n9; rw [HQ2.out, HQ3.out] at h; exact h
              have HNK := Lib.hid hnk
              have HNX := Lib.hid (fun W => identNext_any ⟨n, q2, r3⟩ kfit W)
              have hnc : nxC ⟨n, q2, r3⟩ = ⟨n, q2 + 1, r3 + 1⟩ := by simp [nxC, kok, knx, clkOn]
              have hni : nxI ⟨n, q2, r3⟩ = ⟨q2 + 1, n, r3 + 1⟩ := by simp [nxI, kok, knx, clkOn, clkId]
              have hne : nxE ⟨n, q2, r3⟩ = 0 := by simp [nxE, kok, knx]
              simp only [hnc, hni, hne] at HNX
              have hok : idOk ⟨q2 + 1, n, r3 + 1⟩ = true := by
                rw [idOk_iff, maxT_eq]
                have := HK59.out
                simp only
                omega
              have HOK := Lib.hid hok
              have G20 := Lib.hid (show decide (q2 + 1 ≤ q2) = false by simp; omega)
              have E29 := Lib.hid (show IntKind.u64.wrap (r3 + 1) = r3 + 1 by rw [IntKind.wrap_u64]; have := HK59.out; omega)
              have HK2 := Lib.hid hlt2
              have HKS := Lib.hid kseq
              clear klast hla hnk hnc hni hne hok kok knx kfit ktime kseq hlt2
              have d1 := cell_of_block (k := 1) HTB.out rfl
              obtain ⟨c30, c31, c32⟩ := HC3.out
              unfold ClkT.val IdT.val at HNX
              go_wp2_with fail
              refine (HNX.out _).mono ?_
              rintro e w2 ⟨rfl, hb⟩
              have hgw2 := HGW.out.below hb
              have HO := Lib.hid (show mB + 1 < w2.heap.size from block_lt hgw2.h8)
              clear hb d1 c30 c31 c32 HC3
              repeat ((fail_if_success (with_reducible refine stop_at (id := 24) ?_)); (first | go_values | go_skip | go_guarded | go_step | go_upon | go_back | (simp only [Int.not_lt, Int.not_le] at *; go_simp) | (go_values <;> (try go_simp)) | (go_ite <;> go_prune <;> (try go_simp)) | (split <;> (first | (rename_i hx; exact (hx _ rfl).elim) | go_prune))))
              have hgw3 := hgw2.below (((Below.refl w2.heap.size w2).alloc (Nat.le_refl _) (.cells #[.int .i64 (n : Int), .int .u64 (q2 + 1), .int .u64 (r3 + 1)] 41)).alloc (by simp) (.cells #[.int .u64 (q2 + 1), .int .i64 (n : Int), .int .u64 (r3 + 1)] 27))
              have h14 : ((w2.alloc (.cells #[.int .i64 (n : Int), .int .u64 (q2 + 1), .int .u64 (r3 + 1)] 41)).alloc (.cells #[.int .u64 (q2 + 1), .int .i64 (n : Int), .int .u64 (r3 + 1)] 27)).heap[w2.heap.size]? = some (.cells #[.int .i64 (n : Int), .int .u64 (q2 + 1), .int .u64 (r3 + 1)] 41 (0, 0)) := heap_alloc_keeps (newBlock _ _ _ rfl) _
              have h15 : ((w2.alloc (.cells #[.int .i64 (n : Int), .int .u64 (q2 + 1), .int .u64 (r3 + 1)] 41)).alloc (.cells #[.int .u64 (q2 + 1), .int .i64 (n : Int), .int .u64 (r3 + 1)] 27)).heap[w2.heap.size + 1]? = some (.cells #[.int .u64 (q2 + 1), .int .i64 (n : Int), .int .u64 (r3 + 1)] 27 (0, 0)) := newBlock _ _ _ (by simp)
              have HGW3 := Lib.hid hgw3
              have H14 := Lib.hid h14
              have H15 := Lib.hid h15
              have HO14 := Lib.hid (show mB + 1 < w2.heap.size from HO.out)
              have HO15 := Lib.hid (show mB + 1 < w2.heap.size + 1 from by have := HO.out; omega)
              generalize ((w2.alloc (.cells #[.int .i64 (n : Int), .int .u64 (q2 + 1), .int .u64 (r3 + 1)] 41)).alloc (.cells #[.int .u64 (q2 + 1), .int .i64 (n : Int), .int .u64 (r3 + 1)] 27)) = W3 at HGW3 H14 H15 ⊢
              clear hgw3 h14 h15 hgw2
              refine (wpIn_wide (n := 0)).1 ?_
              apply wp_region_vals 38 (Rl := [(eqv _), (eqv _), (eqv _), (eqv _), (eqv _), (eqv _), (eqv _), (eqv _), (eqv _), (eqv _), (eqv _), (eqv _), (eqv _), (eqv _), (eqv _), (eqv _), (eqv _), (eqv _), (eqv _), (eqv _), (eqv _), (eqv _), (eqv _), (eqv _), (eqv _), (eqv _), (eqv _), (eqv _), (eqv _), (eqv _), (eqv _), (eqv _), (eqv _), (eqv _), (eqv _), (eqv _), (eqv _), (eqv _)]) (C := (fun x y => Below x.heap.size x y))
              case hm => kernel_rfl
              case hk => rfl
              case hCr => exact (fun _ => Below.refl _ _)
              case hCt => intro _ _ _; exact (fun h k => grows_trans h k)
              case hst => exact ⟨fun _ _ _ _ h => h, fun _ _ _ _ h => h, fun _ _ _ _ h => h, fun _ _ _ _ h => h, fun _ _ _ _ h => h, fun _ _ _ _ h => h, fun _ _ _ _ h => h, fun _ _ _ _ h => h, fun _ _ _ _ h => h, fun _ _ _ _ h => h, fun _ _ _ _ h => h, fun _ _ _ _ h => h, fun _ _ _ _ h => h, fun _ _ _ _ h => h, fun _ _ _ _ h => h, fun _ _ _ _ h => h, fun _ _ _ _ h => h, fun _ _ _ _ h => h, fun _ _ _ _ h => h, fun _ _ _ _ h => h, fun _ _ _ _ h => h, fun _ _ _ _ h => h, fun _ _ _ _ h => h, fun _ _ _ _ h => h, fun _ _ _ _ h => h, fun _ _ _ _ h => h, fun _ _ _ _ h => h, fun _ _ _ _ h => h, fun _ _ _ _ h => h, fun _ _ _ _ h => h, fun _ _ _ _ h => h, fun _ _ _ _ h => h, fun _ _ _ _ h => h, fun _ _ _ _ h => h, fun _ _ _ _ h => h, fun _ _ _ _ h => h, fun _ _ _ _ h => h, fun _ _ _ _ h => h, trivial⟩
              case hfo => kernel_rfl
              case ht => kernel_rfl
              case hC0 => exact (grows_drew _)
              case hsteps =>
                refine ⟨?_, ?_, ?_, ?_, ?_, ?_, ?_, ?_, ?_, ?_, ?_, ?_, ?_, ?_, ?_, ?_, ?_, ?_, ?_, ?_, ?_, ?_, ?_, ?_, ?_, ?_, ?_, ?_, ?_, ?_, ?_, ?_, ?_, ?_, ?_, ?_, ?_, ?_, trivial⟩
                · -- 0
                  intro a' w' hA hC hD
                  have s16 : a'.tmps[16]? = some _ := (hA.at 16 (by kernel_rfl)).trans rfl
                  clear hA hD
                  refine stepOk_plain rfl ?_
                  intro K hK
                  gi_wp2
                  exact hK _ _ rfl ((fun _ => Below.refl _ _) _)
                · -- 1
                  intro a' w' hA hC hD
                  obtain ⟨u101, s101, r101⟩ := hD ⟨0, .data⟩ (by simp) rfl _ rfl
                  replace r101 : u101 = _ := r101
                  subst r101
                  clear hA hD
                  refine stepOk_plain rfl ?_
                  intro K hK
                  gi_wp2
                  exact hK _ _ rfl ((fun _ => Below.refl _ _) _)
                · -- 2
                  intro a' w' hA hC hD
                  obtain ⟨u102, s102, r102⟩ := hD ⟨1, .data⟩ (by simp) rfl _ rfl
                  replace r102 : u102 = _ := r102
                  subst r102
                  clear hA hD
                  refine stepOk_plain rfl ?_
                  intro K hK
                  gi_wp2
                  exact hK _ _ rfl ((fun _ => Below.refl _ _) _)
                · -- 3
                  intro a' w' hA hC hD
                  have s15 : a'.tmps[15]? = some _ := (hA.at 15 (by kernel_rfl)).trans rfl
                  obtain ⟨u103, s103, r103⟩ := hD ⟨2, .guard⟩ (by simp) rfl _ rfl
                  replace r103 : u103 = _ := r103
                  subst r103
                  have d0 := cell_of_block (k := 0) ((hC.block _ (block_lt H15.out)).trans H15.out) rfl; have d1 := cell_of_block (k := 1) ((hC.block _ (block_lt H15.out)).trans H15.out) rfl; have d2 := cell_of_block (k := 2) ((hC.block _ (block_lt H15.out)).trans H15.out) rfl
                  clear hA hD
                  refine stepOk_want rfl rfl s103 ?_
                  intro K hK
                  gi_wp2
                  exact hK _ _ rfl ((fun _ => Below.refl _ _) _)
                · -- 4
                  intro a' w' hA hC hD
                  obtain ⟨u104, s104, r104⟩ := hD ⟨3, .data⟩ (by simp) rfl _ rfl
                  replace r104 : u104 = _ := r104
                  subst r104
                  obtain ⟨u103, s103, r103⟩ := hD ⟨2, .chain⟩ (by simp) rfl _ rfl
                  replace r103 : u103 = _ := r103
                  subst r103
                  clear hA hD
                  refine stepOk_want rfl rfl s103 ?_
                  intro K hK
                  gi_wp2_with fail; refine (callsIn_wide.2 (idCheck_any ⟨q2 + 1, n, r3 + 1⟩ _)).mono ?_; rintro e w2 ⟨rfl, hb⟩; rw [(show errOf (idOk ⟨q2 + 1, n, r3 + 1⟩) 210 = 0 from by rw [HOK.out]; rfl)]
                  exact hK _ _ rfl hb
                · -- 5
                  intro a' w' hA hC hD
                  obtain ⟨u105, s105, r105⟩ := hD ⟨4, .data⟩ (by simp) rfl _ rfl
                  replace r105 : u105 = _ := r105
                  subst r105
                  obtain ⟨u103, s103, r103⟩ := hD ⟨2, .guard⟩ (by simp) rfl _ rfl
                  replace r103 : u103 = _ := r103
                  subst r103
                  clear hA hD
                  refine stepOk_want rfl rfl s103 ?_
                  intro K hK
                  gi_wp2
                  exact hK _ _ rfl ((fun _ => Below.refl _ _) _)
                · -- 6
                  intro a' w' hA hC hD
                  obtain ⟨u103, s103, r103⟩ := hD ⟨2, .data⟩ (by simp) rfl _ rfl
                  replace r103 : u103 = _ := r103
                  subst r103
                  obtain ⟨u106, s106, r106⟩ := hD ⟨5, .data⟩ (by simp) rfl _ rfl
                  replace r106 : u106 = _ := r106
                  subst r106
                  clear hA hD
                  refine stepOk_plain rfl ?_
                  intro K hK
                  gi_wp2
                  exact hK _ _ rfl ((fun _ => Below.refl _ _) _)
                · -- 7
                  intro a' w' hA hC hD
                  obtain ⟨u107, s107, r107⟩ := hD ⟨6, .data⟩ (by simp) rfl _ rfl
                  replace r107 : u107 = _ := r107
                  subst r107
                  clear hA hD
                  refine stepOk_plain rfl ?_
                  intro K hK
                  gi_wp2
                  exact hK _ _ rfl ((fun _ => Below.refl _ _) _)
                · -- 8
                  intro a' w' hA hC hD
                  have s15 : a'.tmps[15]? = some _ := (hA.at 15 (by kernel_rfl)).trans rfl
                  obtain ⟨u108, s108, r108⟩ := hD ⟨7, .guard⟩ (by simp) rfl _ rfl
                  replace r108 : u108 = _ := r108
                  subst r108
                  clear hA hD
                  refine stepOk_want rfl rfl s108 ?_
                  intro K hK
                  gi_wp2
                  exact hK _ _ rfl ((fun _ => Below.refl _ _) _)
                · -- 9
                  intro a' w' hA hC hD
                  obtain ⟨u109, s109, r109⟩ := hD ⟨8, .data⟩ (by simp) rfl _ rfl
                  replace r109 : u109 = _ := r109
                  subst r109
                  obtain ⟨u108, s108, r108⟩ := hD ⟨7, .guard⟩ (by simp) rfl _ rfl
                  replace r108 : u108 = _ := r108
                  subst r108
                  have d1 := cell_of_block (k := 1) ((hC.block _ (block_lt H15.out)).trans H15.out) rfl
                  clear hA hD
                  refine stepOk_want rfl rfl s108 ?_
                  intro K hK
                  gi_wp2
                  exact hK _ _ rfl ((fun _ => Below.refl _ _) _)
                · -- 10
                  intro a' w' hA hC hD
                  have s11 : a'.tmps[11]? = some _ := (hA.at 11 (by kernel_rfl)).trans rfl
                  obtain ⟨u108, s108, r108⟩ := hD ⟨7, .guard⟩ (by simp) rfl _ rfl
                  replace r108 : u108 = _ := r108
                  subst r108
                  clear hA hD
                  refine stepOk_want rfl rfl s108 ?_
                  intro K hK
                  gi_wp2
                  exact hK _ _ rfl ((fun _ => Below.refl _ _) _)
                · -- 11
                  intro a' w' hA hC hD
                  obtain ⟨u110, s110, r110⟩ := hD ⟨9, .data⟩ (by simp) rfl _ rfl
                  replace r110 : u110 = _ := r110
                  subst r110
                  obtain ⟨u111, s111, r111⟩ := hD ⟨10, .data⟩ (by simp) rfl _ rfl
                  replace r111 : u111 = _ := r111
                  subst r111
                  obtain ⟨u108, s108, r108⟩ := hD ⟨7, .guard⟩ (by simp) rfl _ rfl
                  replace r108 : u108 = _ := r108
                  subst r108
                  clear hA hD
                  refine stepOk_want rfl rfl s108 ?_
                  intro K hK
                  gi_wp2
                  exact hK _ _ rfl ((fun _ => Below.refl _ _) _)
                · -- 12
                  intro a' w' hA hC hD
                  obtain ⟨u108, s108, r108⟩ := hD ⟨7, .data⟩ (by simp) rfl _ rfl
                  replace r108 : u108 = _ := r108
                  subst r108
                  obtain ⟨u112, s112, r112⟩ := hD ⟨11, .data⟩ (by simp) rfl _ rfl
                  replace r112 : u112 = _ := r112
                  subst r112
                  clear hA hD
                  refine stepOk_plain rfl ?_
                  intro K hK
                  gi_wp2
                  exact hK _ _ rfl ((fun _ => Below.refl _ _) _)
                · -- 13
                  intro a' w' hA hC hD
                  obtain ⟨u113, s113, r113⟩ := hD ⟨12, .data⟩ (by simp) rfl _ rfl
                  replace r113 : u113 = _ := r113
                  subst r113
                  clear hA hD
                  refine stepOk_plain rfl ?_
                  intro K hK
                  gi_wp2
                  exact hK _ _ rfl ((fun _ => Below.refl _ _) _)
                · -- 14
                  intro a' w' hA hC hD
                  have s15 : a'.tmps[15]? = some _ := (hA.at 15 (by kernel_rfl)).trans rfl
                  obtain ⟨u114, s114, r114⟩ := hD ⟨13, .guard⟩ (by simp) rfl _ rfl
                  replace r114 : u114 = _ := r114
                  subst r114
                  clear hA hD
                  refine stepOk_want rfl rfl s114 ?_
                  intro K hK
                  gi_wp2
                  exact hK _ _ rfl ((fun _ => Below.refl _ _) _)
                · -- 15
                  intro a' w' hA hC hD
                  obtain ⟨u115, s115, r115⟩ := hD ⟨14, .data⟩ (by simp) rfl _ rfl
                  replace r115 : u115 = _ := r115
                  subst r115
                  obtain ⟨u114, s114, r114⟩ := hD ⟨13, .guard⟩ (by simp) rfl _ rfl
                  replace r114 : u114 = _ := r114
                  subst r114
                  have d0 := cell_of_block (k := 0) ((hC.block _ (block_lt H15.out)).trans H15.out) rfl
                  clear hA hD
                  refine stepOk_want rfl rfl s114 ?_
                  intro K hK
                  gi_wp2
                  exact hK _ _ rfl ((fun _ => Below.refl _ _) _)
                · -- 16
                  intro a' w' hA hC hD
                  have s11 : a'.tmps[11]? = some _ := (hA.at 11 (by kernel_rfl)).trans rfl
                  obtain ⟨u114, s114, r114⟩ := hD ⟨13, .guard⟩ (by simp) rfl _ rfl
                  replace r114 : u114 = _ := r114
                  subst r114
                  clear hA hD
                  refine stepOk_want rfl rfl s114 ?_
                  intro K hK
                  gi_wp2
                  exact hK _ _ rfl ((fun _ => Below.refl _ _) _)
                · -- 17
                  intro a' w' hA hC hD
                  have s3 : a'.tmps[3]? = some _ := (hA.at 3 (by kernel_rfl)).trans rfl
                  obtain ⟨u117, s117, r117⟩ := hD ⟨16, .data⟩ (by simp) rfl _ rfl
                  replace r117 : u117 = _ := r117
                  subst r117
                  obtain ⟨u114, s114, r114⟩ := hD ⟨13, .guard⟩ (by simp) rfl _ rfl
                  replace r114 : u114 = _ := r114
                  subst r114
                  clear hA hD
                  refine stepOk_want rfl rfl s114 ?_
                  intro K hK
                  gi_wp2
                  exact hK _ _ rfl ((fun _ => Below.refl _ _) _)
                · -- 18
                  intro a' w' hA hC hD
                  obtain ⟨u118, s118, r118⟩ := hD ⟨17, .data⟩ (by simp) rfl _ rfl
                  replace r118 : u118 = _ := r118
                  subst r118
                  obtain ⟨u114, s114, r114⟩ := hD ⟨13, .guard⟩ (by simp) rfl _ rfl
                  replace r114 : u114 = _ := r114
                  subst r114
                  clear hA hD
                  refine stepOk_want rfl rfl s114 ?_
                  intro K hK
                  gi_wp2
                  exact hK _ _ rfl ((fun _ => Below.refl _ _) _)
                · -- 19
                  intro a' w' hA hC hD
                  obtain ⟨u119, s119, r119⟩ := hD ⟨18, .data⟩ (by simp) rfl _ rfl
                  replace r119 : u119 = _ := r119
                  subst r119
                  obtain ⟨u114, s114, r114⟩ := hD ⟨13, .guard⟩ (by simp) rfl _ rfl
                  replace r114 : u114 = _ := r114
                  subst r114
                  have d1 := (HGW3.out.a3.cells ((hC.block _ (block_lt HGW3.out.h3)).trans HGW3.out.h3) n9 (by rw [HCL.out]; rfl)).2.1
                  clear hA hD
                  refine stepOk_want rfl rfl s114 ?_
                  intro K hK
                  gi_wp2
                  exact hK _ _ rfl ((fun _ => Below.refl _ _) _)
                · -- 20
                  intro a' w' hA hC hD
                  obtain ⟨u116, s116, r116⟩ := hD ⟨15, .data⟩ (by simp) rfl _ rfl
                  replace r116 : u116 = _ := r116
                  subst r116
                  obtain ⟨u120, s120, r120⟩ := hD ⟨19, .data⟩ (by simp) rfl _ rfl
                  replace r120 : u120 = _ := r120
                  subst r120
                  obtain ⟨u114, s114, r114⟩ := hD ⟨13, .guard⟩ (by simp) rfl _ rfl
                  replace r114 : u114 = _ := r114
                  subst r114
                  have g1 := G20.out
                  clear hA hD
                  refine stepOk_want rfl rfl s114 ?_
                  intro K hK
                  gi_wp2
                  exact hK _ _ rfl ((fun _ => Below.refl _ _) _)
                · -- 21
                  intro a' w' hA hC hD
                  obtain ⟨u114, s114, r114⟩ := hD ⟨13, .data⟩ (by simp) rfl _ rfl
                  replace r114 : u114 = _ := r114
                  subst r114
                  obtain ⟨u121, s121, r121⟩ := hD ⟨20, .data⟩ (by simp) rfl _ rfl
                  replace r121 : u121 = _ := r121
                  subst r121
                  clear hA hD
                  refine stepOk_plain rfl ?_
                  intro K hK
                  gi_wp2
                  exact hK _ _ rfl ((fun _ => Below.refl _ _) _)
                · -- 22
                  intro a' w' hA hC hD
                  obtain ⟨u122, s122, r122⟩ := hD ⟨21, .data⟩ (by simp) rfl _ rfl
                  replace r122 : u122 = _ := r122
                  subst r122
                  clear hA hD
                  refine stepOk_plain rfl ?_
                  intro K hK
                  gi_wp2
                  exact hK _ _ rfl ((fun _ => Below.refl _ _) _)
                · -- 23
                  intro a' w' hA hC hD
                  have s15 : a'.tmps[15]? = some _ := (hA.at 15 (by kernel_rfl)).trans rfl
                  obtain ⟨u123, s123, r123⟩ := hD ⟨22, .guard⟩ (by simp) rfl _ rfl
                  replace r123 : u123 = _ := r123
                  subst r123
                  clear hA hD
                  refine stepOk_want rfl rfl s123 ?_
                  intro K hK
                  gi_wp2
                  exact hK _ _ rfl ((fun _ => Below.refl _ _) _)
                · -- 24
                  intro a' w' hA hC hD
                  obtain ⟨u124, s124, r124⟩ := hD ⟨23, .data⟩ (by simp) rfl _ rfl
                  replace r124 : u124 = _ := r124
                  subst r124
                  obtain ⟨u123, s123, r123⟩ := hD ⟨22, .guard⟩ (by simp) rfl _ rfl
                  replace r123 : u123 = _ := r123
                  subst r123
                  have d2 := cell_of_block (k := 2) ((hC.block _ (block_lt H15.out)).trans H15.out) rfl
                  clear hA hD
                  refine stepOk_want rfl rfl s123 ?_
                  intro K hK
                  gi_wp2
                  exact hK _ _ rfl ((fun _ => Below.refl _ _) _)
                · -- 25
                  intro a' w' hA hC hD
                  have s11 : a'.tmps[11]? = some _ := (hA.at 11 (by kernel_rfl)).trans rfl
                  obtain ⟨u123, s123, r123⟩ := hD ⟨22, .guard⟩ (by simp) rfl _ rfl
                  replace r123 : u123 = _ := r123
                  subst r123
                  clear hA hD
                  refine stepOk_want rfl rfl s123 ?_
                  intro K hK
                  gi_wp2
                  exact hK _ _ rfl ((fun _ => Below.refl _ _) _)
                · -- 26
                  intro a' w' hA hC hD
                  have s8 : a'.tmps[8]? = some _ := (hA.at 8 (by kernel_rfl)).trans rfl
                  obtain ⟨u126, s126, r126⟩ := hD ⟨25, .data⟩ (by simp) rfl _ rfl
                  replace r126 : u126 = _ := r126
                  subst r126
                  obtain ⟨u123, s123, r123⟩ := hD ⟨22, .guard⟩ (by simp) rfl _ rfl
                  replace r123 : u123 = _ := r123
                  subst r123
                  clear hA hD
                  refine stepOk_want rfl rfl s123 ?_
                  intro K hK
                  gi_wp2
                  exact hK _ _ rfl ((fun _ => Below.refl _ _) _)
                · -- 27
                  intro a' w' hA hC hD
                  obtain ⟨u127, s127, r127⟩ := hD ⟨26, .data⟩ (by simp) rfl _ rfl
                  replace r127 : u127 = _ := r127
                  subst r127
                  obtain ⟨u123, s123, r123⟩ := hD ⟨22, .guard⟩ (by simp) rfl _ rfl
                  replace r123 : u123 = _ := r123
                  subst r123
                  clear hA hD
                  refine stepOk_want rfl rfl s123 ?_
                  intro K hK
                  gi_wp2
                  exact hK _ _ rfl ((fun _ => Below.refl _ _) _)
                · -- 28
                  intro a' w' hA hC hD
                  obtain ⟨u128, s128, r128⟩ := hD ⟨27, .data⟩ (by simp) rfl _ rfl
                  replace r128 : u128 = _ := r128
                  subst r128
                  obtain ⟨u123, s123, r123⟩ := hD ⟨22, .guard⟩ (by simp) rfl _ rfl
                  replace r123 : u123 = _ := r123
                  subst r123
                  have d2 := (HGW3.out.a8.cells ((hC.block _ (block_lt HGW3.out.h8)).trans HGW3.out.h8) n9 (by rw [HLA.out]; rfl)).2.2
                  clear hA hD
                  refine stepOk_want rfl rfl s123 ?_
                  intro K hK
                  gi_wp2
                  exact hK _ _ rfl ((fun _ => Below.refl _ _) _)
                · -- 29
                  intro a' w' hA hC hD
                  obtain ⟨u129, s129, r129⟩ := hD ⟨28, .data⟩ (by simp) rfl _ rfl
                  replace r129 : u129 = _ := r129
                  subst r129
                  obtain ⟨u123, s123, r123⟩ := hD ⟨22, .guard⟩ (by simp) rfl _ rfl
                  replace r123 : u123 = _ := r123
                  subst r123
                  have g1 := E29.out
                  clear hA hD
                  refine stepOk_want rfl rfl s123 ?_
                  intro K hK
                  gi_wp2
                  exact hK _ _ rfl ((fun _ => Below.refl _ _) _)
                · -- 30
                  intro a' w' hA hC hD
                  obtain ⟨u125, s125, r125⟩ := hD ⟨24, .data⟩ (by simp) rfl _ rfl
                  replace r125 : u125 = _ := r125
                  subst r125
                  obtain ⟨u130, s130, r130⟩ := hD ⟨29, .data⟩ (by simp) rfl _ rfl
                  replace r130 : u130 = _ := r130
                  subst r130
                  obtain ⟨u123, s123, r123⟩ := hD ⟨22, .guard⟩ (by simp) rfl _ rfl
                  replace r123 : u123 = _ := r123
                  subst r123
                  clear hA hD
                  refine stepOk_want rfl rfl s123 ?_
                  intro K hK
                  gi_wp2
                  exact hK _ _ rfl ((fun _ => Below.refl _ _) _)
                · -- 31
                  intro a' w' hA hC hD
                  obtain ⟨u123, s123, r123⟩ := hD ⟨22, .data⟩ (by simp) rfl _ rfl
                  replace r123 : u123 = _ := r123
                  subst r123
                  obtain ⟨u131, s131, r131⟩ := hD ⟨30, .data⟩ (by simp) rfl _ rfl
                  replace r131 : u131 = _ := r131
                  subst r131
                  clear hA hD
                  refine stepOk_plain rfl ?_
                  intro K hK
                  gi_wp2
                  exact hK _ _ rfl ((fun _ => Below.refl _ _) _)
                · -- 32
                  intro a' w' hA hC hD
                  obtain ⟨u132, s132, r132⟩ := hD ⟨31, .data⟩ (by simp) rfl _ rfl
                  replace r132 : u132 = _ := r132
                  subst r132
                  clear hA hD
                  refine stepOk_plain rfl ?_
                  intro K hK
                  gi_wp2
                  exact hK _ _ rfl ((fun _ => Below.refl _ _) _)
                · -- 33
                  intro a' w' hA hC hD
                  have s7 : a'.tmps[7]? = some _ := (hA.at 7 (by kernel_rfl)).trans rfl
                  obtain ⟨u133, s133, r133⟩ := hD ⟨32, .guard⟩ (by simp) rfl _ rfl
                  replace r133 : u133 = _ := r133
                  subst r133
                  clear hA hD
                  refine stepOk_want rfl rfl s133 ?_
                  intro K hK
                  gi_wp2
                  exact hK _ _ rfl ((fun _ => Below.refl _ _) _)
                · -- 34
                  intro a' w' hA hC hD
                  have s15 : a'.tmps[15]? = some _ := (hA.at 15 (by kernel_rfl)).trans rfl
                  obtain ⟨u133, s133, r133⟩ := hD ⟨32, .guard⟩ (by simp) rfl _ rfl
                  replace r133 : u133 = _ := r133
                  subst r133
                  have d0 := cell_of_block (k := 0) ((hC.block _ (block_lt H15.out)).trans H15.out) rfl; have d1 := cell_of_block (k := 1) ((hC.block _ (block_lt H15.out)).trans H15.out) rfl; have d2 := cell_of_block (k := 2) ((hC.block _ (block_lt H15.out)).trans H15.out) rfl
                  clear hA hD
                  refine stepOk_want rfl rfl s133 ?_
                  intro K hK
                  gi_wp2
                  exact hK _ _ rfl ((fun _ => Below.refl _ _) _)
                · -- 35
                  intro a' w' hA hC hD
                  obtain ⟨u134, s134, r134⟩ := hD ⟨33, .data⟩ (by simp) rfl _ rfl
                  replace r134 : u134 = _ := r134
                  subst r134
                  obtain ⟨u135, s135, r135⟩ := hD ⟨34, .data⟩ (by simp) rfl _ rfl
                  replace r135 : u135 = _ := r135
                  subst r135
                  obtain ⟨u133, s133, r133⟩ := hD ⟨32, .guard⟩ (by simp) rfl _ rfl
                  replace r133 : u133 = _ := r133
                  subst r133
                  have hr := run_lookup_none ⟨q2 + 1, n, r3 + 1⟩ mB es clock w' ((hC.block _ (block_lt HGW3.out.hm)).trans HGW3.out.hm) HNK.out; unfold IdT.val at hr
                  clear hA hD
                  refine stepOk_want rfl rfl s133 ?_
                  intro K hK
                  gi_wp2
                  exact hK _ _ rfl ((fun _ => Below.refl _ _) _)
                · -- 36
                  intro a' w' hA hC hD
                  obtain ⟨u136, s136, r136⟩ := hD ⟨35, .data⟩ (by simp) rfl _ rfl
                  replace r136 : u136 = _ := r136
                  subst r136
                  obtain ⟨u133, s133, r133⟩ := hD ⟨32, .guard⟩ (by simp) rfl _ rfl
                  replace r133 : u133 = _ := r133
                  subst r133
                  clear hA hD
                  refine stepOk_want rfl rfl s133 ?_
                  intro K hK
                  gi_wp2
                  exact hK _ _ rfl ((fun _ => Below.refl _ _) _)
                · -- 37
                  intro a' w' hA hC hD
                  obtain ⟨u133, s133, r133⟩ := hD ⟨32, .data⟩ (by simp) rfl _ rfl
                  replace r133 : u133 = _ := r133
                  subst r133
                  obtain ⟨u137, s137, r137⟩ := hD ⟨36, .data⟩ (by simp) rfl _ rfl
                  replace r137 : u137 = _ := r137
                  subst r137
                  clear hA hD
                  refine stepOk_plain rfl ?_
                  intro K hK
                  gi_wp2
                  exact hK _ _ rfl ((fun _ => Below.refl _ _) _)
              case hend =>
                intro w3 hC
                simp only [EndFrom, eqv, forall_eq, Act.put, List.length_cons, List.length_nil, List.drop_succ_cons, List.drop_zero, Nat.reduceAdd, List.setIfInBounds_toArray, List.set_cons_succ, List.set_cons_zero]
                have hgw4 := HGW3.out.below hC
                have h14 := (hC.block _ (block_lt H14.out)).trans H14.out
                have h15 := (hC.block _ (block_lt H15.out)).trans H15.out
                have HGW3 := Lib.hid hgw4
                have H14 := Lib.hid h14
                have H15 := Lib.hid h15
                clear hgw4 h14 h15 hC
                gi_wp2
                go_wp2_with fail
                by_cases hq0 : 0 < r3
                · have GQ := Lib.hid (show decide (0 < r3) = true by simpa using hq0)
                  have hls : idLess ⟨r1, r2, r3⟩ ⟨q2 + 1, n, r3 + 1⟩ = true := by
                    rw [idLess_iff]
                    have := HK2.out hq0
                    simp only
                    omega
                  have HLS := Lib.hid (fun W => identLess_any ⟨r1, r2, r3⟩ ⟨q2 + 1, n, r3 + 1⟩ W)
                  simp only [cmpId_lt, hls] at HLS
                  clear hq0 hls
                  refine (wpIn_wide (n := 0)).1 ?_
                  apply wp_region_vals 13 (Rl := [(eqv _), (eqv _), (eqv _), (eqv _), (eqv _), (eqv _), (eqv _), (eqv _), (eqv _), (eqv _), (eqv _), (eqv _), (eqv _)]) (C := (fun x y => Below x.heap.size x y))
                  case hm => kernel_rfl
                  case hk => rfl
                  case hCr => exact (fun _ => Below.refl _ _)
                  case hCt => intro _ _ _; exact (fun h k => grows_trans h k)
                  case hst => exact ⟨fun _ _ _ _ h => h, fun _ _ _ _ h => h, fun _ _ _ _ h => h, fun _ _ _ _ h => h, fun _ _ _ _ h => h, fun _ _ _ _ h => h, fun _ _ _ _ h => h, fun _ _ _ _ h => h, fun _ _ _ _ h => h, fun _ _ _ _ h => h, fun _ _ _ _ h => h, fun _ _ _ _ h => h, fun _ _ _ _ h => h, trivial⟩
                  case hfo => kernel_rfl
                  case ht => kernel_rfl
                  case hC0 => exact (grows_drew _)
                  case hsteps =>
                    refine ⟨?_, ?_, ?_, ?_, ?_, ?_, ?_, ?_, ?_, ?_, ?_, ?_, ?_, trivial⟩
                    · -- 0
                      intro a' w' hA hC hD
                      have s11 : a'.tmps[11]? = some _ := (hA.at 11 (by kernel_rfl)).trans rfl
                      clear hA hD
                      refine stepOk_plain rfl ?_
                      intro K hK
                      gi_wp2
                      exact hK _ _ rfl ((fun _ => Below.refl _ _) _)
                    · -- 1
                      intro a' w' hA hC hD
                      have s8 : a'.tmps[8]? = some _ := (hA.at 8 (by kernel_rfl)).trans rfl
                      obtain ⟨u139, s139, r139⟩ := hD ⟨0, .data⟩ (by simp) rfl _ rfl
                      replace r139 : u139 = _ := r139
                      subst r139
                      clear hA hD
                      refine stepOk_plain rfl ?_
                      intro K hK
                      gi_wp2
                      exact hK _ _ rfl ((fun _ => Below.refl _ _) _)
                    · -- 2
                      intro a' w' hA hC hD
                      obtain ⟨u140, s140, r140⟩ := hD ⟨1, .data⟩ (by simp) rfl _ rfl
                      replace r140 : u140 = _ := r140
                      subst r140
                      clear hA hD
                      refine stepOk_plain rfl ?_
                      intro K hK
                      gi_wp2
                      exact hK _ _ rfl ((fun _ => Below.refl _ _) _)
                    · -- 3
                      intro a' w' hA hC hD
                      obtain ⟨u141, s141, r141⟩ := hD ⟨2, .data⟩ (by simp) rfl _ rfl
                      replace r141 : u141 = _ := r141
                      subst r141
                      have d2 := (HGW3.out.a8.cells ((hC.block _ (block_lt HGW3.out.h8)).trans HGW3.out.h8) n9 (by rw [HLA.out]; rfl)).2.2
                      clear hA hD
                      refine stepOk_plain rfl ?_
                      intro K hK
                      gi_wp2
                      exact hK _ _ rfl ((fun _ => Below.refl _ _) _)
                    · -- 4
                      intro a' w' hA hC hD
                      obtain ⟨u142, s142, r142⟩ := hD ⟨3, .data⟩ (by simp) rfl _ rfl
                      replace r142 : u142 = _ := r142
                      subst r142
                      have g0 := GQ.out
                      clear hA hD
                      refine stepOk_plain rfl ?_
                      intro K hK
                      gi_wp2
                      exact hK _ _ rfl ((fun _ => Below.refl _ _) _)
                    · -- 5
                      intro a' w' hA hC hD
                      obtain ⟨u143, s143, r143⟩ := hD ⟨4, .data⟩ (by simp) rfl _ rfl
                      replace r143 : u143 = _ := r143
                      subst r143
                      clear hA hD
                      refine stepOk_plain rfl ?_
                      intro K hK
                      gi_wp2
                      exact hK _ _ rfl ((fun _ => Below.refl _ _) _)
                    · -- 6
                      intro a' w' hA hC hD
                      have s11 : a'.tmps[11]? = some _ := (hA.at 11 (by kernel_rfl)).trans rfl
                      obtain ⟨u144, s144, r144⟩ := hD ⟨5, .guard⟩ (by simp) rfl _ rfl
                      replace r144 : u144 = _ := r144
                      subst r144
                      clear hA hD
                      refine stepOk_want rfl rfl s144 ?_
                      intro K hK
                      gi_wp2
                      exact hK _ _ rfl ((fun _ => Below.refl _ _) _)
                    · -- 7
                      intro a' w' hA hC hD
                      have s8 : a'.tmps[8]? = some _ := (hA.at 8 (by kernel_rfl)).trans rfl
                      obtain ⟨u145, s145, r145⟩ := hD ⟨6, .data⟩ (by simp) rfl _ rfl
                      replace r145 : u145 = _ := r145
                      subst r145
                      obtain ⟨u144, s144, r144⟩ := hD ⟨5, .guard⟩ (by simp) rfl _ rfl
                      replace r144 : u144 = _ := r144
                      subst r144
                      clear hA hD
                      refine stepOk_want rfl rfl s144 ?_
                      intro K hK
                      gi_wp2
                      exact hK _ _ rfl ((fun _ => Below.refl _ _) _)
                    · -- 8
                      intro a' w' hA hC hD
                      obtain ⟨u146, s146, r146⟩ := hD ⟨7, .data⟩ (by simp) rfl _ rfl
                      replace r146 : u146 = _ := r146
                      subst r146
                      obtain ⟨u144, s144, r144⟩ := hD ⟨5, .guard⟩ (by simp) rfl _ rfl
                      replace r144 : u144 = _ := r144
                      subst r144
                      obtain ⟨d0, d1, d2⟩ := HGW3.out.a8.cells ((hC.block _ (block_lt HGW3.out.h8)).trans HGW3.out.h8) n9 (by rw [HLA.out]; rfl)
                      clear hA hD
                      refine stepOk_want rfl rfl s144 ?_
                      intro K hK
                      gi_wp2
                      exact hK _ _ rfl ((fun _ => Below.refl _ _) _)
                    · -- 9
                      intro a' w' hA hC hD
                      have s15 : a'.tmps[15]? = some _ := (hA.at 15 (by kernel_rfl)).trans rfl
                      obtain ⟨u144, s144, r144⟩ := hD ⟨5, .guard⟩ (by simp) rfl _ rfl
                      replace r144 : u144 = _ := r144
                      subst r144
                      have d0 := cell_of_block (k := 0) ((hC.block _ (block_lt H15.out)).trans H15.out) rfl; have d1 := cell_of_block (k := 1) ((hC.block _ (block_lt H15.out)).trans H15.out) rfl; have d2 := cell_of_block (k := 2) ((hC.block _ (block_lt H15.out)).trans H15.out) rfl
                      clear hA hD
                      refine stepOk_want rfl rfl s144 ?_
                      intro K hK
                      gi_wp2
                      exact hK _ _ rfl ((fun _ => Below.refl _ _) _)
                    · -- 10
                      intro a' w' hA hC hD
                      obtain ⟨u147, s147, r147⟩ := hD ⟨8, .data⟩ (by simp) rfl _ rfl
                      replace r147 : u147 = _ := r147
                      subst r147
                      obtain ⟨u148, s148, r148⟩ := hD ⟨9, .data⟩ (by simp) rfl _ rfl
                      replace r148 : u148 = _ := r148
                      subst r148
                      obtain ⟨u144, s144, r144⟩ := hD ⟨5, .chain⟩ (by simp) rfl _ rfl
                      replace r144 : u144 = _ := r144
                      subst r144
                      clear hA hD
                      refine stepOk_want rfl rfl s144 ?_
                      intro K hK
                      gi_wp2_with fail; refine (callsIn_wide.2 (HLS.out _)).mono ?_; rintro e w2 ⟨rfl, hb⟩
                      exact hK _ _ rfl hb
                    · -- 11
                      intro a' w' hA hC hD
                      obtain ⟨u149, s149, r149⟩ := hD ⟨10, .data⟩ (by simp) rfl _ rfl
                      replace r149 : u149 = _ := r149
                      subst r149
                      obtain ⟨u144, s144, r144⟩ := hD ⟨5, .guard⟩ (by simp) rfl _ rfl
                      replace r144 : u144 = _ := r144
                      subst r144
                      clear hA hD
                      refine stepOk_want rfl rfl s144 ?_
                      intro K hK
                      gi_wp2
                      exact hK _ _ rfl ((fun _ => Below.refl _ _) _)
                    · -- 12
                      intro a' w' hA hC hD
                      obtain ⟨u144, s144, r144⟩ := hD ⟨5, .data⟩ (by simp) rfl _ rfl
                      replace r144 : u144 = _ := r144
                      subst r144
                      obtain ⟨u150, s150, r150⟩ := hD ⟨11, .data⟩ (by simp) rfl _ rfl
                      replace r150 : u150 = _ := r150
                      subst r150
                      clear hA hD
                      refine stepOk_plain rfl ?_
                      intro K hK
                      gi_wp2
                      exact hK _ _ rfl ((fun _ => Below.refl _ _) _)
                  case hend =>
                    intro w4 hC
                    simp only [EndFrom, eqv, forall_eq, Act.put, List.length_cons, List.length_nil, List.drop_succ_cons, List.drop_zero, Nat.reduceAdd, List.setIfInBounds_toArray, List.set_cons_succ, List.set_cons_zero]
                    have hgw4 := HGW3.out.below hC
                    have h14 := (hC.block _ (block_lt H14.out)).trans H14.out
                    have h15 := (hC.block _ (block_lt H15.out)).trans H15.out
                    have HGW3 := Lib.hid hgw4
                    have H14 := Lib.hid h14
                    have H15 := Lib.hid h15
                    clear hgw4 h14 h15 hC
                    gi_wp2
                    go_wp2_with fail
                    refine (wpIn_wide (n := 0)).1 ?_
                    apply wp_region_vals 9 (Rl := [(eqv _), (eqv _), (eqv _), (eqv _), (eqv _), (eqv _), (fun v_ w_ => w_.heap[mB]? = some (.map (es.push { key := IdT.val ⟨q2 + 1, n, r3 + 1⟩, val := .int .i64 1, born := clock }) (clock + 1))), (eqv _), (fun v_ w_ => w_.heap[mB + 1]? = some (.cells (set3A ls n (.int .u64 (q2 + 1)) (.int .i64 (n : Int)) (.int .u64 (r3 + 1))) 59 (0, 0)))]) (C := (fun x y => FillM w.heap.size [(mB, (.map es clock), (.map (es.push { key := IdT.val ⟨q2 + 1, n, r3 + 1⟩, val := .int .i64 1, born := clock }) (clock + 1))), (mB + 1, (.cells ls 59 (0, 0)), (.cells (set3A ls n (.int .u64 (q2 + 1)) (.int .i64 (n : Int)) (.int .u64 (r3 + 1))) 59 (0, 0)))] x y))
                    case hm => kernel_rfl
                    case hk => rfl
                    case hCr => exact (fun x => FillM.refl _ _ x)
                    case hCt => intro _ _ _; exact (fun h k => FillM.trans h k)
                    case hst => exact ⟨fun _ _ _ _ h => h, fun _ _ _ _ h => h, fun _ _ _ _ h => h, fun _ _ _ _ h => h, fun _ _ _ _ h => h, fun _ _ _ _ h => h, fun _ _ _ hC h => hC.done (mB, (.map es clock), (.map (es.push { key := IdT.val ⟨q2 + 1, n, r3 + 1⟩, val := .int .i64 1, born := clock }) (clock + 1))) (by simp) h, fun _ _ _ _ h => h, fun _ _ _ hC h => hC.done (mB + 1, (.cells ls 59 (0, 0)), (.cells (set3A ls n (.int .u64 (q2 + 1)) (.int .i64 (n : Int)) (.int .u64 (r3 + 1))) 59 (0, 0))) (by simp) h, trivial⟩
                    case hfo => kernel_rfl
                    case ht => kernel_rfl
                    case hC0 => exact (FillM.drew _ _ _)
                    case hsteps =>
                      refine ⟨?_, ?_, ?_, ?_, ?_, ?_, ?_, ?_, ?_, trivial⟩
                      · -- 0
                        intro a' w' hA hC hD
                        have s7 : a'.tmps[7]? = some _ := (hA.at 7 (by kernel_rfl)).trans rfl
                        clear hA hD
                        refine stepOk_plain rfl ?_
                        intro K hK
                        gi_wp2
                        exact hK _ _ rfl ((fun x => FillM.refl _ _ x) _)
                      · -- 1
                        intro a' w' hA hC hD
                        have s15 : a'.tmps[15]? = some _ := (hA.at 15 (by kernel_rfl)).trans rfl
                        have hi := hC.other _ _ (by intro q hq; simp at hq; have hh := HO15.out; have h3m := H3.out; rcases hq with rfl | rfl <;> (simp only; omega)) H15.out; have d0 := cell_of_block (k := 0) hi rfl; have d1 := cell_of_block (k := 1) hi rfl; have d2 := cell_of_block (k := 2) hi rfl; clear hi
                        clear hA hD
                        refine stepOk_plain rfl ?_
                        intro K hK
                        gi_wp2
                        exact hK _ _ rfl ((fun x => FillM.refl _ _ x) _)
                      · -- 2
                        intro a' w' hA hC hD
                        have s11 : a'.tmps[11]? = some _ := (hA.at 11 (by kernel_rfl)).trans rfl
                        clear hA hD
                        refine stepOk_plain rfl ?_
                        intro K hK
                        gi_wp2
                        exact hK _ _ rfl ((fun x => FillM.refl _ _ x) _)
                      · -- 3
                        intro a' w' hA hC hD
                        have s11 : a'.tmps[11]? = some _ := (hA.at 11 (by kernel_rfl)).trans rfl
                        clear hA hD
                        refine stepOk_plain rfl ?_
                        intro K hK
                        gi_wp2
                        exact hK _ _ rfl ((fun x => FillM.refl _ _ x) _)
                      · -- 4
                        intro a' w' hA hC hD
                        have s15 : a'.tmps[15]? = some _ := (hA.at 15 (by kernel_rfl)).trans rfl
                        have hi := hC.other _ _ (by intro q hq; simp at hq; have hh := HO15.out; have h3m := H3.out; rcases hq with rfl | rfl <;> (simp only; omega)) H15.out; have d0 := cell_of_block (k := 0) hi rfl; have d1 := cell_of_block (k := 1) hi rfl; have d2 := cell_of_block (k := 2) hi rfl; clear hi
                        clear hA hD
                        refine stepOk_plain rfl ?_
                        intro K hK
                        gi_wp2
                        exact hK _ _ rfl ((fun x => FillM.refl _ _ x) _)
                      · -- 5
                        intro a' w' hA hC hD
                        have s14 : a'.tmps[14]? = some _ := (hA.at 14 (by kernel_rfl)).trans rfl
                        have hi := hC.other _ _ (by intro q hq; simp at hq; have hh := HO14.out; have h3m := H3.out; rcases hq with rfl | rfl <;> (simp only; omega)) H14.out; have d0 := cell_of_block (k := 0) hi rfl; have d1 := cell_of_block (k := 1) hi rfl; have d2 := cell_of_block (k := 2) hi rfl; clear hi
                        clear hA hD
                        refine stepOk_plain rfl ?_
                        intro K hK
                        gi_wp2
                        exact hK _ _ rfl ((fun x => FillM.refl _ _ x) _)
                      · -- 6
                        intro a' w' hA hC hD
                        obtain ⟨u152, s152, r152⟩ := hD ⟨0, .data⟩ (by simp) rfl _ rfl
                        replace r152 : u152 = _ := r152
                        subst r152
                        obtain ⟨u153, s153, r153⟩ := hD ⟨1, .data⟩ (by simp) rfl _ rfl
                        replace r153 : u153 = _ := r153
                        subst r153
                        have he := hC.fill (mB, (.map es clock), (.map (es.push { key := IdT.val ⟨q2 + 1, n, r3 + 1⟩, val := .int .i64 1, born := clock }) (clock + 1))) (by simp) HGW3.out.hm; have hr := run_update_id ⟨q2 + 1, n, r3 + 1⟩ mB es clock (.int .i64 1) w' HNK.out he; have HLTm := Lib.hid (show mB < w'.heap.size from by rcases he with h | h <;> exact block_lt h); unfold IdT.val at hr; clear he
                        clear hA hD
                        refine stepOk_plain rfl ?_
                        intro K hK
                        gi_wp2
                        exact hK undef _ (upd_at HLTm.out) (FillM.fst (by omega) (upd_below (by have := H3.out; omega)) (upd_at HLTm.out) (fun j ob hj h => upd_other hj h))
                      · -- 7
                        intro a' w' hA hC hD
                        have s8 : a'.tmps[8]? = some _ := (hA.at 8 (by kernel_rfl)).trans rfl
                        obtain ⟨u154, s154, r154⟩ := hD ⟨2, .data⟩ (by simp) rfl _ rfl
                        replace r154 : u154 = _ := r154
                        subst r154
                        clear hA hD
                        refine stepOk_plain rfl ?_
                        intro K hK
                        gi_wp2
                        exact hK _ _ rfl ((fun x => FillM.refl _ _ x) _)
                      · -- 8
                        intro a' w' hA hC hD
                        obtain ⟨u158, s158, r158⟩ := hD ⟨7, .data⟩ (by simp) rfl _ rfl
                        replace r158 : u158 = _ := r158
                        subst r158
                        obtain ⟨u156, s156, r156⟩ := hD ⟨4, .data⟩ (by simp) rfl _ rfl
                        replace r156 : u156 = _ := r156
                        subst r156
                        have he := hC.fill (mB + 1, (.cells ls 59 (0, 0)), (.cells (set3A ls n (.int .u64 (q2 + 1)) (.int .i64 (n : Int)) (.int .u64 (r3 + 1))) 59 (0, 0))) (by simp) HGW3.out.h8; have HE := Lib.hid he; obtain ⟨y0, y1, y2, d0, d1, d2, fr⟩ := arr_either HGW3.out.a8 n9 (by rw [HLA.out]; rfl) he; clear he
                        clear hA hD
                        refine stepOk_plain rfl ?_
                        intro K hK
                        gi_wp2
                        exact hK undef _ (arr_fill HE.out) (FillM.snd (by omega) (below_setN (Below.refl _ _) (by have := H3.out; omega)) (arr_fill HE.out) (fun j ob hj h => heap_setN_other h (fun e => hj e.symm)))
                    case hend =>
                      intro w5 hC
                      simp only [EndFrom, eqv, forall_eq, Act.put, List.length_cons, List.length_nil, List.drop_succ_cons, List.drop_zero, Nat.reduceAdd, List.setIfInBounds_toArray, List.set_cons_succ, List.set_cons_zero]
                      intro v6 h6 v8 h8
                      have h3 := hC.other _ _ (by intro q hq; simp at hq; have hh := H3.out; have h3m := H3.out; rcases hq with rfl | rfl <;> (simp only; omega)) HGW3.out.h3
                      have H6 := Lib.hid h6
                      have H8 := Lib.hid h8
                      have H35 := Lib.hid h3
                      have HLW := Lib.hid (HGW3.out.low.trans hC.low)
                      obtain ⟨c30, c31, c32⟩ := HGW3.out.a3.cells h3 n9 (by rw [HCL.out]; rfl)
                      have cf := free_of_block h3
                      clear h6 h8 h3 hC
                      gi_wp2
                      go_wp2_with fail
                      go_roundw
                      case rel =>
                        have hgi : GInv (updF cl n ⟨n, q2 + 1, r3 + 1⟩) (updF la n ⟨q2 + 1, n, r3 + 1⟩) (es.push { key := IdT.val ⟨q2 + 1, n, r3 + 1⟩, val := .int .i64 1, born := clock }).toList (k + 1) := by
                          have h := HGI.out.next n1 n9 (.int .i64 1) clock
                          rw [HQ2.out, HQ3.out] at h
                          rw [Array.toList_push]
                          exact h
                        have h3m := H3.out
                        have hgw : GW w p3 mB (mB + 1) (updF cl n ⟨n, q2 + 1, r3 + 1⟩) (updF la n ⟨q2 + 1, n, r3 + 1⟩) _ _ (set3A cs n (.int .i64 (n : Int)) (.int .u64 (q2 + 1)) (.int .u64 (r3 + 1))) _ _ :=
                          ⟨below_setN HLW.out hz1, heap_setN H35.out n _ _ _, (HGW3.out.a3.set3 n n9 _ _ _).congr (fun j _ => by unfold updF; by_cases e : j = n <;> simp [e, encC]), heap_setN_other H6.out (by omega), heap_setN_other H8.out (by omega), (HGW3.out.a8.set3 n n9 _ _ _).congr (fun j _ => by unfold updF; by_cases e : j = n <;> simp [e, encId])⟩
                        first
                          | exact ⟨k + 1, _, _, _, _, _, _, HLT.out, by have := HK59.out; omega, by simp, hgi, hgw⟩
                          | ((repeat apply Exists.intro); exact ⟨⟨k + 1, _, _, _, _, _, _, HLT.out, by have := HK59.out; omega, rfl, hgi, hgw⟩, rfl⟩)
                      case measure => have := HLT.out; simp [intOf]; omega
                · have GQ := Lib.hid (show decide (0 < r3) = false by simpa using hq0)
                  clear hq0
                  refine (wpIn_wide (n := 0)).1 ?_
                  apply wp_region_vals 13 (Rl := [(eqv _), (eqv _), (eqv _), (eqv _), (eqv _), (eqv _), (fun v_ _ => v_ = (undef : Value)), (fun v_ _ => v_ = (undef : Value)), (fun v_ _ => v_ = (undef : Value)), (fun v_ _ => v_ = (undef : Value)), (fun v_ _ => v_ = (undef : Value)), (fun v_ _ => v_ = (undef : Value)), (eqv _)]) (C := (fun x y => Below x.heap.size x y))
                  case hm => kernel_rfl
                  case hk => rfl
                  case hCr => exact (fun _ => Below.refl _ _)
                  case hCt => intro _ _ _; exact (fun h k => grows_trans h k)
                  case hst => exact ⟨fun _ _ _ _ h => h, fun _ _ _ _ h => h, fun _ _ _ _ h => h, fun _ _ _ _ h => h, fun _ _ _ _ h => h, fun _ _ _ _ h => h, fun _ _ _ _ h => h, fun _ _ _ _ h => h, fun _ _ _ _ h => h, fun _ _ _ _ h => h, fun _ _ _ _ h => h, fun _ _ _ _ h => h, fun _ _ _ _ h => h, trivial⟩
                  case hfo => kernel_rfl
                  case ht => kernel_rfl
                  case hC0 => exact (grows_drew _)
                  case hsteps =>
                    refine ⟨?_, ?_, ?_, ?_, ?_, ?_, ?_, ?_, ?_, ?_, ?_, ?_, ?_, trivial⟩
                    · -- 0
                      intro a' w' hA hC hD
                      have s11 : a'.tmps[11]? = some _ := (hA.at 11 (by kernel_rfl)).trans rfl
                      clear hA hD
                      refine stepOk_plain rfl ?_
                      intro K hK
                      gi_wp2
                      exact hK _ _ rfl ((fun _ => Below.refl _ _) _)
                    · -- 1
                      intro a' w' hA hC hD
                      have s8 : a'.tmps[8]? = some _ := (hA.at 8 (by kernel_rfl)).trans rfl
                      obtain ⟨u139, s139, r139⟩ := hD ⟨0, .data⟩ (by simp) rfl _ rfl
                      replace r139 : u139 = _ := r139
                      subst r139
                      clear hA hD
                      refine stepOk_plain rfl ?_
                      intro K hK
                      gi_wp2
                      exact hK _ _ rfl ((fun _ => Below.refl _ _) _)
                    · -- 2
                      intro a' w' hA hC hD
                      obtain ⟨u140, s140, r140⟩ := hD ⟨1, .data⟩ (by simp) rfl _ rfl
                      replace r140 : u140 = _ := r140
                      subst r140
                      clear hA hD
                      refine stepOk_plain rfl ?_
                      intro K hK
                      gi_wp2
                      exact hK _ _ rfl ((fun _ => Below.refl _ _) _)
                    · -- 3
                      intro a' w' hA hC hD
                      obtain ⟨u141, s141, r141⟩ := hD ⟨2, .data⟩ (by simp) rfl _ rfl
                      replace r141 : u141 = _ := r141
                      subst r141
                      have d2 := (HGW3.out.a8.cells ((hC.block _ (block_lt HGW3.out.h8)).trans HGW3.out.h8) n9 (by rw [HLA.out]; rfl)).2.2
                      clear hA hD
                      refine stepOk_plain rfl ?_
                      intro K hK
                      gi_wp2
                      exact hK _ _ rfl ((fun _ => Below.refl _ _) _)
                    · -- 4
                      intro a' w' hA hC hD
                      obtain ⟨u142, s142, r142⟩ := hD ⟨3, .data⟩ (by simp) rfl _ rfl
                      replace r142 : u142 = _ := r142
                      subst r142
                      have g0 := GQ.out
                      clear hA hD
                      refine stepOk_plain rfl ?_
                      intro K hK
                      gi_wp2
                      exact hK _ _ rfl ((fun _ => Below.refl _ _) _)
                    · -- 5
                      intro a' w' hA hC hD
                      obtain ⟨u143, s143, r143⟩ := hD ⟨4, .data⟩ (by simp) rfl _ rfl
                      replace r143 : u143 = _ := r143
                      subst r143
                      clear hA hD
                      refine stepOk_plain rfl ?_
                      intro K hK
                      gi_wp2
                      exact hK _ _ rfl ((fun _ => Below.refl _ _) _)
                    · -- 6
                      intro a' w' hA hC hD
                      have s11 : a'.tmps[11]? = some _ := (hA.at 11 (by kernel_rfl)).trans rfl
                      obtain ⟨u144, s144, r144⟩ := hD ⟨5, .guard⟩ (by simp) rfl _ rfl
                      replace r144 : u144 = _ := r144
                      subst r144
                      clear hA hD
                      exact stepOk_skip rfl rfl s144 rfl
                    · -- 7
                      intro a' w' hA hC hD
                      have s8 : a'.tmps[8]? = some _ := (hA.at 8 (by kernel_rfl)).trans rfl
                      obtain ⟨u145, s145, r145⟩ := hD ⟨6, .data⟩ (by simp) rfl _ rfl
                      replace r145 : u145 = undef := r145
                      subst r145
                      obtain ⟨u144, s144, r144⟩ := hD ⟨5, .guard⟩ (by simp) rfl _ rfl
                      replace r144 : u144 = _ := r144
                      subst r144
                      clear hA hD
                      exact stepOk_skip rfl rfl s144 rfl
                    · -- 8
                      intro a' w' hA hC hD
                      obtain ⟨u146, s146, r146⟩ := hD ⟨7, .data⟩ (by simp) rfl _ rfl
                      replace r146 : u146 = undef := r146
                      subst r146
                      obtain ⟨u144, s144, r144⟩ := hD ⟨5, .guard⟩ (by simp) rfl _ rfl
                      replace r144 : u144 = _ := r144
                      subst r144
                      clear hA hD
                      exact stepOk_skip rfl rfl s144 rfl
                    · -- 9
                      intro a' w' hA hC hD
                      have s15 : a'.tmps[15]? = some _ := (hA.at 15 (by kernel_rfl)).trans rfl
                      obtain ⟨u144, s144, r144⟩ := hD ⟨5, .guard⟩ (by simp) rfl _ rfl
                      replace r144 : u144 = _ := r144
                      subst r144
                      clear hA hD
                      exact stepOk_skip rfl rfl s144 rfl
                    · -- 10
                      intro a' w' hA hC hD
                      obtain ⟨u147, s147, r147⟩ := hD ⟨8, .data⟩ (by simp) rfl _ rfl
                      replace r147 : u147 = undef := r147
                      subst r147
                      obtain ⟨u148, s148, r148⟩ := hD ⟨9, .data⟩ (by simp) rfl _ rfl
                      replace r148 : u148 = undef := r148
                      subst r148
                      obtain ⟨u144, s144, r144⟩ := hD ⟨5, .chain⟩ (by simp) rfl _ rfl
                      replace r144 : u144 = _ := r144
                      subst r144
                      clear hA hD
                      exact stepOk_skip rfl rfl s144 rfl
                    · -- 11
                      intro a' w' hA hC hD
                      obtain ⟨u149, s149, r149⟩ := hD ⟨10, .data⟩ (by simp) rfl _ rfl
                      replace r149 : u149 = undef := r149
                      subst r149
                      obtain ⟨u144, s144, r144⟩ := hD ⟨5, .guard⟩ (by simp) rfl _ rfl
                      replace r144 : u144 = _ := r144
                      subst r144
                      clear hA hD
                      exact stepOk_skip rfl rfl s144 rfl
                    · -- 12
                      intro a' w' hA hC hD
                      obtain ⟨u144, s144, r144⟩ := hD ⟨5, .data⟩ (by simp) rfl _ rfl
                      replace r144 : u144 = _ := r144
                      subst r144
                      obtain ⟨u150, s150, r150⟩ := hD ⟨11, .data⟩ (by simp) rfl _ rfl
                      replace r150 : u150 = undef := r150
                      subst r150
                      clear hA hD
                      refine stepOk_plain rfl ?_
                      intro K hK
                      gi_wp2
                      exact hK _ _ rfl ((fun _ => Below.refl _ _) _)
                  case hend =>
                    intro w4 hC
                    simp only [EndFrom, eqv, forall_eq, Act.put, List.length_cons, List.length_nil, List.drop_succ_cons, List.drop_zero, Nat.reduceAdd, List.setIfInBounds_toArray, List.set_cons_succ, List.set_cons_zero]
                    have hgw4 := HGW3.out.below hC
                    have h14 := (hC.block _ (block_lt H14.out)).trans H14.out
                    have h15 := (hC.block _ (block_lt H15.out)).trans H15.out
                    have HGW3 := Lib.hid hgw4
                    have H14 := Lib.hid h14
                    have H15 := Lib.hid h15
                    clear hgw4 h14 h15 hC
                    gi_wp2
                    go_wp2_with fail
                    refine (wpIn_wide (n := 0)).1 ?_
                    apply wp_region_vals 9 (Rl := [(eqv _), (eqv _), (eqv _), (eqv _), (eqv _), (eqv _), (fun v_ w_ => w_.heap[mB]? = some (.map (es.push { key := IdT.val ⟨q2 + 1, n, r3 + 1⟩, val := .int .i64 1, born := clock }) (clock + 1))), (eqv _), (fun v_ w_ => w_.heap[mB + 1]? = some (.cells (set3A ls n (.int .u64 (q2 + 1)) (.int .i64 (n : Int)) (.int .u64 (r3 + 1))) 59 (0, 0)))]) (C := (fun x y => FillM w.heap.size [(mB, (.map es clock), (.map (es.push { key := IdT.val ⟨q2 + 1, n, r3 + 1⟩, val := .int .i64 1, born := clock }) (clock + 1))), (mB + 1, (.cells ls 59 (0, 0)), (.cells (set3A ls n (.int .u64 (q2 + 1)) (.int .i64 (n : Int)) (.int .u64 (r3 + 1))) 59 (0, 0)))] x y))
                    case hm => kernel_rfl
                    case hk => rfl
                    case hCr => exact (fun x => FillM.refl _ _ x)
                    case hCt => intro _ _ _; exact (fun h k => FillM.trans h k)
                    case hst => exact ⟨fun _ _ _ _ h => h, fun _ _ _ _ h => h, fun _ _ _ _ h => h, fun _ _ _ _ h => h, fun _ _ _ _ h => h, fun _ _ _ _ h => h, fun _ _ _ hC h => hC.done (mB, (.map es clock), (.map (es.push { key := IdT.val ⟨q2 + 1, n, r3 + 1⟩, val := .int .i64 1, born := clock }) (clock + 1))) (by simp) h, fun _ _ _ _ h => h, fun _ _ _ hC h => hC.done (mB + 1, (.cells ls 59 (0, 0)), (.cells (set3A ls n (.int .u64 (q2 + 1)) (.int .i64 (n : Int)) (.int .u64 (r3 + 1))) 59 (0, 0))) (by simp) h, trivial⟩
                    case hfo => kernel_rfl
                    case ht => kernel_rfl
                    case hC0 => exact (FillM.drew _ _ _)
                    case hsteps =>
                      refine ⟨?_, ?_, ?_, ?_, ?_, ?_, ?_, ?_, ?_, trivial⟩
                      · -- 0
                        intro a' w' hA hC hD
                        have s7 : a'.tmps[7]? = some _ := (hA.at 7 (by kernel_rfl)).trans rfl
                        clear hA hD
                        refine stepOk_plain rfl ?_
                        intro K hK
                        gi_wp2
                        exact hK _ _ rfl ((fun x => FillM.refl _ _ x) _)
                      · -- 1
                        intro a' w' hA hC hD
                        have s15 : a'.tmps[15]? = some _ := (hA.at 15 (by kernel_rfl)).trans rfl
                        have hi := hC.other _ _ (by intro q hq; simp at hq; have hh := HO15.out; have h3m := H3.out; rcases hq with rfl | rfl <;> (simp only; omega)) H15.out; have d0 := cell_of_block (k := 0) hi rfl; have d1 := cell_of_block (k := 1) hi rfl; have d2 := cell_of_block (k := 2) hi rfl; clear hi
                        clear hA hD
                        refine stepOk_plain rfl ?_
                        intro K hK
                        gi_wp2
                        exact hK _ _ rfl ((fun x => FillM.refl _ _ x) _)
                      · -- 2
                        intro a' w' hA hC hD
                        have s11 : a'.tmps[11]? = some _ := (hA.at 11 (by kernel_rfl)).trans rfl
                        clear hA hD
                        refine stepOk_plain rfl ?_
                        intro K hK
                        gi_wp2
                        exact hK _ _ rfl ((fun x => FillM.refl _ _ x) _)
                      · -- 3
                        intro a' w' hA hC hD
                        have s11 : a'.tmps[11]? = some _ := (hA.at 11 (by kernel_rfl)).trans rfl
                        clear hA hD
                        refine stepOk_plain rfl ?_
                        intro K hK
                        gi_wp2
                        exact hK _ _ rfl ((fun x => FillM.refl _ _ x) _)
                      · -- 4
                        intro a' w' hA hC hD
                        have s15 : a'.tmps[15]? = some _ := (hA.at 15 (by kernel_rfl)).trans rfl
                        have hi := hC.other _ _ (by intro q hq; simp at hq; have hh := HO15.out; have h3m := H3.out; rcases hq with rfl | rfl <;> (simp only; omega)) H15.out; have d0 := cell_of_block (k := 0) hi rfl; have d1 := cell_of_block (k := 1) hi rfl; have d2 := cell_of_block (k := 2) hi rfl; clear hi
                        clear hA hD
                        refine stepOk_plain rfl ?_
                        intro K hK
                        gi_wp2
                        exact hK _ _ rfl ((fun x => FillM.refl _ _ x) _)
                      · -- 5
                        intro a' w' hA hC hD
                        have s14 : a'.tmps[14]? = some _ := (hA.at 14 (by kernel_rfl)).trans rfl
                        have hi := hC.other _ _ (by intro q hq; simp at hq; have hh := HO14.out; have h3m := H3.out; rcases hq with rfl | rfl <;> (simp only; omega)) H14.out; have d0 := cell_of_block (k := 0) hi rfl; have d1 := cell_of_block (k := 1) hi rfl; have d2 := cell_of_block (k := 2) hi rfl; clear hi
                        clear hA hD
                        refine stepOk_plain rfl ?_
                        intro K hK
                        gi_wp2
                        exact hK _ _ rfl ((fun x => FillM.refl _ _ x) _)
                      · -- 6
                        intro a' w' hA hC hD
                        obtain ⟨u152, s152, r152⟩ := hD ⟨0, .data⟩ (by simp) rfl _ rfl
                        replace r152 : u152 = _ := r152
                        subst r152
                        obtain ⟨u153, s153, r153⟩ := hD ⟨1, .data⟩ (by simp) rfl _ rfl
                        replace r153 : u153 = _ := r153
                        subst r153
                        have he := hC.fill (mB, (.map es clock), (.map (es.push { key := IdT.val ⟨q2 + 1, n, r3 + 1⟩, val := .int .i64 1, born := clock }) (clock + 1))) (by simp) HGW3.out.hm; have hr := run_update_id ⟨q2 + 1, n, r3 + 1⟩ mB es clock (.int .i64 1) w' HNK.out he; have HLTm := Lib.hid (show mB < w'.heap.size from by rcases he with h | h <;> exact block_lt h); unfold IdT.val at hr; clear he
                        clear hA hD
                        refine stepOk_plain rfl ?_
                        intro K hK
                        gi_wp2
                        exact hK undef _ (upd_at HLTm.out) (FillM.fst (by omega) (upd_below (by have := H3.out; omega)) (upd_at HLTm.out) (fun j ob hj h => upd_other hj h))
                      · -- 7
                        intro a' w' hA hC hD
                        have s8 : a'.tmps[8]? = some _ := (hA.at 8 (by kernel_rfl)).trans rfl
                        obtain ⟨u154, s154, r154⟩ := hD ⟨2, .data⟩ (by simp) rfl _ rfl
                        replace r154 : u154 = _ := r154
                        subst r154
                        clear hA hD
                        refine stepOk_plain rfl ?_
                        intro K hK
                        gi_wp2
                        exact hK _ _ rfl ((fun x => FillM.refl _ _ x) _)
                      · -- 8
                        intro a' w' hA hC hD
                        obtain ⟨u158, s158, r158⟩ := hD ⟨7, .data⟩ (by simp) rfl _ rfl
                        replace r158 : u158 = _ := r158
                        subst r158
                        obtain ⟨u156, s156, r156⟩ := hD ⟨4, .data⟩ (by simp) rfl _ rfl
                        replace r156 : u156 = _ := r156
                        subst r156
                        have he := hC.fill (mB + 1, (.cells ls 59 (0, 0)), (.cells (set3A ls n (.int .u64 (q2 + 1)) (.int .i64 (n : Int)) (.int .u64 (r3 + 1))) 59 (0, 0))) (by simp) HGW3.out.h8; have HE := Lib.hid he; obtain ⟨y0, y1, y2, d0, d1, d2, fr⟩ := arr_either HGW3.out.a8 n9 (by rw [HLA.out]; rfl) he; clear he
                        clear hA hD
                        refine stepOk_plain rfl ?_
                        intro K hK
                        gi_wp2
                        exact hK undef _ (arr_fill HE.out) (FillM.snd (by omega) (below_setN (Below.refl _ _) (by have := H3.out; omega)) (arr_fill HE.out) (fun j ob hj h => heap_setN_other h (fun e => hj e.symm)))
                    case hend =>
                      intro w5 hC
                      simp only [EndFrom, eqv, forall_eq, Act.put, List.length_cons, List.length_nil, List.drop_succ_cons, List.drop_zero, Nat.reduceAdd, List.setIfInBounds_toArray, List.set_cons_succ, List.set_cons_zero]
                      intro v6 h6 v8 h8
                      have h3 := hC.other _ _ (by intro q hq; simp at hq; have hh := H3.out; have h3m := H3.out; rcases hq with rfl | rfl <;> (simp only; omega)) HGW3.out.h3
                      have H6 := Lib.hid h6
                      have H8 := Lib.hid h8
                      have H35 := Lib.hid h3
                      have HLW := Lib.hid (HGW3.out.low.trans hC.low)
                      obtain ⟨c30, c31, c32⟩ := HGW3.out.a3.cells h3 n9 (by rw [HCL.out]; rfl)
                      have cf := free_of_block h3
                      clear h6 h8 h3 hC
                      gi_wp2
                      go_wp2_with fail
                      go_roundw
                      case rel =>
                        have hgi : GInv (updF cl n ⟨n, q2 + 1, r3 + 1⟩) (updF la n ⟨q2 + 1, n, r3 + 1⟩) (es.push { key := IdT.val ⟨q2 + 1, n, r3 + 1⟩, val := .int .i64 1, born := clock }).toList (k + 1) := by
                          have h := HGI.out.next n1 n9 (.int .i64 1) clock
                          rw [HQ2.out, HQ3.out] at h
                          rw [Array.toList_push]
                          exact h
                        have h3m := H3.out
                        have hgw : GW w p3 mB (mB + 1) (updF cl n ⟨n, q2 + 1, r3 + 1⟩) (updF la n ⟨q2 + 1, n, r3 + 1⟩) _ _ (set3A cs n (.int .i64 (n : Int)) (.int .u64 (q2 + 1)) (.int .u64 (r3 + 1))) _ _ :=
                          ⟨below_setN HLW.out hz1, heap_setN H35.out n _ _ _, (HGW3.out.a3.set3 n n9 _ _ _).congr (fun j _ => by unfold updF; by_cases e : j = n <;> simp [e, encC]), heap_setN_other H6.out (by omega), heap_setN_other H8.out (by omega), (HGW3.out.a8.set3 n n9 _ _ _).congr (fun j _ => by unfold updF; by_cases e : j = n <;> simp [e, encId])⟩
                        first
                          | exact ⟨k + 1, _, _, _, _, _, _, HLT.out, by have := HK59.out; omega, by simp, hgi, hgw⟩
                          | ((repeat apply Exists.intro); exact ⟨⟨k + 1, _, _, _, _, _, _, HLT.out, by have := HK59.out; omega, rfl, hgi, hgw⟩, rfl⟩)
                      case measure => have := HLT.out; simp [intOf]; omega
            · obtain ⟨tt, htt⟩ : ∃ tt, x3.tmod 1099511627776 = tt := ⟨_, rfl⟩
              have htb_ : 0 ≤ tt ∧ tt < 1099511627776 := by rw [← htt, Int.tmod_eq_emod_of_nonneg hz.1]; omega
              have hse := seeOk kok (tt := tt) (by omega)
              have HSE := Lib.hid (fun W q (h : W.heap[q]? = some (.cells #[.int .u64 tt] 25 (0, 0))) => identSee_any ⟨n, q2, q3⟩ (fun _ => tt) 1 (.slice (some ⟨q, 0, none⟩) 1 1) (by omega) W (one_row h))
              simp only [hse.1, hse.2] at HSE
              have g1 : decide (max q2 tt < q2) = false := by simp; omega
              have g2 : decide (max q2 tt < tt) = false := by simp; omega
              have HTT := Lib.hid htb_
              obtain ⟨mx, hmx⟩ : ∃ mx, max q2 tt = mx := ⟨_, rfl⟩
              rw [hmx] at HSE g1 g2
              have HMX := Lib.hid hmx
              have G1 := Lib.hid g1
              have G2 := Lib.hid g2
              clear hmx hse htb_ kok knx kfit ktime kseq hz g1 g2
              have d1 := cell_of_block (k := 1) HTB.out rfl
              repeat ((fail_if_success (with_reducible refine stop_at (id := 19) ?_)); (first | go_values | go_skip | go_guarded | go_step | go_upon | go_back | (simp only [Int.not_lt, Int.not_le] at *; go_simp) | (go_values <;> (try go_simp)) | (go_ite <;> go_prune <;> (try go_simp)) | (split <;> (first | (rename_i hx; exact (hx _ rfl).elim) | go_prune))))
              clear d1
              have HN3 := Lib.hid (show ∀ cs, Obj.cells cs 57 (0, 0) ≠ (.cells #[.int .i64 0, .int .u64 0, .int .u64 0] 41 (0, 0)) from fun _ => obj_ne (by decide))
              have HN8 := Lib.hid (show ∀ cs, Obj.cells cs 59 (0, 0) ≠ (.cells #[.int .i64 0, .int .u64 0, .int .u64 0] 41 (0, 0)) from fun _ => obj_ne (by decide))
              have HNT := Lib.hid (show ∀ cs, Obj.cells cs 61 (0, 0) ≠ (.cells #[.int .i64 0, .int .u64 0, .int .u64 0] 41 (0, 0)) from fun _ => obj_ne (by decide))
              have HNU := Lib.hid (show ∀ cs, Obj.cells cs 25 (0, 0) ≠ (.cells #[.int .i64 0, .int .u64 0, .int .u64 0] 41 (0, 0)) from fun _ => obj_ne (by decide))
              have HNM := Lib.hid (show ∀ es c, Obj.map es c ≠ (.cells #[.int .i64 0, .int .u64 0, .int .u64 0] 41 (0, 0)) from fun _ _ e => by cases e)
              refine (wpIn_wide (n := 0)).1 ?_
              refine wp_region_factsE (by kernel_rfl) [(fun v_ _ _ => v_ = (.int .i64 (n : Int) : Value)), (fun v_ _ _ => v_ = (.pointer (some ⟨p3, n * 3, none⟩) : Value)), (fun v_ _ _ => v_ = (.agg #[.int .i64 (n : Int), .int .u64 q2, .int .u64 q3] : Value)), (fun v_ _ _ => v_ = (.pointer (some ⟨pT, 2, none⟩) : Value)), (fun v_ _ _ => v_ = (.int .u64 x3 : Value)), (fun v_ _ _ => v_ = (.int .u64 tt : Value)), (fun v_ e_ w_ => ∃ q, v_ = .slice (some ⟨q, 0, none⟩) 1 1 ∧ w_.heap[q]? = some (.cells #[.int .u64 tt] 25 (0, 0))), (fun v_ _ _ => v_ = (.tuple #[.agg #[.int .i64 n, .int .u64 mx, .int .u64 q3], .int .i64 0] : Value)), (fun v_ _ _ => v_ = (.tuple #[.agg #[.int .i64 n, .int .u64 mx, .int .u64 q3], .int .i64 0] : Value)), (fun v_ _ _ => v_ = (.agg #[.int .i64 n, .int .u64 mx, .int .u64 q3] : Value)), (fun v_ _ _ => v_ = (.int .i64 0 : Value)), (fun v_ e_ w_ => ∃ q, v_ = .pointer (some ⟨q, 0, none⟩) ∧ W0.heap.size ≤ q ∧ (w_.heap[q]? = some (.cells #[.int .i64 0, .int .u64 0, .int .u64 0] 41 (0, 0)) ∨ w_.heap[q]? = some (.cells #[.int .i64 n, .int .u64 mx, .int .u64 q3] 41 (0, 0)))), (fun v_ e_ w_ => ∀ q, e_ 12 = .pointer (some ⟨q, 0, none⟩) → w_.heap[q]? = some (.cells #[.int .i64 n, .int .u64 mx, .int .u64 q3] 41 (0, 0)))] (fun x y => FillC W0.heap.size (.cells #[.int .i64 0, .int .u64 0, .int .u64 0] 41 (0, 0)) (.cells #[.int .i64 n, .int .u64 mx, .int .u64 q3] 41 (0, 0)) x y) (fun x => FillC.refl _ _ _ x) (fun h k => FillC.trans h k) ⟨fun _ _ _ _ _ h => h, fun _ _ _ _ _ h => h, fun _ _ _ _ _ h => h, fun _ _ _ _ _ h => h, fun _ _ _ _ _ h => h, fun _ _ _ _ _ h => h, fun _ _ _ _ hC ⟨q, e, h⟩ => ⟨q, e, FillC.keep hC h (HNU.out _)⟩, fun _ _ _ _ _ h => h, fun _ _ _ _ _ h => h, fun _ _ _ _ _ h => h, fun _ _ _ _ _ h => h, fun _ _ _ _ hC ⟨q, e, h, h2⟩ => ⟨q, e, h, FillC.either hC h2⟩, fun _ _ _ _ hC h q e => FillC.filled hC (h q e), trivial⟩ (by kernel_rfl) (by kernel_rfl) (FillC.grow (grows_drew _) (Nat.le_refl _)) ⟨fun _ _ _ _ _ h => h, fun _ _ _ _ _ h => h, fun _ _ _ _ _ h => h, fun _ _ _ _ _ h => h, fun _ _ _ _ _ h => h, fun _ _ _ _ _ h => h, fun _ _ _ _ _ h => h, fun _ _ _ _ _ h => h, fun _ _ _ _ _ h => h, fun _ _ _ _ _ h => h, fun _ _ _ _ _ h => h, fun _ _ _ _ _ h => h, fun v env env' x he h q e => h q ((he ⟨11, .data⟩ (by simp) rfl _ _ rfl rfl).trans e), trivial⟩ ?steps ?fin
              case steps =>
                refine ⟨?_, ?_, ?_, ?_, ?_, ?_, ?_, ?_, ?_, ?_, ?_, ?_, ?_, trivial⟩
                · -- 0
                  intro a' w' hA hC hD
                  have s11 : a'.tmps[11]? = some (.int .i64 (n : Int)) := (hA.at 11 (by kernel_rfl)).trans rfl
                  have hCz := FillC.size hC
                  clear hA hD
                  refine stepOk_plain rfl ?_
                  intro K hK
                  gi_wp2
                  exact hK (.int .i64 (n : Int)) _ rfl ((fun x => FillC.refl _ _ _ x) _)
                · -- 1
                  intro a' w' hA hC hD
                  have s3 : a'.tmps[3]? = some (.pointer (some ⟨p3, 0, none⟩)) := (hA.at 3 (by kernel_rfl)).trans rfl
                  obtain ⟨u52, s52, r52⟩ := hD ⟨0, .data⟩ (by simp) rfl _ rfl
                  replace r52 : u52 = .int .i64 (n : Int) := r52
                  subst r52
                  have hCz := FillC.size hC
                  clear hA hD
                  refine stepOk_plain rfl ?_
                  intro K hK
                  gi_wp2
                  exact hK (.pointer (some ⟨p3, n * 3, none⟩)) _ rfl ((fun x => FillC.refl _ _ _ x) _)
                · -- 2
                  intro a' w' hA hC hD
                  obtain ⟨u53, s53, r53⟩ := hD ⟨1, .data⟩ (by simp) rfl _ rfl
                  replace r53 : u53 = .pointer (some ⟨p3, n * 3, none⟩) := r53
                  subst r53
                  have hCz := FillC.size hC
                  obtain ⟨c30, c31, c32⟩ := HGW.out.a3.cells (FillC.keep hC HGW.out.h3 (HN3.out _)) n9 (by rw [HCL.out]; rfl)
                  clear hA hD
                  refine stepOk_plain rfl ?_
                  intro K hK
                  gi_wp2
                  exact hK (.agg #[.int .i64 (n : Int), .int .u64 q2, .int .u64 q3]) _ rfl ((fun x => FillC.refl _ _ _ x) _)
                · -- 3
                  intro a' w' hA hC hD
                  have s10 : a'.tmps[10]? = some (.pointer (some ⟨pT, 0, none⟩)) := (hA.at 10 (by kernel_rfl)).trans rfl
                  have hCz := FillC.size hC
                  clear hA hD
                  refine stepOk_plain rfl ?_
                  intro K hK
                  gi_wp2
                  exact hK (.pointer (some ⟨pT, 2, none⟩)) _ rfl ((fun x => FillC.refl _ _ _ x) _)
                · -- 4
                  intro a' w' hA hC hD
                  obtain ⟨u55, s55, r55⟩ := hD ⟨3, .data⟩ (by simp) rfl _ rfl
                  replace r55 : u55 = .pointer (some ⟨pT, 2, none⟩) := r55
                  subst r55
                  have hCz := FillC.size hC
                  have d2 := cell_of_block (k := 2) (FillC.keep hC HTB.out (HNT.out _)) rfl
                  clear hA hD
                  refine stepOk_plain rfl ?_
                  intro K hK
                  gi_wp2
                  exact hK (.int .u64 x3) _ rfl ((fun x => FillC.refl _ _ _ x) _)
                · -- 5
                  intro a' w' hA hC hD
                  obtain ⟨u56, s56, r56⟩ := hD ⟨4, .data⟩ (by simp) rfl _ rfl
                  replace r56 : u56 = .int .u64 x3 := r56
                  subst r56
                  have hCz := FillC.size hC
                  clear hA hD
                  refine stepOk_plain rfl ?_
                  intro K hK
                  gi_wp2
                  exact hK (.int .u64 tt) _ rfl ((fun x => FillC.refl _ _ _ x) _)
                · -- 6
                  intro a' w' hA hC hD
                  obtain ⟨u57, s57, r57⟩ := hD ⟨5, .data⟩ (by simp) rfl _ rfl
                  replace r57 : u57 = .int .u64 tt := r57
                  subst r57
                  have hCz := FillC.size hC
                  clear hA hD
                  refine stepOk_plain rfl ?_
                  intro K hK
                  gi_wp2
                  exact hK (.slice (some ⟨w'.heap.size, 0, none⟩) 1 1) _ ⟨w'.heap.size, rfl, World.alloc_heap_new _ _⟩ (FillC.grow ((Below.refl _ _).alloc (Nat.le_refl _) _) hCz)
                · -- 7
                  intro a' w' hA hC hD
                  obtain ⟨u54, s54, r54⟩ := hD ⟨2, .data⟩ (by simp) rfl _ rfl
                  replace r54 : u54 = .agg #[.int .i64 (n : Int), .int .u64 q2, .int .u64 q3] := r54
                  subst r54
                  obtain ⟨u58, s58, r58⟩ := hD ⟨6, .data⟩ (by simp) rfl _ rfl
                  replace r58 : (fun v_ e_ w_ => ∃ q, v_ = .slice (some ⟨q, 0, none⟩) 1 1 ∧ w_.heap[q]? = some (.cells #[.int .u64 tt] 25 (0, 0))) u58 (envOf a') w' := r58
                  have hCz := FillC.size hC
                  clear hA hD
                  refine stepOk_plain rfl ?_
                  intro K hK
                  obtain ⟨q, rfl, hq⟩ := r58; gi_wp2_with fail; refine (callsIn_wide.2 (HSE.out _ q hq)).mono ?_; rintro e w2 ⟨rfl, hb⟩; exact hK _ _ rfl (FillC.grow hb hCz)
                · -- 8
                  intro a' w' hA hC hD
                  obtain ⟨u59, s59, r59⟩ := hD ⟨7, .data⟩ (by simp) rfl _ rfl
                  replace r59 : u59 = .tuple #[.agg #[.int .i64 n, .int .u64 mx, .int .u64 q3], .int .i64 0] := r59
                  subst r59
                  have hCz := FillC.size hC
                  clear hA hD
                  refine stepOk_plain rfl ?_
                  intro K hK
                  gi_wp2
                  exact hK (.tuple #[.agg #[.int .i64 n, .int .u64 mx, .int .u64 q3], .int .i64 0]) _ rfl ((fun x => FillC.refl _ _ _ x) _)
                · -- 9
                  intro a' w' hA hC hD
                  obtain ⟨u51, s51, r51⟩ := hD ⟨8, .data⟩ (by simp) rfl _ rfl
                  replace r51 : u51 = .tuple #[.agg #[.int .i64 n, .int .u64 mx, .int .u64 q3], .int .i64 0] := r51
                  subst r51
                  have hCz := FillC.size hC
                  clear hA hD
                  refine stepOk_plain rfl ?_
                  intro K hK
                  gi_wp2
                  exact hK (.agg #[.int .i64 n, .int .u64 mx, .int .u64 q3]) _ rfl ((fun x => FillC.refl _ _ _ x) _)
                · -- 10
                  intro a' w' hA hC hD
                  obtain ⟨u51, s51, r51⟩ := hD ⟨8, .data⟩ (by simp) rfl _ rfl
                  replace r51 : u51 = .tuple #[.agg #[.int .i64 n, .int .u64 mx, .int .u64 q3], .int .i64 0] := r51
                  subst r51
                  have hCz := FillC.size hC
                  clear hA hD
                  refine stepOk_plain rfl ?_
                  intro K hK
                  gi_wp2
                  exact hK (.int .i64 0) _ rfl ((fun x => FillC.refl _ _ _ x) _)
                · -- 11
                  intro a' w' hA hC hD
                  have hCz := FillC.size hC
                  clear hA hD
                  refine stepOk_plain rfl ?_
                  intro K hK
                  gi_wp2
                  exact hK (.pointer (some ⟨w'.heap.size, 0, none⟩)) _ ⟨w'.heap.size, rfl, hCz, .inl (World.alloc_heap_new _ _)⟩ (FillC.grow ((Below.refl _ _).alloc (Nat.le_refl _) _) hCz)
                · -- 12
                  intro a' w' hA hC hD
                  obtain ⟨u12, s12, r12⟩ := hD ⟨11, .data⟩ (by simp) rfl _ rfl
                  replace r12 : (fun v_ e_ w_ => ∃ q, v_ = .pointer (some ⟨q, 0, none⟩) ∧ W0.heap.size ≤ q ∧ (w_.heap[q]? = some (.cells #[.int .i64 0, .int .u64 0, .int .u64 0] 41 (0, 0)) ∨ w_.heap[q]? = some (.cells #[.int .i64 n, .int .u64 mx, .int .u64 q3] 41 (0, 0)))) u12 (envOf a') w' := r12
                  obtain ⟨u60, s60, r60⟩ := hD ⟨9, .data⟩ (by simp) rfl _ rfl
                  replace r60 : u60 = .agg #[.int .i64 n, .int .u64 mx, .int .u64 q3] := r60
                  subst r60
                  have hCz := FillC.size hC
                  have henv : envOf a' 12 = u12 := by (unfold envOf; rw [s12]; rfl)
                  clear hA hD
                  refine stepOk_plain rfl ?_
                  intro K hK
                  obtain ⟨q, rfl, hge, hq⟩ := r12; obtain ⟨y0, y1, y2, hy⟩ := either3 hq; have d0 := cell_of_block (k := 0) (v := y0) hy rfl; have d1 := cell_of_block (k := 1) (v := y1) hy rfl; have d2 := cell_of_block (k := 2) (v := y2) hy rfl; have fr := free_of_block hy; gi_wp2
                  exact hK undef _ (fun q' e => by rw [henv] at e; cases e; exact (fill3 (n₀ := W0.heap.size) hge hq).2) (fill3 (n₀ := W0.heap.size) hge hq).1
              case fin =>
                intro w3 env hC
                simp only [EndFromE, forall_eq, Option.some.injEq, forall_eq', reduceCtorEq, false_implies, implies_true, forall_const, Act.put, List.length_cons, List.length_nil, List.drop_succ_cons, List.drop_zero, Nat.reduceAdd, List.setIfInBounds_toArray, List.set_cons_succ, List.set_cons_zero]
                rintro _ _ _ _ _ _ v58 ⟨q58, rfl, _⟩ _ _ _ _ _ v12 ⟨q12, rfl, hge, _⟩ he12 hs12
                have h12 := hs12 q12 he12
                have hgw3 : GW w p3 mB (mB + 1) cl la es clock cs ls w3 := ⟨HGW.out.low.trans (hC.1.mono HGW.out.low.size), FillC.keep hC HGW.out.h3 (HN3.out _), HGW.out.a3, FillC.keep hC HGW.out.hm (HNM.out _ _), FillC.keep hC HGW.out.h8 (HN8.out _), HGW.out.a8⟩
                have htb3 := FillC.keep hC HTB.out (HNT.out _)
                have HGW3 := Lib.hid hgw3
                have HTB3 := Lib.hid htb3
                have H12 := Lib.hid h12
                clear h12 hgw3 htb3 he12 hs12 hC
                gi_wp2
                go_wp2_with fail
                refine (wpIn_wide (n := 0)).1 ?_
                apply wp_region_vals 28 (Rl := [(eqv _), (eqv _), (eqv _), (eqv _), (eqv _), (eqv _), (eqv _), (eqv _), (eqv _), (eqv _), (eqv _), (eqv _), (eqv _), (eqv _), (eqv _), (eqv _), (eqv _), (eqv _), (eqv _), (eqv _), (eqv _), (eqv _), (eqv _), (eqv _), (eqv _), (eqv _), (eqv _), (eqv _)]) (C := (fun x y => Below x.heap.size x y))
                case hm => kernel_rfl
                case hk => rfl
                case hCr => exact (fun _ => Below.refl _ _)
                case hCt => intro _ _ _; exact (fun h k => grows_trans h k)
                case hst => exact ⟨fun _ _ _ _ h => h, fun _ _ _ _ h => h, fun _ _ _ _ h => h, fun _ _ _ _ h => h, fun _ _ _ _ h => h, fun _ _ _ _ h => h, fun _ _ _ _ h => h, fun _ _ _ _ h => h, fun _ _ _ _ h => h, fun _ _ _ _ h => h, fun _ _ _ _ h => h, fun _ _ _ _ h => h, fun _ _ _ _ h => h, fun _ _ _ _ h => h, fun _ _ _ _ h => h, fun _ _ _ _ h => h, fun _ _ _ _ h => h, fun _ _ _ _ h => h, fun _ _ _ _ h => h, fun _ _ _ _ h => h, fun _ _ _ _ h => h, fun _ _ _ _ h => h, fun _ _ _ _ h => h, fun _ _ _ _ h => h, fun _ _ _ _ h => h, fun _ _ _ _ h => h, fun _ _ _ _ h => h, fun _ _ _ _ h => h, trivial⟩
                case hfo => kernel_rfl
                case ht => kernel_rfl
                case hC0 => exact (grows_drew _)
                case hsteps =>
                  refine ⟨?_, ?_, ?_, ?_, ?_, ?_, ?_, ?_, ?_, ?_, ?_, ?_, ?_, ?_, ?_, ?_, ?_, ?_, ?_, ?_, ?_, ?_, ?_, ?_, ?_, ?_, ?_, ?_, trivial⟩
                  · -- 0
                    intro a' w' hA hC hD
                    have s13 : a'.tmps[13]? = some _ := (hA.at 13 (by kernel_rfl)).trans rfl
                    clear hA hD
                    refine stepOk_plain rfl ?_
                    intro K hK
                    gi_wp2
                    exact hK _ _ rfl ((fun _ => Below.refl _ _) _)
                  · -- 1
                    intro a' w' hA hC hD
                    obtain ⟨u62, s62, r62⟩ := hD ⟨0, .data⟩ (by simp) rfl _ rfl
                    replace r62 : u62 = _ := r62
                    subst r62
                    clear hA hD
                    refine stepOk_plain rfl ?_
                    intro K hK
                    gi_wp2
                    exact hK _ _ rfl ((fun _ => Below.refl _ _) _)
                  · -- 2
                    intro a' w' hA hC hD
                    obtain ⟨u63, s63, r63⟩ := hD ⟨1, .data⟩ (by simp) rfl _ rfl
                    replace r63 : u63 = _ := r63
                    subst r63
                    clear hA hD
                    refine stepOk_plain rfl ?_
                    intro K hK
                    gi_wp2
                    exact hK _ _ rfl ((fun _ => Below.refl _ _) _)
                  · -- 3
                    intro a' w' hA hC hD
                    have s12 : a'.tmps[12]? = some _ := (hA.at 12 (by kernel_rfl)).trans rfl
                    obtain ⟨u64, s64, r64⟩ := hD ⟨2, .guard⟩ (by simp) rfl _ rfl
                    replace r64 : u64 = _ := r64
                    subst r64
                    clear hA hD
                    refine stepOk_want rfl rfl s64 ?_
                    intro K hK
                    gi_wp2
                    exact hK _ _ rfl ((fun _ => Below.refl _ _) _)
                  · -- 4
                    intro a' w' hA hC hD
                    obtain ⟨u65, s65, r65⟩ := hD ⟨3, .data⟩ (by simp) rfl _ rfl
                    replace r65 : u65 = _ := r65
                    subst r65
                    obtain ⟨u64, s64, r64⟩ := hD ⟨2, .guard⟩ (by simp) rfl _ rfl
                    replace r64 : u64 = _ := r64
                    subst r64
                    have d1 := cell_of_block (k := 1) ((hC.block _ (block_lt H12.out)).trans H12.out) rfl
                    clear hA hD
                    refine stepOk_want rfl rfl s64 ?_
                    intro K hK
                    gi_wp2
                    exact hK _ _ rfl ((fun _ => Below.refl _ _) _)
                  · -- 5
                    intro a' w' hA hC hD
                    have s11 : a'.tmps[11]? = some _ := (hA.at 11 (by kernel_rfl)).trans rfl
                    obtain ⟨u64, s64, r64⟩ := hD ⟨2, .guard⟩ (by simp) rfl _ rfl
                    replace r64 : u64 = _ := r64
                    subst r64
                    clear hA hD
                    refine stepOk_want rfl rfl s64 ?_
                    intro K hK
                    gi_wp2
                    exact hK _ _ rfl ((fun _ => Below.refl _ _) _)
                  · -- 6
                    intro a' w' hA hC hD
                    have s3 : a'.tmps[3]? = some _ := (hA.at 3 (by kernel_rfl)).trans rfl
                    obtain ⟨u67, s67, r67⟩ := hD ⟨5, .data⟩ (by simp) rfl _ rfl
                    replace r67 : u67 = _ := r67
                    subst r67
                    obtain ⟨u64, s64, r64⟩ := hD ⟨2, .guard⟩ (by simp) rfl _ rfl
                    replace r64 : u64 = _ := r64
                    subst r64
                    clear hA hD
                    refine stepOk_want rfl rfl s64 ?_
                    intro K hK
                    gi_wp2
                    exact hK _ _ rfl ((fun _ => Below.refl _ _) _)
                  · -- 7
                    intro a' w' hA hC hD
                    obtain ⟨u68, s68, r68⟩ := hD ⟨6, .data⟩ (by simp) rfl _ rfl
                    replace r68 : u68 = _ := r68
                    subst r68
                    obtain ⟨u64, s64, r64⟩ := hD ⟨2, .guard⟩ (by simp) rfl _ rfl
                    replace r64 : u64 = _ := r64
                    subst r64
                    clear hA hD
                    refine stepOk_want rfl rfl s64 ?_
                    intro K hK
                    gi_wp2
                    exact hK _ _ rfl ((fun _ => Below.refl _ _) _)
                  · -- 8
                    intro a' w' hA hC hD
                    obtain ⟨u69, s69, r69⟩ := hD ⟨7, .data⟩ (by simp) rfl _ rfl
                    replace r69 : u69 = _ := r69
                    subst r69
                    obtain ⟨u64, s64, r64⟩ := hD ⟨2, .guard⟩ (by simp) rfl _ rfl
                    replace r64 : u64 = _ := r64
                    subst r64
                    have d1 := (HGW3.out.a3.cells ((hC.block _ (block_lt HGW3.out.h3)).trans HGW3.out.h3) n9 (by rw [HCL.out]; rfl)).2.1
                    clear hA hD
                    refine stepOk_want rfl rfl s64 ?_
                    intro K hK
                    gi_wp2
                    exact hK _ _ rfl ((fun _ => Below.refl _ _) _)
                  · -- 9
                    intro a' w' hA hC hD
                    obtain ⟨u66, s66, r66⟩ := hD ⟨4, .data⟩ (by simp) rfl _ rfl
                    replace r66 : u66 = _ := r66
                    subst r66
                    obtain ⟨u70, s70, r70⟩ := hD ⟨8, .data⟩ (by simp) rfl _ rfl
                    replace r70 : u70 = _ := r70
                    subst r70
                    obtain ⟨u64, s64, r64⟩ := hD ⟨2, .guard⟩ (by simp) rfl _ rfl
                    replace r64 : u64 = _ := r64
                    subst r64
                    have g1 := G1.out
                    clear hA hD
                    refine stepOk_want rfl rfl s64 ?_
                    intro K hK
                    gi_wp2
                    exact hK _ _ rfl ((fun _ => Below.refl _ _) _)
                  · -- 10
                    intro a' w' hA hC hD
                    obtain ⟨u64, s64, r64⟩ := hD ⟨2, .data⟩ (by simp) rfl _ rfl
                    replace r64 : u64 = _ := r64
                    subst r64
                    obtain ⟨u71, s71, r71⟩ := hD ⟨9, .data⟩ (by simp) rfl _ rfl
                    replace r71 : u71 = _ := r71
                    subst r71
                    clear hA hD
                    refine stepOk_plain rfl ?_
                    intro K hK
                    gi_wp2
                    exact hK _ _ rfl ((fun _ => Below.refl _ _) _)
                  · -- 11
                    intro a' w' hA hC hD
                    obtain ⟨u72, s72, r72⟩ := hD ⟨10, .data⟩ (by simp) rfl _ rfl
                    replace r72 : u72 = _ := r72
                    subst r72
                    clear hA hD
                    refine stepOk_plain rfl ?_
                    intro K hK
                    gi_wp2
                    exact hK _ _ rfl ((fun _ => Below.refl _ _) _)
                  · -- 12
                    intro a' w' hA hC hD
                    have s12 : a'.tmps[12]? = some _ := (hA.at 12 (by kernel_rfl)).trans rfl
                    obtain ⟨u73, s73, r73⟩ := hD ⟨11, .guard⟩ (by simp) rfl _ rfl
                    replace r73 : u73 = _ := r73
                    subst r73
                    clear hA hD
                    refine stepOk_want rfl rfl s73 ?_
                    intro K hK
                    gi_wp2
                    exact hK _ _ rfl ((fun _ => Below.refl _ _) _)
                  · -- 13
                    intro a' w' hA hC hD
                    obtain ⟨u74, s74, r74⟩ := hD ⟨12, .data⟩ (by simp) rfl _ rfl
                    replace r74 : u74 = _ := r74
                    subst r74
                    obtain ⟨u73, s73, r73⟩ := hD ⟨11, .guard⟩ (by simp) rfl _ rfl
                    replace r73 : u73 = _ := r73
                    subst r73
                    have d1 := cell_of_block (k := 1) ((hC.block _ (block_lt H12.out)).trans H12.out) rfl
                    clear hA hD
                    refine stepOk_want rfl rfl s73 ?_
                    intro K hK
                    gi_wp2
                    exact hK _ _ rfl ((fun _ => Below.refl _ _) _)
                  · -- 14
                    intro a' w' hA hC hD
                    have s10 : a'.tmps[10]? = some _ := (hA.at 10 (by kernel_rfl)).trans rfl
                    obtain ⟨u73, s73, r73⟩ := hD ⟨11, .guard⟩ (by simp) rfl _ rfl
                    replace r73 : u73 = _ := r73
                    subst r73
                    clear hA hD
                    refine stepOk_want rfl rfl s73 ?_
                    intro K hK
                    gi_wp2
                    exact hK _ _ rfl ((fun _ => Below.refl _ _) _)
                  · -- 15
                    intro a' w' hA hC hD
                    obtain ⟨u76, s76, r76⟩ := hD ⟨14, .data⟩ (by simp) rfl _ rfl
                    replace r76 : u76 = _ := r76
                    subst r76
                    obtain ⟨u73, s73, r73⟩ := hD ⟨11, .guard⟩ (by simp) rfl _ rfl
                    replace r73 : u73 = _ := r73
                    subst r73
                    have d1 := cell_of_block (k := 2) ((hC.block _ (block_lt HTB3.out)).trans HTB3.out) rfl
                    clear hA hD
                    refine stepOk_want rfl rfl s73 ?_
                    intro K hK
                    gi_wp2
                    exact hK _ _ rfl ((fun _ => Below.refl _ _) _)
                  · -- 16
                    intro a' w' hA hC hD
                    obtain ⟨u77, s77, r77⟩ := hD ⟨15, .data⟩ (by simp) rfl _ rfl
                    replace r77 : u77 = _ := r77
                    subst r77
                    obtain ⟨u73, s73, r73⟩ := hD ⟨11, .guard⟩ (by simp) rfl _ rfl
                    replace r73 : u73 = _ := r73
                    subst r73
                    clear hA hD
                    refine stepOk_want rfl rfl s73 ?_
                    intro K hK
                    gi_wp2
                    exact hK _ _ rfl ((fun _ => Below.refl _ _) _)
                  · -- 17
                    intro a' w' hA hC hD
                    obtain ⟨u75, s75, r75⟩ := hD ⟨13, .data⟩ (by simp) rfl _ rfl
                    replace r75 : u75 = _ := r75
                    subst r75
                    obtain ⟨u78, s78, r78⟩ := hD ⟨16, .data⟩ (by simp) rfl _ rfl
                    replace r78 : u78 = _ := r78
                    subst r78
                    obtain ⟨u73, s73, r73⟩ := hD ⟨11, .guard⟩ (by simp) rfl _ rfl
                    replace r73 : u73 = _ := r73
                    subst r73
                    have g1 := G2.out
                    clear hA hD
                    refine stepOk_want rfl rfl s73 ?_
                    intro K hK
                    gi_wp2
                    exact hK _ _ rfl ((fun _ => Below.refl _ _) _)
                  · -- 18
                    intro a' w' hA hC hD
                    obtain ⟨u73, s73, r73⟩ := hD ⟨11, .data⟩ (by simp) rfl _ rfl
                    replace r73 : u73 = _ := r73
                    subst r73
                    obtain ⟨u79, s79, r79⟩ := hD ⟨17, .data⟩ (by simp) rfl _ rfl
                    replace r79 : u79 = _ := r79
                    subst r79
                    clear hA hD
                    refine stepOk_plain rfl ?_
                    intro K hK
                    gi_wp2
                    exact hK _ _ rfl ((fun _ => Below.refl _ _) _)
                  · -- 19
                    intro a' w' hA hC hD
                    obtain ⟨u80, s80, r80⟩ := hD ⟨18, .data⟩ (by simp) rfl _ rfl
                    replace r80 : u80 = _ := r80
                    subst r80
                    clear hA hD
                    refine stepOk_plain rfl ?_
                    intro K hK
                    gi_wp2
                    exact hK _ _ rfl ((fun _ => Below.refl _ _) _)
                  · -- 20
                    intro a' w' hA hC hD
                    have s12 : a'.tmps[12]? = some _ := (hA.at 12 (by kernel_rfl)).trans rfl
                    obtain ⟨u81, s81, r81⟩ := hD ⟨19, .guard⟩ (by simp) rfl _ rfl
                    replace r81 : u81 = _ := r81
                    subst r81
                    clear hA hD
                    refine stepOk_want rfl rfl s81 ?_
                    intro K hK
                    gi_wp2
                    exact hK _ _ rfl ((fun _ => Below.refl _ _) _)
                  · -- 21
                    intro a' w' hA hC hD
                    obtain ⟨u82, s82, r82⟩ := hD ⟨20, .data⟩ (by simp) rfl _ rfl
                    replace r82 : u82 = _ := r82
                    subst r82
                    obtain ⟨u81, s81, r81⟩ := hD ⟨19, .guard⟩ (by simp) rfl _ rfl
                    replace r81 : u81 = _ := r81
                    subst r81
                    have d1 := cell_of_block (k := 2) ((hC.block _ (block_lt H12.out)).trans H12.out) rfl
                    clear hA hD
                    refine stepOk_want rfl rfl s81 ?_
                    intro K hK
                    gi_wp2
                    exact hK _ _ rfl ((fun _ => Below.refl _ _) _)
                  · -- 22
                    intro a' w' hA hC hD
                    have s11 : a'.tmps[11]? = some _ := (hA.at 11 (by kernel_rfl)).trans rfl
                    obtain ⟨u81, s81, r81⟩ := hD ⟨19, .guard⟩ (by simp) rfl _ rfl
                    replace r81 : u81 = _ := r81
                    subst r81
                    clear hA hD
                    refine stepOk_want rfl rfl s81 ?_
                    intro K hK
                    gi_wp2
                    exact hK _ _ rfl ((fun _ => Below.refl _ _) _)
                  · -- 23
                    intro a' w' hA hC hD
                    have s3 : a'.tmps[3]? = some _ := (hA.at 3 (by kernel_rfl)).trans rfl
                    obtain ⟨u84, s84, r84⟩ := hD ⟨22, .data⟩ (by simp) rfl _ rfl
                    replace r84 : u84 = _ := r84
                    subst r84
                    obtain ⟨u81, s81, r81⟩ := hD ⟨19, .guard⟩ (by simp) rfl _ rfl
                    replace r81 : u81 = _ := r81
                    subst r81
                    clear hA hD
                    refine stepOk_want rfl rfl s81 ?_
                    intro K hK
                    gi_wp2
                    exact hK _ _ rfl ((fun _ => Below.refl _ _) _)
                  · -- 24
                    intro a' w' hA hC hD
                    obtain ⟨u85, s85, r85⟩ := hD ⟨23, .data⟩ (by simp) rfl _ rfl
                    replace r85 : u85 = _ := r85
                    subst r85
                    obtain ⟨u81, s81, r81⟩ := hD ⟨19, .guard⟩ (by simp) rfl _ rfl
                    replace r81 : u81 = _ := r81
                    subst r81
                    clear hA hD
                    refine stepOk_want rfl rfl s81 ?_
                    intro K hK
                    gi_wp2
                    exact hK _ _ rfl ((fun _ => Below.refl _ _) _)
                  · -- 25
                    intro a' w' hA hC hD
                    obtain ⟨u86, s86, r86⟩ := hD ⟨24, .data⟩ (by simp) rfl _ rfl
                    replace r86 : u86 = _ := r86
                    subst r86
                    obtain ⟨u81, s81, r81⟩ := hD ⟨19, .guard⟩ (by simp) rfl _ rfl
                    replace r81 : u81 = _ := r81
                    subst r81
                    have d1 := (HGW3.out.a3.cells ((hC.block _ (block_lt HGW3.out.h3)).trans HGW3.out.h3) n9 (by rw [HCL.out]; rfl)).2.2
                    clear hA hD
                    refine stepOk_want rfl rfl s81 ?_
                    intro K hK
                    gi_wp2
                    exact hK _ _ rfl ((fun _ => Below.refl _ _) _)
                  · -- 26
                    intro a' w' hA hC hD
                    obtain ⟨u83, s83, r83⟩ := hD ⟨21, .data⟩ (by simp) rfl _ rfl
                    replace r83 : u83 = _ := r83
                    subst r83
                    obtain ⟨u87, s87, r87⟩ := hD ⟨25, .data⟩ (by simp) rfl _ rfl
                    replace r87 : u87 = _ := r87
                    subst r87
                    obtain ⟨u81, s81, r81⟩ := hD ⟨19, .guard⟩ (by simp) rfl _ rfl
                    replace r81 : u81 = _ := r81
                    subst r81
                    clear hA hD
                    refine stepOk_want rfl rfl s81 ?_
                    intro K hK
                    gi_wp2
                    exact hK _ _ rfl ((fun _ => Below.refl _ _) _)
                  · -- 27
                    intro a' w' hA hC hD
                    obtain ⟨u81, s81, r81⟩ := hD ⟨19, .data⟩ (by simp) rfl _ rfl
                    replace r81 : u81 = _ := r81
                    subst r81
                    obtain ⟨u88, s88, r88⟩ := hD ⟨26, .data⟩ (by simp) rfl _ rfl
                    replace r88 : u88 = _ := r88
                    subst r88
                    clear hA hD
                    refine stepOk_plain rfl ?_
                    intro K hK
                    gi_wp2
                    exact hK _ _ rfl ((fun _ => Below.refl _ _) _)
                case hend =>
                  intro w4 hC
                  simp only [EndFrom, eqv, forall_eq, Act.put, List.length_cons, List.length_nil, List.drop_succ_cons, List.drop_zero, Nat.reduceAdd, List.setIfInBounds_toArray, List.set_cons_succ, List.set_cons_zero]
                  have HGW4 := Lib.hid (HGW3.out.below hC)
                  have h12 := (hC.block _ (block_lt H12.out)).trans H12.out
                  have d0 := cell_of_block (k := 0) h12 rfl
                  have d1 := cell_of_block (k := 1) h12 rfl
                  have d2 := cell_of_block (k := 2) h12 rfl
                  obtain ⟨c30, c31, c32⟩ := HGW4.out.a3.cells HGW4.out.h3 n9 (by rw [HCL.out]; rfl)
                  have cf := free_of_block HGW4.out.h3
                  clear hC h12
                  gi_wp2
                  go_wp2_with fail
                  go_roundw
                  case rel =>
                    have hgi : GInv (updF cl n ⟨n, mx, q3⟩) la es.toList (k + 1) := by have h := HGI.out.see n1 n9 HTT.out; rw [HQ2.out, HQ3.out, HMX.out] at h; exact h
                    have h3m := H3.out
                    have hgw : GW w p3 mB (mB + 1) (updF cl n ⟨n, mx, q3⟩) la es clock (set3A cs n (.int .i64 (n : Int)) (.int .u64 mx) (.int .u64 q3)) ls _ :=
                      ⟨below_setN HGW4.out.low hz1, heap_setN HGW4.out.h3 n _ _ _, (HGW4.out.a3.set3 n n9 _ _ _).congr (fun j _ => by unfold updF; by_cases e : j = n <;> simp [e, encC]), heap_setN_other HGW4.out.hm (by omega), heap_setN_other HGW4.out.h8 (by omega), HGW4.out.a8⟩
                    (repeat apply Exists.intro)
                    exact ⟨⟨k + 1, _, la, es, clock, _, ls, HLT.out, by have := HK59.out; omega, rfl, hgi, hgw⟩, rfl⟩
                  case measure => have := HLT.out; simp [intOf]; omega
        · obtain rfl : k = l.length := by omega
          clear hk hlt hk60
          go_wp2_with fail
          go_ret
          exact ⟨rfl, HGW.out.low⟩
end Go.Proofs.YtppaheekpmgifaaDoor
