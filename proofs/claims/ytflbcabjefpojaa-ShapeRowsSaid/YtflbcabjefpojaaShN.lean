/- Layer 6: All, Count. -/
import Derived.Test.YtflbcabjefpojaaShP
import Derived.Test.YtflbcabjefpojaaBase
namespace Go.Proofs.Ytflbcabjefpojaa
set_option linter.unusedSimpArgs false
set_option linter.unusedVariables false
open Go.RowKit Go.Shelf
attribute [local go_sem] Oper.semAt_some

/-- The places of a span; of a row. -/
def spPts (s : SpT) : List PtT := (List.range (s.t - s.f + 1).toNat).map fun (i : Nat) => ⟨s.f + (i : Int), s.y⟩
def ptsL (l : List SpT) : List PtT := l.flatMap spPts
noncomputable def allL (l : List SpT) : List PtT := bif rightB l then ptsL l else []
theorem spPts_len (s : SpT) : (spPts s).length = (s.t - s.f + 1).toNat := by simp [spPts]
theorem spPts_get (s : SpT) (i : Nat) (h : i < (s.t - s.f + 1).toNat) : (spPts s)[i]? = some ⟨s.f + (i : Int), s.y⟩ := by simp [spPts, h]
/-- How many places the first k spans have. -/
def posL (l : List SpT) (k : Nat) : Nat := (ptsL (l.take k)).length
theorem posL_succ {l : List SpT} {k : Nat} {s : SpT} (hx : l[k]? = some s) : posL l (k + 1) = posL l k + (s.t - s.f + 1).toNat := by
  unfold posL ptsL
  rw [List.take_add_one, hx]
  simp [spPts_len]
theorem posL_all (l : List SpT) : posL l l.length = (ptsL l).length := by unfold posL; rw [List.take_length]
theorem ptsL_split {l : List SpT} {k : Nat} {s : SpT} (hx : l[k]? = some s) : ptsL l = ptsL (l.take k) ++ (spPts s ++ ptsL (l.drop (k + 1))) := by
  obtain ⟨hk, e⟩ := List.getElem?_eq_some_iff.1 hx
  unfold ptsL
  conv => lhs; rw [← List.take_append_drop k l, List.drop_eq_getElem_cons hk, e]
  simp
theorem ptsL_at {l : List SpT} {k : Nat} {s : SpT} (hx : l[k]? = some s) (i : Nat) (hi : i < (s.t - s.f + 1).toNat) : (ptsL l)[posL l k + i]? = some ⟨s.f + (i : Int), s.y⟩ := by
  rw [ptsL_split hx]
  unfold posL
  rw [List.getElem?_append_right (by omega), Nat.add_sub_cancel_left, List.getElem?_append_left (by rw [spPts_len]; exact hi), spPts_get s i hi]
theorem posL_le {l : List SpT} {k : Nat} {s : SpT} (hx : l[k]? = some s) (i : Nat) (hi : i ≤ (s.t - s.f + 1).toNat) : posL l k + i ≤ (ptsL l).length := by
  rw [ptsL_split hx]
  unfold posL
  simp [spPts_len]
  omega
theorem Elems.keepsAt {w w' : World} {bs : List Nat} {a : Option Addr} {n cap size : Nat} {c : Nat → Value} (h : Elems w (.slice a n cap) n size c) (hb : ∀ b off, a = some ⟨b, off, none⟩ → b ∈ bs) (hk : KeepsAt bs w w') : Elems w' (.slice a n cap) n size c := by
  rcases h with h | ⟨b, off, cap', e, hlt, hc⟩
  · exact .inl h
  · cases e
    have e1 := hk b (hb b off rfl)
    refine .inr ⟨b, off, cap, rfl, ?_, fun j hj => by rw [← hc j hj]; simp only [World.cell?, e1]⟩
    rw [Array.getElem?_eq_getElem hlt] at e1
    exact (Array.getElem?_eq_some_iff.1 e1).1
theorem cell_keepsAt {w w' : World} {bs : List Nat} {b o : Nat} {v : Value} (h : w.cell? ⟨b, o, none⟩ = some v) (hb : b ∈ bs) (hk : KeepsAt bs w w') : w'.cell? ⟨b, o, none⟩ = some v := by
  rw [← h]; simp only [World.cell?, hk b hb]
theorem keepsAt_lt {w w' : World} {bs : List Nat} (hk : KeepsAt bs w w') (h : ∀ b ∈ bs, b < w.heap.size) : ∀ b ∈ bs, b < w'.heap.size := fun b hb => by
  have h1 := hk b hb
  rw [Array.getElem?_eq_getElem (h b hb)] at h1
  exact (Array.getElem?_eq_some_iff.1 h1).1

/-- Between two places. -/
structure AllAt (own : World → Nat → Prop) (bs : List Nat) (N0 : Nat) (N : Nat) (J : List (Fin N) → World → Prop) (W : World) (p : Nat) (wr : World) : Prop where
  j : J (firsts N p) wr
  ko : KO own bs N0 W wr
  wf : ∀ q, own wr q → q < wr.heap.size
theorem AllAt.below {own : World → Nat → Prop} {bs : List Nat} {N0 N : Nat} {J : List (Fin N) → World → Prop} {W : World} {p : Nat} {wr w' : World} (h : AllAt own bs N0 N J W p wr) (ho : OwnSt own N0) (hJd : ∀ pre x y, J pre x → Below x.heap.size x y → J pre y)
    (hN : N0 ≤ W.heap.size) (hbs : ∀ b ∈ bs, b < W.heap.size) (hb : Below wr.heap.size wr w') : AllAt own bs N0 N J W p w' := by
  have k := KO.of_below (own := own) (bs := bs) ho hb (Nat.le_trans hN h.ko.size) (keepsAt_lt h.ko.at_ hbs)
  exact ⟨hJd _ _ _ h.j hb, h.ko.trans k, k.wf h.wf⟩

set_option maxRecDepth 100000 in
set_option maxHeartbeats 2000000 in
theorem all1_right (n : Nat) (hn : 1 ≤ n) (own : World → Nat → Prop) (N0 : Nat) (ho : OwnSt own N0) (L Bs : Nat) (bs : List Nat) (a : Option Addr) (m cap : Nat) (l : List SpT) (hl : l.length = m) (hm : m ≤ 1000000000) (hr : rightB l = true)
    (J Jx : List (Fin (ptsL l).length) → World → Prop) (hJd : ∀ pre x y, J pre x → Below x.heap.size x y → J pre y) (hb1 : Bs ∈ bs) (hb2 : ∀ b off, a = some ⟨b, off, none⟩ → b ∈ bs)
    (hY : ∀ pre x W, J pre W → pre.length < (ptsL l).length → YieldAt Fence.wide (n - 1) Try.prog L #[((ptsL l)[x.1]).val] W fun e W' =>
      (e = .returned (.bool true) ∧ J (pre ++ [x]) W' ∧ KO own bs N0 W W') ∨ (e = .returned (.bool false) ∧ Jx (pre ++ [x]) W'))
    (W : World) (hN : N0 ≤ W.heap.size) (hBs : ∀ c ∈ bs, c < W.heap.size) (hwf : ∀ q, own W q → q < W.heap.size) (hc : W.cell? ⟨Bs, 0, none⟩ = some (.slice a m cap)) (hh : Elems W (.slice a m cap) m 3 (rowC encS l)) (h0 : J [] W) :
    CallsIn Fence.wide n Try.prog 54 #[.func (.yield L) #[] #[], .pointer (some ⟨Bs, 0, none⟩)] W fun e W' => (∃ v, e = .returned v) ∧
      ((∃ ys, ys = List.finRange (ptsL l).length ∧ J ys W') ∨ (∃ pre, pre <+: List.finRange (ptsL l).length ∧ Jx pre W')) := by
  have HY := Lib.hid hY
  have HL := Lib.hid hl
  have HR := Lib.hid hr
  have HO := Lib.hid ho
  have HCH := Lib.hid (check_any a m cap l hl hm W hh)
  have HD := Lib.hid (fun (p : Nat) (x y : World) (h : AllAt own bs N0 (ptsL l).length J W p x) (hb : Below x.heap.size x y) => h.below ho hJd hN hBs hb)
  have HC : Hid (∀ wr, KeepsAt bs W wr → wr.cell? ⟨Bs, 0, none⟩ = some (.slice a m cap) ∧ Elems wr (.slice a m cap) m 3 (rowC encS l)) := Lib.hid fun wr hk => ⟨cell_keepsAt hc hb1 hk, hh.keepsAt hb2 hk⟩
  have HA := Lib.hid (show AllAt own bs N0 (ptsL l).length J W 0 W from ⟨h0, KO.refl _ _ _ _, hwf⟩)
  have HN := Lib.hid hN
  have HRP := Lib.hid ((rightB_iff l).1 hr)
  have c0 := (HC.out W (KeepsAt.refl _ _)).1
  clear hY hl hr ho hJd hb1 hb2 hBs hc hh h0 hwf hN
  refine callsIn_of_wp Try.func54 rfl trivial ?_ rfl
  simp only [Try.ntmps54, List.size_toArray, List.length_cons, List.length_nil, Nat.reduceAdd, Nat.reduceSub, Array.replicate_succ, Array.replicate_zero, List.push_toArray, List.append_toArray, List.nil_append, List.cons_append]
  gi_wp2
  apply wpIn_scope
  gi_wp2_with fail
  refine (callsIn_wide.2 HCH.out).mono ?_
  rintro e w2 ⟨rfl, hb_⟩
  have HA := Lib.hid (HD.out _ _ _ HA.out hb_)
  rw [HR.out, errOf_true]
  clear hb_ HCH c0
  have c0 := (HC.out w2 HA.out.ko.at_).1
  gi_wp2
  apply wpIn_label
  gi_wp2
  clear c0
  gi_loopw [11] (fun i wr => ∃ k : Nat, k ≤ m ∧ i = .int .i64 k ∧ AllAt own bs N0 (ptsL l).length J W (posL l k) wr) (fun i _ => m - (intOf i).toNat)
  case atStart => exact ⟨0, by omega, rfl, HA.out⟩
  case round =>
    obtain ⟨k, hk, rfl, ha⟩ := hrel
    clear HA
    have HA := Lib.hid ha
    clear ha
    by_cases hlt : k < m
    · have HLT := Lib.hid (show k < l.length by rw [HL.out]; exact hlt)
      have wk : wrap64 ((k : Int) + 1) = ((k + 1 : Nat) : Int) := by unfold wrap64; omega
      obtain ⟨s, hx⟩ : ∃ s, l[k]? = some s := ⟨_, List.getElem?_eq_getElem HLT.out⟩
      obtain ⟨bb, off, rfl, hbb, c0, c1, c2⟩ := spCells HL.out (HC.out wr HA.out.ko.at_).2 k s hx
      have hs := (spB_iff s).1 (by have := HRP.out.sp k HLT.out; rwa [(List.getElem?_eq_some_iff.1 hx).2] at this)
      have HAT := Lib.hid (fun i hi => ptsL_at hx i hi)
      have HLE := Lib.hid (fun i hi => posL_le hx i hi)
      have HS := Lib.hid (posL_succ hx)
      have HSB := Lib.hid hs
      obtain ⟨sy, sf, st⟩ := s
      simp only at c0 c1 c2 HAT HLE HS HSB
      clear hx hbb hs
      gi_wp2
      obtain ⟨q, hq⟩ : ∃ q, wr.heap.size = q := ⟨_, rfl⟩
      obtain ⟨w3, hw3⟩ : ∃ w3, wr.alloc (.cells #[.int .i64 sy, .int .i64 sf, .int .i64 st] 39) = w3 := ⟨_, rfl⟩
      have hb3 : Below wr.heap.size wr w3 := by rw [← hw3]; exact (Below.refl _ _).alloc (Nat.le_refl _) _
      have HA3 := Lib.hid (HD.out _ _ _ HA.out hb3)
      have hq3 : w3.heap[q]? = some (.cells #[.int .i64 sy, .int .i64 sf, .int .i64 st] 39 (0, 0)) := by rw [← hw3, ← hq]; exact World.alloc_heap_new wr _
      have hno : ¬ own w3 q := by
        intro h
        have h1 := (HO.out wr w3 (fun k hk => hb3.block k (by have := HN.out; have := HA.out.ko.size; omega)) q).1 h
        have := HA.out.wf q h1
        omega
      have hNq : N0 ≤ q := by have := HN.out; have := HA.out.ko.size; omega
      have HNQ := Lib.hid hNq
      have HQ := Lib.hid (And.intro hno hq3)
      rw [hw3]
      simp only [hq]
      clear hw3 hq hb3 hq3 hno hNq c0 c1 c2 HA
      gi_loopw [5] (fun x wi => ∃ i : Nat, (i : Int) ≤ st - sf + 1 ∧ x = .int .i64 (sf + (i : Int)) ∧ AllAt own bs N0 (ptsL l).length J W (posL l k + i) wi ∧ ¬ own wi q ∧ wi.heap[q]? = some (.cells #[.int .i64 sy, .int .i64 sf, .int .i64 st] 39 (0, 0))) (fun x _ => (st + 1 - intOf x).toNat)
      case atStart => exact ⟨0, by have := HSB.out; omega, by simp, HA3.out, HQ.out⟩
      case round =>
        obtain ⟨i, hi, rfl, ha, hno, hq3⟩ := hrel
        have HA := Lib.hid ha
        have HNO := Lib.hid hno
        have HQ3 := Lib.hid hq3
        have k0 := cell_of_block (k := 0) hq3 rfl
        have k2 := cell_of_block (k := 2) hq3 rfl
        clear ha hno hq3 HA3 HQ
        by_cases hlt2 : sf + (i : Int) ≤ st
        · have wi1 : wrap64 (sf + (i : Int) + 1) = sf + ((i + 1 : Nat) : Int) := by have := HSB.out; unfold wrap64; omega
          have hii : i < (st - sf + 1).toNat := by omega
          have hpl : posL l k + i < (ptsL l).length := by have := HLE.out (i + 1) (by omega); omega
          obtain ⟨fn, tmps, assign, body, hy, hR⟩ := HY.out _ (⟨posL l k + i, hpl⟩ : Fin (ptsL l).length) wr HA.out.j (by rw [firsts_length (by omega)]; exact hpl)
          have he : (ptsL l)[posL l k + i] = ⟨sf + (i : Int), sy⟩ := by have := HAT.out i hii; rw [List.getElem?_eq_getElem hpl] at this; exact Option.some.inj this
          simp only [he, PtT.val] at hy
          have hs := firsts_succ (N := (ptsL l).length) (k := posL l k + i) hpl
          rw [hs] at hR
          have HPL := Lib.hid hpl
          clear hs he hii hpl
          gi_wp2
          refine hR.mono ?_
          rintro e w4 (⟨rfl, hJ4, hk4⟩ | ⟨rfl, hJx⟩)
          · obtain ⟨n4, q4⟩ := hk4.rest q _ HNQ.out HQ3.out rfl HNO.out
            have HA4 := Lib.hid (show AllAt own bs N0 (ptsL l).length J W (posL l k + (i + 1)) w4 from ⟨hJ4, HA.out.ko.trans hk4, hk4.wf HA.out.wf⟩)
            have HQ4 := Lib.hid (And.intro n4 q4)
            clear hJ4 hk4 n4 q4
            gi_wp2
            go_roundw
            case rel => exact ⟨i + 1, by omega, by rw [wi1], HA4.out, HQ4.out⟩
            case measure => simp [intOf]; omega
          · have HJ3 := Lib.hid hJx
            clear hJx
            gi_wp2
            rw [Exit.noGoto_normal]
            go_end0
            exact ⟨⟨_, rfl⟩, .inr ⟨_, firsts_prefix _ _, HJ3.out⟩⟩
        · have HE := Lib.hid (show posL l k + i = posL l (k + 1) by (rw [HS.out, show i = (st - sf + 1).toNat by omega]))
          clear hi
          gi_wp2
          go_roundw
          case rel => exact ⟨k + 1, hlt, by simp, by have := HA.out; rwa [HE.out] at this⟩
          case measure => simp [intOf]; omega
    · obtain rfl : k = m := by omega
      have HJ := Lib.hid (show J (List.finRange (ptsL l).length) wr by have := HA.out.j; rwa [← HL.out, posL_all, firsts_all] at this)
      clear hk hlt
      gi_wp2
      rw [Exit.noGoto_normal]
      go_end0
      exact ⟨⟨_, rfl⟩, .inl ⟨_, rfl, HJ.out⟩⟩

set_option maxRecDepth 100000 in
theorem all1_wrong (n : Nat) (L Bs : Nat) (a : Option Addr) (m cap : Nat) (l : List SpT) (hl : l.length = m) (hm : m ≤ 1000000000) (hr : rightB l = false) (R : World → Prop) (hJd : ∀ x y, R x → Below x.heap.size x y → R y)
    (W : World) (hc : W.cell? ⟨Bs, 0, none⟩ = some (.slice a m cap)) (hh : Elems W (.slice a m cap) m 3 (rowC encS l)) (h0 : R W) :
    CallsIn Fence.wide n Try.prog 54 #[.func (.yield L) #[] #[], .pointer (some ⟨Bs, 0, none⟩)] W fun e W' => (∃ v, e = .returned v) ∧ R W' := by
  have HR := Lib.hid hr
  have HCH := Lib.hid (check_any a m cap l hl hm W hh)
  have HJ := Lib.hid (fun y hb => hJd W y h0 hb)
  clear hh hr hJd h0
  refine callsIn_of_wp Try.func54 rfl trivial ?_ rfl
  simp only [Try.ntmps54, List.size_toArray, List.length_cons, List.length_nil, Nat.reduceAdd, Nat.reduceSub, Array.replicate_succ, Array.replicate_zero, List.push_toArray, List.append_toArray, List.nil_append, List.cons_append]
  gi_wp2
  apply wpIn_scope
  gi_wp2_with fail
  refine (callsIn_wide.2 HCH.out).mono ?_
  rintro e w2 ⟨rfl, hb_⟩
  have HK := Lib.hid (HJ.out _ hb_)
  rw [HR.out, errOf_false]
  clear hb_ HCH hc
  gi_wp2
  rw [Exit.noGoto_ret]
  refine bodyPost_ret (results_none rfl _ _ _) rfl ?_
  exact ⟨⟨_, rfl⟩, HK.out⟩

theorem all_iter (own : World → Nat → Prop) (w : World) (ho : OwnSt own w.heap.size) (hwf : ∀ q, own w q → q < w.heap.size) (Bs : Nat) (bs : List Nat) (a : Option Addr) (m cap : Nat) (l : List SpT) (hl : l.length = m) (hm : m ≤ 1000000000) (A : List PtT) (hA : allL l = A)
    (hbs : ∀ c ∈ bs, c < w.heap.size) (hb1 : Bs ∈ bs) (hb2 : ∀ b off, a = some ⟨b, off, none⟩ → b ∈ bs) (hc : w.cell? ⟨Bs, 0, none⟩ = some (.slice a m cap)) (hh : Elems w (.slice a m cap) m 3 (rowC encS l)) :
    IterO Try.prog 54 #[.pointer (some ⟨Bs, 0, none⟩)] A.length (fun i => #[(A[i.1]).val]) own bs w := by
  unfold allL at hA
  cases hr : rightB l
  · rw [hr, cond_false] at hA
    subst hA
    intro n hn1 L J Jx W hW hJ _ hY h0
    refine (all1_wrong n L Bs a m cap l hl hm hr (J []) (fun x y h hb => hJ [] x y none h (below_grown hb) (by simp)) W ((hW.cell (p := ⟨Bs, 0, none⟩) (hbs Bs hb1)).trans hc) (hh.below hW) h0).mono ?_
    rintro e w' ⟨h1, h2⟩
    exact ⟨h1, .inl ⟨_, rfl, h2⟩⟩
  · rw [hr, cond_true] at hA
    subst hA
    intro n hn1 L J Jx W hW hJ _ hY h0
    have e := ho w W (fun k hk => hW.block k hk)
    exact all1_right n hn1 own w.heap.size ho L Bs bs a m cap l hl hm hr J Jx (fun pre x y h hb => hJ pre x y none h (below_grown hb) (by simp)) hb1 hb2 hY W hW.size (fun c hc => Nat.lt_of_lt_of_le (hbs c hc) hW.size) (fun q hq => Nat.lt_of_lt_of_le (hwf q ((e q).1 hq)) hW.size)
      ((hW.cell (p := ⟨Bs, 0, none⟩) (hbs Bs hb1)).trans hc) (hh.below hW) h0

theorem all_any (a : Option Addr) (n cap : Nat) (w : World) :
    Calls Try.prog 30 #[.slice a n cap] w fun e w' => e = .returned (.func (.func 54) #[] #[.pointer (some ⟨w.heap.size, 0, none⟩)]) ∧ w.alloc (.cells #[.slice a n cap] 29) = w' := by
  go_enter Try.func30, Try.ntmps30
  go_wp2
  go_ret
  exact ⟨rfl, rfl⟩

set_option maxRecDepth 100000 in
set_option maxHeartbeats 2000000 in
theorem count_any (a : Option Addr) (n cap : Nat) (l : List SpT) (hl : l.length = n) (hn : n ≤ 1000000000) (w : World) (h : Elems w (.slice a n cap) n 3 (rowC encS l)) (hb : (allL l).length < 4611686018427387904) :
    Calls Try.prog 32 #[.slice a n cap] w (Gives (.int .i64 ((allL l).length : Int)) w) := by
  have HS := Lib.hid ((St.start w).addRow h)
  have HA := Lib.hid (aBlk_lt h)
  have HL := Lib.hid hl
  obtain ⟨A, hA⟩ : ∃ A, allL l = A := ⟨_, rfl⟩
  rw [hA] at hb ⊢
  have HAL := Lib.hid hA
  have HB := Lib.hid hb
  clear h hl hA hb
  refine (callsIn_wide (n := 10)).1 ?_
  refine callsIn_of_wp_marks Try.func32 rfl trivial ?_ rfl
  simp only [Try.ntmps32, List.size_toArray, List.length_cons, List.length_nil, Nat.reduceAdd, Nat.reduceSub, Array.replicate_succ, Array.replicate_zero, List.push_toArray, List.append_toArray, List.nil_append, List.cons_append]
  gi_wp2_with fail
  have hs_ := (HS.out.alloc (.cells #[.int .i64 0] 3))
  obtain ⟨w1, hw_⟩ : ∃ w1 : World, (w.alloc (.cells #[.int .i64 0] 3)) = w1 := ⟨_, rfl⟩
  rw [hw_] at hs_
  try simp only [World.size_alloc] at hs_
  have HS := Lib.hid hs_
  rw [hw_]
  clear hw_ hs_
  refine (callsIn_wide.2 (all_any _ _ _ _)).mono ?_
  rintro e w' ⟨rfl, rfl⟩
  have hs_ := (HS.out.alloc (.cells #[.slice a n cap] 29))
  obtain ⟨w2, hw_⟩ : ∃ w2 : World, (w1.alloc (.cells #[.slice a n cap] 29)) = w2 := ⟨_, rfl⟩
  rw [hw_] at hs_
  try simp only [World.size_alloc] at hs_
  have HS := Lib.hid hs_
  rw [hw_]
  clear hw_ hs_
  gi_wp2_with fail
  have hne : w.heap.size < w1.heap.size := by have := HS.out.ord; simp [ItOrd, It.top] at this; omega
  have hz2 : w1.heap.size < w2.heap.size := HS.out.lt 0 rfl
  have hbs : ∀ c ∈ w1.heap.size :: aBlk a, c < w2.heap.size := by
    intro c hc
    rcases List.mem_cons.1 hc with rfl | hc
    · exact hz2
    · have := HA.out c hc; omega
  have hnb : w.heap.size ∉ w1.heap.size :: aBlk a := by
    intro hc
    rcases List.mem_cons.1 hc with e | hc
    · omega
    · have := HA.out _ hc; omega
  have hit := all_iter (fun _ _ => False) w2 (ownSt_none _) (fun _ h => h.elim) w1.heap.size (w1.heap.size :: aBlk a) a n cap l HL.out hn A HAL.out hbs (by simp) (fun b off e => List.mem_cons_of_mem _ (aBlk_mem e)) (cell_of_block (HS.out.blockAt 0 rfl) rfl) (HS.out.elems 2 rfl)
  refine range_iterOF hit (by omega) (ownSt_none _) rfl (enters_of Try.func54 (by kernel_rfl) rfl) hbs (fun _ => rfl) (fun x => [(6, (A[x.1]).val)]) (fun _ => by simp)
    (fun pre W => St w [.blk w1.heap.size (.cells #[.slice a n cap] 29 (0, 0)), .blk w.heap.size (.cells #[.int .i64 (pre.length : Int)] 3 (0, 0)), .row (.slice a n cap) n 3 (rowC encS l) w.heap.size] W)
    (fun _ _ _ => False) (ownFrom_St _ (by omega) (by intro s b o hb; simp at hb; rcases hb with ⟨_, rfl⟩ | ⟨_, rfl⟩ <;> rfl)) (fun _ => ownFrom_pure _ _) HS.out (fun _ => []) ?assign ?body ?done ?stop
  case assign =>
    intro l x W K hK
    rw [List.append_nil] at hK
    have HK := Lib.hid hK
    clear hK
    unfold loopAct at *
    gi_wp2
    exact HK.out
  case body =>
    intro l pre x W hI hlt
    have HI := Lib.hid hI
    have c1 := cell_of_block (k := 0) (hI.blockAt 1 rfl) rfl
    have f1 := free_of_block (hI.blockAt 1 rfl) 0
    have wk : wrap64 ((pre.length : Int) + 1) = ((pre.length + 1 : Nat) : Int) := by have := HB.out; unfold wrap64; omega
    clear hI
    simp only [loopAct, List.foldl, List.append_nil, List.setIfInBounds_toArray, List.set_cons_succ, List.set_cons_zero]
    gi_wp2
    refine ⟨(KeepsOthers.setCell W _ _).from _, KO.setCell W _ _ _ (by omega) hnb, ?_⟩
    change St w _ _
    rw [List.length_append]
    exact HI.out.putAt (pre := [_]) (by intro i hi; simp at hi; exact ⟨_, _, hi⟩) 0 _ (by simp)
  case done =>
    intro D W hD hI hK
    have c1 := cell_of_block (k := 0) (hI.blockAt 1 rfl) rfl
    rw [List.length_finRange] at c1
    have HLOW := Lib.hid hI.low
    have HD := Lib.hid (show w.heap.size ≤ D by omega)
    have HK := Lib.hid hK
    clear hI hK hD
    gi_wp2
    exact ret_marked rfl HK.out (v := .int .i64 (A.length : Int)) (by simp [results, Try.results32, go_sem]) ⟨rfl, below_putObj HLOW.out HK.out HD.out _⟩
  case stop =>
    intro D c pre W _ _ h
    exact h.elim
end Go.Proofs.Ytflbcabjefpojaa
