/- Merged texts: ShN ShW SwA. -/
import Derived.Test.YthcdkkmjnglmjaaGreatDoorM6
import Derived.Test.YthcdkkmjnglmjaaGreatDoorM1
import Derived.Test.YthcdkkmjnglmjaaGreatDoorM5
import Derived.Test.YthcdkkmjnglmjaaGreatDoorM7
set_option linter.unusedSimpArgs false
set_option linter.unusedVariables false
/- Layer 6: All, Count. -/
namespace Go.Proofs.YthcdkkmjnglmjaaGreatDoor
open Go.RowKit Go.Shelf
attribute [local go_sem] Oper.semAt_some
/-- The places of a span; of a row. -/
def spPts (s : SpT) : List PtT := (List.range (s.t - s.f + 1).toNat).map fun (i : Nat) => ⟨s.f + (i : Int), s.y⟩
def ptsL (l : List SpT) : List PtT := l.flatMap spPts
noncomputable def allL (l : List SpT) : List PtT := bif rightB l then ptsL l else []
theorem spPts_len (s : SpT) : (spPts s).length = (s.t - s.f + 1).toNat := by simp [spPts]
theorem spPts_get (s : SpT) (i : Nat) (h : i < (s.t - s.f + 1).toNat) : (spPts s)[i]? = some ⟨s.f + (i : Int), s.y⟩ := by simp [spPts, h]
/-- How many places the first k spans have. -/
def posL (l : List SpT) (k : Nat) : Nat := (ptsL (l.take k)).length
theorem posL_succ {l : List SpT} {k : Nat} {s : SpT} (hx : l[k]? = some s) : posL l (k + 1) = posL l k + (s.t - s.f + 1).toNat := by
 unfold posL ptsL
 rw [List.take_add_one, hx]
 simp [spPts_len]
theorem posL_all (l : List SpT) : posL l l.length = (ptsL l).length := by unfold posL; rw [List.take_length]
theorem ptsL_split {l : List SpT} {k : Nat} {s : SpT} (hx : l[k]? = some s) : ptsL l = ptsL (l.take k) ++ (spPts s ++ ptsL (l.drop (k + 1))) := by
 obtain ⟨hk, e⟩ := List.getElem?_eq_some_iff.1 hx
 unfold ptsL
 conv => lhs; rw [← List.take_append_drop k l, List.drop_eq_getElem_cons hk, e]
 simp
theorem ptsL_at {l : List SpT} {k : Nat} {s : SpT} (hx : l[k]? = some s) (i : Nat) (hi : i < (s.t - s.f + 1).toNat) : (ptsL l)[posL l k + i]? = some ⟨s.f + (i : Int), s.y⟩ := by
 rw [ptsL_split hx]
 unfold posL
 rw [List.getElem?_append_right (by omega), Nat.add_sub_cancel_left, List.getElem?_append_left (by rw [spPts_len]; exact hi), spPts_get s i hi]
theorem posL_le {l : List SpT} {k : Nat} {s : SpT} (hx : l[k]? = some s) (i : Nat) (hi : i ≤ (s.t - s.f + 1).toNat) : posL l k + i ≤ (ptsL l).length := by
 rw [ptsL_split hx]
 unfold posL
 simp [spPts_len]
 omega
theorem Elems.keepsAt {w w' : World} {bs : List Nat} {a : Option Addr} {n cap size : Nat} {c : Nat → Value} (h : Elems w (.slice a n cap) n size c) (hb : ∀ b off, a = some ⟨b, off, none⟩ → b ∈ bs) (hk : KeepsAt bs w w') : Elems w' (.slice a n cap) n size c := by
 rcases h with h | ⟨b, off, cap', e, hlt, hc⟩
 · exact .inl h
 · cases e
   have e1 := hk b (hb b off rfl)
   refine .inr ⟨b, off, cap, rfl, ?_, fun j hj => by rw [← hc j hj]; simp only [World.cell?, e1]⟩
   rw [Array.getElem?_eq_getElem hlt] at e1
   exact (Array.getElem?_eq_some_iff.1 e1).1
theorem cell_keepsAt {w w' : World} {bs : List Nat} {b o : Nat} {v : Value} (h : w.cell? ⟨b, o, none⟩ = some v) (hb : b ∈ bs) (hk : KeepsAt bs w w') : w'.cell? ⟨b, o, none⟩ = some v := by
 rw [← h]; simp only [World.cell?, hk b hb]
theorem keepsAt_lt {w w' : World} {bs : List Nat} (hk : KeepsAt bs w w') (h : ∀ b ∈ bs, b < w.heap.size) : ∀ b ∈ bs, b < w'.heap.size := fun b hb => by
 have h1 := hk b hb
 rw [Array.getElem?_eq_getElem (h b hb)] at h1
 exact (Array.getElem?_eq_some_iff.1 h1).1
/-- Between two places. -/
structure AllAt (own : World → Nat → Prop) (bs : List Nat) (N0 : Nat) (N : Nat) (J : List (Fin N) → World → Prop) (W : World) (p : Nat) (wr : World) : Prop where
 j : J (firsts N p) wr
 ko : KO own bs N0 W wr
 wf : ∀ q, own wr q → q < wr.heap.size
theorem AllAt.below {own : World → Nat → Prop} {bs : List Nat} {N0 N : Nat} {J : List (Fin N) → World → Prop} {W : World} {p : Nat} {wr w' : World} (h : AllAt own bs N0 N J W p wr) (ho : OwnSt own N0) (hJd : ∀ pre x y, J pre x → Below x.heap.size x y → J pre y)
 (hN : N0 ≤ W.heap.size) (hbs : ∀ b ∈ bs, b < W.heap.size) (hb : Below wr.heap.size wr w') : AllAt own bs N0 N J W p w' := by
 have k := KO.of_below (own := own) (bs := bs) ho hb (Nat.le_trans hN h.ko.size) (keepsAt_lt h.ko.at_ hbs)
 exact ⟨hJd _ _ _ h.j hb, h.ko.trans k, k.wf h.wf⟩
set_option maxRecDepth 100000 in
set_option maxHeartbeats 2000000 in
theorem all1_right (n : Nat) (hn : 1 ≤ n) (own : World → Nat → Prop) (N0 : Nat) (ho : OwnSt own N0) (L Bs : Nat) (bs : List Nat) (a : Option Addr) (m cap : Nat) (l : List SpT) (hl : l.length = m) (hm : m ≤ 1000000000) (hr : rightB l = true)
 (J Jx : List (Fin (ptsL l).length) → World → Prop) (hJd : ∀ pre x y, J pre x → Below x.heap.size x y → J pre y) (hb1 : Bs ∈ bs) (hb2 : ∀ b off, a = some ⟨b, off, none⟩ → b ∈ bs)
 (hY : ∀ pre x W, J pre W → pre.length < (ptsL l).length → YieldAt Fence.wide (n - 1) Tryz.prog L #[((ptsL l)[x.1]).val] W fun e W' =>
  (e = .returned (.bool true) ∧ J (pre ++ [x]) W' ∧ KO own bs N0 W W') ∨ (e = .returned (.bool false) ∧ Jx (pre ++ [x]) W'))
 (W : World) (hN : N0 ≤ W.heap.size) (hBs : ∀ c ∈ bs, c < W.heap.size) (hwf : ∀ q, own W q → q < W.heap.size) (hc : W.cell? ⟨Bs, 0, none⟩ = some (.slice a m cap)) (hh : Elems W (.slice a m cap) m 3 (rowC encS l)) (h0 : J [] W) :
 CallsIn Fence.wide n Tryz.prog 108 #[.func (.yield L) #[] #[], .pointer (some ⟨Bs, 0, none⟩)] W fun e W' => (∃ v, e = .returned v) ∧
  ((∃ ys, ys = List.finRange (ptsL l).length ∧ J ys W') ∨ (∃ pre, pre <+: List.finRange (ptsL l).length ∧ Jx pre W')) := by
 have HY := H7 hY
 have HL := H7 hl
 have HR := H7 hr
 have HO := H7 ho
 have HCH := H7 (check_any a m cap l hl hm W hh)
 have HD := H7 (fun (p : Nat) (x y : World) (h : AllAt own bs N0 (ptsL l).length J W p x) (hb : Below x.heap.size x y) => h.below ho hJd hN hBs hb)
 have HC : Hid (∀ wr, KeepsAt bs W wr → wr.cell? ⟨Bs, 0, none⟩ = some (.slice a m cap) ∧ Elems wr (.slice a m cap) m 3 (rowC encS l)) := H7 fun wr hk => ⟨cell_keepsAt hc hb1 hk, hh.keepsAt hb2 hk⟩
 have HA := H7 (show AllAt own bs N0 (ptsL l).length J W 0 W from ⟨h0, KO.refl _ _ _ _, hwf⟩)
 have HN := H7 hN
 have HRP := H7 ((rightB_iff l).1 hr)
 have c0 := (HC.out W (KeepsAt.refl _ _)).1
 clear hY hl hr ho hJd hb1 hb2 hBs hc hh h0 hwf hN
 refine callsIn_of_wp Tryz.func108 rfl trivial ?_ rfl
 simp only [Tryz.ntmps108, List.size_toArray, List.length_cons, List.length_nil, Nat.reduceAdd, Nat.reduceSub, Array.replicate_succ, Array.replicate_zero, List.push_toArray, List.append_toArray, List.nil_append, List.cons_append]
 gi_wp2
 apply wpIn_scope
 gi_wp2_with fail
 refine (callsIn_wide.2 HCH.out).mono ?_
 rintro e w2 ⟨rfl, hb_⟩
 have HA := H7 (HD.out _ _ _ HA.out hb_)
 rw [HR.out, errOf_true]
 clear hb_ HCH c0
 have c0 := (HC.out w2 HA.out.ko.at_).1
 gi_wp2
 apply wpIn_label
 gi_wp2
 clear c0
 gi_loopw [11] (fun i wr => ∃ k : Nat, k ≤ m ∧ i = .int .i64 k ∧ AllAt own bs N0 (ptsL l).length J W (posL l k) wr) (fun i _ => m - (intOf i).toNat)
 case atStart => exact ⟨0, by omega, rfl, HA.out⟩
 case round =>
  obtain ⟨k, hk, rfl, ha⟩ := hrel
  clear HA
  have HA := H7 ha
  clear ha
  by_cases hlt : k < m
  · have HLT := H7 (show k < l.length by rw [HL.out]; exact hlt)
    have wk : wrap64 ((k : Int) + 1) = ((k + 1 : Nat) : Int) := by unfold wrap64; omega
    obtain ⟨s, hx⟩ : ∃ s, l[k]? = some s := ⟨_, List.getElem?_eq_getElem HLT.out⟩
    obtain ⟨bb, off, rfl, hbb, c0, c1, c2⟩ := spCells HL.out (HC.out wr HA.out.ko.at_).2 k s hx
    have hs := (spB_iff s).1 (by have := HRP.out.sp k HLT.out; rwa [(List.getElem?_eq_some_iff.1 hx).2] at this)
    have HAT := H7 (fun i hi => ptsL_at hx i hi)
    have HLE := H7 (fun i hi => posL_le hx i hi)
    have HS := H7 (posL_succ hx)
    have HSB := H7 hs
    obtain ⟨sy, sf, st⟩ := s
    simp only at c0 c1 c2 HAT HLE HS HSB
    clear hx hbb hs
    gi_wp2
    obtain ⟨q, hq⟩ : ∃ q, wr.heap.size = q := ⟨_, rfl⟩
    obtain ⟨w3, hw3⟩ : ∃ w3, wr.alloc (.cells #[.int .i64 sy, .int .i64 sf, .int .i64 st] 60) = w3 := ⟨_, rfl⟩
    have hb3 : Below wr.heap.size wr w3 := by rw [← hw3]; exact (B7 _ _).alloc (Nat.le_refl _) _
    have HA3 := H7 (HD.out _ _ _ HA.out hb3)
    have hq3 : w3.heap[q]? = some (.cells #[.int .i64 sy, .int .i64 sf, .int .i64 st] 60 (0, 0)) := by rw [← hw3, ← hq]; exact World.alloc_heap_new wr _
    have hno : ¬ own w3 q := by
     intro h
     have h1 := (HO.out wr w3 (fun k hk => hb3.block k (by have := HN.out; have := HA.out.ko.size; omega)) q).1 h
     have := HA.out.wf q h1
     omega
    have hNq : N0 ≤ q := by have := HN.out; have := HA.out.ko.size; omega
    have HNQ := H7 hNq
    have HQ := H7 (And.intro hno hq3)
    rw [hw3]
    simp only [hq]
    clear hw3 hq hb3 hq3 hno hNq c0 c1 c2 HA
    gi_loopw [5] (fun x wi => ∃ i : Nat, (i : Int) ≤ st - sf + 1 ∧ x = .int .i64 (sf + (i : Int)) ∧ AllAt own bs N0 (ptsL l).length J W (posL l k + i) wi ∧ ¬ own wi q ∧ wi.heap[q]? = some (.cells #[.int .i64 sy, .int .i64 sf, .int .i64 st] 60 (0, 0))) (fun x _ => (st + 1 - intOf x).toNat)
    case atStart => exact ⟨0, by have := HSB.out; omega, by simp, HA3.out, HQ.out⟩
    case round =>
     obtain ⟨i, hi, rfl, ha, hno, hq3⟩ := hrel
     have HA := H7 ha
     have HNO := H7 hno
     have HQ3 := H7 hq3
     have k0 := c7b (k := 0) hq3 rfl
     have k2 := c7b (k := 2) hq3 rfl
     clear ha hno hq3 HA3 HQ
     by_cases hlt2 : sf + (i : Int) ≤ st
     · have wi1 : wrap64 (sf + (i : Int) + 1) = sf + ((i + 1 : Nat) : Int) := by have := HSB.out; unfold wrap64; omega
       have hii : i < (st - sf + 1).toNat := by omega
       have hpl : posL l k + i < (ptsL l).length := by have := HLE.out (i + 1) (by omega); omega
       obtain ⟨fn, tmps, assign, body, hy, hR⟩ := HY.out _ (⟨posL l k + i, hpl⟩ : Fin (ptsL l).length) wr HA.out.j (by rw [firsts_length (by omega)]; exact hpl)
       have he : (ptsL l)[posL l k + i] = ⟨sf + (i : Int), sy⟩ := by have := HAT.out i hii; rw [List.getElem?_eq_getElem hpl] at this; exact Option.some.inj this
       simp only [he, PtT.val] at hy
       have hs := firsts_succ (N := (ptsL l).length) (k := posL l k + i) hpl
       rw [hs] at hR
       have HPL := H7 hpl
       clear hs he hii hpl
       gi_wp2
       refine hR.mono ?_
       rintro e w4 (⟨rfl, hJ4, hk4⟩ | ⟨rfl, hJx⟩)
       · obtain ⟨n4, q4⟩ := hk4.rest q _ HNQ.out HQ3.out rfl HNO.out
         have HA4 := H7 (show AllAt own bs N0 (ptsL l).length J W (posL l k + (i + 1)) w4 from ⟨hJ4, HA.out.ko.trans hk4, hk4.wf HA.out.wf⟩)
         have HQ4 := H7 (And.intro n4 q4)
         clear hJ4 hk4 n4 q4
         gi_wp2
         go_roundw
         case rel => exact ⟨i + 1, by omega, by rw [wi1], HA4.out, HQ4.out⟩
         case measure => simp [intOf]; omega
       · have HJ3 := H7 hJx
         clear hJx
         gi_wp2; rw [Exit.noGoto_normal]
         go_end0
         exact ⟨⟨_, rfl⟩, .inr ⟨_, firsts_prefix _ _, HJ3.out⟩⟩
     · have HE := H7 (show posL l k + i = posL l (k + 1) by (rw [HS.out, show i = (st - sf + 1).toNat by omega]))
       clear hi
       gi_wp2
       go_roundw
       case rel => exact ⟨k + 1, hlt, by simp, by have := HA.out; rwa [HE.out] at this⟩
       case measure => simp [intOf]; omega
  · obtain rfl : k = m := by omega
    have HJ := H7 (show J (List.finRange (ptsL l).length) wr by have := HA.out.j; rwa [← HL.out, posL_all, firsts_all] at this)
    clear hk hlt
    gi_wp2; rw [Exit.noGoto_normal]
    go_end0
    exact ⟨⟨_, rfl⟩, .inl ⟨_, rfl, HJ.out⟩⟩
set_option maxRecDepth 100000 in
theorem all1_wrong (n : Nat) (L Bs : Nat) (a : Option Addr) (m cap : Nat) (l : List SpT) (hl : l.length = m) (hm : m ≤ 1000000000) (hr : rightB l = false) (R : World → Prop) (hJd : ∀ x y, R x → Below x.heap.size x y → R y)
 (W : World) (hc : W.cell? ⟨Bs, 0, none⟩ = some (.slice a m cap)) (hh : Elems W (.slice a m cap) m 3 (rowC encS l)) (h0 : R W) :
 CallsIn Fence.wide n Tryz.prog 108 #[.func (.yield L) #[] #[], .pointer (some ⟨Bs, 0, none⟩)] W fun e W' => (∃ v, e = .returned v) ∧ R W' := by
 have HR := H7 hr
 have HCH := H7 (check_any a m cap l hl hm W hh)
 have HJ := H7 (fun y hb => hJd W y h0 hb)
 clear hh hr hJd h0
 refine callsIn_of_wp Tryz.func108 rfl trivial ?_ rfl
 simp only [Tryz.ntmps108, List.size_toArray, List.length_cons, List.length_nil, Nat.reduceAdd, Nat.reduceSub, Array.replicate_succ, Array.replicate_zero, List.push_toArray, List.append_toArray, List.nil_append, List.cons_append]
 gi_wp2
 apply wpIn_scope
 gi_wp2_with fail
 refine (callsIn_wide.2 HCH.out).mono ?_
 rintro e w2 ⟨rfl, hb_⟩
 have HK := H7 (HJ.out _ hb_)
 rw [HR.out, errOf_false]
 clear hb_ HCH hc
 gi_wp2; rw [Exit.noGoto_ret]
 refine bodyPost_ret (results_none rfl _ _ _) rfl ?_
 exact ⟨⟨_, rfl⟩, HK.out⟩
theorem all_iter (own : World → Nat → Prop) (w : World) (ho : OwnSt own w.heap.size) (hwf : ∀ q, own w q → q < w.heap.size) (Bs : Nat) (bs : List Nat) (a : Option Addr) (m cap : Nat) (l : List SpT) (hl : l.length = m) (hm : m ≤ 1000000000) (A : List PtT) (hA : allL l = A)
 (hbs : ∀ c ∈ bs, c < w.heap.size) (hb1 : Bs ∈ bs) (hb2 : ∀ b off, a = some ⟨b, off, none⟩ → b ∈ bs) (hc : w.cell? ⟨Bs, 0, none⟩ = some (.slice a m cap)) (hh : Elems w (.slice a m cap) m 3 (rowC encS l)) :
 IterO Tryz.prog 108 #[.pointer (some ⟨Bs, 0, none⟩)] A.length (fun i => #[(A[i.1]).val]) own bs w := by
 unfold allL at hA
 cases hr : rightB l
 · rw [hr, cond_false] at hA
   subst hA
   intro n hn1 L J Jx W hW hJ _ hY h0
   refine (all1_wrong n L Bs a m cap l hl hm hr (J []) (fun x y h hb => hJ [] x y none h (below_grown hb) (by simp)) W ((hW.cell (p := ⟨Bs, 0, none⟩) (hbs Bs hb1)).trans hc) (hh.below hW) h0).mono ?_
   rintro e w' ⟨h1, h2⟩
   exact ⟨h1, .inl ⟨_, rfl, h2⟩⟩
 · rw [hr, cond_true] at hA
   subst hA
   intro n hn1 L J Jx W hW hJ _ hY h0
   have e := ho w W (fun k hk => hW.block k hk)
   exact all1_right n hn1 own w.heap.size ho L Bs bs a m cap l hl hm hr J Jx (fun pre x y h hb => hJ pre x y none h (below_grown hb) (by simp)) hb1 hb2 hY W hW.size (fun c hc => Nat.lt_of_lt_of_le (hbs c hc) hW.size) (fun q hq => Nat.lt_of_lt_of_le (hwf q ((e q).1 hq)) hW.size)
    ((hW.cell (p := ⟨Bs, 0, none⟩) (hbs Bs hb1)).trans hc) (hh.below hW) h0
theorem all_any (a : Option Addr) (n cap : Nat) (w : World) :
 Calls Tryz.prog 82 #[.slice a n cap] w fun e w' => e = .returned (.func (.func 108) #[] #[.pointer (some ⟨w.heap.size, 0, none⟩)]) ∧ w.alloc (.cells #[.slice a n cap] 57) = w' := by
 go_enter Tryz.func82, Tryz.ntmps82
 go_wp2
 go_ret
 exact ⟨rfl, rfl⟩
/- Layer 6: about. -/
/-- How wide a brush is at a distance, at most k - 1. -/
def wideG (size : Int) (round : Bool) (dy : Int) : Nat → Option Nat
 | 0 => none
 | k + 1 => if inSize size round (k : Int) dy = true then some k else wideG size round dy k
def aboutRow (c : PtT) (size : Int) (round : Bool) (dy : Int) : List SpT := (wideG size round dy (size.toNat + 1)).toList.map fun (w : Nat) => ⟨c.y + dy, c.x - (w : Int), c.x + (w : Int)⟩
def aboutTo (c : PtT) (size : Int) (round : Bool) (k : Nat) : List SpT := (List.range k).flatMap fun (i : Nat) => aboutRow c size round (-size + (i : Int))
def aboutL (c : PtT) (size : Int) (round : Bool) : List SpT := aboutTo c size round (2 * size + 1).toNat
theorem aboutTo_succ (c : PtT) (size : Int) (round : Bool) (k : Nat) : aboutTo c size round (k + 1) = aboutTo c size round k ++ aboutRow c size round (-size + (k : Int)) := by
 unfold aboutTo
 rw [List.range_succ, List.flatMap_append]
 simp
theorem aboutTo_prefix (c : PtT) (size : Int) (round : Bool) : ∀ (k m : Nat), k ≤ m → aboutTo c size round k <+: aboutTo c size round m
 | k, m, h => by
  induction m with
  | zero =>
   obtain rfl : k = 0 := by omega
   exact List.prefix_refl _
  | succ m ih =>
   rcases Nat.lt_or_ge k (m + 1) with h1 | h1
   · rw [aboutTo_succ]
     exact (ih (by omega)).trans (List.prefix_append _ _)
   · obtain rfl : k = m + 1 := by omega
     exact List.prefix_refl _
theorem about_at {c : PtT} {size : Int} {round : Bool} {k w : Nat} (hk : k < (2 * size + 1).toNat) (hw : wideG size round (-size + (k : Int)) (size.toNat + 1) = some w) :
 (aboutL c size round)[(aboutTo c size round k).length]? = some ⟨c.y + (-size + (k : Int)), c.x - (w : Int), c.x + (w : Int)⟩ ∧ (aboutTo c size round (k + 1)).length = (aboutTo c size round k).length + 1 := by
 have e := aboutTo_succ c size round k
 unfold aboutRow at e
 rw [hw] at e
 simp only [Option.toList_some, List.map_cons, List.map_nil] at e
 refine ⟨?_, by rw [e]; simp⟩
 have hp := aboutTo_prefix c size round (k + 1) _ hk
 obtain ⟨rest, hr⟩ := hp
 unfold aboutL
 rw [← hr, e, List.append_assoc, List.getElem?_append_right (Nat.le_refl _), Nat.sub_self]
 rfl
theorem about_none {c : PtT} {size : Int} {round : Bool} {k : Nat} (hw : wideG size round (-size + (k : Int)) (size.toNat + 1) = none) : (aboutTo c size round (k + 1)).length = (aboutTo c size round k).length := by
 rw [aboutTo_succ]
 unfold aboutRow
 rw [hw]
 simp
theorem wideG_lt {size : Int} {round : Bool} {dy : Int} : ∀ {k w : Nat}, wideG size round dy k = some w → w < k
 | k + 1, w, h => by
  unfold wideG at h
  split at h
  · cases h; omega
  · have := wideG_lt h; omega
set_option maxRecDepth 100000 in
set_option maxHeartbeats 1000000 in
theorem about1_walk (n : Nat) (hn : 1 ≤ n) (L Bz Bi Bc Br Bq : Nat) (bs : List Nat) (size : Int) (hs1 : 0 ≤ size) (hs2 : size ≤ 15) (round : Bool) (c : PtT) (hc : (-64 ≤ c.x ∧ c.x ≤ 127) ∧ (-64 ≤ c.y ∧ c.y ≤ 127))
 (J Jx : List (Fin (aboutL c size round).length) → World → Prop) (hJd : ∀ pre x y, J pre x → Below x.heap.size x y → J pre y) (hb : Bz ∈ bs ∧ Bi ∈ bs ∧ Bc ∈ bs ∧ Br ∈ bs ∧ Bq ∈ bs)
 (hY : ∀ pre x W, J pre W → pre.length < (aboutL c size round).length → YieldAt Fence.wide (n - 1) Tryz.prog L #[((aboutL c size round)[x.1]).val] W fun e W' =>
  (e = .returned (.bool true) ∧ J (pre ++ [x]) W' ∧ KeepsAt bs W W') ∨ (e = .returned (.bool false) ∧ Jx (pre ++ [x]) W'))
 (W : World) (hBs : ∀ c ∈ bs, c < W.heap.size) (hz : W.cell? ⟨Bz, 0, none⟩ = some (.int .i64 size)) (hi : W.cell? ⟨Bi, 0, none⟩ = some (.func (.func 95) #[] #[.pointer (some ⟨Br, 0, none⟩), .pointer (some ⟨Bq, 0, none⟩)]))
 (hc0 : W.cell? ⟨Bc, 0, none⟩ = some (.int .i64 c.x)) (hc1 : W.cell? ⟨Bc, 1, none⟩ = some (.int .i64 c.y)) (hr : W.cell? ⟨Br, 0, none⟩ = some (.bool round)) (hq : W.cell? ⟨Bq, 0, none⟩ = some (.int .i64 size)) (h0 : J [] W) :
 CallsIn Fence.wide n Tryz.prog 114 #[.func (.yield L) #[] #[], .pointer (some ⟨Bz, 0, none⟩), .pointer (some ⟨Bi, 0, none⟩), .pointer (some ⟨Bc, 0, none⟩)] W fun e W' => (∃ v, e = .returned v) ∧
  ((∃ ys, ys = List.finRange (aboutL c size round).length ∧ J ys W') ∨ (∃ pre, pre <+: List.finRange (aboutL c size round).length ∧ Jx pre W')) := by
 have HY := H7 hY
 have HSZ := H7 (And.intro hs1 hs2)
 have HCC := H7 hc
 have HD := H7 hJd
 have HK : Hid (∀ wr, KeepsAt bs W wr → (wr.cell? ⟨Bz, 0, none⟩ = some (.int .i64 size) ∧ wr.cell? ⟨Bi, 0, none⟩ = some (.func (.func 95) #[] #[.pointer (some ⟨Br, 0, none⟩), .pointer (some ⟨Bq, 0, none⟩)])) ∧ (wr.cell? ⟨Bc, 0, none⟩ = some (.int .i64 c.x) ∧ wr.cell? ⟨Bc, 1, none⟩ = some (.int .i64 c.y)) ∧ wr.cell? ⟨Br, 0, none⟩ = some (.bool round) ∧ wr.cell? ⟨Bq, 0, none⟩ = some (.int .i64 size)) :=
  H7 fun wr hk => ⟨⟨cell_keepsAt hz hb.1 hk, cell_keepsAt hi hb.2.1 hk⟩, ⟨cell_keepsAt hc0 hb.2.2.1 hk, cell_keepsAt hc1 hb.2.2.1 hk⟩, cell_keepsAt hr hb.2.2.2.1 hk, cell_keepsAt hq hb.2.2.2.2 hk⟩
 have HBL := H7 (fun (x y : World) (hk : KeepsAt bs W x) (hb : Below x.heap.size x y) => hk.trans (KeepsAt.of_below hb (keepsAt_lt hk hBs)))
 have HJ0 := H7 h0
 have HAT := H7 (fun k w hk hw => about_at (c := c) (size := size) (round := round) (k := k) (w := w) hk hw)
 have HNO := H7 (fun k hw => about_none (c := c) (size := size) (round := round) (k := k) hw)
 have HLN := H7 (show (aboutTo c size round (2 * size + 1).toNat).length = (aboutL c size round).length from rfl)
 obtain ⟨A, hA⟩ : ∃ A, aboutL c size round = A := ⟨_, rfl⟩
 obtain ⟨pp, hpp⟩ : ∃ pp : Nat → Nat, (fun k => (aboutTo c size round k).length) = pp := ⟨_, rfl⟩
 have hpp' : ∀ k, (aboutTo c size round k).length = pp k := fun k => by rw [← hpp]
 have hp0 : pp 0 = 0 := by rw [← hpp]; rfl
 subst hA
 simp only [hpp'] at HAT HNO HLN
 have HP0 := H7 hp0
 obtain ⟨cx, cy⟩ := c
 simp only at *
 clear hY hs1 hs2 hc hJd hb hz hi hc0 hc1 hr hq h0 hBs hpp hpp' hp0
 refine callsIn_of_wp Tryz.func114 rfl trivial ?_ rfl
 simp only [Tryz.ntmps114, List.size_toArray, List.length_cons, List.length_nil, Nat.reduceAdd, Nat.reduceSub, Array.replicate_succ, Array.replicate_zero, List.push_toArray, List.append_toArray, List.nil_append, List.cons_append]
 gi_wp2
 apply wpIn_scope
 have z0 := (HK.out W (KeepsAt.refl _ _)).1.1
 have wneg : wrap64 (-size) = -size := by have := HSZ.out; unfold wrap64; omega
 gi_wp2
 apply wpIn_label
 gi_wp2
 try rw [wneg]
 clear z0 wneg
 gi_loopw [5] (fun y wr => ∃ k : Nat, k ≤ (2 * size + 1).toNat ∧ y = .int .i64 (-size + (k : Int)) ∧ J (firsts _ (pp k)) wr ∧ KeepsAt bs W wr) (fun y _ => (size + 1 - intOf y).toNat)
 case atStart => exact ⟨0, by omega, by simp, by rw [HP0.out]; exact HJ0.out, KeepsAt.refl _ _⟩
 case round =>
  obtain ⟨k, hk, rfl, hj, hks⟩ := hrel
  clear HJ0 HP0
  have HJ := H7 hj
  have HKS := H7 hks
  have z0 := (HK.out wr hks).1.1
  clear hj hks
  by_cases hlt : -size + (k : Int) ≤ size
  · have HLT := H7 hlt
    have hkn : k < (2 * size + 1).toNat := by omega
    have HKN := H7 hkn
    have e3 : wrap64 (-size + (k : Int) + 1) = -size + ((k + 1 : Nat) : Int) := by have := HSZ.out; unfold wrap64; omega
    gi_wp2
    clear z0
    gi_loopw [6] (fun x wi => ∃ (xi : Int) (j : Nat), x = .int .i64 xi ∧ xi = (j : Int) - 1 ∧ xi ≤ size ∧ wideG size round (-size + (k : Int)) (size.toNat + 1) = wideG size round (-size + (k : Int)) j ∧ J (firsts _ (pp k)) wi ∧ KeepsAt bs W wi) (fun x _ => (intOf x + 1).toNat)
    case atStart => exact ⟨size, size.toNat + 1, rfl, by have := HSZ.out; omega, by omega, rfl, HJ.out, HKS.out⟩
    case round =>
     obtain ⟨xi, j, rfl, hxj, hxs, hwg, hj, hks⟩ := hrel
     clear HJ HKS
     have HJ := H7 hj
     have HKS := H7 hks
     have HWG := H7 hwg
     have HXJ := H7 hxj
     have HXS := H7 hxs
     obtain ⟨⟨z0, i0⟩, ⟨c0, c1⟩, r0, q0⟩ := HK.out wr hks
     clear hj hks hwg hxj hxs
     by_cases hge : 0 ≤ xi
     · obtain ⟨v, rfl⟩ := Int.eq_ofNat_of_zero_le hge
       have hjv : j = v + 1 := by have := HXJ.out; omega
       subst hjv
       have HIN := H7 (sweep2_any (v : Int) (-size + (k : Int)) size round Br Bq (by omega) (by have := HXS.out; have := HSZ.out; omega) (by have := HSZ.out; omega) (by have := HSZ.out; have := HLT.out; omega) (by have := HSZ.out; omega) (by have := HSZ.out; omega) wr r0 q0)
       obtain ⟨ib, hib⟩ : ∃ ib, inSize size round (v : Int) (-size + (k : Int)) = ib := ⟨_, rfl⟩
       rw [hib] at HIN
       have HIB := H7 hib
       clear hib c0 c1 r0 q0 z0
       gi_wp2_with fail
       refine (callsIn_wide.2 HIN.out).mono ?_
       rintro e w3 ⟨rfl, hb_⟩
       have HJ := H7 (HD.out _ _ _ HJ.out hb_)
       have HKS := H7 (HBL.out _ _ HKS.out hb_)
       clear hb_ HIN i0
       cases ib
       · have hw2 : wideG size round (-size + (k : Int)) (size.toNat + 1) = wideG size round (-size + (k : Int)) v := by
          rw [HWG.out]
          conv => lhs; unfold wideG
          rw [if_neg (by rw [HIB.out]; simp)]
         have HW2 := H7 hw2
         have e4 : wrap64 ((v : Int) - 1) = (v : Int) - 1 := by have := HXS.out; have := HSZ.out; unfold wrap64; omega
         clear hw2
         gi_wp2
         go_roundw
         case rel => exact ⟨(v : Int) - 1, v, by first | rw [e4] | rfl, rfl, by have := HXS.out; omega, HW2.out, HJ.out, HKS.out⟩
         case measure => (try rw [e4]); simp [intOf] <;> omega
       · have hw2 : wideG size round (-size + (k : Int)) (size.toNat + 1) = some v := by
          rw [HWG.out]
          conv => lhs; unfold wideG
          rw [if_pos HIB.out]
         obtain ⟨hat, hnx⟩ := HAT.out k v HKN.out hw2
         have hpl := (List.getElem?_eq_some_iff.1 hat).1
         obtain ⟨⟨z0, i0⟩, ⟨c0, c1⟩, r0, q0⟩ := HK.out w3 HKS.out
         obtain ⟨fn, tmps, assign, body, hy, hR⟩ := HY.out _ (⟨pp k, hpl⟩ : Fin _) w3 HJ.out (by rw [firsts_length (by omega)]; exact hpl)
         have he : (aboutL ⟨cx, cy⟩ size round)[pp k] = _ := (List.getElem?_eq_some_iff.1 hat).2
         simp only [he, SpT.val] at hy
         have hs := firsts_succ (N := (aboutL ⟨cx, cy⟩ size round).length) (k := pp k) hpl
         rw [hs, ← hnx] at hR
         have w1 : wrap64 (cy + (-size + (k : Int))) = cy + (-size + (k : Int)) := by have := HCC.out; have := HSZ.out; have := HLT.out; unfold wrap64; omega
         have w2 : wrap64 (cx - (v : Int)) = cx - (v : Int) := by have := HCC.out; have := HSZ.out; have := HXS.out; unfold wrap64; omega
         have w3' : wrap64 (cx + (v : Int)) = cx + (v : Int) := by have := HCC.out; have := HSZ.out; have := HXS.out; unfold wrap64; omega
         clear hat hnx hs he hpl hw2 z0 i0 r0 q0
         gi_wp2
         refine hR.mono ?_
         rintro e w4 (⟨rfl, hJ4, hk4⟩ | ⟨rfl, hJx⟩)
         · have HJ4 := H7 hJ4
           have HK4 := H7 (HKS.out.trans hk4)
           clear hJ4 hk4 c0 c1 w1 w2 w3'
           gi_wp2
           go_roundw
           case rel => exact ⟨k + 1, HKN.out, by first | rw [e3] | rfl, HJ4.out, HK4.out⟩
           case measure => (try rw [e3]); have := HLT.out; simp [intOf]; omega
         · have HJ3 := H7 hJx
           clear hJx
           gi_wp2; rw [Exit.noGoto_normal]
           go_end0
           exact ⟨⟨_, rfl⟩, .inr ⟨_, firsts_prefix _ _, HJ3.out⟩⟩
     · have hj0 : j = 0 := by have := HXJ.out; omega
       subst hj0
       have hn2 := HNO.out k HWG.out
       have HJ := H7 (show J (firsts _ (pp (k + 1))) wr by rw [hn2]; exact HJ.out)
       clear hn2 z0 i0 c0 c1 r0 q0
       gi_wp2
       go_roundw
       case rel => exact ⟨k + 1, HKN.out, by first | rw [e3] | rfl, HJ.out, HKS.out⟩
       case measure => (try rw [e3]); have := HLT.out; simp [intOf]; omega
  · have hkn : k = (2 * size + 1).toNat := by have := HSZ.out; omega
    subst hkn
    have HJF := H7 (show J (List.finRange _) wr by have := HJ.out; rwa [HLN.out, firsts_all] at this)
    clear hk
    gi_wp2
    try rw [Exit.noGoto_normal]
    go_end0
    exact ⟨⟨_, rfl⟩, .inl ⟨_, rfl, HJF.out⟩⟩
theorem about_iter (w : World) (Bz Bi Bc Br Bq : Nat) (bs : List Nat) (size : Int) (hs1 : 0 ≤ size) (hs2 : size ≤ 15) (round : Bool) (c : PtT) (hc : (-64 ≤ c.x ∧ c.x ≤ 127) ∧ (-64 ≤ c.y ∧ c.y ≤ 127)) (A : List SpT) (hA : aboutL c size round = A) (hb : Bz ∈ bs ∧ Bi ∈ bs ∧ Bc ∈ bs ∧ Br ∈ bs ∧ Bq ∈ bs) (hBs : ∀ c ∈ bs, c < w.heap.size)
 (hz : w.cell? ⟨Bz, 0, none⟩ = some (.int .i64 size)) (hi : w.cell? ⟨Bi, 0, none⟩ = some (.func (.func 95) #[] #[.pointer (some ⟨Br, 0, none⟩), .pointer (some ⟨Bq, 0, none⟩)]))
 (hc0 : w.cell? ⟨Bc, 0, none⟩ = some (.int .i64 c.x)) (hc1 : w.cell? ⟨Bc, 1, none⟩ = some (.int .i64 c.y)) (hr : w.cell? ⟨Br, 0, none⟩ = some (.bool round)) (hq : w.cell? ⟨Bq, 0, none⟩ = some (.int .i64 size)) :
 Iter Tryz.prog 114 #[.pointer (some ⟨Bz, 0, none⟩), .pointer (some ⟨Bi, 0, none⟩), .pointer (some ⟨Bc, 0, none⟩)] A.length (fun i => #[(A[i.1]).val]) bs w := by
 subst hA
 intro n hn1 L J Jx W hW hJ _ hY h0
 exact about1_walk n hn1 L Bz Bi Bc Br Bq bs size hs1 hs2 round c hc J Jx (fun pre x y h hb => hJ pre x y none h (below_grown hb) (by simp)) hb hY W (fun c hc => Nat.lt_of_lt_of_le (hBs c hc) hW.size)
  ((hW.cell (p := ⟨Bz, 0, none⟩) (hBs _ hb.1)).trans hz) ((hW.cell (p := ⟨Bi, 0, none⟩) (hBs _ hb.2.1)).trans hi) ((hW.cell (p := ⟨Bc, 0, none⟩) (hBs _ hb.2.2.1)).trans hc0) ((hW.cell (p := ⟨Bc, 1, none⟩) (hBs _ hb.2.2.1)).trans hc1)
  ((hW.cell (p := ⟨Br, 0, none⟩) (hBs _ hb.2.2.2.1)).trans hr) ((hW.cell (p := ⟨Bq, 0, none⟩) (hBs _ hb.2.2.2.2)).trans hq) h0
end Go.Proofs.YthcdkkmjnglmjaaGreatDoor
/- Layer 6: what stays while rows grow; a range over an iterator whose value gets a box. -/
namespace Go.Proofs.YthcdkkmjnglmjaaGreatDoor
open Go.RowKit Go.Shelf Go.Maps
/-- A kept thing lies apart from S. -/
def It.free (S : Nat → Prop) : It → Prop
 | .blk p _ => ¬ S p
 | .row _ _ _ _ hi => ∀ k, S k → hi ≤ k
theorem St.turned {w0 x y : World} {its : List It} {S : Nat → Prop} (h : St w0 its x) (ht : Turned S x y) (h0 : ∀ k, S k → w0.heap.size ≤ k) (hf : ∀ i ∈ its, i.free S) : St w0 its y := by
 refine ⟨h.low.trans (ht.below h.low.size h0), fun i hi => ?_, h.ord, fun i hi => Nat.le_trans (h.top i hi) ht.size⟩
 have hok := h.ok i hi
 have hfi := hf i hi
 cases i with
 | blk p o => exact (ht.block p (b7t hok) hfi).trans hok
 | row v n size c hi' =>
  refine ⟨?_, hok.2⟩
  rcases hok.1 with e | ⟨b, off, cap, rfl, hlt, hc⟩
  · exact .inl e
  · refine .inr ⟨b, off, cap, rfl, Nat.lt_of_lt_of_le hlt ht.size, fun j hj => ?_⟩
    by_cases hn : n = 0
    · subst hn; omega
    · have hbb := (hok.2 _ _ _ rfl).resolve_left hn
      rw [← hc j hj]
      exact World.cell?_of_block (ht.block b hlt (fun hs => by have := hfi b hs; simp at hbb; omega))
/-- 'for x := range seq' over an iterator's contract, where the assignment lays a box. -/
theorem range_iterB {P : Program} {n : Nat} {g : Operand} {ps : Array Tmp} {assign body : Code} {Q : Exit → Act → World → Prop} {a : Act} {w : World}
 {gf : Nat} {lb : Array Value} {N : Nat} {bs : List Nat} {encs : Fin N → Array Value} {w0 : World} (hit : Iter P gf lb N encs bs w0) (hn : 2 ≤ n)
 (hg : a.eval g = .func (.func gf) #[] lb) (eg : ∀ args w, (callFunc gf args).run P w = .ok (.enter gf args) w)
 (hn0 : ∀ b ∈ bs, b < w.heap.size) (hb0 : Below w0.heap.size w0 w) (hps : ∀ x, (encs x).size = ps.size) (pargs : Fin N → List (Tmp × Value)) (hpa : ∀ x, (ps.zip (encs x)).toList = pargs x)
 (I : List (Fin N) → World → Prop) (Ix : Code → List (Fin N) → World → Prop) (hI : OwnFrom w.heap.size I) (hIx : ∀ c, OwnFrom w.heap.size (Ix c)) (h0 : I [] w)
 (Ax : Fin N → Act → World → Prop) (hAx : ∀ x a', OwnFrom w.heap.size (fun (_ : Unit) W => Ax x a' W))
 (hassign : ∀ (l : Nat) (pre : List (Fin N)) (x : Fin N) (W : World) (K : Act → World → Prop), I pre W → (∀ a' W', KeepsFrom w.heap.size W W' → KeepsAt bs W W' → I pre W' → Ax x a' W' → K a' W') →
  assign.wpIn (Fence.wide.inRound l) (n - 1 - 1) P (Exit.then K (fun _ _ _ => False)) (loopAct a (pargs x)) W)
 (hbody : ∀ (l : Nat) (pre : List (Fin N)) (x : Fin N) (a' : Act) (W : World), I pre W → Ax x a' W → pre.length < N → body.wpIn (Fence.wide.inRound l) (n - 1 - 1) P (ownPostG w.heap.size (KeepsAt bs) I Ix (pre ++ [x]) W) a' W)
 (hdone : ∀ (D : Nat) (W : World), w.heap.size ≤ D → I (List.finRange N) W → W.heap[D]? = some (.deferred (some [])) → Q .normal { a with defers := { target := .collected D, args := #[] } :: a.defers } W)
 (hstop : ∀ (D : Nat) (c : Code) (pre : List (Fin N)) (W : World), w.heap.size ≤ D → pre <+: List.finRange N → Ix c pre W → W.heap[D]? = some (.deferred (some [])) → c.wpIn Fence.wide n P Q { a with defers := { target := .collected D, args := #[] } :: a.defers } W) :
 (Code.rangeFunc g ps assign body).wpIn Fence.wide n P Q a w :=
 wpIn_rangeFunc_ownH rfl (by omega) hg trivial eg (hit (n - 1) (by omega)) (fun h k => h.trans k) (keepsAt_b hn0) hb0 hps I Ix hI hIx h0 Ax hAx (fun l pre x W K hI hK => by
  have h := hassign l pre x W K hI hK
  unfold loopAct at h
  rw [← Array.foldl_toList, hpa x]
  exact h) (fun l pre x a' W _ _ h1 h2 h3 => hbody l pre x a' W h1 h2 h3) (fun D xs W h h' e => by subst h'; exact hdone D W h e) hstop
theorem keepsFrom_below {B : Nat} {x y : World} (h : Below x.heap.size x y) : KeepsFrom B x y := (show KeepsOthers x y from ⟨h.size, fun j o hj _ => (h.block j (b7t hj)).trans hj⟩).from B
/-- The state of a call that puts spans into a map of rows; no row lies in a block of bs. -/
structure GrS (w0 : World) (its : List It) (bs : List Nat) (base b : Nat) (L : List SpT) (W : World) : Prop where
 st : St w0 its W
 gr : ∃ n D F, n ≤ L.length ∧ GrD W base b n D F (GrOf L) ∧ ∀ z, inK z → ∀ j, (F z).ownBlock = some j → base ≤ j ∧ j ∉ bs
 hi : base ≤ W.heap.size
theorem GrS.below {w0 x y : World} {its : List It} {bs : List Nat} {base b : Nat} {L : List SpT} (h : GrS w0 its bs base b L x) (hb : Below x.heap.size x y) : GrS w0 its bs base b L y := by
 obtain ⟨n, D, F, h1, h2, h3⟩ := h.gr
 exact ⟨h.st.below hb, ⟨n, D, F, h1, h2.kept hb, h3⟩, Nat.le_trans h.hi hb.size⟩
/-- Blocks that are there, and that no row uses, may be added. -/
theorem GrS.more {w0 x : World} {its : List It} {bs bs' : List Nat} {base b : Nat} {L : List SpT} (h : GrS w0 its bs base b L x) (hn : ∀ c ∈ bs', c ∈ bs ∨ c < base ∨ ∃ y : World, y.heap.size ≤ c ∧ ∀ n D F, GrD x base b n D F (GrOf L) → (∀ z, inK z → ∀ j, (F z).ownBlock = some j → j < y.heap.size)) : GrS w0 its bs' base b L x := by
 obtain ⟨n, D, F, h1, h2, h3⟩ := h.gr
 refine ⟨h.st, ⟨n, D, F, h1, h2, fun z hz j hj => ⟨(h3 z hz j hj).1, fun hm => ?_⟩⟩, h.hi⟩
 rcases hn j hm with h4 | h4 | ⟨y, h4, h5⟩
 · exact (h3 z hz j hj).2 h4
 · have := (h3 z hz j hj).1; omega
 · have := h5 n D F h2 z hz j hj; omega
theorem GrS.fresh {w0 x y : World} {its : List It} {base b : Nat} {L : List SpT} (h : GrS w0 its [] base b L x) (hb : Below x.heap.size x y) (bs : List Nat) (hbs : ∀ c ∈ bs, c < base ∨ x.heap.size ≤ c) : GrS w0 its bs base b L y := by
 obtain ⟨n, D, F, h1, h2, h3⟩ := h.gr
 refine ⟨h.st.below hb, ⟨n, D, F, h1, h2.kept hb, fun z hz j hj => ⟨(h3 z hz j hj).1, fun hm => ?_⟩⟩, Nat.le_trans h.hi hb.size⟩
 have h4 := (h2.row z hz).lt j hj
 rcases hbs j hm with h5 | h5 <;> omega
theorem GrS.forget {w0 x : World} {its : List It} {bs : List Nat} {base b : Nat} {L : List SpT} (h : GrS w0 its bs base b L x) : GrS w0 its [] base b L x := by
 obtain ⟨n, D, F, h1, h2, h3⟩ := h.gr
 exact ⟨h.st, ⟨n, D, F, h1, h2, fun z hz j hj => ⟨(h3 z hz j hj).1, by simp⟩⟩, h.hi⟩
/-- It abides an iterator. -/
theorem ownFrom_GrS {β : Type} {B : Nat} {w0 : World} {its : List It} {bs : List Nat} {base b : Nat} (L : β → List SpT) (hB : w0.heap.size ≤ B) (hbB : b < B) (hc : ∀ b o, .blk b o ∈ its → o.isCells = true) : OwnFrom B (fun s W => GrS w0 its bs base b (L s) W) := by
 intro s W W' row h hg hr
 obtain ⟨n, D, F, h1, h2, h3⟩ := h.gr
 refine ⟨ownFrom_St (fun _ => its) hB (fun _ => hc) s W W' row h.st hg hr, ⟨n, D, F, h1, h2.other hg ?_ ?_, h3⟩, Nat.le_trans h.hi hg.size⟩
 · intro e
   have := (hr b e.symm).1
   omega
 · intro z hz
   cases hv : (F z).ownBlock with
   | none => exact .inl rfl
   | some j =>
    refine .inr fun e => ?_
    obtain ⟨_, o, ho, hoc⟩ := hr j e.symm
    rcases (h2.row z hz).2 with ⟨e1, _⟩ | ⟨g, cap, cur, e1, _, hgg, _⟩
    · rw [e1] at hv; cases hv
    · rw [e1] at hv
      obtain rfl : g = j := by simpa [Value.ownBlock] using hv
      rw [hgg] at ho
      cases ho
      cases hoc
/-- A put. -/
theorem GrS.put {w0 w : World} {its : List It} {bs : List Nat} {base b pr : Nat} {L : List SpT} (h : GrS w0 its bs base b L w) (s : SpT) (hy : inK s.y) (hL : L.length < 100000000) (hpr : .blk pr (.cells #[.map (some b)] 131 (0, 0)) ∈ its) (hpb : pr < base ∧ pr ≠ b)
 (hb0 : w0.heap.size ≤ b) (hbase : w0.heap.size ≤ base) (hits : ∀ i ∈ its, i.free (fun k => k = b ∨ base ≤ k)) (hbs : ∀ c ∈ bs, c ≠ b ∧ c < w.heap.size) :
 Calls Tryz.prog 90 #[.pointer (some ⟨pr, 0, none⟩), s.val] w fun e w' => e = .returned (.tuple #[]) ∧ GrS w0 its bs base b (L ++ [s]) w' ∧ KeepsAt bs w w' ∧ w.heap.size ≤ w'.heap.size ∧
  (∀ (k : Nat) (o : Obj), k ≠ b → w.heap[k]? = some o → o.isCells = false → w'.heap[k]? = some o) ∧ (∀ (k : Nat) (o : Obj), k ≠ b → w.heap[k]? = some o → (∀ cur, o ≠ .cells cur 60 (0, 0)) → w'.heap[k]? = some o) := by
 obtain ⟨n, D, F, h1, h2, h3⟩ := h.gr
 have hown : ∀ k, (F s.y).ownBlock = some k → base ≤ k := fun k hk => (h3 _ hy k hk).1
 refine (put_any s hy pr base b n D F L (by omega) (by omega) w h2 h.hi (h.st.ok _ hpr) (fun e => by have := hown _ e; omega) hpb.2).mono ?_
 rintro e w' ⟨rfl, v', D', hgr, hloc, ht⟩
 have ht' : Turned (fun k => k = b ∨ base ≤ k) w w' := ht.mono fun k _ hk => hk.imp id (hown k)
 have hcl : ∀ k, (F s.y).ownBlock = some k → ∃ cur, w.heap[k]? = some (.cells cur 60 (0, 0)) := fun k hk => by
  rcases (h2.row _ hy).2 with ⟨e1, _⟩ | ⟨g, cap, cur, e1, _, hgg, _⟩
  · rw [e1] at hk; cases hk
  · rw [e1] at hk
    obtain rfl : g = k := by simpa [Value.ownBlock] using hk
    exact ⟨cur, hgg⟩
 refine ⟨rfl, ⟨h.st.turned ht' (fun k hk => by rcases hk with rfl | hk; exact hb0; omega) hits, ⟨n + 1, D', _, by simp; omega, hgr, fun z hz j hj => ?_⟩, Nat.le_trans h.hi ht.size⟩, fun c hc => ?_, ht.size, fun k o hkb hk ho => ?_, fun k o hkb hk ho => ?_⟩
 · by_cases e : z = s.y
   · subst e
     simp only [if_true] at hj
     rcases hloc with hl | ⟨g, hl, hge⟩
     · rw [hl] at hj; exact h3 _ hz j hj
     · rw [hl] at hj; cases hj
       exact ⟨by have := h.hi; omega, fun hm => by have := (hbs _ hm).2; omega⟩
   · simp only [if_neg e] at hj; exact h3 _ hz j hj
 · exact ht.block c (hbs c hc).2 (fun hs => by
    rcases hs with e | e
    · exact (hbs c hc).1 e
    · exact (h3 _ hy c e).2 hc)
 · refine (ht.block k (b7t hk) (fun hs => ?_)).trans hk
   rcases hs with e | e
   · exact hkb e
   · obtain ⟨cur, hcur⟩ := hcl k e
     rw [hcur] at hk; cases hk; cases ho
 · refine (ht.block k (b7t hk) (fun hs => ?_)).trans hk
   rcases hs with e | e
   · exact hkb e
   · obtain ⟨cur, hcur⟩ := hcl k e
     rw [hcur] at hk; cases hk; exact ho cur rfl
end Go.Proofs.YthcdkkmjnglmjaaGreatDoor
