/- Merged texts: ShW SwA. -/
import Derived.Test.YthcdkkmjnglmjaaGreatDoorM7
import Derived.Test.YthcdkkmjnglmjaaGreatDoorM5
set_option linter.unusedSimpArgs false
set_option linter.unusedVariables false
/- Layer 6: about. -/
namespace Go.Proofs.YthcdkkmjnglmjaaGreatDoor
open Go.RowKit Go.Shelf
attribute [local go_sem] Oper.semAt_some
/-- How wide a brush is at a distance, at most k - 1. -/
def wideG (size : Int) (round : Bool) (dy : Int) : Nat → Option Nat
 | 0 => none
 | k + 1 => if inSize size round (k : Int) dy = true then some k else wideG size round dy k
def aboutRow (c : PtT) (size : Int) (round : Bool) (dy : Int) : List SpT := (wideG size round dy (size.toNat + 1)).toList.map fun (w : Nat) => ⟨c.y + dy, c.x - (w : Int), c.x + (w : Int)⟩
def aboutTo (c : PtT) (size : Int) (round : Bool) (k : Nat) : List SpT := (List.range k).flatMap fun (i : Nat) => aboutRow c size round (-size + (i : Int))
def aboutL (c : PtT) (size : Int) (round : Bool) : List SpT := aboutTo c size round (2 * size + 1).toNat
theorem aboutTo_succ (c : PtT) (size : Int) (round : Bool) (k : Nat) : aboutTo c size round (k + 1) = aboutTo c size round k ++ aboutRow c size round (-size + (k : Int)) := by
 unfold aboutTo
 rw [List.range_succ, List.flatMap_append]
 simp
theorem aboutTo_prefix (c : PtT) (size : Int) (round : Bool) : ∀ (k m : Nat), k ≤ m → aboutTo c size round k <+: aboutTo c size round m
 | k, m, h => by
  induction m with
  | zero =>
   obtain rfl : k = 0 := by omega
   exact List.prefix_refl _
  | succ m ih =>
   rcases Nat.lt_or_ge k (m + 1) with h1 | h1
   · rw [aboutTo_succ]
     exact (ih (by omega)).trans (List.prefix_append _ _)
   · obtain rfl : k = m + 1 := by omega
     exact List.prefix_refl _
theorem about_at {c : PtT} {size : Int} {round : Bool} {k w : Nat} (hk : k < (2 * size + 1).toNat) (hw : wideG size round (-size + (k : Int)) (size.toNat + 1) = some w) :
 (aboutL c size round)[(aboutTo c size round k).length]? = some ⟨c.y + (-size + (k : Int)), c.x - (w : Int), c.x + (w : Int)⟩ ∧ (aboutTo c size round (k + 1)).length = (aboutTo c size round k).length + 1 := by
 have e := aboutTo_succ c size round k
 unfold aboutRow at e
 rw [hw] at e
 simp only [Option.toList_some, List.map_cons, List.map_nil] at e
 refine ⟨?_, by rw [e]; simp⟩
 have hp := aboutTo_prefix c size round (k + 1) _ hk
 obtain ⟨rest, hr⟩ := hp
 unfold aboutL
 rw [← hr, e, List.append_assoc, List.getElem?_append_right (Nat.le_refl _), Nat.sub_self]
 rfl
theorem about_none {c : PtT} {size : Int} {round : Bool} {k : Nat} (hw : wideG size round (-size + (k : Int)) (size.toNat + 1) = none) : (aboutTo c size round (k + 1)).length = (aboutTo c size round k).length := by
 rw [aboutTo_succ]
 unfold aboutRow
 rw [hw]
 simp
theorem wideG_lt {size : Int} {round : Bool} {dy : Int} : ∀ {k w : Nat}, wideG size round dy k = some w → w < k
 | k + 1, w, h => by
  unfold wideG at h
  split at h
  · cases h; omega
  · have := wideG_lt h; omega
set_option maxRecDepth 100000 in
set_option maxHeartbeats 1000000 in
theorem about1_walk (n : Nat) (hn : 1 ≤ n) (L Bz Bi Bc Br Bq : Nat) (bs : List Nat) (size : Int) (hs1 : 0 ≤ size) (hs2 : size ≤ 15) (round : Bool) (c : PtT) (hc : (-64 ≤ c.x ∧ c.x ≤ 127) ∧ (-64 ≤ c.y ∧ c.y ≤ 127))
 (J Jx : List (Fin (aboutL c size round).length) → World → Prop) (hJd : ∀ pre x y, J pre x → Below x.heap.size x y → J pre y) (hb : Bz ∈ bs ∧ Bi ∈ bs ∧ Bc ∈ bs ∧ Br ∈ bs ∧ Bq ∈ bs)
 (hY : ∀ pre x W, J pre W → pre.length < (aboutL c size round).length → YieldAt Fence.wide (n - 1) Tryz.prog L #[((aboutL c size round)[x.1]).val] W fun e W' =>
  (e = .returned (.bool true) ∧ J (pre ++ [x]) W' ∧ KeepsAt bs W W') ∨ (e = .returned (.bool false) ∧ Jx (pre ++ [x]) W'))
 (W : World) (hBs : ∀ c ∈ bs, c < W.heap.size) (hz : W.cell? ⟨Bz, 0, none⟩ = some (.int .i64 size)) (hi : W.cell? ⟨Bi, 0, none⟩ = some (.func (.func 95) #[] #[.pointer (some ⟨Br, 0, none⟩), .pointer (some ⟨Bq, 0, none⟩)]))
 (hc0 : W.cell? ⟨Bc, 0, none⟩ = some (.int .i64 c.x)) (hc1 : W.cell? ⟨Bc, 1, none⟩ = some (.int .i64 c.y)) (hr : W.cell? ⟨Br, 0, none⟩ = some (.bool round)) (hq : W.cell? ⟨Bq, 0, none⟩ = some (.int .i64 size)) (h0 : J [] W) :
 CallsIn Fence.wide n Tryz.prog 114 #[.func (.yield L) #[] #[], .pointer (some ⟨Bz, 0, none⟩), .pointer (some ⟨Bi, 0, none⟩), .pointer (some ⟨Bc, 0, none⟩)] W fun e W' => (∃ v, e = .returned v) ∧
  ((∃ ys, ys = List.finRange (aboutL c size round).length ∧ J ys W') ∨ (∃ pre, pre <+: List.finRange (aboutL c size round).length ∧ Jx pre W')) := by
 have HY := H7 hY
 have HSZ := H7 (And.intro hs1 hs2)
 have HCC := H7 hc
 have HD := H7 hJd
 have HK : Hid (∀ wr, KeepsAt bs W wr → (wr.cell? ⟨Bz, 0, none⟩ = some (.int .i64 size) ∧ wr.cell? ⟨Bi, 0, none⟩ = some (.func (.func 95) #[] #[.pointer (some ⟨Br, 0, none⟩), .pointer (some ⟨Bq, 0, none⟩)])) ∧ (wr.cell? ⟨Bc, 0, none⟩ = some (.int .i64 c.x) ∧ wr.cell? ⟨Bc, 1, none⟩ = some (.int .i64 c.y)) ∧ wr.cell? ⟨Br, 0, none⟩ = some (.bool round) ∧ wr.cell? ⟨Bq, 0, none⟩ = some (.int .i64 size)) :=
  H7 fun wr hk => ⟨⟨cell_keepsAt hz hb.1 hk, cell_keepsAt hi hb.2.1 hk⟩, ⟨cell_keepsAt hc0 hb.2.2.1 hk, cell_keepsAt hc1 hb.2.2.1 hk⟩, cell_keepsAt hr hb.2.2.2.1 hk, cell_keepsAt hq hb.2.2.2.2 hk⟩
 have HBL := H7 (fun (x y : World) (hk : KeepsAt bs W x) (hb : Below x.heap.size x y) => hk.trans (KeepsAt.of_below hb (keepsAt_lt hk hBs)))
 have HJ0 := H7 h0
 have HAT := H7 (fun k w hk hw => about_at (c := c) (size := size) (round := round) (k := k) (w := w) hk hw)
 have HNO := H7 (fun k hw => about_none (c := c) (size := size) (round := round) (k := k) hw)
 have HLN := H7 (show (aboutTo c size round (2 * size + 1).toNat).length = (aboutL c size round).length from rfl)
 obtain ⟨A, hA⟩ : ∃ A, aboutL c size round = A := ⟨_, rfl⟩
 obtain ⟨pp, hpp⟩ : ∃ pp : Nat → Nat, (fun k => (aboutTo c size round k).length) = pp := ⟨_, rfl⟩
 have hpp' : ∀ k, (aboutTo c size round k).length = pp k := fun k => by rw [← hpp]
 have hp0 : pp 0 = 0 := by rw [← hpp]; rfl
 subst hA
 simp only [hpp'] at HAT HNO HLN
 have HP0 := H7 hp0
 obtain ⟨cx, cy⟩ := c
 simp only at *
 clear hY hs1 hs2 hc hJd hb hz hi hc0 hc1 hr hq h0 hBs hpp hpp' hp0
 refine callsIn_of_wp Tryz.func114 rfl trivial ?_ rfl
 simp only [Tryz.ntmps114, List.size_toArray, List.length_cons, List.length_nil, Nat.reduceAdd, Nat.reduceSub, Array.replicate_succ, Array.replicate_zero, List.push_toArray, List.append_toArray, List.nil_append, List.cons_append]
 gi_wp2
 apply wpIn_scope
 have z0 := (HK.out W (KeepsAt.refl _ _)).1.1
 have wneg : wrap64 (-size) = -size := by have := HSZ.out; unfold wrap64; omega
 gi_wp2
 apply wpIn_label
 gi_wp2
 try rw [wneg]
 clear z0 wneg
 gi_loopw [5] (fun y wr => ∃ k : Nat, k ≤ (2 * size + 1).toNat ∧ y = .int .i64 (-size + (k : Int)) ∧ J (firsts _ (pp k)) wr ∧ KeepsAt bs W wr) (fun y _ => (size + 1 - intOf y).toNat)
 case atStart => exact ⟨0, by omega, by simp, by rw [HP0.out]; exact HJ0.out, KeepsAt.refl _ _⟩
 case round =>
  obtain ⟨k, hk, rfl, hj, hks⟩ := hrel
  clear HJ0 HP0
  have HJ := H7 hj
  have HKS := H7 hks
  have z0 := (HK.out wr hks).1.1
  clear hj hks
  by_cases hlt : -size + (k : Int) ≤ size
  · have HLT := H7 hlt
    have hkn : k < (2 * size + 1).toNat := by omega
    have HKN := H7 hkn
    have e3 : wrap64 (-size + (k : Int) + 1) = -size + ((k + 1 : Nat) : Int) := by have := HSZ.out; unfold wrap64; omega
    gi_wp2
    clear z0
    gi_loopw [6] (fun x wi => ∃ (xi : Int) (j : Nat), x = .int .i64 xi ∧ xi = (j : Int) - 1 ∧ xi ≤ size ∧ wideG size round (-size + (k : Int)) (size.toNat + 1) = wideG size round (-size + (k : Int)) j ∧ J (firsts _ (pp k)) wi ∧ KeepsAt bs W wi) (fun x _ => (intOf x + 1).toNat)
    case atStart => exact ⟨size, size.toNat + 1, rfl, by have := HSZ.out; omega, by omega, rfl, HJ.out, HKS.out⟩
    case round =>
     obtain ⟨xi, j, rfl, hxj, hxs, hwg, hj, hks⟩ := hrel
     clear HJ HKS
     have HJ := H7 hj
     have HKS := H7 hks
     have HWG := H7 hwg
     have HXJ := H7 hxj
     have HXS := H7 hxs
     obtain ⟨⟨z0, i0⟩, ⟨c0, c1⟩, r0, q0⟩ := HK.out wr hks
     clear hj hks hwg hxj hxs
     by_cases hge : 0 ≤ xi
     · obtain ⟨v, rfl⟩ := Int.eq_ofNat_of_zero_le hge
       have hjv : j = v + 1 := by have := HXJ.out; omega
       subst hjv
       have HIN := H7 (sweep2_any (v : Int) (-size + (k : Int)) size round Br Bq (by omega) (by have := HXS.out; have := HSZ.out; omega) (by have := HSZ.out; omega) (by have := HSZ.out; have := HLT.out; omega) (by have := HSZ.out; omega) (by have := HSZ.out; omega) wr r0 q0)
       obtain ⟨ib, hib⟩ : ∃ ib, inSize size round (v : Int) (-size + (k : Int)) = ib := ⟨_, rfl⟩
       rw [hib] at HIN
       have HIB := H7 hib
       clear hib c0 c1 r0 q0 z0
       gi_wp2_with fail
       refine (callsIn_wide.2 HIN.out).mono ?_
       rintro e w3 ⟨rfl, hb_⟩
       have HJ := H7 (HD.out _ _ _ HJ.out hb_)
       have HKS := H7 (HBL.out _ _ HKS.out hb_)
       clear hb_ HIN i0
       cases ib
       · have hw2 : wideG size round (-size + (k : Int)) (size.toNat + 1) = wideG size round (-size + (k : Int)) v := by
          rw [HWG.out]
          conv => lhs; unfold wideG
          rw [if_neg (by rw [HIB.out]; simp)]
         have HW2 := H7 hw2
         have e4 : wrap64 ((v : Int) - 1) = (v : Int) - 1 := by have := HXS.out; have := HSZ.out; unfold wrap64; omega
         clear hw2
         gi_wp2
         go_roundw
         case rel => exact ⟨(v : Int) - 1, v, by first | rw [e4] | rfl, rfl, by have := HXS.out; omega, HW2.out, HJ.out, HKS.out⟩
         case measure => (try rw [e4]); simp [intOf] <;> omega
       · have hw2 : wideG size round (-size + (k : Int)) (size.toNat + 1) = some v := by
          rw [HWG.out]
          conv => lhs; unfold wideG
          rw [if_pos HIB.out]
         obtain ⟨hat, hnx⟩ := HAT.out k v HKN.out hw2
         have hpl := (List.getElem?_eq_some_iff.1 hat).1
         obtain ⟨⟨z0, i0⟩, ⟨c0, c1⟩, r0, q0⟩ := HK.out w3 HKS.out
         obtain ⟨fn, tmps, assign, body, hy, hR⟩ := HY.out _ (⟨pp k, hpl⟩ : Fin _) w3 HJ.out (by rw [firsts_length (by omega)]; exact hpl)
         have he : (aboutL ⟨cx, cy⟩ size round)[pp k] = _ := (List.getElem?_eq_some_iff.1 hat).2
         simp only [he, SpT.val] at hy
         have hs := firsts_succ (N := (aboutL ⟨cx, cy⟩ size round).length) (k := pp k) hpl
         rw [hs, ← hnx] at hR
         have w1 : wrap64 (cy + (-size + (k : Int))) = cy + (-size + (k : Int)) := by have := HCC.out; have := HSZ.out; have := HLT.out; unfold wrap64; omega
         have w2 : wrap64 (cx - (v : Int)) = cx - (v : Int) := by have := HCC.out; have := HSZ.out; have := HXS.out; unfold wrap64; omega
         have w3' : wrap64 (cx + (v : Int)) = cx + (v : Int) := by have := HCC.out; have := HSZ.out; have := HXS.out; unfold wrap64; omega
         clear hat hnx hs he hpl hw2 z0 i0 r0 q0
         gi_wp2
         refine hR.mono ?_
         rintro e w4 (⟨rfl, hJ4, hk4⟩ | ⟨rfl, hJx⟩)
         · have HJ4 := H7 hJ4
           have HK4 := H7 (HKS.out.trans hk4)
           clear hJ4 hk4 c0 c1 w1 w2 w3'
           gi_wp2
           go_roundw
           case rel => exact ⟨k + 1, HKN.out, by first | rw [e3] | rfl, HJ4.out, HK4.out⟩
           case measure => (try rw [e3]); have := HLT.out; simp [intOf]; omega
         · have HJ3 := H7 hJx
           clear hJx
           gi_wp2; rw [Exit.noGoto_normal]
           go_end0
           exact ⟨⟨_, rfl⟩, .inr ⟨_, firsts_prefix _ _, HJ3.out⟩⟩
     · have hj0 : j = 0 := by have := HXJ.out; omega
       subst hj0
       have hn2 := HNO.out k HWG.out
       have HJ := H7 (show J (firsts _ (pp (k + 1))) wr by rw [hn2]; exact HJ.out)
       clear hn2 z0 i0 c0 c1 r0 q0
       gi_wp2
       go_roundw
       case rel => exact ⟨k + 1, HKN.out, by first | rw [e3] | rfl, HJ.out, HKS.out⟩
       case measure => (try rw [e3]); have := HLT.out; simp [intOf]; omega
  · have hkn : k = (2 * size + 1).toNat := by have := HSZ.out; omega
    subst hkn
    have HJF := H7 (show J (List.finRange _) wr by have := HJ.out; rwa [HLN.out, firsts_all] at this)
    clear hk
    gi_wp2
    try rw [Exit.noGoto_normal]
    go_end0
    exact ⟨⟨_, rfl⟩, .inl ⟨_, rfl, HJF.out⟩⟩
theorem about_iter (w : World) (Bz Bi Bc Br Bq : Nat) (bs : List Nat) (size : Int) (hs1 : 0 ≤ size) (hs2 : size ≤ 15) (round : Bool) (c : PtT) (hc : (-64 ≤ c.x ∧ c.x ≤ 127) ∧ (-64 ≤ c.y ∧ c.y ≤ 127)) (A : List SpT) (hA : aboutL c size round = A) (hb : Bz ∈ bs ∧ Bi ∈ bs ∧ Bc ∈ bs ∧ Br ∈ bs ∧ Bq ∈ bs) (hBs : ∀ c ∈ bs, c < w.heap.size)
 (hz : w.cell? ⟨Bz, 0, none⟩ = some (.int .i64 size)) (hi : w.cell? ⟨Bi, 0, none⟩ = some (.func (.func 95) #[] #[.pointer (some ⟨Br, 0, none⟩), .pointer (some ⟨Bq, 0, none⟩)]))
 (hc0 : w.cell? ⟨Bc, 0, none⟩ = some (.int .i64 c.x)) (hc1 : w.cell? ⟨Bc, 1, none⟩ = some (.int .i64 c.y)) (hr : w.cell? ⟨Br, 0, none⟩ = some (.bool round)) (hq : w.cell? ⟨Bq, 0, none⟩ = some (.int .i64 size)) :
 Iter Tryz.prog 114 #[.pointer (some ⟨Bz, 0, none⟩), .pointer (some ⟨Bi, 0, none⟩), .pointer (some ⟨Bc, 0, none⟩)] A.length (fun i => #[(A[i.1]).val]) bs w := by
 subst hA
 intro n hn1 L J Jx W hW hJ _ hY h0
 exact about1_walk n hn1 L Bz Bi Bc Br Bq bs size hs1 hs2 round c hc J Jx (fun pre x y h hb => hJ pre x y none h (below_grown hb) (by simp)) hb hY W (fun c hc => Nat.lt_of_lt_of_le (hBs c hc) hW.size)
  ((hW.cell (p := ⟨Bz, 0, none⟩) (hBs _ hb.1)).trans hz) ((hW.cell (p := ⟨Bi, 0, none⟩) (hBs _ hb.2.1)).trans hi) ((hW.cell (p := ⟨Bc, 0, none⟩) (hBs _ hb.2.2.1)).trans hc0) ((hW.cell (p := ⟨Bc, 1, none⟩) (hBs _ hb.2.2.1)).trans hc1)
  ((hW.cell (p := ⟨Br, 0, none⟩) (hBs _ hb.2.2.2.1)).trans hr) ((hW.cell (p := ⟨Bq, 0, none⟩) (hBs _ hb.2.2.2.2)).trans hq) h0
end Go.Proofs.YthcdkkmjnglmjaaGreatDoor
/- Layer 6: what stays while rows grow; a range over an iterator whose value gets a box. -/
namespace Go.Proofs.YthcdkkmjnglmjaaGreatDoor
open Go.RowKit Go.Shelf Go.Maps
/-- A kept thing lies apart from S. -/
def It.free (S : Nat → Prop) : It → Prop
 | .blk p _ => ¬ S p
 | .row _ _ _ _ hi => ∀ k, S k → hi ≤ k
theorem St.turned {w0 x y : World} {its : List It} {S : Nat → Prop} (h : St w0 its x) (ht : Turned S x y) (h0 : ∀ k, S k → w0.heap.size ≤ k) (hf : ∀ i ∈ its, i.free S) : St w0 its y := by
 refine ⟨h.low.trans (ht.below h.low.size h0), fun i hi => ?_, h.ord, fun i hi => Nat.le_trans (h.top i hi) ht.size⟩
 have hok := h.ok i hi
 have hfi := hf i hi
 cases i with
 | blk p o => exact (ht.block p (b7t hok) hfi).trans hok
 | row v n size c hi' =>
  refine ⟨?_, hok.2⟩
  rcases hok.1 with e | ⟨b, off, cap, rfl, hlt, hc⟩
  · exact .inl e
  · refine .inr ⟨b, off, cap, rfl, Nat.lt_of_lt_of_le hlt ht.size, fun j hj => ?_⟩
    by_cases hn : n = 0
    · subst hn; omega
    · have hbb := (hok.2 _ _ _ rfl).resolve_left hn
      rw [← hc j hj]
      exact World.cell?_of_block (ht.block b hlt (fun hs => by have := hfi b hs; simp at hbb; omega))
/-- 'for x := range seq' over an iterator's contract, where the assignment lays a box. -/
theorem range_iterB {P : Program} {n : Nat} {g : Operand} {ps : Array Tmp} {assign body : Code} {Q : Exit → Act → World → Prop} {a : Act} {w : World}
 {gf : Nat} {lb : Array Value} {N : Nat} {bs : List Nat} {encs : Fin N → Array Value} {w0 : World} (hit : Iter P gf lb N encs bs w0) (hn : 2 ≤ n)
 (hg : a.eval g = .func (.func gf) #[] lb) (eg : ∀ args w, (callFunc gf args).run P w = .ok (.enter gf args) w)
 (hn0 : ∀ b ∈ bs, b < w.heap.size) (hb0 : Below w0.heap.size w0 w) (hps : ∀ x, (encs x).size = ps.size) (pargs : Fin N → List (Tmp × Value)) (hpa : ∀ x, (ps.zip (encs x)).toList = pargs x)
 (I : List (Fin N) → World → Prop) (Ix : Code → List (Fin N) → World → Prop) (hI : OwnFrom w.heap.size I) (hIx : ∀ c, OwnFrom w.heap.size (Ix c)) (h0 : I [] w)
 (Ax : Fin N → Act → World → Prop) (hAx : ∀ x a', OwnFrom w.heap.size (fun (_ : Unit) W => Ax x a' W))
 (hassign : ∀ (l : Nat) (pre : List (Fin N)) (x : Fin N) (W : World) (K : Act → World → Prop), I pre W → (∀ a' W', KeepsFrom w.heap.size W W' → KeepsAt bs W W' → I pre W' → Ax x a' W' → K a' W') →
  assign.wpIn (Fence.wide.inRound l) (n - 1 - 1) P (Exit.then K (fun _ _ _ => False)) (loopAct a (pargs x)) W)
 (hbody : ∀ (l : Nat) (pre : List (Fin N)) (x : Fin N) (a' : Act) (W : World), I pre W → Ax x a' W → pre.length < N → body.wpIn (Fence.wide.inRound l) (n - 1 - 1) P (ownPostG w.heap.size (KeepsAt bs) I Ix (pre ++ [x]) W) a' W)
 (hdone : ∀ (D : Nat) (W : World), w.heap.size ≤ D → I (List.finRange N) W → W.heap[D]? = some (.deferred (some [])) → Q .normal { a with defers := { target := .collected D, args := #[] } :: a.defers } W)
 (hstop : ∀ (D : Nat) (c : Code) (pre : List (Fin N)) (W : World), w.heap.size ≤ D → pre <+: List.finRange N → Ix c pre W → W.heap[D]? = some (.deferred (some [])) → c.wpIn Fence.wide n P Q { a with defers := { target := .collected D, args := #[] } :: a.defers } W) :
 (Code.rangeFunc g ps assign body).wpIn Fence.wide n P Q a w :=
 wpIn_rangeFunc_ownH rfl (by omega) hg trivial eg (hit (n - 1) (by omega)) (fun h k => h.trans k) (keepsAt_b hn0) hb0 hps I Ix hI hIx h0 Ax hAx (fun l pre x W K hI hK => by
  have h := hassign l pre x W K hI hK
  unfold loopAct at h
  rw [← Array.foldl_toList, hpa x]
  exact h) (fun l pre x a' W _ _ h1 h2 h3 => hbody l pre x a' W h1 h2 h3) (fun D xs W h h' e => by subst h'; exact hdone D W h e) hstop
theorem keepsFrom_below {B : Nat} {x y : World} (h : Below x.heap.size x y) : KeepsFrom B x y := (show KeepsOthers x y from ⟨h.size, fun j o hj _ => (h.block j (b7t hj)).trans hj⟩).from B
/-- The state of a call that puts spans into a map of rows; no row lies in a block of bs. -/
structure GrS (w0 : World) (its : List It) (bs : List Nat) (base b : Nat) (L : List SpT) (W : World) : Prop where
 st : St w0 its W
 gr : ∃ n D F, n ≤ L.length ∧ GrD W base b n D F (GrOf L) ∧ ∀ z, inK z → ∀ j, (F z).ownBlock = some j → base ≤ j ∧ j ∉ bs
 hi : base ≤ W.heap.size
theorem GrS.below {w0 x y : World} {its : List It} {bs : List Nat} {base b : Nat} {L : List SpT} (h : GrS w0 its bs base b L x) (hb : Below x.heap.size x y) : GrS w0 its bs base b L y := by
 obtain ⟨n, D, F, h1, h2, h3⟩ := h.gr
 exact ⟨h.st.below hb, ⟨n, D, F, h1, h2.kept hb, h3⟩, Nat.le_trans h.hi hb.size⟩
/-- Blocks that are there, and that no row uses, may be added. -/
theorem GrS.more {w0 x : World} {its : List It} {bs bs' : List Nat} {base b : Nat} {L : List SpT} (h : GrS w0 its bs base b L x) (hn : ∀ c ∈ bs', c ∈ bs ∨ c < base ∨ ∃ y : World, y.heap.size ≤ c ∧ ∀ n D F, GrD x base b n D F (GrOf L) → (∀ z, inK z → ∀ j, (F z).ownBlock = some j → j < y.heap.size)) : GrS w0 its bs' base b L x := by
 obtain ⟨n, D, F, h1, h2, h3⟩ := h.gr
 refine ⟨h.st, ⟨n, D, F, h1, h2, fun z hz j hj => ⟨(h3 z hz j hj).1, fun hm => ?_⟩⟩, h.hi⟩
 rcases hn j hm with h4 | h4 | ⟨y, h4, h5⟩
 · exact (h3 z hz j hj).2 h4
 · have := (h3 z hz j hj).1; omega
 · have := h5 n D F h2 z hz j hj; omega
theorem GrS.fresh {w0 x y : World} {its : List It} {base b : Nat} {L : List SpT} (h : GrS w0 its [] base b L x) (hb : Below x.heap.size x y) (bs : List Nat) (hbs : ∀ c ∈ bs, c < base ∨ x.heap.size ≤ c) : GrS w0 its bs base b L y := by
 obtain ⟨n, D, F, h1, h2, h3⟩ := h.gr
 refine ⟨h.st.below hb, ⟨n, D, F, h1, h2.kept hb, fun z hz j hj => ⟨(h3 z hz j hj).1, fun hm => ?_⟩⟩, Nat.le_trans h.hi hb.size⟩
 have h4 := (h2.row z hz).lt j hj
 rcases hbs j hm with h5 | h5 <;> omega
theorem GrS.forget {w0 x : World} {its : List It} {bs : List Nat} {base b : Nat} {L : List SpT} (h : GrS w0 its bs base b L x) : GrS w0 its [] base b L x := by
 obtain ⟨n, D, F, h1, h2, h3⟩ := h.gr
 exact ⟨h.st, ⟨n, D, F, h1, h2, fun z hz j hj => ⟨(h3 z hz j hj).1, by simp⟩⟩, h.hi⟩
/-- It abides an iterator. -/
theorem ownFrom_GrS {β : Type} {B : Nat} {w0 : World} {its : List It} {bs : List Nat} {base b : Nat} (L : β → List SpT) (hB : w0.heap.size ≤ B) (hbB : b < B) (hc : ∀ b o, .blk b o ∈ its → o.isCells = true) : OwnFrom B (fun s W => GrS w0 its bs base b (L s) W) := by
 intro s W W' row h hg hr
 obtain ⟨n, D, F, h1, h2, h3⟩ := h.gr
 refine ⟨ownFrom_St (fun _ => its) hB (fun _ => hc) s W W' row h.st hg hr, ⟨n, D, F, h1, h2.other hg ?_ ?_, h3⟩, Nat.le_trans h.hi hg.size⟩
 · intro e
   have := (hr b e.symm).1
   omega
 · intro z hz
   cases hv : (F z).ownBlock with
   | none => exact .inl rfl
   | some j =>
    refine .inr fun e => ?_
    obtain ⟨_, o, ho, hoc⟩ := hr j e.symm
    rcases (h2.row z hz).2 with ⟨e1, _⟩ | ⟨g, cap, cur, e1, _, hgg, _⟩
    · rw [e1] at hv; cases hv
    · rw [e1] at hv
      obtain rfl : g = j := by simpa [Value.ownBlock] using hv
      rw [hgg] at ho
      cases ho
      cases hoc
/-- A put. -/
theorem GrS.put {w0 w : World} {its : List It} {bs : List Nat} {base b pr : Nat} {L : List SpT} (h : GrS w0 its bs base b L w) (s : SpT) (hy : inK s.y) (hL : L.length < 100000000) (hpr : .blk pr (.cells #[.map (some b)] 131 (0, 0)) ∈ its) (hpb : pr < base ∧ pr ≠ b)
 (hb0 : w0.heap.size ≤ b) (hbase : w0.heap.size ≤ base) (hits : ∀ i ∈ its, i.free (fun k => k = b ∨ base ≤ k)) (hbs : ∀ c ∈ bs, c ≠ b ∧ c < w.heap.size) :
 Calls Tryz.prog 90 #[.pointer (some ⟨pr, 0, none⟩), s.val] w fun e w' => e = .returned (.tuple #[]) ∧ GrS w0 its bs base b (L ++ [s]) w' ∧ KeepsAt bs w w' ∧ w.heap.size ≤ w'.heap.size ∧
  (∀ (k : Nat) (o : Obj), k ≠ b → w.heap[k]? = some o → o.isCells = false → w'.heap[k]? = some o) ∧ (∀ (k : Nat) (o : Obj), k ≠ b → w.heap[k]? = some o → (∀ cur, o ≠ .cells cur 60 (0, 0)) → w'.heap[k]? = some o) := by
 obtain ⟨n, D, F, h1, h2, h3⟩ := h.gr
 have hown : ∀ k, (F s.y).ownBlock = some k → base ≤ k := fun k hk => (h3 _ hy k hk).1
 refine (put_any s hy pr base b n D F L (by omega) (by omega) w h2 h.hi (h.st.ok _ hpr) (fun e => by have := hown _ e; omega) hpb.2).mono ?_
 rintro e w' ⟨rfl, v', D', hgr, hloc, ht⟩
 have ht' : Turned (fun k => k = b ∨ base ≤ k) w w' := ht.mono fun k _ hk => hk.imp id (hown k)
 have hcl : ∀ k, (F s.y).ownBlock = some k → ∃ cur, w.heap[k]? = some (.cells cur 60 (0, 0)) := fun k hk => by
  rcases (h2.row _ hy).2 with ⟨e1, _⟩ | ⟨g, cap, cur, e1, _, hgg, _⟩
  · rw [e1] at hk; cases hk
  · rw [e1] at hk
    obtain rfl : g = k := by simpa [Value.ownBlock] using hk
    exact ⟨cur, hgg⟩
 refine ⟨rfl, ⟨h.st.turned ht' (fun k hk => by rcases hk with rfl | hk; exact hb0; omega) hits, ⟨n + 1, D', _, by simp; omega, hgr, fun z hz j hj => ?_⟩, Nat.le_trans h.hi ht.size⟩, fun c hc => ?_, ht.size, fun k o hkb hk ho => ?_, fun k o hkb hk ho => ?_⟩
 · by_cases e : z = s.y
   · subst e
     simp only [if_true] at hj
     rcases hloc with hl | ⟨g, hl, hge⟩
     · rw [hl] at hj; exact h3 _ hz j hj
     · rw [hl] at hj; cases hj
       exact ⟨by have := h.hi; omega, fun hm => by have := (hbs _ hm).2; omega⟩
   · simp only [if_neg e] at hj; exact h3 _ hz j hj
 · exact ht.block c (hbs c hc).2 (fun hs => by
    rcases hs with e | e
    · exact (hbs c hc).1 e
    · exact (h3 _ hy c e).2 hc)
 · refine (ht.block k (b7t hk) (fun hs => ?_)).trans hk
   rcases hs with e | e
   · exact hkb e
   · obtain ⟨cur, hcur⟩ := hcl k e
     rw [hcur] at hk; cases hk; cases ho
 · refine (ht.block k (b7t hk) (fun hs => ?_)).trans hk
   rcases hs with e | e
   · exact hkb e
   · obtain ⟨cur, hcur⟩ := hcl k e
     rw [hcur] at hk; cases hk; exact ho cur rfl
end Go.Proofs.YthcdkkmjnglmjaaGreatDoor
