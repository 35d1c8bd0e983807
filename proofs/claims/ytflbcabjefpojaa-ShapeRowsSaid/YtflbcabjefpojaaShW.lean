/- Layer 6: about. -/
import Derived.Test.YtflbcabjefpojaaShN
import Derived.Test.YtflbcabjefpojaaShI
namespace Go.Proofs.Ytflbcabjefpojaa
set_option linter.unusedSimpArgs false
set_option linter.unusedVariables false
open Go.RowKit Go.Shelf
attribute [local go_sem] Oper.semAt_some

/-- How wide a brush is at a distance, at most k - 1. -/
def wideG (size : Int) (round : Bool) (dy : Int) : Nat → Option Nat
  | 0 => none
  | k + 1 => if inSize size round (k : Int) dy = true then some k else wideG size round dy k
def aboutRow (c : PtT) (size : Int) (round : Bool) (dy : Int) : List SpT := (wideG size round dy (size.toNat + 1)).toList.map fun (w : Nat) => ⟨c.y + dy, c.x - (w : Int), c.x + (w : Int)⟩
def aboutTo (c : PtT) (size : Int) (round : Bool) (k : Nat) : List SpT := (List.range k).flatMap fun (i : Nat) => aboutRow c size round (-size + (i : Int))
def aboutL (c : PtT) (size : Int) (round : Bool) : List SpT := aboutTo c size round (2 * size + 1).toNat
theorem aboutTo_succ (c : PtT) (size : Int) (round : Bool) (k : Nat) : aboutTo c size round (k + 1) = aboutTo c size round k ++ aboutRow c size round (-size + (k : Int)) := by
  unfold aboutTo
  rw [List.range_succ, List.flatMap_append]
  simp
theorem aboutTo_prefix (c : PtT) (size : Int) (round : Bool) : ∀ (k m : Nat), k ≤ m → aboutTo c size round k <+: aboutTo c size round m
  | k, m, h => by
    induction m with
    | zero => obtain rfl : k = 0 := by omega
              exact List.prefix_refl _
    | succ m ih =>
      rcases Nat.lt_or_ge k (m + 1) with h1 | h1
      · rw [aboutTo_succ]
        exact (ih (by omega)).trans (List.prefix_append _ _)
      · obtain rfl : k = m + 1 := by omega
        exact List.prefix_refl _
theorem about_at {c : PtT} {size : Int} {round : Bool} {k w : Nat} (hk : k < (2 * size + 1).toNat) (hw : wideG size round (-size + (k : Int)) (size.toNat + 1) = some w) :
    (aboutL c size round)[(aboutTo c size round k).length]? = some ⟨c.y + (-size + (k : Int)), c.x - (w : Int), c.x + (w : Int)⟩ ∧ (aboutTo c size round (k + 1)).length = (aboutTo c size round k).length + 1 := by
  have e := aboutTo_succ c size round k
  unfold aboutRow at e
  rw [hw] at e
  simp only [Option.toList_some, List.map_cons, List.map_nil] at e
  refine ⟨?_, by rw [e]; simp⟩
  have hp := aboutTo_prefix c size round (k + 1) _ hk
  obtain ⟨rest, hr⟩ := hp
  unfold aboutL
  rw [← hr, e, List.append_assoc, List.getElem?_append_right (Nat.le_refl _), Nat.sub_self]
  rfl
theorem about_none {c : PtT} {size : Int} {round : Bool} {k : Nat} (hw : wideG size round (-size + (k : Int)) (size.toNat + 1) = none) : (aboutTo c size round (k + 1)).length = (aboutTo c size round k).length := by
  rw [aboutTo_succ]
  unfold aboutRow
  rw [hw]
  simp
theorem wideG_lt {size : Int} {round : Bool} {dy : Int} : ∀ {k w : Nat}, wideG size round dy k = some w → w < k
  | k + 1, w, h => by
    unfold wideG at h
    split at h
    · cases h; omega
    · have := wideG_lt h; omega

set_option maxRecDepth 100000 in
set_option maxHeartbeats 1000000 in
theorem about1_walk (n : Nat) (hn : 1 ≤ n) (L Bz Bi Bc Br Bq : Nat) (bs : List Nat) (size : Int) (hs1 : 0 ≤ size) (hs2 : size ≤ 15) (round : Bool) (c : PtT) (hc : (-64 ≤ c.x ∧ c.x ≤ 127) ∧ (-64 ≤ c.y ∧ c.y ≤ 127))
    (J Jx : List (Fin (aboutL c size round).length) → World → Prop) (hJd : ∀ pre x y, J pre x → Below x.heap.size x y → J pre y) (hb : Bz ∈ bs ∧ Bi ∈ bs ∧ Bc ∈ bs ∧ Br ∈ bs ∧ Bq ∈ bs)
    (hY : ∀ pre x W, J pre W → pre.length < (aboutL c size round).length → YieldAt Fence.wide (n - 1) Try.prog L #[((aboutL c size round)[x.1]).val] W fun e W' =>
      (e = .returned (.bool true) ∧ J (pre ++ [x]) W' ∧ KeepsAt bs W W') ∨ (e = .returned (.bool false) ∧ Jx (pre ++ [x]) W'))
    (W : World) (hBs : ∀ c ∈ bs, c < W.heap.size) (hz : W.cell? ⟨Bz, 0, none⟩ = some (.int .i64 size)) (hi : W.cell? ⟨Bi, 0, none⟩ = some (.func (.func 39) #[] #[.pointer (some ⟨Br, 0, none⟩), .pointer (some ⟨Bq, 0, none⟩)]))
    (hc0 : W.cell? ⟨Bc, 0, none⟩ = some (.int .i64 c.x)) (hc1 : W.cell? ⟨Bc, 1, none⟩ = some (.int .i64 c.y)) (hr : W.cell? ⟨Br, 0, none⟩ = some (.bool round)) (hq : W.cell? ⟨Bq, 0, none⟩ = some (.int .i64 size)) (h0 : J [] W) :
    CallsIn Fence.wide n Try.prog 58 #[.func (.yield L) #[] #[], .pointer (some ⟨Bz, 0, none⟩), .pointer (some ⟨Bi, 0, none⟩), .pointer (some ⟨Bc, 0, none⟩)] W fun e W' => (∃ v, e = .returned v) ∧
      ((∃ ys, ys = List.finRange (aboutL c size round).length ∧ J ys W') ∨ (∃ pre, pre <+: List.finRange (aboutL c size round).length ∧ Jx pre W')) := by
  have HY := Lib.hid hY
  have HSZ := Lib.hid (And.intro hs1 hs2)
  have HCC := Lib.hid hc
  have HD := Lib.hid hJd
  have HK : Hid (∀ wr, KeepsAt bs W wr → (wr.cell? ⟨Bz, 0, none⟩ = some (.int .i64 size) ∧ wr.cell? ⟨Bi, 0, none⟩ = some (.func (.func 39) #[] #[.pointer (some ⟨Br, 0, none⟩), .pointer (some ⟨Bq, 0, none⟩)])) ∧ (wr.cell? ⟨Bc, 0, none⟩ = some (.int .i64 c.x) ∧ wr.cell? ⟨Bc, 1, none⟩ = some (.int .i64 c.y)) ∧ wr.cell? ⟨Br, 0, none⟩ = some (.bool round) ∧ wr.cell? ⟨Bq, 0, none⟩ = some (.int .i64 size)) :=
    Lib.hid fun wr hk => ⟨⟨cell_keepsAt hz hb.1 hk, cell_keepsAt hi hb.2.1 hk⟩, ⟨cell_keepsAt hc0 hb.2.2.1 hk, cell_keepsAt hc1 hb.2.2.1 hk⟩, cell_keepsAt hr hb.2.2.2.1 hk, cell_keepsAt hq hb.2.2.2.2 hk⟩
  have HBL := Lib.hid (fun (x y : World) (hk : KeepsAt bs W x) (hb : Below x.heap.size x y) => hk.trans (KeepsAt.of_below hb (keepsAt_lt hk hBs)))
  have HJ0 := Lib.hid h0
  have HAT := Lib.hid (fun k w hk hw => about_at (c := c) (size := size) (round := round) (k := k) (w := w) hk hw)
  have HNO := Lib.hid (fun k hw => about_none (c := c) (size := size) (round := round) (k := k) hw)
  have HLN := Lib.hid (show (aboutTo c size round (2 * size + 1).toNat).length = (aboutL c size round).length from rfl)
  obtain ⟨A, hA⟩ : ∃ A, aboutL c size round = A := ⟨_, rfl⟩
  obtain ⟨pp, hpp⟩ : ∃ pp : Nat → Nat, (fun k => (aboutTo c size round k).length) = pp := ⟨_, rfl⟩
  have hpp' : ∀ k, (aboutTo c size round k).length = pp k := fun k => by rw [← hpp]
  have hp0 : pp 0 = 0 := by rw [← hpp]; rfl
  subst hA
  simp only [hpp'] at HAT HNO HLN
  have HP0 := Lib.hid hp0
  obtain ⟨cx, cy⟩ := c
  simp only at *
  clear hY hs1 hs2 hc hJd hb hz hi hc0 hc1 hr hq h0 hBs hpp hpp' hp0
  refine callsIn_of_wp Try.func58 rfl trivial ?_ rfl
  simp only [Try.ntmps58, List.size_toArray, List.length_cons, List.length_nil, Nat.reduceAdd, Nat.reduceSub, Array.replicate_succ, Array.replicate_zero, List.push_toArray, List.append_toArray, List.nil_append, List.cons_append]
  gi_wp2
  apply wpIn_scope
  have z0 := (HK.out W (KeepsAt.refl _ _)).1.1
  have wneg : wrap64 (-size) = -size := by have := HSZ.out; unfold wrap64; omega
  gi_wp2
  apply wpIn_label
  gi_wp2
  try rw [wneg]
  clear z0 wneg
  gi_loopw [5] (fun y wr => ∃ k : Nat, k ≤ (2 * size + 1).toNat ∧ y = .int .i64 (-size + (k : Int)) ∧ J (firsts _ (pp k)) wr ∧ KeepsAt bs W wr) (fun y _ => (size + 1 - intOf y).toNat)
  case atStart => exact ⟨0, by omega, by simp, by rw [HP0.out]; exact HJ0.out, KeepsAt.refl _ _⟩
  case round =>
    obtain ⟨k, hk, rfl, hj, hks⟩ := hrel
    clear HJ0 HP0
    have HJ := Lib.hid hj
    have HKS := Lib.hid hks
    have z0 := (HK.out wr hks).1.1
    clear hj hks
    by_cases hlt : -size + (k : Int) ≤ size
    · have HLT := Lib.hid hlt
      have hkn : k < (2 * size + 1).toNat := by omega
      have HKN := Lib.hid hkn
      have e3 : wrap64 (-size + (k : Int) + 1) = -size + ((k + 1 : Nat) : Int) := by have := HSZ.out; unfold wrap64; omega
      gi_wp2
      clear z0
      gi_loopw [6] (fun x wi => ∃ (xi : Int) (j : Nat), x = .int .i64 xi ∧ xi = (j : Int) - 1 ∧ xi ≤ size ∧ wideG size round (-size + (k : Int)) (size.toNat + 1) = wideG size round (-size + (k : Int)) j ∧ J (firsts _ (pp k)) wi ∧ KeepsAt bs W wi) (fun x _ => (intOf x + 1).toNat)
      case atStart => exact ⟨size, size.toNat + 1, rfl, by have := HSZ.out; omega, by omega, rfl, HJ.out, HKS.out⟩
      case round =>
        obtain ⟨xi, j, rfl, hxj, hxs, hwg, hj, hks⟩ := hrel
        clear HJ HKS
        have HJ := Lib.hid hj
        have HKS := Lib.hid hks
        have HWG := Lib.hid hwg
        have HXJ := Lib.hid hxj
        have HXS := Lib.hid hxs
        obtain ⟨⟨z0, i0⟩, ⟨c0, c1⟩, r0, q0⟩ := HK.out wr hks
        clear hj hks hwg hxj hxs
        by_cases hge : 0 ≤ xi
        · obtain ⟨v, rfl⟩ := Int.eq_ofNat_of_zero_le hge
          have hjv : j = v + 1 := by have := HXJ.out; omega
          subst hjv
          have HIN := Lib.hid (sweep2_any (v : Int) (-size + (k : Int)) size round Br Bq (by omega) (by have := HXS.out; have := HSZ.out; omega) (by have := HSZ.out; omega) (by have := HSZ.out; have := HLT.out; omega) (by have := HSZ.out; omega) (by have := HSZ.out; omega) wr r0 q0)
          obtain ⟨ib, hib⟩ : ∃ ib, inSize size round (v : Int) (-size + (k : Int)) = ib := ⟨_, rfl⟩
          rw [hib] at HIN
          have HIB := Lib.hid hib
          clear hib c0 c1 r0 q0 z0
          gi_wp2_with fail
          refine (callsIn_wide.2 HIN.out).mono ?_
          rintro e w3 ⟨rfl, hb_⟩
          have HJ := Lib.hid (HD.out _ _ _ HJ.out hb_)
          have HKS := Lib.hid (HBL.out _ _ HKS.out hb_)
          clear hb_ HIN i0
          cases ib
          · have hw2 : wideG size round (-size + (k : Int)) (size.toNat + 1) = wideG size round (-size + (k : Int)) v := by
              rw [HWG.out]
              conv => lhs; unfold wideG
              rw [if_neg (by rw [HIB.out]; simp)]
            have HW2 := Lib.hid hw2
            have e4 : wrap64 ((v : Int) - 1) = (v : Int) - 1 := by have := HXS.out; have := HSZ.out; unfold wrap64; omega
            clear hw2
            gi_wp2
            go_roundw
            case rel => exact ⟨(v : Int) - 1, v, by first | rw [e4] | rfl, rfl, by have := HXS.out; omega, HW2.out, HJ.out, HKS.out⟩
            case measure => (try rw [e4]); simp [intOf] <;> omega
          · have hw2 : wideG size round (-size + (k : Int)) (size.toNat + 1) = some v := by
              rw [HWG.out]
              conv => lhs; unfold wideG
              rw [if_pos HIB.out]
            obtain ⟨hat, hnx⟩ := HAT.out k v HKN.out hw2
            have hpl := (List.getElem?_eq_some_iff.1 hat).1
            obtain ⟨⟨z0, i0⟩, ⟨c0, c1⟩, r0, q0⟩ := HK.out w3 HKS.out
            obtain ⟨fn, tmps, assign, body, hy, hR⟩ := HY.out _ (⟨pp k, hpl⟩ : Fin _) w3 HJ.out (by rw [firsts_length (by omega)]; exact hpl)
            have he : (aboutL ⟨cx, cy⟩ size round)[pp k] = _ := (List.getElem?_eq_some_iff.1 hat).2
            simp only [he, SpT.val] at hy
            have hs := firsts_succ (N := (aboutL ⟨cx, cy⟩ size round).length) (k := pp k) hpl
            rw [hs, ← hnx] at hR
            have w1 : wrap64 (cy + (-size + (k : Int))) = cy + (-size + (k : Int)) := by have := HCC.out; have := HSZ.out; have := HLT.out; unfold wrap64; omega
            have w2 : wrap64 (cx - (v : Int)) = cx - (v : Int) := by have := HCC.out; have := HSZ.out; have := HXS.out; unfold wrap64; omega
            have w3' : wrap64 (cx + (v : Int)) = cx + (v : Int) := by have := HCC.out; have := HSZ.out; have := HXS.out; unfold wrap64; omega
            clear hat hnx hs he hpl hw2 z0 i0 r0 q0
            gi_wp2
            refine hR.mono ?_
            rintro e w4 (⟨rfl, hJ4, hk4⟩ | ⟨rfl, hJx⟩)
            · have HJ4 := Lib.hid hJ4
              have HK4 := Lib.hid (HKS.out.trans hk4)
              clear hJ4 hk4 c0 c1 w1 w2 w3'
              gi_wp2
              go_roundw
              case rel => exact ⟨k + 1, HKN.out, by first | rw [e3] | rfl, HJ4.out, HK4.out⟩
              case measure => (try rw [e3]); have := HLT.out; simp [intOf]; omega
            · have HJ3 := Lib.hid hJx
              clear hJx
              gi_wp2
              rw [Exit.noGoto_normal]
              go_end0
              exact ⟨⟨_, rfl⟩, .inr ⟨_, firsts_prefix _ _, HJ3.out⟩⟩
        · have hj0 : j = 0 := by have := HXJ.out; omega
          subst hj0
          have hn2 := HNO.out k HWG.out
          have HJ := Lib.hid (show J (firsts _ (pp (k + 1))) wr by rw [hn2]; exact HJ.out)
          clear hn2 z0 i0 c0 c1 r0 q0
          gi_wp2
          go_roundw
          case rel => exact ⟨k + 1, HKN.out, by first | rw [e3] | rfl, HJ.out, HKS.out⟩
          case measure => (try rw [e3]); have := HLT.out; simp [intOf]; omega
    · have hkn : k = (2 * size + 1).toNat := by have := HSZ.out; omega
      subst hkn
      have HJF := Lib.hid (show J (List.finRange _) wr by have := HJ.out; rwa [HLN.out, firsts_all] at this)
      clear hk
      gi_wp2
      try rw [Exit.noGoto_normal]
      go_end0
      exact ⟨⟨_, rfl⟩, .inl ⟨_, rfl, HJF.out⟩⟩

theorem about_iter (w : World) (Bz Bi Bc Br Bq : Nat) (bs : List Nat) (size : Int) (hs1 : 0 ≤ size) (hs2 : size ≤ 15) (round : Bool) (c : PtT) (hc : (-64 ≤ c.x ∧ c.x ≤ 127) ∧ (-64 ≤ c.y ∧ c.y ≤ 127)) (A : List SpT) (hA : aboutL c size round = A) (hb : Bz ∈ bs ∧ Bi ∈ bs ∧ Bc ∈ bs ∧ Br ∈ bs ∧ Bq ∈ bs) (hBs : ∀ c ∈ bs, c < w.heap.size)
    (hz : w.cell? ⟨Bz, 0, none⟩ = some (.int .i64 size)) (hi : w.cell? ⟨Bi, 0, none⟩ = some (.func (.func 39) #[] #[.pointer (some ⟨Br, 0, none⟩), .pointer (some ⟨Bq, 0, none⟩)]))
    (hc0 : w.cell? ⟨Bc, 0, none⟩ = some (.int .i64 c.x)) (hc1 : w.cell? ⟨Bc, 1, none⟩ = some (.int .i64 c.y)) (hr : w.cell? ⟨Br, 0, none⟩ = some (.bool round)) (hq : w.cell? ⟨Bq, 0, none⟩ = some (.int .i64 size)) :
    Iter Try.prog 58 #[.pointer (some ⟨Bz, 0, none⟩), .pointer (some ⟨Bi, 0, none⟩), .pointer (some ⟨Bc, 0, none⟩)] A.length (fun i => #[(A[i.1]).val]) bs w := by
  subst hA
  intro n hn1 L J Jx W hW hJ _ hY h0
  exact about1_walk n hn1 L Bz Bi Bc Br Bq bs size hs1 hs2 round c hc J Jx (fun pre x y h hb => hJ pre x y none h (below_grown hb) (by simp)) hb hY W (fun c hc => Nat.lt_of_lt_of_le (hBs c hc) hW.size)
    ((hW.cell (p := ⟨Bz, 0, none⟩) (hBs _ hb.1)).trans hz) ((hW.cell (p := ⟨Bi, 0, none⟩) (hBs _ hb.2.1)).trans hi) ((hW.cell (p := ⟨Bc, 0, none⟩) (hBs _ hb.2.2.1)).trans hc0) ((hW.cell (p := ⟨Bc, 1, none⟩) (hBs _ hb.2.2.1)).trans hc1)
    ((hW.cell (p := ⟨Br, 0, none⟩) (hBs _ hb.2.2.2.1)).trans hr) ((hW.cell (p := ⟨Bq, 0, none⟩) (hBs _ hb.2.2.2.2)).trans hq) h0
end Go.Proofs.Ytflbcabjefpojaa
