/- Merged texts: Around SwP SwB PenL GoesL. -/
import Derived.Test.YtodpkgbpcpfamaaGreatM9
import Derived.Test.YtodpkgbpcpfamaaGreatM10
import Derived.Test.YtodpkgbpcpfamaaGreatM12
import Derived.ScopeJumps
import Derived.Laws.EntriesVeiled
/- Layer 8: around. -/
namespace Go.Proofs.YtodpkgbpcpfamaaGreat
set_option linter.unusedSimpArgs false
set_option linter.unusedVariables false
open Go.RowKit Go.Shelf
attribute [local go_sem] Oper.semAt_some

/-- The blocks of a list lie as they lay, and some cells of others read as they read. -/
def KC (bs : List Nat) (cs : List (Addr × Value)) (A B : World) : Prop := KeepsAt bs A B ∧ ∀ q ∈ cs, A.cell? q.1 = some q.2 → B.cell? q.1 = some q.2
theorem KC.refl (bs : List Nat) (cs : List (Addr × Value)) (A : World) : KC bs cs A A := ⟨KeepsAt.refl _ _, fun _ _ h => h⟩
theorem KC.trans {bs : List Nat} {cs : List (Addr × Value)} {A B C : World} (h : KC bs cs A B) (k : KC bs cs B C) : KC bs cs A C := ⟨h.1.trans k.1, fun q hq hA => k.2 q hq (h.2 q hq hA)⟩
theorem KC.of_below {bs : List Nat} {cs : List (Addr × Value)} {A B : World} (h : Below A.heap.size A B) (hb : ∀ b ∈ bs, b < A.heap.size) : KC bs cs A B := ⟨KeepsAt.of_below h hb, fun q _ hA => (h.cell (cell_lt hA)).trans hA⟩
def IterC (P : Program) (g : Nat) (lb : Array Value) (N : Nat) (encs : Fin N → Array Value) (bs : List Nat) (cs : List (Addr × Value)) (w : World) : Prop :=
 ∀ n, 1 ≤ n → SeqStopsK Fence.wide n P g lb encs (KC bs cs) (fun ys => ys = List.finRange N) (fun pre => pre <+: List.finRange N) N w
/-- 'for x := range seq' over such an iterator's contract, where the assignment lays a box. -/
theorem range_iterC {P : Program} {n : Nat} {g : Operand} {ps : Array Tmp} {assign body : Code} {Q : Exit → Act → World → Prop} {a : Act} {w : World}
 {gf : Nat} {lb : Array Value} {N : Nat} {bs : List Nat} {cs : List (Addr × Value)} {encs : Fin N → Array Value} {w0 : World} (hit : IterC P gf lb N encs bs cs w0) (hn : 2 ≤ n)
 (hg : a.eval g = .func (.func gf) #[] lb) (eg : ∀ args w, (callFunc gf args).run P w = .ok (.enter gf args) w)
 (hn0 : ∀ b ∈ bs, b < w.heap.size) (hb0 : Below w0.heap.size w0 w) (hps : ∀ x, (encs x).size = ps.size) (pargs : Fin N → List (Tmp × Value)) (hpa : ∀ x, (ps.zip (encs x)).toList = pargs x)
 (I : List (Fin N) → World → Prop) (Ix : Code → List (Fin N) → World → Prop) (hI : OwnFrom w.heap.size I) (hIx : ∀ c, OwnFrom w.heap.size (Ix c)) (h0 : I [] w)
 (Ax : Fin N → Act → World → Prop) (hAx : ∀ x a', OwnFrom w.heap.size (fun (_ : Unit) W => Ax x a' W))
 (hassign : ∀ (l : Nat) (pre : List (Fin N)) (x : Fin N) (W : World) (K : Act → World → Prop), I pre W → (∀ a' W', KeepsFrom w.heap.size W W' → KC bs cs W W' → I pre W' → Ax x a' W' → K a' W') →
  assign.wpIn (Fence.wide.inRound l) (n - 1 - 1) P (Exit.then K (fun _ _ _ => False)) (loopAct a (pargs x)) W)
 (hbody : ∀ (l : Nat) (pre : List (Fin N)) (x : Fin N) (a' : Act) (W : World), I pre W → Ax x a' W → pre.length < N → body.wpIn (Fence.wide.inRound l) (n - 1 - 1) P (ownPostG w.heap.size (KC bs cs) I Ix (pre ++ [x]) W) a' W)
 (hdone : ∀ (D : Nat) (W : World), w.heap.size ≤ D → I (List.finRange N) W → W.heap[D]? = some (.deferred (some [])) → Q .normal { a with defers := { target := .collected D, args := #[] } :: a.defers } W)
 (hstop : ∀ (D : Nat) (c : Code) (pre : List (Fin N)) (W : World), w.heap.size ≤ D → pre <+: List.finRange N → Ix c pre W → W.heap[D]? = some (.deferred (some [])) → c.wpIn Fence.wide n P Q { a with defers := { target := .collected D, args := #[] } :: a.defers } W) :
 (Code.rangeFunc g ps assign body).wpIn Fence.wide n P Q a w :=
 wpIn_rangeFunc_ownH rfl (by omega) hg trivial eg (hit (n - 1) (by omega)) (fun h k => h.trans k) (fun W l o o' hl h hc hw => ⟨keepsAt_b hn0 W l o o' hl h hc hw, fun q _ hA => cell_kept hA (grownBy_putObj' W l o') (fun r e => by cases e; exact ⟨_, h, hc⟩)⟩) hb0 hps I Ix hI hIx h0 Ax hAx (fun l pre x W K hI hK => by
  have h := hassign l pre x W K hI hK
  unfold loopAct at h
  rw [← Array.foldl_toList, hpa x]
  exact h) (fun l pre x a' W _ _ h1 h2 h3 => hbody l pre x a' W h1 h2 h3) (fun D xs W h h' e => by subst h'; exact hdone D W h e) hstop

/-- The cells of a search that an iterator over neighbours reads. -/
def seaCs (S : Nat) (W H : Int) : List (Addr × Value) := [(⟨S, 1, none⟩, .int .i64 W), (⟨S, 2, none⟩, .int .i64 H)]
def wayX : Nat → Int
 | 0 => -1
 | 1 => 1
 | _ => 0
def wayY : Nat → Int
 | 2 => -1
 | 3 => 1
 | _ => 0
theorem nbs_way (p : PtT) : ∀ k, k < 4 → (nbs p)[k]? = some ⟨p.x + wayX k, p.y + wayY k⟩
 | 0, _ => by simp [nbs, wayX, wayY]; omega
 | 1, _ => by simp [nbs, wayX, wayY]
 | 2, _ => by simp [nbs, wayX, wayY]; omega
 | 3, _ => by simp [nbs, wayX, wayY]
theorem way_unit : ∀ k, (-1 ≤ wayX k ∧ wayX k ≤ 1) ∧ (-1 ≤ wayY k ∧ wayY k ≤ 1)
 | 0 => by decide
 | 1 => by decide
 | 2 => by decide
 | 3 => by decide
 | k + 4 => by simp [wayX, wayY]
theorem ways_index (w : World) : ∀ k : Nat, k < 4 → (Instr.index 52 (.agg #[.int .i64 (-1), .int .i64 0, .int .i64 1, .int .i64 0, .int .i64 0, .int .i64 (-1), .int .i64 0, .int .i64 1]) (.int .i64 (k : Int))).run Tryz.prog w = .ok (.agg #[.int .i64 (wayX k), .int .i64 (wayY k)]) w
 | 0, _ => by simp [Instr.index, wayX, wayY, go_sem]
 | 1, _ => by simp [Instr.index, wayX, wayY, go_sem]
 | 2, _ => by simp [Instr.index, wayX, wayY, go_sem]
 | 3, _ => by simp [Instr.index, wayX, wayY, go_sem]
/-- How many of the first k neighbours are on the canvas. -/
def nbPos (W H : Int) (p : PtT) (k : Nat) : Nat := (((nbs p).take k).filter (onB W H)).length
theorem nbPos_zero (W H : Int) (p : PtT) : nbPos W H p 0 = 0 := by simp [nbPos]
theorem nbPos_all (W H : Int) (p : PtT) : nbPos W H p 4 = (nbL W H p).length := rfl
theorem nbPos_succ {W H : Int} {p q : PtT} {k : Nat} (hq : (nbs p)[k]? = some q) : nbPos W H p (k + 1) = nbPos W H p k + (if onB W H q = true then 1 else 0) := by
 unfold nbPos
 rw [List.take_add_one, hq, List.filter_append, List.length_append]
 congr 1
 by_cases h : onB W H q = true <;> simp [h]
theorem nbL_at {W H : Int} {p q : PtT} {k : Nat} (hq : (nbs p)[k]? = some q) (ho : onB W H q = true) : (nbL W H p)[nbPos W H p k]? = some q := by
 obtain ⟨hk, e⟩ := List.getElem?_eq_some_iff.1 hq
 unfold nbL nbPos
 conv => lhs; arg 1; rw [← List.take_append_drop k (nbs p), List.drop_eq_getElem_cons hk, e, List.filter_append, List.filter_cons_of_pos ho]
 rw [List.getElem?_append_right (Nat.le_refl _), Nat.sub_self]
 rfl

set_option maxRecDepth 100000 in
set_option maxHeartbeats 1000000 in
theorem around1_walk (n : Nat) (hn : 1 ≤ n) (L Bp Bs S : Nat) (bs : List Nat) (W H : Int) (hW : W ≤ 32) (hH : H ≤ 32) (p : PtT) (hp : onB W H p = true)
 (J Jx : List (Fin (nbL W H p).length) → World → Prop) (hJd : ∀ pre x y, J pre x → Below x.heap.size x y → J pre y) (hb : Bp ∈ bs ∧ Bs ∈ bs)
 (hY : ∀ pre x X, J pre X → pre.length < (nbL W H p).length → YieldAt Fence.wide (n - 1) Tryz.prog L #[((nbL W H p)[x.1]).val] X fun e W' =>
  (e = .returned (.bool true) ∧ J (pre ++ [x]) W' ∧ KC bs (seaCs S W H) X W') ∨ (e = .returned (.bool false) ∧ Jx (pre ++ [x]) W'))
 (X : World) (hBs : ∀ c ∈ bs, c < X.heap.size) (hp0 : X.cell? ⟨Bp, 0, none⟩ = some (.int .i64 p.x)) (hp1 : X.cell? ⟨Bp, 1, none⟩ = some (.int .i64 p.y)) (hs : X.cell? ⟨Bs, 0, none⟩ = some (.pointer (some ⟨S, 0, none⟩)))
 (hw : X.cell? ⟨S, 1, none⟩ = some (.int .i64 W)) (hh : X.cell? ⟨S, 2, none⟩ = some (.int .i64 H)) (h0 : J [] X) :
 CallsIn Fence.wide n Tryz.prog 66 #[.func (.yield L) #[] #[], .pointer (some ⟨Bp, 0, none⟩), .pointer (some ⟨Bs, 0, none⟩)] X fun e W' => (∃ v, e = .returned v) ∧
  ((∃ ys, ys = List.finRange (nbL W H p).length ∧ J ys W') ∨ (∃ pre, pre <+: List.finRange (nbL W H p).length ∧ Jx pre W')) := by
 have HY := Lib.hid hY
 have HD := Lib.hid hJd
 have HK : Hid (∀ wr, KC bs (seaCs S W H) X wr → (wr.cell? ⟨Bp, 0, none⟩ = some (.int .i64 p.x) ∧ wr.cell? ⟨Bp, 1, none⟩ = some (.int .i64 p.y)) ∧ wr.cell? ⟨Bs, 0, none⟩ = some (.pointer (some ⟨S, 0, none⟩)) ∧ wr.cell? ⟨S, 1, none⟩ = some (.int .i64 W) ∧ wr.cell? ⟨S, 2, none⟩ = some (.int .i64 H)) :=
  Lib.hid fun wr hk => ⟨⟨cell_keepsAt hp0 hb.1 hk.1, cell_keepsAt hp1 hb.1 hk.1⟩, cell_keepsAt hs hb.2 hk.1, hk.2 (⟨S, 1, none⟩, .int .i64 W) (by simp [seaCs]) hw, hk.2 (⟨S, 2, none⟩, .int .i64 H) (by simp [seaCs]) hh⟩
 have HBL := Lib.hid (fun (x y : World) (hk : KC bs (seaCs S W H) X x) (hb : Below x.heap.size x y) => hk.trans (KC.of_below hb (keepsAt_lt hk.1 hBs)))
 have HJ0 := Lib.hid h0
 have HON := Lib.hid (onB_iff.1 hp)
 have HWH := Lib.hid (And.intro hW hH)
 have HQ := Lib.hid (nbs_way p)
 have HPS := Lib.hid (fun (q : PtT) (k : Nat) hq => nbPos_succ (W := W) (H := H) (p := p) (q := q) (k := k) hq)
 have HAT := Lib.hid (fun (q : PtT) (k : Nat) hq ho => nbL_at (W := W) (H := H) (p := p) (q := q) (k := k) hq ho)
 have HP0 := Lib.hid (nbPos_zero W H p)
 have HP4 := Lib.hid (nbPos_all W H p)
 obtain ⟨pp, hpp⟩ : ∃ pp : Nat → Nat, (fun k => nbPos W H p k) = pp := ⟨_, rfl⟩
 have hpp' : ∀ k, nbPos W H p k = pp k := fun k => by rw [← hpp]
 simp only [hpp'] at HPS HAT HP0 HP4
 have HIX := Lib.hid ways_index
 have HU := Lib.hid way_unit
 obtain ⟨px, py⟩ := p
 simp only at *
 clear hY hJd hb hBs hp0 hp1 hs hw hh h0 hpp hpp' hW hH hp
 refine callsIn_of_wp Tryz.func66 rfl trivial ?_ rfl
 simp only [Tryz.ntmps66, List.size_toArray, List.length_cons, List.length_nil, Nat.reduceAdd, Nat.reduceSub, Array.replicate_succ, Array.replicate_zero, List.push_toArray, List.append_toArray, List.nil_append, List.cons_append]
 gi_wp2
 apply wpIn_scope
 gi_wp2
 apply wpIn_label
 gi_wp2
 gi_loopw [12] (fun i wr => ∃ k : Nat, k ≤ 4 ∧ i = .int .i64 (k : Int) ∧ J (firsts _ (pp k)) wr ∧ KC bs (seaCs S W H) X wr) (fun i _ => 4 - (intOf i).toNat)
 case atStart => exact ⟨0, by omega, rfl, by rw [HP0.out]; exact HJ0.out, KC.refl _ _ _⟩
 case round =>
  obtain ⟨k, hk, rfl, hj, hks⟩ := hrel
  clear HJ0 HP0
  have HJ := Lib.hid hj
  have HKS := Lib.hid hks
  clear hj hks
  by_cases hlt : k < 4
  · have hq := HQ.out k hlt
    have hix := fun w => HIX.out w k hlt
    have HPQ := Lib.hid (HPS.out _ k hq)
    have HAQ := Lib.hid (HAT.out _ k hq)
    have hu := HU.out k
    have HLT := Lib.hid hlt
    obtain ⟨wx, hwx⟩ : ∃ wx, wayX k = wx := ⟨_, rfl⟩
    obtain ⟨wy, hwy⟩ : ∃ wy, wayY k = wy := ⟨_, rfl⟩
    rw [hwx, hwy] at HPQ HAQ hu
    simp only [hwx, hwy] at hix
    have e1 : wrap64 (px + wx) = px + wx := by have := HON.out; have := HWH.out; unfold wrap64; omega
    have e2 : wrap64 (py + wy) = py + wy := by have := HON.out; have := HWH.out; unfold wrap64; omega
    clear hq hwx hwy hu
    have HS := Lib.hid (St.start wr)
    repeat ((fail_if_success (with_reducible refine stop_atI (id := 3) ?_)); (first | go_values | gi_guarded | gi_step | gi_upon | gi_back | (simp only [Int.not_lt, Int.not_le] at *; go_simp) | (go_values <;> (try go_simp)) | (go_ite <;> go_prune <;> (try go_simp)) | (split <;> (first | (rename_i hx; exact (hx _ rfl).elim) | go_prune))))
    clear hix
    have hs_ := (HS.out.alloc (.cells #[.int .i64 wx, .int .i64 wy] 33))
    obtain ⟨w3, hw_⟩ : ∃ w3 : World, (wr.alloc (.cells #[.int .i64 wx, .int .i64 wy] 33)) = w3 := ⟨_, rfl⟩
    rw [hw_] at hs_
    try simp only [World.size_alloc] at hs_
    have HS := Lib.hid hs_
    rw [hw_]
    clear hw_ hs_
    obtain ⟨⟨p0, p1⟩, -⟩ := HK.out w3 (HBL.out _ _ HKS.out HS.out.low)
    have z0 := cell_of_block (k := 0) (HS.out.blockAt 0 rfl) rfl
    have z1 := cell_of_block (k := 1) (HS.out.blockAt 0 rfl) rfl
    repeat ((fail_if_success (with_reducible refine stop_atI (id := 4) ?_)); (first | go_values | gi_guarded | gi_step | gi_upon | gi_back | (simp only [Int.not_lt, Int.not_le] at *; go_simp) | (go_values <;> (try go_simp)) | (go_ite <;> go_prune <;> (try go_simp)) | (split <;> (first | (rename_i hx; exact (hx _ rfl).elim) | go_prune))))
    clear p0 p1 z0 z1 e1 e2
    have hs_ := (HS.out.alloc (.cells #[.int .i64 (px + wx), .int .i64 (py + wy)] 33))
    obtain ⟨w4, hw_⟩ : ∃ w4 : World, (w3.alloc (.cells #[.int .i64 (px + wx), .int .i64 (py + wy)] 33)) = w4 := ⟨_, rfl⟩
    rw [hw_] at hs_
    try simp only [World.size_alloc] at hs_
    have HS := Lib.hid hs_
    rw [hw_]
    clear hw_ hs_
    obtain ⟨-, s0, s1, s2⟩ := HK.out w4 (HBL.out _ _ HKS.out HS.out.low)
    have q0 := cell_of_block (k := 0) (HS.out.blockAt 0 rfl) rfl
    have q1 := cell_of_block (k := 1) (HS.out.blockAt 0 rfl) rfl
    have HC := Lib.hid (on_any S W H ⟨px + wx, py + wy⟩ w4 s1 s2)
    clear s1 s2
    obtain ⟨ob, hob⟩ : ∃ ob, onB W H ⟨px + wx, py + wy⟩ = ob := ⟨_, rfl⟩
    rw [hob] at HC HPQ HAQ
    unfold PtT.val at HC
    simp only at HC
    clear hob
    gi_wp2_with fail
    refine (callsIn_wide.2 HC.out).mono ?_
    rintro e w5 ⟨rfl, hb_⟩
    have HS := Lib.hid (HS.out.below hb_)
    clear hb_ HC q0 q1 s0
    have q0 := cell_of_block (k := 0) (HS.out.blockAt 0 rfl) rfl
    have q1 := cell_of_block (k := 1) (HS.out.blockAt 0 rfl) rfl
    have HJ := Lib.hid (HD.out _ _ _ HJ.out HS.out.low)
    have HKS := Lib.hid (HBL.out _ _ HKS.out HS.out.low)
    cases ob
    · gi_wp2
      go_roundw
      case rel => exact ⟨k + 1, HLT.out, rfl, by rw [HPQ.out]; exact HJ.out, HKS.out⟩
      case measure => have := HLT.out; simp [intOf]; omega
    · have hat := HAQ.out rfl
      have hpl := (List.getElem?_eq_some_iff.1 hat).1
      obtain ⟨fn, tmps, assign, body, hy, hR⟩ := HY.out _ (⟨pp k, hpl⟩ : Fin _) w5 HJ.out (by rw [firsts_length (by omega)]; exact hpl)
      have he : (nbL W H ⟨px, py⟩)[pp k] = _ := (List.getElem?_eq_some_iff.1 hat).2
      simp only [he, PtT.val] at hy
      have hs := firsts_succ (N := (nbL W H ⟨px, py⟩).length) (k := pp k) hpl
      have hnx : pp (k + 1) = pp k + 1 := by rw [HPQ.out]; rfl
      rw [hs, ← hnx] at hR
      clear hat hnx hs he hpl
      gi_wp2
      refine hR.mono ?_
      rintro e w6 (⟨rfl, hJ4, hk4⟩ | ⟨rfl, hJx⟩)
      · have HJ4 := Lib.hid hJ4
        have HK4 := Lib.hid (HKS.out.trans hk4)
        clear hJ4 hk4 q0 q1
        gi_wp2
        go_roundw
        case rel => exact ⟨k + 1, HLT.out, rfl, HJ4.out, HK4.out⟩
        case measure => have := HLT.out; simp [intOf]; omega
      · have HJ3 := Lib.hid hJx
        clear hJx q0 q1
        gi_wp2; rw [Exit.noGoto_normal]
        go_end0
        exact ⟨⟨_, rfl⟩, .inr ⟨_, firsts_prefix _ _, HJ3.out⟩⟩
  · obtain rfl : k = 4 := by omega
    have HJF := Lib.hid (show J (List.finRange _) wr by have h := HJ.out; rw [HP4.out, firsts_all] at h; exact h)
    clear hk
    gi_wp2
    try rw [Exit.noGoto_normal]
    go_end0
    exact ⟨⟨_, rfl⟩, .inl ⟨_, rfl, HJF.out⟩⟩

theorem around_iter (w : World) (Bp Bs S : Nat) (bs : List Nat) (W H : Int) (hW : W ≤ 32) (hH : H ≤ 32) (p : PtT) (hp : onB W H p = true) (A : List PtT) (hA : nbL W H p = A) (hb : Bp ∈ bs ∧ Bs ∈ bs) (hBs : ∀ c ∈ bs, c < w.heap.size) (hSl : S < w.heap.size)
 (hp0 : w.cell? ⟨Bp, 0, none⟩ = some (.int .i64 p.x)) (hp1 : w.cell? ⟨Bp, 1, none⟩ = some (.int .i64 p.y)) (hs : w.cell? ⟨Bs, 0, none⟩ = some (.pointer (some ⟨S, 0, none⟩)))
 (hw : w.cell? ⟨S, 1, none⟩ = some (.int .i64 W)) (hh : w.cell? ⟨S, 2, none⟩ = some (.int .i64 H)) :
 IterC Tryz.prog 66 #[.pointer (some ⟨Bp, 0, none⟩), .pointer (some ⟨Bs, 0, none⟩)] A.length (fun i => #[(A[i.1]).val]) bs (seaCs S W H) w := by
 subst hA
 intro n hn1 L J Jx X hX hJ _ hY h0
 exact around1_walk n hn1 L Bp Bs S bs W H hW hH p hp J Jx (fun pre x y h hb => hJ pre x y none h (below_grown hb) (by simp)) hb hY X (fun c hc => Nat.lt_of_lt_of_le (hBs c hc) hX.size)
  ((hX.cell (p := ⟨Bp, 0, none⟩) (hBs _ hb.1)).trans hp0) ((hX.cell (p := ⟨Bp, 1, none⟩) (hBs _ hb.1)).trans hp1) ((hX.cell (p := ⟨Bs, 0, none⟩) (hBs _ hb.2)).trans hs) ((hX.cell (p := ⟨S, 1, none⟩) hSl).trans hw) ((hX.cell (p := ⟨S, 2, none⟩) hSl).trans hh) h0

theorem around_any (S : Nat) (p : PtT) (w : World) :
 Calls Tryz.prog 46 #[.pointer (some ⟨S, 0, none⟩), p.val] w fun e w' =>
  e = .returned (.func (.func 66) #[] #[.pointer (some ⟨w.heap.size + 1, 0, none⟩), .pointer (some ⟨w.heap.size, 0, none⟩)]) ∧
  (w.alloc (.cells #[.pointer (some ⟨S, 0, none⟩)] 69)).alloc (.cells #[.int .i64 p.x, .int .i64 p.y] 33) = w' := by
 unfold PtT.val
 go_enter Tryz.func46, Tryz.ntmps46
 go_wp2
 go_ret
 exact ⟨rfl, rfl⟩
end Go.Proofs.YtodpkgbpcpfamaaGreat

/- Layer 6, plain: the spans about a place are the brush's places. -/
namespace Go.Proofs.YtodpkgbpcpfamaaGreat
set_option linter.unusedSimpArgs false
set_option linter.unusedVariables false
open Go.RowKit Go.Shelf

end Go.Proofs.YtodpkgbpcpfamaaGreat

/- Layer 6: Sweep. -/
namespace Go.Proofs.YtodpkgbpcpfamaaGreat
set_option linter.unusedSimpArgs false
set_option linter.unusedVariables false
open Go.RowKit Go.Shelf Go.Maps
attribute [local go_sem] Oper.semAt_some

/-- It returns THE row of the places of which Q holds, if something holds, and no error; else none, and an error. -/
def GivesSet (ok : Bool) (Q : PtT → Prop) (er : Int) (w : World) (e : Ending) (w' : World) : Prop := ∃ M, (ok = true → SetRow Q M) ∧ (ok = false → M = []) ∧ M.length ≤ 1000000 ∧ GivesRowE 43 3 M.length (M.flatMap encS) (errOf ok er) w e w'

theorem itOrd_sub {w0 : World} : ∀ {its its' : List It}, its'.Sublist its → ItOrd w0 its → ItOrd w0 its'
 | _, _, .slnil, h => h
 | .blk _ _ :: _, _, .cons _ hs, h => itOrd_sub hs h.2.2
 | .row _ _ _ _ _ :: _, _, .cons _ hs, h => itOrd_sub hs h
 | .blk _ _ :: _, _, .cons_cons _ hs, h => ⟨h.1, fun j hj => h.2.1 j (hs.subset hj), itOrd_sub hs h.2.2⟩
 | .row _ _ _ _ _ :: its, .row _ _ _ _ _ :: its', .cons_cons _ hs, h => show ItOrd w0 its' from itOrd_sub (its := its) hs h
theorem St.sub {w0 x : World} {its its' : List It} (h : St w0 its x) (hs : its'.Sublist its) : St w0 its' x := ⟨h.low, fun i hi => h.ok i (hs.subset hi), itOrd_sub hs h.ord, fun i hi => h.top i (hs.subset hi)⟩
theorem GrD.rebase {w : World} {base base' b n : Nat} {D : DataW Value} (h : GrD w base b n D (fun _ => nilS) (fun _ => [])) (hb : base ≤ base') : GrD w base' b n D (fun _ => nilS) (fun _ => []) :=
 ⟨h.map, h.at_, fun _ _ => World.ownsRow_nil _ _ _ _, fun _ _ _ _ _ _ h => (by cases h), h.has, h.only, Nat.lt_of_lt_of_le h.lt hb⟩
theorem GrOf_nil : GrOf [] = fun _ => [] := rfl
theorem GrS.start {w0 x y : World} {its : List It} (hst : St w0 its y) (hb : Below (x.heap.size + 1) (x.alloc (.map #[] 0)) y) (hs : x.heap.size + 1 ≤ y.heap.size) : GrS w0 its [] y.heap.size x.heap.size [] y :=
 ⟨hst, ⟨0, .map [], fun _ => nilS, Nat.zero_le _, by rw [GrOf_nil]; exact ((GrD.start x).kept (by simpa using hb)).rebase hs, fun _ _ _ h => by cases h⟩, Nat.le_refl _⟩

theorem Marks.keep {lo : Nat} {Ds : List Nat} {x y : World} (h : Marks lo Ds x) (hk : ∀ (k : Nat), x.heap[k]? = some (.deferred (some [])) → y.heap[k]? = some (.deferred (some []))) : Marks lo Ds y :=
 ⟨h.nd, fun D hD => ⟨(h.blk D hD).1, hk D (h.blk D hD).2⟩⟩
theorem Marks.below {lo : Nat} {Ds : List Nat} {x y : World} (h : Marks lo Ds x) (hb : Below x.heap.size x y) : Marks lo Ds y := h.keep fun k hk => (hb.block k (block_lt hk)).trans hk
theorem ownFrom_marks {β : Type} {B lo : Nat} {Ds : List Nat} (h : ∀ D ∈ Ds, D < B) : OwnFrom B (fun (_ : β) W => Marks lo Ds W) := fun _ W W' row hm hg hr =>
 ⟨hm.nd, fun D hD => ⟨(hm.blk D hD).1, (hg.block D (block_lt (hm.blk D hD).2) (fun e => by have := (hr D e.symm).1; have := h D hD; omega)).trans (hm.blk D hD).2⟩⟩
theorem map_fin {α : Type} (A : List α) : (List.finRange A.length).map (fun i => A[i.1]) = A := by
 refine List.ext_getElem (by simp) fun i h1 h2 => by simp
theorem ownsRow_turned {S : Nat → Prop} {w w' : World} {base : Nat} {e : TypeId} {k : Nat} {v : Value} {n : Nat} {xs : List Value} (h : w.ownsRow base e k v n xs) (ht : Turned S w w') (hS : ∀ j cur, w.heap[j]? = some (.cells cur e (0, 0)) → ¬ S j) : w'.ownsRow base e k v n xs := by
 refine ⟨h.1, ?_⟩
 rcases h.2 with hn | ⟨g, cap, cur, rfl, hg, hgg, rest⟩
 · exact .inl hn
 · exact .inr ⟨g, cap, cur, rfl, hg, (ht.block g (block_lt hgg) (hS g cur hgg)).trans hgg, rest⟩
theorem Marks.notCells {lo : Nat} {Ds : List Nat} {x : World} (h : Marks lo Ds x) {j : Nat} {cur : Array Value} {e : TypeId} {f : Nat × Nat} (hj : x.heap[j]? = some (.cells cur e f)) : j ∉ Ds := fun hm => by
 rw [(h.blk j hm).2] at hj; cases hj
theorem with_actIn {F : Fence} {n : Nat} {P : Program} {c : Code} {Q : Exit → Act → World → Prop} {a : Act} {w : World} (h : ∀ a0 : Act, a0 = a → c.wpIn F n P Q a0 w) : c.wpIn F n P Q a w := h a rfl
theorem makeMap_rows (w : World) : (Instr.makeMap 76 none).run Tryz.prog w = .ok (.map (some w.heap.size)) (w.alloc (.map #[] 0)) := rfl
theorem givesBad {Q : PtT → Prop} {w w' : World} {e : Ending} (er : Int) (he : e = .returned (.tuple #[.slice none 0 0, .int .i64 er])) (hb : Below w.heap.size w w') : GivesSet false Q er w e w' :=
 ⟨[], ⟨fun h => Bool.noConfusion h, fun _ => rfl, Nat.zero_le _, _, he, World.ownsRow_nil _ _ _ _, hb⟩⟩

end Go.Proofs.YtodpkgbpcpfamaaGreat

/- The plain law of the pen: its places are the line's. -/
namespace Go.Proofs.YtodpkgbpcpfamaaGreat
set_option linter.unusedSimpArgs false
set_option linter.unusedVariables false
open Go.RowKit Go.Shelf

theorem less_zero (n m : Int) : lessN n m 0 = 0 := by
 unfold lessN
 split
 · rw [Int.mul_zero, Int.zero_mul, Int.zero_add]; exact Int.ediv_eq_zero_of_lt (by omega) (by omega)
 · rfl
theorem less_le {n m i : Int} (hn : 0 < n) (hm : 0 ≤ m) (hmn : m ≤ n) (hi : 0 ≤ i) : 0 ≤ lessN n m i ∧ lessN n m i ≤ i := by
 unfold lessN
 rw [if_pos hn]
 have h0 : 0 ≤ i * m := Int.mul_nonneg hi hm
 have h1 : i * m ≤ i * n := Int.mul_le_mul_of_nonneg_left hmn hi
 have e0 : 2 * i * m = 2 * (i * m) := by grind
 refine ⟨Int.ediv_nonneg (by omega) (by omega), ?_⟩
 have e2 : (i + 1) * (2 * n) = 2 * (i * n) + 2 * n := by grind
 have := Int.ediv_lt_of_lt_mul (a := 2 * i * m + n) (b := i + 1) (by omega : 0 < 2 * n) (by omega)
 omega

theorem less_le_m {n m i : Int} (hm : 0 ≤ m) (hmn : m ≤ n) (hi : 0 ≤ i) (hin : i ≤ n) : 0 ≤ lessN n m i ∧ lessN n m i ≤ m := by
 by_cases hn : 0 < n
 · refine ⟨(less_le hn hm hmn hi).1, ?_⟩
   unfold lessN
   rw [if_pos hn]
   have h2 : i * m ≤ n * m := Int.mul_le_mul_of_nonneg_right hin hm
   have e0 : 2 * i * m = 2 * (i * m) := by grind
   have e2 : (m + 1) * (2 * n) = 2 * (n * m) + 2 * n := by grind
   have := Int.ediv_lt_of_lt_mul (a := 2 * i * m + n) (b := m + 1) (by omega : 0 < 2 * n) (by omega)
   omega
 · unfold lessN; rw [if_neg hn]; omega
/-- What a pen keeps of its line. -/
structure LineD (a b : PtT) (lx ly sx sy n m : Int) : Prop where
 top : n = wayMax a b
 mle : 0 ≤ m ∧ m ≤ n
 unit : (-1 ≤ lx ∧ lx ≤ 1) ∧ (-1 ≤ ly ∧ ly ≤ 1) ∧ (-1 ≤ sx ∧ sx ≤ 1) ∧ (-1 ≤ sy ∧ sy ≤ 1)
 pt : ∀ i : Int, 0 ≤ i → i ≤ n → linePt a b i = ⟨a.x + lx * i + sx * lessN n m i, a.y + ly * i + sy * lessN n m i⟩
 fin : ∀ i : Int, 0 ≤ i → i ≤ n → (linePt a b i = b ↔ i = n)
/-- A coordinate of a line lies not far. -/
theorem unit_mul {u i : Int} (hu : -1 ≤ u ∧ u ≤ 1) (h0 : 0 ≤ i) : -i ≤ u * i ∧ u * i ≤ i := by
 rcases (by omega : u = -1 ∨ u = 0 ∨ u = 1) with rfl | rfl | rfl <;> omega
theorem LineD.near {a b : PtT} {lx ly sx sy n m : Int} (h : LineD a b lx ly sx sy n m) (hn : n ≤ 200) (ha : (-64 ≤ a.x ∧ a.x ≤ 127) ∧ (-64 ≤ a.y ∧ a.y ≤ 127)) {i : Int} (h0 : 0 ≤ i) (h1 : i ≤ n) :
 (-1000 ≤ a.x + lx * i + sx * lessN n m i ∧ a.x + lx * i + sx * lessN n m i ≤ 1000) ∧ (-1000 ≤ a.y + ly * i + sy * lessN n m i ∧ a.y + ly * i + sy * lessN n m i ≤ 1000) := by
 have hl := less_le_m (n := n) (m := m) (i := i) h.mle.1 h.mle.2 h0 h1
 have := h.mle
 have e1 := unit_mul h.unit.1 h0
 have e2 := unit_mul h.unit.2.1 h0
 have e3 := unit_mul h.unit.2.2.1 hl.1
 have e4 := unit_mul h.unit.2.2.2 hl.1
 omega

section
variable {P : Program} {a : Act} {w : World} {Q : Exit → Act → World → Prop}
/-- A scope with a label: what is behind the label is walked once. -/
theorem wp_scope_loop {c B : Code} (l : Nat) (J : Act → World → Prop) (μ : Act → World → Nat) (hf : findLabel c l = some (.seq .skip B))
 (pass : ∀ a w, J a w → B.wp P (Exit.jump l (fun a' w' => J a' w' ∧ μ a' w' < μ a w) Q) a w)
 (first : (∀ a w, J a w → B.wp P (Exit.jump l J Q) a w) → c.wp P (Exit.jump l J Q) a w) : (Code.scope c).wp P Q a w :=
 wp_scope_jumps l J μ hf (first fun a w hJ => wp_mono (pass a w hJ) fun e a' w' h => by
  cases e <;> first | exact h | exact ⟨h.1, h.2.1⟩) fun a w hJ => wp_seq (wp_skip (pass a w hJ))
end
end Go.Proofs.YtodpkgbpcpfamaaGreat

/- Layer 8: goes: what it keeps at its label. -/
namespace Go.Proofs.YtodpkgbpcpfamaaGreat
set_option linter.unusedSimpArgs false
set_option linter.unusedVariables false
open Go.RowKit Go.Shelf

def nearP (C : CanT) (p : PtT) (t : Int) (q : PtT) : Bool := nearB (colP C p) (colP C q) t
theorem nearP_self (C : CanT) (p : PtT) {t : Int} (ht : 0 ≤ t) : nearP C p t p = true := by
 unfold nearP nearB
 rw [far_self]
 simpa using ht
theorem St.addB {w0 x : World} {its : List It} (h : St w0 its x) {q : Nat} {o : Obj} (hq : x.heap[q]? = some o) (hl : ∀ i ∈ its, i.top ≤ q) (h0 : w0.heap.size ≤ q) : St w0 (.blk q o :: its) x := by
 refine ⟨h.low, fun i hi => ?_, ⟨h0, hl, h.ord⟩, fun i hi => ?_⟩
 · rcases List.mem_cons.1 hi with rfl | hi
   · exact hq
   · exact h.ok i hi
 · rcases List.mem_cons.1 hi with rfl | hi
   · exact block_lt hq
   · exact h.top i hi
theorem Turned.alloc {S : Nat → Prop} {x y : World} (h : Turned S x y) (o : Obj) : Turned S x (y.alloc o) :=
 (h.trans (Turned.of_grown (World.grownBy_alloc y o none))).mono fun k _ hk => (by rcases hk with hk | hk; exact hk; cases hk)
theorem Turned.belowT {S : Nat → Prop} {x y z : World} (h : Turned S x y) (hb : Below y.heap.size y z) : Turned S x z :=
 (h.trans (Turned.of_grown (below_grown hb))).mono fun k _ hk => (by rcases hk with hk | hk; exact hk; cases hk)
theorem Turned.setNew {S : Nat → Prop} {x y : World} (h : Turned S x y) (p k : Nat) (hp : x.heap.size ≤ p ∨ S p) (v : Value) : Turned S x (y.setCell ⟨p, k, none⟩ v) :=
 (h.trans (Turned.of_grown (grownBy_setCellAt y p k v))).mono fun j hj hk => (by
  rcases hk with hk | hk
  · exact hk
  · cases hk
    rcases hp with hp | hp
    · omega
    · exact hp)
theorem looks_filter {N : PtT → Bool} {W H : Int} (q : PtT) : ∀ (ns : List PtT) (s : Bf), (ns.filter (onB W H)).foldl (Bf.look N W H q) s = ns.foldl (Bf.look N W H q) s
 | [], _ => rfl
 | n :: ns, s => by
  by_cases h : onB W H n = true
  · rw [List.filter_cons_of_pos h]; exact looks_filter q ns _
  · rw [List.filter_cons_of_neg h, looks_filter q ns]
    have e : s.look N W H q n = s := by unfold Bf.look; rw [if_neg (by simp [h])]
    rw [List.foldl_cons, e]
theorem visit_nbL (N : PtT → Bool) (W H : Int) (s : Bf) (q : PtT) : s.visit N W H q = (nbL W H q).foldl (Bf.look N W H q) s := (looks_filter q (nbs q) s).symm
theorem nbL_mem {W H : Int} {q n : PtT} (h : n ∈ nbL W H q) : n ∈ nbs q ∧ onB W H n = true := List.mem_filter.1 h
/-- In the middle of a visit. -/
theorem BfK.mid {N : PtT → Bool} {W H : Int} {m0 : Nat → Nat} {p : PtT} {k : Nat} {s : Bf} (h : BfK N W H m0 p k s) (hW : W ≤ 32) (hH : H ≤ 32) {q : PtT} (hq : s.l[k]? = some q) (ns : List PtT) (hns : ∀ n ∈ ns, n ∈ nbs q) :
 (ns.foldl (Bf.look N W H q) s).m (ixP q) < 1000000 ∧ (ns.foldl (Bf.look N W H q) s).l.length < 1000000 ∧ onB W H q = true := by
 obtain ⟨h1, h2, -⟩ := BfI.looks hW ns h.inv hq hns
 have h3 := (h1.val k q (h2.get hq)).2
 have h4 := h1.len hW hH
 have h5 := (List.getElem?_eq_some_iff.1 (h2.get hq)).1
 exact ⟨by omega, by omega, h.inv.on q (List.mem_of_getElem? hq)⟩
theorem SeaS.forget {y0 : World} {pre post : List It} {bs : List Nat} {base S c : Nat} {W H : Int} {s : Bf} {v : Value} {x : World} (h : SeaS y0 pre post bs base S c W H s v x) : SeaS y0 pre post [] base S c W H s v x := h.more (by simp)
/-- A search begins. -/
theorem SeaS.begin {y0 : World} {pre post : List It} {S c : Nat} {W H : Int} {m : Nat → Nat} {x : World} (h : St (cutW y0 S) (pre ++ .blk S (seaO c W H m (.slice none 0 0)) :: post) x) (hp : ∀ i ∈ pre, ∃ b ob, i = .blk b ob) (ht : Turned (fun k => k = S) y0 x) :
 SeaS y0 pre post [] x.heap.size S c W H ⟨m, []⟩ (.slice none 0 0) x := ⟨StO.start h _ _ _, fun _ h => (by cases h), ht, hp, ht.size⟩
/-- It abides an iterator. -/
theorem ownFrom_SeaS {β : Type} {B : Nat} {y0 : World} {pre post : List It} {bs : List Nat} {base S c : Nat} {W H : Int} (s : β → Bf) (hS : S < B) (hB : (cutW y0 S).heap.size ≤ B) (hB2 : y0.heap.size ≤ B) (hc : ∀ b o, .blk b o ∈ pre ++ post → o.isCells = true) :
 OwnFrom B (fun (x : β) X => ∃ v, SeaS y0 pre post bs base S c W H (s x) v X) := by
 rintro x X X' row ⟨v, h⟩ hg hr
 refine ⟨v, ⟨ownFrom_St (fun _ : Unit => pre ++ .blk S (seaO c W H (s x).m v) :: post) hB (fun _ b o hb => ?_) () X X' row h.o.st hg hr, h.o.row.kept hg ?_, h.o.low, h.o.top, Nat.le_trans h.o.hi hg.size⟩, h.nb, ?_, h.hp, h.y0s⟩
 · rcases List.mem_append.1 hb with h1 | h1
   · exact hc b o (List.mem_append.2 (.inl h1))
   · rcases List.mem_cons.1 h1 with h1 | h1
     · cases h1; rfl
     · exact hc b o (List.mem_append.2 (.inr h1))
 · cases hv : v.ownBlock with
   | none => exact .inl rfl
   | some j =>
    refine .inr fun e => ?_
    obtain ⟨_, o, ho, hoc⟩ := hr j e.symm
    rcases h.o.row.2 with ⟨e1, _⟩ | ⟨g, cap, cur, e1, _, hgg, _⟩
    · rw [e1] at hv; cases hv
    · rw [e1] at hv
      obtain rfl : g = j := by simpa [Value.ownBlock] using hv
      rw [hgg] at ho; cases ho; cases hoc
 · exact (h.tu.trans (Turned.of_grown hg)).mono fun k hk hd => (by
    rcases hd with hd | hd
    · exact hd
    · have := (hr k hd.symm).1; omega)
end Go.Proofs.YtodpkgbpcpfamaaGreat
