/- Rows of numbers: cloned, compared; clocks compared; a store among loads. -/
import Derived.Test.YtppaheekpmgifaaDoorIdWk
import Derived.Test.YtppaheekpmgifaaDoorIdU
import Derived.Test.YtppaheekpmgifaaDoorIdRd
namespace Go.Proofs.YtppaheekpmgifaaDoor
set_option linter.unusedSimpArgs false
set_option linter.unusedVariables false
open Go.RowKit Go.Shelf

def encU (t : Int) : List Value := [.int .u64 t]
theorem encU_len (t : Int) : (encU t).length = 1 := rfl
theorem encU_one (t : Int) : ∀ u ∈ encU t, u.oneCell' = true := fun u hu => by simp [encU] at hu; subst hu; rfl
theorem lay_cloneU : Go.Proofs.SlLaysE0.n41 Tryd.prog ⟨fun | 41 => 15 | n => n, fun | 22 => 38 | 23 => 25 | 4 => 4 | n => n, fun | n => n⟩ := {
  mixed := by kernel_rfl
  f41 := ⟨Tryd.f15.name, by decide, Tryd.func15.trans (congrArg some (by kernel_rfl))⟩
  t22 := Tryd.underlying38
  a22 := Tryd.isAgg38
  z22 := Tryd.sizeOf38
  v22 := Tryd.zeroValue38
  t4 := Tryd.underlying4
  a4 := Tryd.isAgg4
  z4 := Tryd.sizeOf4
  v4 := Tryd.zeroValue4 }
theorem infoU : (Tryd.prog.info? 25).map (fun i => (i.zero, i.size, i.bytes)) = some (some (.int .u64 0), 1, 8) := by kernel_rfl
theorem cloneU_any (sv : Value) (l : List Int) (w : World) (h : Elems w sv l.length 1 (rowC encU l)) (hl : l.length ≤ 1000000000) :
    Calls Tryd.prog 15 #[sv] w (Cloned 25 1 l.length (l.flatMap encU) sv w) := by
  obtain ⟨i0, hi, hz0, hz1, hz2⟩ := info_parts infoU
  exact cloneRows lay_cloneU i0 _ 1 8 hi hz0 hz1 hz2 rfl (by omega) Tryd.sizeOf25 encU encU_len encU_one sv l w h hl (by omega)
theorem uCell {w : World} {a : Option Addr} {cap : Nat} {l : List Int} (h : Elems w (.slice a l.length cap) l.length 1 (rowC encU l)) (k : Nat) (x : Int) (hx : l[k]? = some x) :
    ∃ b off, a = some ⟨b, off, none⟩ ∧ w.cell? ⟨b, off + k, none⟩ = some (.int .u64 x) := by
  have hk := (List.getElem?_eq_some_iff.1 hx).1
  rcases h with ⟨e, h0⟩ | ⟨b, off, cap', e, hlt, hc⟩
  · omega
  · cases e
    have h := rowElem encU_len hc hx
    exact ⟨b, off, rfl, by simpa using h 0 _ rfl⟩

set_option maxRecDepth 100000 in
set_option maxHeartbeats 1000000 in
theorem eqU_self (a b : Option Addr) (c d : Nat) (l : List Int) (w : World) (h1 : Elems w (.slice a l.length c) l.length 1 (rowC encU l)) (h2 : Elems w (.slice b l.length d) l.length 1 (rowC encU l)) (hl : l.length ≤ 1000000000) :
    Calls Tryd.prog 24 #[.slice a l.length c, .slice b l.length d] w (Gives (.bool true) w) := by
  have H1 := Lib.hid h1
  have H2 := Lib.hid h2
  clear h1 h2
  go_enter Tryd.func24, Tryd.ntmps24
  go_wp2_with fail
  go_loopw [13] (fun i wr => ∃ k : Nat, k ≤ l.length ∧ i = .int .i64 (k : Int) ∧ Below w.heap.size w wr) (fun i _ => l.length - (intOf i).toNat)
  case atStart => exact ⟨0, by omega, rfl, Below.refl _ _⟩
  case round =>
    obtain ⟨k, hk, rfl, hb⟩ := hrel
    have HB := Lib.hid hb
    clear hb
    by_cases hlt : k < l.length
    · have wk : wrap64 ((k : Int) + 1) = ((k + 1 : Nat) : Int) := by unfold wrap64; omega
      obtain ⟨x, hx⟩ : ∃ x, l[k]? = some x := ⟨_, List.getElem?_eq_getElem hlt⟩
      obtain ⟨b1, o1, rfl, c1⟩ := uCell (H1.out.below HB.out) k x hx
      obtain ⟨b2, o2, rfl, c2⟩ := uCell (H2.out.below HB.out) k x hx
      clear hx
      have D1 := Lib.hid c1
      have D2 := Lib.hid c2
      have HLT := Lib.hid hlt
      clear c1 c2
      go_wp2_with fail
      refine (wpIn_wide (n := 0)).1 ?_
      apply wp_region_vals 9 (Rl := [(eqv _), (eqv _), (eqv _), (eqv _), (eqv _), (eqv _), (eqv _), (eqv _), (eqv _)]) (C := (fun x y => Below x.heap.size x y))
      case hm => kernel_rfl
      case hk => rfl
      case hCr => exact (fun _ => Below.refl _ _)
      case hCt => intro _ _ _; exact (fun h k => grows_trans h k)
      case hst => exact ⟨fun _ _ _ _ h => h, fun _ _ _ _ h => h, fun _ _ _ _ h => h, fun _ _ _ _ h => h, fun _ _ _ _ h => h, fun _ _ _ _ h => h, fun _ _ _ _ h => h, fun _ _ _ _ h => h, fun _ _ _ _ h => h, trivial⟩
      case hfo => kernel_rfl
      case ht => kernel_rfl
      case hC0 => exact (grows_drew _)
      case hsteps =>
        refine ⟨?_, ?_, ?_, ?_, ?_, ?_, ?_, ?_, ?_, trivial⟩
        · -- 0
          intro a' w' hA hC hD
          have s0 : a'.tmps[0]? = some _ := (hA.at 0 (by kernel_rfl)).trans rfl
          clear hA hD
          refine stepOk_plain rfl ?_
          intro K hK
          gi_wp2
          exact hK _ _ rfl ((fun _ => Below.refl _ _) _)
        · -- 1
          intro a' w' hA hC hD
          have s5 : a'.tmps[5]? = some _ := (hA.at 5 (by kernel_rfl)).trans rfl
          clear hA hD
          refine stepOk_plain rfl ?_
          intro K hK
          gi_wp2
          exact hK _ _ rfl ((fun _ => Below.refl _ _) _)
        · -- 2
          intro a' w' hA hC hD
          obtain ⟨u16, s16, r16⟩ := hD ⟨0, .data⟩ (by simp) rfl _ rfl
          replace r16 : u16 = _ := r16
          subst r16
          obtain ⟨u17, s17, r17⟩ := hD ⟨1, .data⟩ (by simp) rfl _ rfl
          replace r17 : u17 = _ := r17
          subst r17
          clear hA hD
          refine stepOk_plain rfl ?_
          intro K hK
          gi_wp2
          exact hK _ _ rfl ((fun _ => Below.refl _ _) _)
        · -- 3
          intro a' w' hA hC hD
          obtain ⟨u18, s18, r18⟩ := hD ⟨2, .data⟩ (by simp) rfl _ rfl
          replace r18 : u18 = _ := r18
          subst r18
          have d1 := (hC.cell (p := ⟨b1, o1 + k, none⟩) (cellLt D1.out)).trans D1.out
          clear hA hD
          refine stepOk_plain rfl ?_
          intro K hK
          gi_wp2
          exact hK _ _ rfl ((fun _ => Below.refl _ _) _)
        · -- 4
          intro a' w' hA hC hD
          have s1 : a'.tmps[1]? = some _ := (hA.at 1 (by kernel_rfl)).trans rfl
          clear hA hD
          refine stepOk_plain rfl ?_
          intro K hK
          gi_wp2
          exact hK _ _ rfl ((fun _ => Below.refl _ _) _)
        · -- 5
          intro a' w' hA hC hD
          have s5 : a'.tmps[5]? = some _ := (hA.at 5 (by kernel_rfl)).trans rfl
          clear hA hD
          refine stepOk_plain rfl ?_
          intro K hK
          gi_wp2
          exact hK _ _ rfl ((fun _ => Below.refl _ _) _)
        · -- 6
          intro a' w' hA hC hD
          obtain ⟨u20, s20, r20⟩ := hD ⟨4, .data⟩ (by simp) rfl _ rfl
          replace r20 : u20 = _ := r20
          subst r20
          obtain ⟨u21, s21, r21⟩ := hD ⟨5, .data⟩ (by simp) rfl _ rfl
          replace r21 : u21 = _ := r21
          subst r21
          clear hA hD
          refine stepOk_plain rfl ?_
          intro K hK
          gi_wp2
          exact hK _ _ rfl ((fun _ => Below.refl _ _) _)
        · -- 7
          intro a' w' hA hC hD
          obtain ⟨u22, s22, r22⟩ := hD ⟨6, .data⟩ (by simp) rfl _ rfl
          replace r22 : u22 = _ := r22
          subst r22
          have d2 := (hC.cell (p := ⟨b2, o2 + k, none⟩) (cellLt D2.out)).trans D2.out
          clear hA hD
          refine stepOk_plain rfl ?_
          intro K hK
          gi_wp2
          exact hK _ _ rfl ((fun _ => Below.refl _ _) _)
        · -- 8
          intro a' w' hA hC hD
          obtain ⟨u19, s19, r19⟩ := hD ⟨3, .data⟩ (by simp) rfl _ rfl
          replace r19 : u19 = _ := r19
          subst r19
          obtain ⟨u23, s23, r23⟩ := hD ⟨7, .data⟩ (by simp) rfl _ rfl
          replace r23 : u23 = _ := r23
          subst r23
          clear hA hD
          refine stepOk_plain rfl ?_
          intro K hK
          gi_wp2
          exact hK _ _ rfl ((fun _ => Below.refl _ _) _)
      case hend =>
        intro w3 hC
        simp only [EndFrom, eqv, forall_eq, Act.put, List.length_cons, List.length_nil, List.drop_succ_cons, List.drop_zero, Nat.reduceAdd, List.setIfInBounds_toArray, List.set_cons_succ, List.set_cons_zero]
        have HB3 := Lib.hid (HB.out.trans (hC.mono HB.out.size))
        clear hC
        gi_wp2
        go_wp2_with fail
        go_roundw
        case rel => exact ⟨k + 1, HLT.out, by simp, HB3.out⟩
        case measure => have := HLT.out; simp [intOf]; omega
    · obtain rfl : k = l.length := by omega
      clear hk hlt
      go_wp2_with fail
      go_ret
      exact ⟨rfl, HB.out⟩
theorem Elems.congr {w : World} {sv : Value} {n size : Nat} {c c' : Nat → Value} (h : Elems w sv n size c) (hc : ∀ j, j < n * size → c j = c' j) : Elems w sv n size c' := by
  rcases h with h | ⟨b, off, cap, e, hlt, hk⟩
  · exact .inl h
  · exact .inr ⟨b, off, cap, e, hlt, fun j hj => by rw [hk j hj, hc j hj]⟩
def tsOf (l : List Int) (j : Nat) : Int := l.getD j 0
theorem Elems.times {w : World} {sv : Value} {n : Nat} {l : List Int} (hn : l.length = n) (h : Elems w sv n 1 (rowC encU l)) : Elems w sv n 1 (fun j => .int .u64 (tsOf l j)) := by
  refine h.congr fun j hj => ?_
  unfold rowC tsOf
  have hx : l[j]? = some (l[j]'(by omega)) := List.getElem?_eq_getElem (by omega)
  have h1 := flat_get encU_len l j 0 (by omega)
  rw [hx] at h1
  simp only [Nat.mul_one, Nat.add_zero] at h1
  rw [h1]
  simp [encU, hx]
theorem clk_neq (a b c : Int) (w : World) : (binOp .neq 41 (.agg #[.int .i64 a, .int .u64 b, .int .u64 c]) (.agg #[.int .i64 a, .int .u64 b, .int .u64 c])).run Tryd.prog w = .ok (.bool false) w := by
  simp [binOp, Op.equal, Op.maxDepth, go_sem]
theorem id_neq (a b c : Int) (w : World) : (binOp .neq 27 (.agg #[.int .u64 a, .int .i64 b, .int .u64 c]) (.agg #[.int .u64 a, .int .i64 b, .int .u64 c])).run Tryd.prog w = .ok (.bool false) w := by
  rw [run_neq_id]
  simp [idEqB]

/-- One block is filled, the others stay. -/
structure FillAt (p : Nat) (Z S : Obj) (x y : World) : Prop where
  low : Below p x y
  other : ∀ (j : Nat) (ob : Obj), j ≠ p → x.heap[j]? = some ob → y.heap[j]? = some ob
  done : x.heap[p]? = some S → y.heap[p]? = some S
  fill : x.heap[p]? = some Z → y.heap[p]? = some Z ∨ y.heap[p]? = some S
theorem FillAt.refl (p : Nat) (Z S : Obj) (x : World) : FillAt p Z S x x := ⟨Below.refl _ _, fun _ _ _ h => h, fun h => h, fun h => .inl h⟩
theorem FillAt.trans {p : Nat} {Z S : Obj} {x y z : World} (h : FillAt p Z S x y) (k : FillAt p Z S y z) : FillAt p Z S x z :=
  ⟨h.low.trans k.low, fun j ob hj hx => k.other j ob hj (h.other j ob hj hx), fun hx => k.done (h.done hx), fun hx => by
    rcases h.fill hx with e | e
    · exact k.fill e
    · exact .inr (k.done e)⟩
theorem FillAt.drew (p : Nat) (Z S : Obj) (x : World) : FillAt p Z S x x.drew := ⟨(Below.refl _ _).drew, fun _ _ _ h => h, fun h => h, fun h => .inl h⟩
theorem fillAt3 {w : World} {p : Nat} {t : TypeId} {f : Nat × Nat} {a b c x y z : Value} (hx : w.heap[p]? = some (.cells #[a, b, c] t f) ∨ w.heap[p]? = some (.cells #[x, y, z] t f)) :
    FillAt p (.cells #[a, b, c] t f) (.cells #[x, y, z] t f) w (((w.setCell ⟨p, 0, none⟩ x).setCell ⟨p, 1, none⟩ y).setCell ⟨p, 2, none⟩ z) ∧ (((w.setCell ⟨p, 0, none⟩ x).setCell ⟨p, 1, none⟩ y).setCell ⟨p, 2, none⟩ z).heap[p]? = some (.cells #[x, y, z] t f) := by
  have hs : (((w.setCell ⟨p, 0, none⟩ x).setCell ⟨p, 1, none⟩ y).setCell ⟨p, 2, none⟩ z).heap[p]? = some (.cells #[x, y, z] t f) := by
    rcases hx with hx | hx
    · exact heap_set3 hx
    · exact heap_set3 hx
  exact ⟨⟨below_set3 (Below.refl _ _) (Nat.le_refl _), fun j ob hne hj => heap_set3_other hj (fun e => hne e.symm), fun _ => hs, fun _ => .inr hs⟩, hs⟩
theorem St.set' {w0 x y : World} {pre post : List It} {p : Nat} {o o' : Obj} (h : St w0 (pre ++ .blk p o :: post) x) (hpre : ∀ i ∈ pre, ∃ b ob, i = .blk b ob) (hp : y.heap[p]? = some o') (hne : ∀ k ob, k ≠ p → x.heap[k]? = some ob → y.heap[k]? = some ob) (hl : Below p x y) :
    St w0 (pre ++ .blk p o' :: post) y := by
  obtain ⟨h1, h2, h3⟩ := St.ord_low h.ord
  refine ⟨h.low.trans (hl.mono h1), fun i hi => ?_, St.ord_set h.ord, fun i hi => ?_⟩
  · rcases List.mem_append.1 hi with hi | hi
    · obtain ⟨b, ob, rfl⟩ := hpre i hi
      have := h3 b ob hi
      exact hne b ob (by omega) (h.ok _ (List.mem_append.2 (.inl hi)))
    · rcases List.mem_cons.1 hi with rfl | hi
      · exact hp
      · have ht := h2 i hi
        have hok := h.ok i (List.mem_append.2 (.inr (by simp [hi])))
        cases i with
        | blk b ob => exact hne b ob (by simp [It.top] at ht; omega) hok
        | row v n size c hi' =>
          refine ⟨?_, hok.2⟩
          rcases hok.1 with e | ⟨b, off, cap, rfl, hlt, hc⟩
          · exact .inl e
          · by_cases hn : n = 0
            · subst hn
              exact .inr ⟨b, off, cap, rfl, Nat.lt_of_lt_of_le hlt hl.size, fun j hj => by omega⟩
            · have hb := (hok.2 _ _ _ rfl).resolve_left hn
              simp [It.top] at ht
              exact .inr ⟨b, off, cap, rfl, Nat.lt_of_lt_of_le hlt hl.size, fun j hj => (hl.cell (p := ⟨b, off + j, none⟩) (show b < p by simp at hb; omega)).trans (hc j hj)⟩
  · have : i.top ≤ x.heap.size := by
      rcases List.mem_append.1 hi with hi | hi
      · exact h.top i (List.mem_append.2 (.inl hi))
      · rcases List.mem_cons.1 hi with rfl | hi
        · exact h.top (.blk p o) (by simp)
        · exact h.top i (List.mem_append.2 (.inr (by simp [hi])))
    exact Nat.le_trans this hl.size
end Go.Proofs.YtppaheekpmgifaaDoor
