/- Package ident: pairs, all, Rising. -/
import Derived.Test.YtppaheekpmgifaaDoorIdV
import Derived.Test.YtppaheekpmgifaaDoorIdF
namespace Go.Proofs.YtppaheekpmgifaaDoor
set_option linter.unusedSimpArgs false
set_option linter.unusedVariables false
open Go.RowKit Go.Shelf
attribute [local go_sem] Oper.semAt_some

theorem below_grown {x y : World} (h : Below x.heap.size x y) : x.grownBy y none := ⟨h.os, h.tape, h.output, h.size, fun k hk _ => h.block k hk⟩

/-- What is told of two that stand together. -/
def pairArgs (ids : List IdT) (k : Fin (ids.length - 1)) : Array Value := #[(ids[k.1]'(by omega)).val, (ids[k.1 + 1]'(by omega)).val]

theorem cell_lt {w : World} {a : Addr} {v : Value} (h : w.cell? a = some v) : a.block < w.heap.size := by
  rcases Nat.lt_or_ge a.block w.heap.size with h1 | h1
  · exact h1
  · simp [World.cell?, Array.getElem?_eq_none h1] at h
/-- An element of a row of ids, wherever the row is kept. -/
theorem idCellsAt {w : World} {b off cap : Nat} {ids : List IdT} (h : Elems w (.slice (some ⟨b, off, none⟩) ids.length cap) ids.length 3 (rowC encId ids)) (hz : 0 < ids.length) (k : Nat) (hk : k < ids.length) :
    w.cell? ⟨b, off + k * 3, none⟩ = some (.int .u64 ids[k].time) ∧ w.cell? ⟨b, off + k * 3 + 1, none⟩ = some (.int .i64 ids[k].site) ∧ w.cell? ⟨b, off + k * 3 + 2, none⟩ = some (.int .u64 ids[k].seq) := by
  rcases h with ⟨e, h0⟩ | ⟨b', off', cap', e, hlt, hc⟩
  · omega
  · cases e
    have h := rowElem encId_len hc (List.getElem?_eq_getElem hk)
    exact ⟨by simpa using h 0 _ rfl, h 1 _ rfl, h 2 _ rfl⟩

set_option maxRecDepth 100000 in
set_option maxHeartbeats 2000000 in
theorem pairs1_some (n : Nat) (hn : 1 ≤ n) (l Bs : Nat) (bs : List Nat) (b off cap : Nat) (ids : List IdT) (hz : 0 < ids.length) (hlen : ids.length ≤ 1000000000) (J Jx : List (Fin (ids.length - 1)) → World → Prop)
    (hJd : ∀ pre x y, J pre x → Below x.heap.size x y → J pre y) (hb1 : Bs ∈ bs) (hb2 : b ∈ bs)
    (hY : ∀ pre x W, J pre W → pre.length < ids.length - 1 → YieldAt Fence.wide (n - 1) Tryd.prog l (pairArgs ids x) W fun e W' =>
      (e = .returned (.bool true) ∧ J (pre ++ [x]) W' ∧ KeepsAt bs W W') ∨ (e = .returned (.bool false) ∧ Jx (pre ++ [x]) W'))
    (W : World) (hBs : ∀ c ∈ bs, c < W.heap.size) (hc : W.cell? ⟨Bs, 0, none⟩ = some (.slice (some ⟨b, off, none⟩) ids.length cap)) (hh : Elems W (.slice (some ⟨b, off, none⟩) ids.length cap) ids.length 3 (rowC encId ids)) (h0 : J [] W) :
    CallsIn Fence.wide n Tryd.prog 72 #[.func (.yield l) #[] #[], .pointer (some ⟨Bs, 0, none⟩)] W fun e W' => (∃ v, e = .returned v) ∧
      ((∃ ys, ys = List.finRange (ids.length - 1) ∧ J ys W') ∨ (∃ pre, pre <+: List.finRange (ids.length - 1) ∧ Jx pre W')) := by
  have HY := Lib.hid hY
  have HJ := Lib.hid hJd
  have HC : Hid (∀ wr, KeepsAt bs W wr → wr.cell? ⟨Bs, 0, none⟩ = some (.slice (some ⟨b, off, none⟩) ids.length cap) ∧ ∀ k (hk : k < ids.length), wr.cell? ⟨b, off + k * 3, none⟩ = some (.int .u64 ids[k].time) ∧ wr.cell? ⟨b, off + k * 3 + 1, none⟩ = some (.int .i64 ids[k].site) ∧ wr.cell? ⟨b, off + k * 3 + 2, none⟩ = some (.int .u64 ids[k].seq)) := by
    refine Lib.hid fun wr hk => ?_
    have e1 : ∀ o, wr.cell? ⟨Bs, o, none⟩ = W.cell? ⟨Bs, o, none⟩ := fun o => by simp only [World.cell?, hk Bs hb1]
    have e2 : ∀ o, wr.cell? ⟨b, o, none⟩ = W.cell? ⟨b, o, none⟩ := fun o => by simp only [World.cell?, hk b hb2]
    refine ⟨by rw [e1]; exact hc, fun k h => ?_⟩
    rw [e2, e2, e2]
    exact idCellsAt hh hz k h
  have HBS : Hid (∀ wr, KeepsAt bs W wr → ∀ c ∈ bs, c < wr.heap.size) := by
    refine Lib.hid fun wr hk c hc_ => ?_
    have h1 := hk c hc_
    rw [Array.getElem?_eq_getElem (hBs c hc_)] at h1
    exact (Array.getElem?_eq_some_iff.1 h1).1
  have c0 := (HC.out W (KeepsAt.refl _ _)).1
  clear hY hh hJd hb1 hb2 hBs hc
  refine callsIn_of_wp Tryd.func72 rfl trivial ?_ rfl
  simp only [Tryd.ntmps72, List.size_toArray, List.length_cons, List.length_nil, Nat.reduceAdd, Nat.reduceSub, Array.replicate_succ, Array.replicate_zero, List.push_toArray, List.append_toArray, List.nil_append, List.cons_append]
  gi_wp2
  apply wpIn_scope
  gi_wp2
  apply wpIn_label
  gi_wp2
  gi_loopw [6] (fun i wr => ∃ k : Nat, k ≤ ids.length ∧ i = .int .i64 k ∧ J (firsts (ids.length - 1) (k - 1)) wr ∧ KeepsAt bs W wr) (fun i _ => ids.length - (intOf i).toNat)
  case atStart => exact ⟨0, by omega, rfl, h0, KeepsAt.refl _ _⟩
  case round =>
    obtain ⟨k, hk, rfl, hJs, hks⟩ := hrel
    by_cases hlt : k < ids.length
    · obtain ⟨r0, rc⟩ := HC.out wr hks
      have HK : Hid (∀ w', Below wr.heap.size wr w' → w'.cell? ⟨Bs, 0, none⟩ = some (.slice (some ⟨b, off, none⟩) ids.length cap) ∧ ∀ k (hk : k < ids.length), w'.cell? ⟨b, off + k * 3, none⟩ = some (.int .u64 ids[k].time) ∧ w'.cell? ⟨b, off + k * 3 + 1, none⟩ = some (.int .i64 ids[k].site) ∧ w'.cell? ⟨b, off + k * 3 + 2, none⟩ = some (.int .u64 ids[k].seq)) :=
        Lib.hid fun w' hb => ⟨(hb.cell (p := ⟨Bs, 0, none⟩) (cell_lt r0)).trans r0, fun k hk => by
          have hlt := cell_lt (rc k hk).1
          exact ⟨(hb.cell (p := ⟨b, off + k * 3, none⟩) hlt).trans (rc k hk).1, (hb.cell (p := ⟨b, off + k * 3 + 1, none⟩) hlt).trans (rc k hk).2.1, (hb.cell (p := ⟨b, off + k * 3 + 2, none⟩) hlt).trans (rc k hk).2.2⟩⟩
      have HKS := Lib.hid hks
      have HBB := Lib.hid (fun c hc_ => by have := HBS.out wr hks c hc_; exact this : ∀ c ∈ bs, c < wr.heap.size)
      have HLT := Lib.hid hlt
      clear r0 rc hks c0
      cases k with
      | zero =>
        have HJ0 := Lib.hid hJs
        clear hJs
        gi_wp2_with fail
        apply wp_region_vals 16 (Rl := [(eqv _), (eqv _), (eqv _), (fun v_ _ => v_ = (undef : Value)), (fun v_ _ => v_ = (undef : Value)), (fun v_ _ => v_ = (undef : Value)), (fun v_ _ => v_ = (undef : Value)), (fun v_ _ => v_ = (undef : Value)), (fun v_ _ => v_ = (undef : Value)), (fun v_ _ => v_ = (undef : Value)), (fun v_ _ => v_ = (undef : Value)), (fun v_ _ => v_ = (undef : Value)), (fun v_ _ => v_ = (undef : Value)), (fun v_ _ => v_ = (undef : Value)), (fun v_ _ => v_ = (undef : Value)), (eqv _)]) (C := (fun x y => Below x.heap.size x y))
        case hm => kernel_rfl
        case hk => rfl
        case hCr => exact (fun _ => Below.refl _ _)
        case hCt => intro _ _ _; exact (fun h k => grows_trans h k)
        case hst => exact ⟨fun _ _ _ _ h => h, fun _ _ _ _ h => h, fun _ _ _ _ h => h, fun _ _ _ _ h => h, fun _ _ _ _ h => h, fun _ _ _ _ h => h, fun _ _ _ _ h => h, fun _ _ _ _ h => h, fun _ _ _ _ h => h, fun _ _ _ _ h => h, fun _ _ _ _ h => h, fun _ _ _ _ h => h, fun _ _ _ _ h => h, fun _ _ _ _ h => h, fun _ _ _ _ h => h, fun _ _ _ _ h => h, trivial⟩
        case hfo => kernel_rfl
        case ht => kernel_rfl
        case hC0 => exact (grows_drew _)
        case hsteps =>
          refine ⟨?_, ?_, ?_, ?_, ?_, ?_, ?_, ?_, ?_, ?_, ?_, ?_, ?_, ?_, ?_, ?_, trivial⟩
          · -- 0
            intro a' w' hA hC hD
            have s3 : a'.tmps[3]? = some _ := (hA.at 3 (by kernel_rfl)).trans rfl
            clear hA hD
            refine stepOk_plain rfl ?_
            intro K hK
            gi_wp2
            exact hK _ _ rfl ((fun _ => Below.refl _ _) _)
          · -- 1
            intro a' w' hA hC hD
            obtain ⟨u9, s9, r9⟩ := hD ⟨0, .data⟩ (by simp) rfl _ rfl
            replace r9 : u9 = _ := r9
            subst r9
            clear hA hD
            refine stepOk_plain rfl ?_
            intro K hK
            gi_wp2
            exact hK _ _ rfl ((fun _ => Below.refl _ _) _)
          · -- 2
            intro a' w' hA hC hD
            obtain ⟨u10, s10, r10⟩ := hD ⟨1, .data⟩ (by simp) rfl _ rfl
            replace r10 : u10 = _ := r10
            subst r10
            clear hA hD
            refine stepOk_plain rfl ?_
            intro K hK
            gi_wp2
            exact hK _ _ rfl ((fun _ => Below.refl _ _) _)
          · -- 3
            intro a' w' hA hC hD
            have s0 : a'.tmps[0]? = some _ := (hA.at 0 (by kernel_rfl)).trans rfl
            obtain ⟨u11, s11, r11⟩ := hD ⟨2, .guard⟩ (by simp) rfl _ rfl
            replace r11 : u11 = _ := r11
            subst r11
            clear hA hD
            exact stepOk_skip rfl rfl s11 rfl
          · -- 4
            intro a' w' hA hC hD
            have s1 : a'.tmps[1]? = some _ := (hA.at 1 (by kernel_rfl)).trans rfl
            obtain ⟨u11, s11, r11⟩ := hD ⟨2, .guard⟩ (by simp) rfl _ rfl
            replace r11 : u11 = _ := r11
            subst r11
            clear hA hD
            exact stepOk_skip rfl rfl s11 rfl
          · -- 5
            intro a' w' hA hC hD
            have s3 : a'.tmps[3]? = some _ := (hA.at 3 (by kernel_rfl)).trans rfl
            obtain ⟨u11, s11, r11⟩ := hD ⟨2, .guard⟩ (by simp) rfl _ rfl
            replace r11 : u11 = _ := r11
            subst r11
            clear hA hD
            exact stepOk_skip rfl rfl s11 rfl
          · -- 6
            intro a' w' hA hC hD
            obtain ⟨u14, s14, r14⟩ := hD ⟨5, .data⟩ (by simp) rfl _ rfl
            replace r14 : u14 = undef := r14
            subst r14
            obtain ⟨u11, s11, r11⟩ := hD ⟨2, .guard⟩ (by simp) rfl _ rfl
            replace r11 : u11 = _ := r11
            subst r11
            clear hA hD
            exact stepOk_skip rfl rfl s11 rfl
          · -- 7
            intro a' w' hA hC hD
            obtain ⟨u13, s13, r13⟩ := hD ⟨4, .data⟩ (by simp) rfl _ rfl
            replace r13 : u13 = undef := r13
            subst r13
            obtain ⟨u15, s15, r15⟩ := hD ⟨6, .data⟩ (by simp) rfl _ rfl
            replace r15 : u15 = undef := r15
            subst r15
            obtain ⟨u11, s11, r11⟩ := hD ⟨2, .guard⟩ (by simp) rfl _ rfl
            replace r11 : u11 = _ := r11
            subst r11
            clear hA hD
            exact stepOk_skip rfl rfl s11 rfl
          · -- 8
            intro a' w' hA hC hD
            obtain ⟨u16, s16, r16⟩ := hD ⟨7, .data⟩ (by simp) rfl _ rfl
            replace r16 : u16 = undef := r16
            subst r16
            obtain ⟨u11, s11, r11⟩ := hD ⟨2, .guard⟩ (by simp) rfl _ rfl
            replace r11 : u11 = _ := r11
            subst r11
            clear hA hD
            exact stepOk_skip rfl rfl s11 rfl
          · -- 9
            intro a' w' hA hC hD
            have s1 : a'.tmps[1]? = some _ := (hA.at 1 (by kernel_rfl)).trans rfl
            obtain ⟨u11, s11, r11⟩ := hD ⟨2, .guard⟩ (by simp) rfl _ rfl
            replace r11 : u11 = _ := r11
            subst r11
            clear hA hD
            exact stepOk_skip rfl rfl s11 rfl
          · -- 10
            intro a' w' hA hC hD
            have s3 : a'.tmps[3]? = some _ := (hA.at 3 (by kernel_rfl)).trans rfl
            obtain ⟨u11, s11, r11⟩ := hD ⟨2, .guard⟩ (by simp) rfl _ rfl
            replace r11 : u11 = _ := r11
            subst r11
            clear hA hD
            exact stepOk_skip rfl rfl s11 rfl
          · -- 11
            intro a' w' hA hC hD
            obtain ⟨u18, s18, r18⟩ := hD ⟨9, .data⟩ (by simp) rfl _ rfl
            replace r18 : u18 = undef := r18
            subst r18
            obtain ⟨u19, s19, r19⟩ := hD ⟨10, .data⟩ (by simp) rfl _ rfl
            replace r19 : u19 = undef := r19
            subst r19
            obtain ⟨u11, s11, r11⟩ := hD ⟨2, .guard⟩ (by simp) rfl _ rfl
            replace r11 : u11 = _ := r11
            subst r11
            clear hA hD
            exact stepOk_skip rfl rfl s11 rfl
          · -- 12
            intro a' w' hA hC hD
            obtain ⟨u20, s20, r20⟩ := hD ⟨11, .data⟩ (by simp) rfl _ rfl
            replace r20 : u20 = undef := r20
            subst r20
            obtain ⟨u11, s11, r11⟩ := hD ⟨2, .guard⟩ (by simp) rfl _ rfl
            replace r11 : u11 = _ := r11
            subst r11
            clear hA hD
            exact stepOk_skip rfl rfl s11 rfl
          · -- 13
            intro a' w' hA hC hD
            obtain ⟨u12, s12, r12⟩ := hD ⟨3, .data⟩ (by simp) rfl _ rfl
            replace r12 : u12 = undef := r12
            subst r12
            obtain ⟨u17, s17, r17⟩ := hD ⟨8, .data⟩ (by simp) rfl _ rfl
            replace r17 : u17 = undef := r17
            subst r17
            obtain ⟨u21, s21, r21⟩ := hD ⟨12, .data⟩ (by simp) rfl _ rfl
            replace r21 : u21 = undef := r21
            subst r21
            obtain ⟨u11, s11, r11⟩ := hD ⟨2, .chain⟩ (by simp) rfl _ rfl
            replace r11 : u11 = _ := r11
            subst r11
            clear hA hD
            exact stepOk_skip rfl rfl s11 rfl
          · -- 14
            intro a' w' hA hC hD
            obtain ⟨u22, s22, r22⟩ := hD ⟨13, .data⟩ (by simp) rfl _ rfl
            replace r22 : u22 = undef := r22
            subst r22
            obtain ⟨u11, s11, r11⟩ := hD ⟨2, .guard⟩ (by simp) rfl _ rfl
            replace r11 : u11 = _ := r11
            subst r11
            clear hA hD
            exact stepOk_skip rfl rfl s11 rfl
          · -- 15
            intro a' w' hA hC hD
            obtain ⟨u11, s11, r11⟩ := hD ⟨2, .data⟩ (by simp) rfl _ rfl
            replace r11 : u11 = _ := r11
            subst r11
            obtain ⟨u23, s23, r23⟩ := hD ⟨14, .data⟩ (by simp) rfl _ rfl
            replace r23 : u23 = undef := r23
            subst r23
            clear hA hD
            refine stepOk_plain rfl ?_
            intro K hK
            gi_wp2
            exact hK _ _ rfl ((fun _ => Below.refl _ _) _)
        case hend =>
          intro w3 hC
          simp only [EndFrom, eqv, forall_eq, Act.put, List.length_cons, List.length_nil, List.drop_succ_cons, List.drop_zero, Nat.reduceAdd, List.setIfInBounds_toArray, List.set_cons_succ, List.set_cons_zero]
          have hj := HJ.out _ _ _ HJ0.out hC
          have HJ1 := Lib.hid hj
          have HC3 := Lib.hid hC
          clear hC hj
          gi_wp2
          go_roundw
          case rel => exact ⟨1, HLT.out, rfl, HJ1.out, HKS.out.trans (KeepsAt.of_below HC3.out HBB.out)⟩
          case measure => have := HLT.out; simp [intOf]; omega
      | succ j =>
        have HJ0 := Lib.hid hJs
        clear hJs
        have hk1 := hlt
        have e15 : wrap64 (j : Int) = (j : Int) := by unfold wrap64; omega
        gi_wp2_with fail
        apply wp_region_vals 13 (Rl := [(eqv _), (eqv _), (eqv _), (eqv _), (eqv _), (eqv _), (eqv _), (eqv _), (eqv _), (eqv _), (eqv _), (eqv _), (eqv _)]) (C := (fun x y => Below x.heap.size x y))
        case hm => kernel_rfl
        case hk => rfl
        case hCr => exact (fun _ => Below.refl _ _)
        case hCt => intro _ _ _; exact (fun h k => grows_trans h k)
        case hst => exact ⟨fun _ _ _ _ h => h, fun _ _ _ _ h => h, fun _ _ _ _ h => h, fun _ _ _ _ h => h, fun _ _ _ _ h => h, fun _ _ _ _ h => h, fun _ _ _ _ h => h, fun _ _ _ _ h => h, fun _ _ _ _ h => h, fun _ _ _ _ h => h, fun _ _ _ _ h => h, fun _ _ _ _ h => h, fun _ _ _ _ h => h, trivial⟩
        case hfo => kernel_rfl
        case ht => kernel_rfl
        case hC0 => exact (grows_drew _)
        case hsteps =>
          refine ⟨?_, ?_, ?_, ?_, ?_, ?_, ?_, ?_, ?_, ?_, ?_, ?_, ?_, trivial⟩
          · -- 0
            intro a' w' hA hC hD
            have s3 : a'.tmps[3]? = some _ := (hA.at 3 (by kernel_rfl)).trans rfl
            clear hA hD
            refine stepOk_plain rfl ?_
            intro K hK
            gi_wp2
            exact hK _ _ rfl ((fun _ => Below.refl _ _) _)
          · -- 1
            intro a' w' hA hC hD
            obtain ⟨u9, s9, r9⟩ := hD ⟨0, .data⟩ (by simp) rfl _ rfl
            replace r9 : u9 = _ := r9
            subst r9
            clear hA hD
            refine stepOk_plain rfl ?_
            intro K hK
            gi_wp2
            exact hK _ _ rfl ((fun _ => Below.refl _ _) _)
          · -- 2
            intro a' w' hA hC hD
            obtain ⟨u10, s10, r10⟩ := hD ⟨1, .data⟩ (by simp) rfl _ rfl
            replace r10 : u10 = _ := r10
            subst r10
            clear hA hD
            refine stepOk_plain rfl ?_
            intro K hK
            gi_wp2
            exact hK _ _ rfl ((fun _ => Below.refl _ _) _)
          · -- 3
            intro a' w' hA hC hD
            have s0 : a'.tmps[0]? = some _ := (hA.at 0 (by kernel_rfl)).trans rfl
            obtain ⟨u11, s11, r11⟩ := hD ⟨2, .guard⟩ (by simp) rfl _ rfl
            replace r11 : u11 = _ := r11
            subst r11
            clear hA hD
            refine stepOk_want rfl rfl s11 ?_
            intro K hK
            gi_wp2
            exact hK _ _ rfl ((fun _ => Below.refl _ _) _)
          · -- 4
            intro a' w' hA hC hD
            have s1 : a'.tmps[1]? = some _ := (hA.at 1 (by kernel_rfl)).trans rfl
            obtain ⟨u11, s11, r11⟩ := hD ⟨2, .guard⟩ (by simp) rfl _ rfl
            replace r11 : u11 = _ := r11
            subst r11
            have c1 := (HK.out w' hC).1
            clear hA hD
            refine stepOk_want rfl rfl s11 ?_
            intro K hK
            gi_wp2
            exact hK _ _ rfl ((fun _ => Below.refl _ _) _)
          · -- 5
            intro a' w' hA hC hD
            have s3 : a'.tmps[3]? = some _ := (hA.at 3 (by kernel_rfl)).trans rfl
            obtain ⟨u11, s11, r11⟩ := hD ⟨2, .guard⟩ (by simp) rfl _ rfl
            replace r11 : u11 = _ := r11
            subst r11
            clear hA hD
            refine stepOk_want rfl rfl s11 ?_
            intro K hK
            gi_wp2
            exact hK _ _ rfl ((fun _ => Below.refl _ _) _)
          · -- 6
            intro a' w' hA hC hD
            obtain ⟨u14, s14, r14⟩ := hD ⟨5, .data⟩ (by simp) rfl _ rfl
            replace r14 : u14 = _ := r14
            subst r14
            obtain ⟨u11, s11, r11⟩ := hD ⟨2, .guard⟩ (by simp) rfl _ rfl
            replace r11 : u11 = _ := r11
            subst r11
            clear hA hD
            refine stepOk_want rfl rfl s11 ?_
            intro K hK
            gi_wp2
            exact hK _ _ rfl ((fun _ => Below.refl _ _) _)
          · -- 7
            intro a' w' hA hC hD
            obtain ⟨u13, s13, r13⟩ := hD ⟨4, .data⟩ (by simp) rfl _ rfl
            replace r13 : u13 = _ := r13
            subst r13
            obtain ⟨u15, s15, r15⟩ := hD ⟨6, .data⟩ (by simp) rfl _ rfl
            replace r15 : u15 = _ := r15
            subst r15
            obtain ⟨u11, s11, r11⟩ := hD ⟨2, .guard⟩ (by simp) rfl _ rfl
            replace r11 : u11 = _ := r11
            subst r11
            clear hA hD
            refine stepOk_want rfl rfl s11 ?_
            intro K hK
            gi_wp2
            exact hK _ _ rfl ((fun _ => Below.refl _ _) _)
          · -- 8
            intro a' w' hA hC hD
            obtain ⟨u16, s16, r16⟩ := hD ⟨7, .data⟩ (by simp) rfl _ rfl
            replace r16 : u16 = _ := r16
            subst r16
            obtain ⟨u11, s11, r11⟩ := hD ⟨2, .guard⟩ (by simp) rfl _ rfl
            replace r11 : u11 = _ := r11
            subst r11
            obtain ⟨c1, c2, c3⟩ := (HK.out w' hC).2 j (by have := HLT.out; omega)
            clear hA hD
            refine stepOk_want rfl rfl s11 ?_
            intro K hK
            gi_wp2
            exact hK _ _ rfl ((fun _ => Below.refl _ _) _)
          · -- 9
            intro a' w' hA hC hD
            have s1 : a'.tmps[1]? = some _ := (hA.at 1 (by kernel_rfl)).trans rfl
            obtain ⟨u11, s11, r11⟩ := hD ⟨2, .guard⟩ (by simp) rfl _ rfl
            replace r11 : u11 = _ := r11
            subst r11
            have c1 := (HK.out w' hC).1
            clear hA hD
            refine stepOk_want rfl rfl s11 ?_
            intro K hK
            gi_wp2
            exact hK _ _ rfl ((fun _ => Below.refl _ _) _)
          · -- 10
            intro a' w' hA hC hD
            have s3 : a'.tmps[3]? = some _ := (hA.at 3 (by kernel_rfl)).trans rfl
            obtain ⟨u11, s11, r11⟩ := hD ⟨2, .guard⟩ (by simp) rfl _ rfl
            replace r11 : u11 = _ := r11
            subst r11
            clear hA hD
            refine stepOk_want rfl rfl s11 ?_
            intro K hK
            gi_wp2
            exact hK _ _ rfl ((fun _ => Below.refl _ _) _)
          · -- 11
            intro a' w' hA hC hD
            obtain ⟨u18, s18, r18⟩ := hD ⟨9, .data⟩ (by simp) rfl _ rfl
            replace r18 : u18 = _ := r18
            subst r18
            obtain ⟨u19, s19, r19⟩ := hD ⟨10, .data⟩ (by simp) rfl _ rfl
            replace r19 : u19 = _ := r19
            subst r19
            obtain ⟨u11, s11, r11⟩ := hD ⟨2, .guard⟩ (by simp) rfl _ rfl
            replace r11 : u11 = _ := r11
            subst r11
            clear hA hD
            refine stepOk_want rfl rfl s11 ?_
            intro K hK
            gi_wp2
            exact hK _ _ rfl ((fun _ => Below.refl _ _) _)
          · -- 12
            intro a' w' hA hC hD
            obtain ⟨u20, s20, r20⟩ := hD ⟨11, .data⟩ (by simp) rfl _ rfl
            replace r20 : u20 = _ := r20
            subst r20
            obtain ⟨u11, s11, r11⟩ := hD ⟨2, .guard⟩ (by simp) rfl _ rfl
            replace r11 : u11 = _ := r11
            subst r11
            obtain ⟨c1, c2, c3⟩ := (HK.out w' hC).2 (j + 1) HLT.out
            clear hA hD
            refine stepOk_want rfl rfl s11 ?_
            intro K hK
            gi_wp2
            exact hK _ _ rfl ((fun _ => Below.refl _ _) _)
        case hend =>
          intro w3 hC
          simp only [EndFrom, eqv, forall_eq, Act.put, List.length_cons, List.length_nil, List.drop_succ_cons, List.drop_zero, Nat.reduceAdd, List.setIfInBounds_toArray, List.set_cons_succ, List.set_cons_zero]
          have hj := HJ.out _ _ _ HJ0.out hC
          have hkk := HKS.out.trans (KeepsAt.of_below hC HBB.out)
          have hs := firsts_succ (N := ids.length - 1) (k := j) (by have := HLT.out; omega)
          obtain ⟨fn, tmps, assign, body, hy, hR⟩ := HY.out _ (⟨j, by have := HLT.out; omega⟩ : Fin (ids.length - 1)) w3 hj (by have := HLT.out; show (firsts _ j).length < _; rw [firsts_length (by omega)]; omega)
          unfold pairArgs IdT.val at hy
          dsimp only at hy
          replace hs : firsts (ids.length - 1) (j + 1 - 1) ++ [⟨j, by have := HLT.out; omega⟩] = firsts (ids.length - 1) (j + 1) := hs
          rw [hs] at hR
          have HKK := Lib.hid hkk
          clear hj hkk hs hC
          gi_wp2
          refine hR.mono ?_
          rintro e W3 (⟨rfl, hJ3, hk3⟩ | ⟨rfl, hJx3⟩)
          · have HJ3 := Lib.hid hJ3
            have HK3 := Lib.hid hk3
            clear hJ3 hk3
            gi_wp2
            go_roundw
            case rel => exact ⟨j + 1 + 1, HLT.out, by simp, HJ3.out, HKK.out.trans HK3.out⟩
            case measure => have := HLT.out; simp [intOf]; omega
          · have HJ3 := Lib.hid hJx3
            clear hJx3
            gi_wp2
            rw [Exit.noGoto_normal]
            go_end0
            exact ⟨⟨_, rfl⟩, .inr ⟨_, firsts_prefix _ _, HJ3.out⟩⟩
    · obtain rfl : k = ids.length := by omega
      have HJ0 := Lib.hid hJs
      clear hJs hks
      gi_wp2
      rw [Exit.noGoto_normal]
      go_end0
      exact ⟨⟨_, rfl⟩, .inl ⟨_, firsts_all _, HJ0.out⟩⟩
end Go.Proofs.YtppaheekpmgifaaDoor
