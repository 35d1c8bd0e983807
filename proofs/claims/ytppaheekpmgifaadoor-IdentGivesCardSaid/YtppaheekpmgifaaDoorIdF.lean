/- The document's answer for ids: Sorted: the walk. -/
import Derived.Test.YtppaheekpmgifaaDoorIdE
import Derived.Test.YtppaheekpmgifaaDoorAppend
namespace Go.Proofs.YtppaheekpmgifaaDoor
set_option linter.unusedSimpArgs false
set_option linter.unusedVariables false
open Go.RowKit Go.Shelf

theorem idElem3 {w : World} {b off : Nat} {l : List IdT} {n : Nat} (hc : ∀ j, j < n * 3 → w.cell? ⟨b, off + j, none⟩ = some (rowC encId l j)) {k : Nat} {s : IdT} (hk : l[k]? = some s) (hn : l.length = n := by assumption) :
    w.cell? ⟨b, off + k * 3, none⟩ = some (.int .u64 s.time) ∧ w.cell? ⟨b, off + k * 3 + 1, none⟩ = some (.int .i64 s.site) ∧ w.cell? ⟨b, off + k * 3 + 2, none⟩ = some (.int .u64 s.seq) := by
  subst hn
  have h := rowElem encId_len hc hk
  exact ⟨h 0 _ rfl, h 1 _ rfl, h 2 _ rfl⟩
theorem enc_one {l : List IdT} : ∀ x ∈ l.flatMap encId, x.oneCell' = true := fun x hx => by
  obtain ⟨y, _, h⟩ := List.mem_flatMap.1 hx
  exact encId_one y x h
theorem sim1 {a : Act} {t : Nat} {v : Value} (h : a.tmps[t]? = some v) : a.eval (.tmp t) = v := by
  simp [Act.eval, h]
theorem srcTake {w : World} {b off n c m : Nat} {l : List IdT} (hc : ∀ j, j < n * 3 → w.cell? ⟨b, off + j, none⟩ = some (rowC encId l j)) (hn : l.length = n) (hm : m ≤ n) : Src w 3 (.slice (some ⟨b, off, none⟩) m c) m ((l.take m).flatMap encId) := by
  refine ⟨by rw [flat_length encId_len, List.length_take, Nat.min_eq_left (by omega)], .inr ⟨_, _, rfl, fun j x hx => ?_⟩⟩
  have hj : j < ((l.take m).flatMap encId).length := (List.getElem?_eq_some_iff.1 hx).1
  have hjl : j < m * 3 := by rw [flat_length encId_len, List.length_take, Nat.min_eq_left (by omega)] at hj; exact hj
  rw [show (⟨b, off, none⟩ : Addr).add j = ⟨b, off + j, none⟩ from by unfold Addr.add; split <;> simp_all, hc j (by omega)]
  unfold rowC
  have e1 : (l.take m).flatMap encId = (l.flatMap encId).take (m * 3) := by
    have h1 : l.flatMap encId = (l.take m).flatMap encId ++ (l.drop m).flatMap encId := by rw [← List.flatMap_append, List.take_append_drop]
    have h2 : ((l.take m).flatMap encId).length = m * 3 := by rw [flat_length encId_len, List.length_take, Nat.min_eq_left (by omega)]
    rw [h1, ← h2, List.take_left]
  rw [e1, List.getElem?_take_of_lt hjl] at hx
  rw [hx]
  rfl
theorem srcDrop {w : World} {b off n c m : Nat} {l : List IdT} (hc : ∀ j, j < n * 3 → w.cell? ⟨b, off + j, none⟩ = some (rowC encId l j)) (hn : l.length = n) (hm : m ≤ n) : Src w 3 (.slice (some ⟨b, off + m * 3, none⟩) (n - m) c) (n - m) ((l.drop m).flatMap encId) := by
  refine ⟨by rw [flat_length encId_len, List.length_drop, hn], .inr ⟨_, _, rfl, fun j x hx => ?_⟩⟩
  have hj : j < ((l.drop m).flatMap encId).length := (List.getElem?_eq_some_iff.1 hx).1
  have hjl : j < (n - m) * 3 := by rw [flat_length encId_len, List.length_drop, hn] at hj; exact hj
  rw [show (⟨b, off + m * 3, none⟩ : Addr).add j = ⟨b, off + (m * 3 + j), none⟩ from by unfold Addr.add; split <;> simp_all [Nat.add_assoc], hc (m * 3 + j) (by omega)]
  unfold rowC
  have h1 : l.flatMap encId = (l.take m).flatMap encId ++ (l.drop m).flatMap encId := by rw [← List.flatMap_append, List.take_append_drop]
  have h2 : ((l.take m).flatMap encId).length = m * 3 := by rw [flat_length encId_len, List.length_take, Nat.min_eq_left (by omega)]
  rw [h1, List.getElem?_append_right (by omega), h2, show m * 3 + j - m * 3 = j from by omega, hx]
  rfl
theorem srcNone {w : World} {ad : Addr} {c : Nat} : Src w 3 (.slice (some ad) 0 c) 0 [] := ⟨by simp, .inr ⟨_, _, rfl, by simp⟩⟩

set_option maxRecDepth 100000 in
set_option maxHeartbeats 3000000 in
theorem refSorted_any (sv : Value) (l : List IdT) (w : World) (h : Elems w sv l.length 3 (rowC encId l)) (hl : l.length ≤ 1000) :
    Calls Tryd.prog 32 #[sv] w (GivesRow 27 3 l.length ((sortIds l).flatMap encId) w) := by
  obtain ⟨sa, scap, rfl, hs⟩ := h.shape
  obtain ⟨i0, hi, hz0, hz1, hz2⟩ := info_parts infoId
  have Hs := Lib.hid hs
  obtain ⟨n, hn⟩ : ∃ n, l.length = n := ⟨_, rfl⟩
  rw [hn] at hl Hs ⊢
  have Hn := Lib.hid hn
  clear h hs hn
  go_enter Tryd.func32, Tryd.ntmps32
  go_wp2_with fail
  go_loopw [3, 9] (fun o i wr => ∃ k : Nat, k ≤ n ∧ i = .int .i64 k ∧ wr.ownsRow w.heap.size 27 3 o k ((insTo l k).flatMap encId) ∧ (k = 0 ↔ o = .slice none 0 0) ∧ Below w.heap.size w wr) (fun _ i _ => n - (intOf i).toNat)
  case atStart => exact ⟨0, Nat.zero_le _, rfl, World.ownsRow_nil _ _ _ _, by simp, Below.refl _ _⟩
  case round =>
    obtain ⟨k, hk, rfl, hrow, hnil, hB⟩ := hrel
    have Hrow := Lib.hid hrow
    have HB := Lib.hid hB
    have Hnil := Lib.hid hnil
    clear hrow hB hnil
    by_cases hkn : k < n
    · obtain ⟨bl, offl, rfl, hltl, hcl⟩ := Hs.out.resolve_left (by omega)
      obtain ⟨x, hx⟩ : ∃ x, l[k]? = some x := ⟨_, List.getElem?_eq_getElem (by rw [Hn.out]; exact hkn)⟩
      have hlen := Hn.out
      obtain ⟨e0, e1, e2⟩ := idElem3 (fun j hj => (HB.out.cell (p := ⟨bl, offl + j, none⟩) hltl).trans (hcl j hj)) hx
      have Hlk := Lib.hid hlen
      clear hlen hcl
      obtain ⟨O, hO⟩ : ∃ O, insTo l k = O := ⟨_, rfl⟩
      have hOl : O.length = k := by rw [← hO]; exact insTo_length l k (by rw [Hn.out]; omega)
      have hins : insTo l (k + 1) = insId x O := by rw [insTo, hx, hO]
      rw [hO] at Hrow
      have Hins := Lib.hid hins
      have HOl := Lib.hid hOl
      clear hx hO hins hOl
      obtain ⟨x1, x2, x3⟩ := x
      dsimp only at e0 e1 e2
      obtain ⟨wo, hwo⟩ : ∃ wo : World, wo = wr := ⟨_, rfl⟩
      rw [← hwo] at Hrow HB e0 e1 e2 ⊢
      clear hwo
      go_wp2_with fail
      clear e0 e1 e2
      have hel := ownsRow_rows encId_len (show wo.ownsRow w.heap.size 27 3 u3 O.length (O.flatMap encId) by rw [HOl.out]; exact Hrow.out)
      rw [HOl.out] at hel
      obtain ⟨oa, ocap, rfl, hos⟩ := hel.shape
      have hcap : k ≤ ocap ∧ ocap ≤ maxLen := by
        rcases Hrow.out.2 with ⟨e, h0⟩ | ⟨g, cap, cur, e, _, _, h1, h2, _⟩
        · cases e; unfold maxLen; omega
        · cases e; exact ⟨h1, h2⟩
      obtain ⟨hcap1, hcap2⟩ := hcap
      unfold maxLen at hcap2
      have Hos := Lib.hid hos
      clear hel hos
      by_cases hk0 : k = 0
      · subst hk0
        have hnil := Hnil.out.1 rfl
        simp only [Value.slice.injEq, true_and] at hnil
        obtain ⟨rfl, rfl⟩ := hnil
        have hj0' : True := trivial
        have hA := HB.out.alloc HB.out.size (.cells #[.int .u64 x1, .int .i64 x2, .int .u64 x3] 27)
        have hbx := World.alloc_heap_new wo (.cells #[.int .u64 x1, .int .i64 x2, .int .u64 x3] 27)
        have HA := Lib.hid hA
        have Hbx0 := Lib.hid hbx
        clear hA hbx
        go_loopw [6] (fun i wr => ∃ j : Nat, j ≤ 0 ∧ i = .int .i64 j ∧ (∀ m y, m < j → O[m]? = some y → idLess ⟨x1, x2, x3⟩ y = false) ∧ Below wo.heap.size wo wr ∧ wr.heap[wo.heap.size]? = some (.cells #[.int .u64 x1, .int .i64 x2, .int .u64 x3] 27 (0, 0))) (fun i _ => 0 - (intOf i).toNat)
        case atStart => exact ⟨0, Nat.zero_le _, rfl, fun m y hm => absurd hm (Nat.not_lt_zero _), (Below.refl _ _).alloc (Nat.le_refl _) _, Hbx0.out⟩
        case round =>
          obtain ⟨j, hjk, rfl, hall, hBw, hbx⟩ := hrel
          clear HA Hbx0
          have Hall := Lib.hid hall
          have HBw := Lib.hid hBw
          have Hbx := Lib.hid hbx
          clear hall hBw hbx
          have hjk3 : j = 0 := by omega
          subst hjk3
          have hcut : 0 = cutAt ⟨x1, x2, x3⟩ O := cutAt_unique _ O 0 (by rw [HOl.out]; omega) (fun m y hm hy => Hall.out m y hm hy) (fun y hy => by rw [List.getElem?_eq_none (by rw [HOl.out]; omega)] at hy; cases hy)
          have Hcut := Lib.hid hcut
          clear hcut
          go_wp2_with fail
          refine (wpIn_wide (n := 0)).1 ?_
          apply wp_region_vals 13 (Rl := [(eqv _), (eqv _), (eqv _), (eqv _), (eqv _), (fun v_ _ => v_ = (undef : Value)), (fun v_ _ => v_ = (undef : Value)), (fun v_ _ => v_ = (undef : Value)), (fun v_ _ => v_ = (undef : Value)), (fun v_ _ => v_ = (undef : Value)), (fun v_ _ => v_ = (undef : Value)), (fun v_ _ => v_ = (undef : Value)), (eqv _)]) (C := (fun x y => Below x.heap.size x y))
          case hm => kernel_rfl
          case hk => rfl
          case hCr => exact (fun _ => Below.refl _ _)
          case hCt => intro _ _ _; exact (fun h k => grows_trans h k)
          case hst => exact ⟨fun _ _ _ _ h => h, fun _ _ _ _ h => h, fun _ _ _ _ h => h, fun _ _ _ _ h => h, fun _ _ _ _ h => h, fun _ _ _ _ h => h, fun _ _ _ _ h => h, fun _ _ _ _ h => h, fun _ _ _ _ h => h, fun _ _ _ _ h => h, fun _ _ _ _ h => h, fun _ _ _ _ h => h, fun _ _ _ _ h => h, trivial⟩
          case hfo => kernel_rfl
          case ht => kernel_rfl
          case hC0 => exact (grows_drew _)
          case hsteps =>
            refine ⟨?_, ?_, ?_, ?_, ?_, ?_, ?_, ?_, ?_, ?_, ?_, ?_, ?_, trivial⟩
            · -- 0
              intro a' w' hA hC hD
              have s6 : a'.tmps[6]? = some _ := (hA.at 6 (by kernel_rfl)).trans rfl
              clear hA hD
              refine stepOk_plain rfl ?_
              intro K hK
              gi_wp2
              exact hK _ _ rfl ((fun _ => Below.refl _ _) _)
            · -- 1
              intro a' w' hA hC hD
              have s3 : a'.tmps[3]? = some _ := (hA.at 3 (by kernel_rfl)).trans rfl
              clear hA hD
              refine stepOk_plain rfl ?_
              intro K hK
              gi_wp2
              exact hK _ _ rfl ((fun _ => Below.refl _ _) _)
            · -- 2
              intro a' w' hA hC hD
              obtain ⟨u14, s14, r14⟩ := hD ⟨1, .data⟩ (by simp) rfl _ rfl
              replace r14 : u14 = _ := r14
              subst r14
              clear hA hD
              refine stepOk_plain rfl ?_
              intro K hK
              gi_wp2
              exact hK _ _ rfl ((fun _ => Below.refl _ _) _)
            · -- 3
              intro a' w' hA hC hD
              obtain ⟨u13, s13, r13⟩ := hD ⟨0, .data⟩ (by simp) rfl _ rfl
              replace r13 : u13 = _ := r13
              subst r13
              obtain ⟨u15, s15, r15⟩ := hD ⟨2, .data⟩ (by simp) rfl _ rfl
              replace r15 : u15 = _ := r15
              subst r15
              clear hA hD
              refine stepOk_plain rfl ?_
              intro K hK
              gi_wp2
              exact hK _ _ rfl ((fun _ => Below.refl _ _) _)
            · -- 4
              intro a' w' hA hC hD
              obtain ⟨u16, s16, r16⟩ := hD ⟨3, .data⟩ (by simp) rfl _ rfl
              replace r16 : u16 = _ := r16
              subst r16
              clear hA hD
              refine stepOk_plain rfl ?_
              intro K hK
              gi_wp2
              exact hK _ _ rfl ((fun _ => Below.refl _ _) _)
            · -- 5
              intro a' w' hA hC hD
              have s5 : a'.tmps[5]? = some _ := (hA.at 5 (by kernel_rfl)).trans rfl
              obtain ⟨u17, s17, r17⟩ := hD ⟨4, .guard⟩ (by simp) rfl _ rfl
              replace r17 : u17 = _ := r17
              subst r17
              clear hA hD
              exact stepOk_skip rfl rfl s17 rfl
            · -- 6
              intro a' w' hA hC hD
              have s3 : a'.tmps[3]? = some _ := (hA.at 3 (by kernel_rfl)).trans rfl
              obtain ⟨u17, s17, r17⟩ := hD ⟨4, .guard⟩ (by simp) rfl _ rfl
              replace r17 : u17 = _ := r17
              subst r17
              clear hA hD
              exact stepOk_skip rfl rfl s17 rfl
            · -- 7
              intro a' w' hA hC hD
              have s6 : a'.tmps[6]? = some _ := (hA.at 6 (by kernel_rfl)).trans rfl
              obtain ⟨u17, s17, r17⟩ := hD ⟨4, .guard⟩ (by simp) rfl _ rfl
              replace r17 : u17 = _ := r17
              subst r17
              clear hA hD
              exact stepOk_skip rfl rfl s17 rfl
            · -- 8
              intro a' w' hA hC hD
              obtain ⟨u19, s19, r19⟩ := hD ⟨6, .data⟩ (by simp) rfl _ rfl
              replace r19 : u19 = undef := r19
              subst r19
              obtain ⟨u20, s20, r20⟩ := hD ⟨7, .data⟩ (by simp) rfl _ rfl
              replace r20 : u20 = undef := r20
              subst r20
              obtain ⟨u17, s17, r17⟩ := hD ⟨4, .guard⟩ (by simp) rfl _ rfl
              replace r17 : u17 = _ := r17
              subst r17
              clear hA hD
              exact stepOk_skip rfl rfl s17 rfl
            · -- 9
              intro a' w' hA hC hD
              obtain ⟨u21, s21, r21⟩ := hD ⟨8, .data⟩ (by simp) rfl _ rfl
              replace r21 : u21 = undef := r21
              subst r21
              obtain ⟨u17, s17, r17⟩ := hD ⟨4, .guard⟩ (by simp) rfl _ rfl
              replace r17 : u17 = _ := r17
              subst r17
              clear hA hD
              exact stepOk_skip rfl rfl s17 rfl
            · -- 10
              intro a' w' hA hC hD
              obtain ⟨u18, s18, r18⟩ := hD ⟨5, .data⟩ (by simp) rfl _ rfl
              replace r18 : u18 = undef := r18
              subst r18
              obtain ⟨u22, s22, r22⟩ := hD ⟨9, .data⟩ (by simp) rfl _ rfl
              replace r22 : u22 = undef := r22
              subst r22
              obtain ⟨u17, s17, r17⟩ := hD ⟨4, .chain⟩ (by simp) rfl _ rfl
              replace r17 : u17 = _ := r17
              subst r17
              clear hA hD
              exact stepOk_skip rfl rfl s17 rfl
            · -- 11
              intro a' w' hA hC hD
              obtain ⟨u23, s23, r23⟩ := hD ⟨10, .data⟩ (by simp) rfl _ rfl
              replace r23 : u23 = undef := r23
              subst r23
              obtain ⟨u17, s17, r17⟩ := hD ⟨4, .guard⟩ (by simp) rfl _ rfl
              replace r17 : u17 = _ := r17
              subst r17
              clear hA hD
              exact stepOk_skip rfl rfl s17 rfl
            · -- 12
              intro a' w' hA hC hD
              obtain ⟨u17, s17, r17⟩ := hD ⟨4, .data⟩ (by simp) rfl _ rfl
              replace r17 : u17 = _ := r17
              subst r17
              obtain ⟨u24, s24, r24⟩ := hD ⟨11, .data⟩ (by simp) rfl _ rfl
              replace r24 : u24 = undef := r24
              subst r24
              clear hA hD
              refine stepOk_plain rfl ?_
              intro K hK
              gi_wp2
              exact hK _ _ rfl ((fun _ => Below.refl _ _) _)
          case' hend =>
            intro w3 hC
            simp only [EndFrom, eqv, forall_eq, Act.put, List.length_cons, List.length_nil, List.drop_succ_cons, List.drop_zero, Nat.reduceAdd, List.setIfInBounds_toArray, List.set_cons_succ, List.set_cons_zero]
          all_goals
            have HBw := Lib.hid (HBw.out.trans (hC.mono HBw.out.size))
            have Hbx := Lib.hid ((hC.block _ (block_lt Hbx.out)).trans Hbx.out)
            clear hC
            gi_wp2
            go_wp2_with fail
            refine (wpIn_wide (n := 0)).1 ?_
            refine wpIn_region_any (by kernel_rfl) ?_
            apply take_first (i := 1) (some 29)
            case hro => rfl
            case hi => rfl
            case hd => rfl
            case hs => kernel_rfl
            case hf => kernel_rfl
            case hr => kernel_rfl
            case hQ => exact fun _ _ _ h => h
            case hy => exact ⟨.inl ⟨by rfl, fun w => by go_simp; rfl⟩, fun _ => rfl⟩
            simp only [Act.put, List.setIfInBounds_toArray, List.set_cons_succ, List.set_cons_zero]
            apply take_first (i := 2) (some 30)
            case hro => rfl
            case hi => rfl
            case hd => rfl
            case hs => kernel_rfl
            case hf => kernel_rfl
            case hr => kernel_rfl
            case hQ => exact fun _ _ _ h => h
            case hy => exact ⟨.inl ⟨by rfl, fun w => by go_simp; rfl⟩, fun _ => rfl⟩
            simp only [Act.put, List.setIfInBounds_toArray, List.set_cons_succ, List.set_cons_zero]
            apply take_first (i := 3) (some 31)
            case hro => rfl
            case hi => rfl
            case hd => rfl
            case hs => kernel_rfl
            case hf => kernel_rfl
            case hr => kernel_rfl
            case hQ => exact fun _ _ _ h => h
            case hy => exact ⟨.inl ⟨by rfl, fun w => by go_simp; rfl⟩, fun _ => rfl⟩
            simp only [Act.put, List.setIfInBounds_toArray, List.set_cons_succ, List.set_cons_zero]
            apply take_first (i := 8) (some 36)
            case hro => rfl
            case hi => rfl
            case hd => rfl
            case hs => kernel_rfl
            case hf => kernel_rfl
            case hr => kernel_rfl
            case hQ => exact fun _ _ _ h => h
            case hy => exact ⟨.inl ⟨by rfl, fun w => by go_simp; rfl⟩, fun _ => rfl⟩
            simp only [Act.put, List.setIfInBounds_toArray, List.set_cons_succ, List.set_cons_zero]
            apply take_first (i := 9) (some 37)
            case hro => rfl
            case hi => rfl
            case hd => rfl
            case hs => kernel_rfl
            case hf => kernel_rfl
            case hr => kernel_rfl
            case hQ => exact fun _ _ _ h => h
            case hy => exact ⟨.inl ⟨by rfl, fun w => by go_simp; rfl⟩, fun _ => rfl⟩
            simp only [Act.put, List.setIfInBounds_toArray, List.set_cons_succ, List.set_cons_zero]
            apply take_first (i := 10) (some 38)
            case hro => rfl
            case hi => rfl
            case hd => rfl
            case hs => kernel_rfl
            case hf => kernel_rfl
            case hr => kernel_rfl
            case hQ => exact fun _ _ _ h => h
            case hy => exact ⟨.inl ⟨by rfl, fun w => by go_simp; rfl⟩, fun _ => rfl⟩
            simp only [Act.put, List.setIfInBounds_toArray, List.set_cons_succ, List.set_cons_zero]
            apply wp_facts_marks [0, 4, 5, 6] [7, 11, 12] [true, false, false, false, true, true, true, false, false, false, false, false, false] [false, false, false, false, false, false, false, true, false, false, false, true, true] (Rl := [(0, (fun v_ w_ => ∃ g, v_ = .slice (some ⟨g, 0, none⟩) 0 0 ∧ w3.heap.size ≤ g ∧ w_.heap[g]? = some (.cells #[] 27 (0, 0)))), (4, (fun v_ w_ => w_.ownsRow w3.heap.size 27 3 v_ 0 ((O.take 0).flatMap encId))), (5, (eqv _)), (6, (fun v_ w_ => ∃ q, v_ = .slice (some ⟨q, 0, none⟩) 1 1 ∧ w_.heap[q]? = some (.cells #[.int .u64 x1, .int .i64 x2, .int .u64 x3] 27 (0, 0))))]) (C := (fun x y => Below x.heap.size x y))
            case hk => rfl
            case hnd => decide
            case hmf => kernel_rfl
            case hmt => kernel_rfl
            case hCr => exact (fun _ => Below.refl _ _)
            case hCt => intro _ _ _; exact (fun h k => grows_trans h k)
            case hst => exact ⟨fun _ _ _ hC ⟨g, e, hg, h⟩ => ⟨g, e, hg, (hC.block _ (block_lt h)).trans h⟩, fun _ _ _ hC h => ownsRow_below h hC, fun _ _ _ _ h => h, fun _ _ _ hC ⟨q, e, h⟩ => ⟨q, e, (hC.block _ (block_lt h)).trans h⟩, trivial⟩
            case hfo => kernel_rfl
            case hsp => kernel_rfl
            case hch => kernel_rfl
            case hfuel => kernel_rfl
            case hsteps =>
              refine ⟨?_, ?_, ?_, ?_, trivial⟩
              · -- 0
                intro a' w' hA hC hD
                clear hA hD
                refine stepOk_plain rfl ?_
                intro K hK
                gi_wp2
                exact hK (.slice (some ⟨w'.heap.size, 0, none⟩) 0 0) _ ⟨w'.heap.size, rfl, hC.size, World.alloc_heap_new _ _⟩ ((Below.refl _ _).alloc (Nat.le_refl _) _)
              · -- 4
                intro a' w' hA hC hD
                obtain ⟨u28, s28, r28⟩ := hD ⟨0, .data⟩ (by simp) rfl (by simp) _ rfl
                replace r28 : (fun v_ w_ => ∃ g, v_ = .slice (some ⟨g, 0, none⟩) 0 0 ∧ w3.heap.size ≤ g ∧ w_.heap[g]? = some (.cells #[] 27 (0, 0))) u28 w' := r28
                have s31 : a'.tmps[31]? = some _ := (hA.at 31 (by kernel_rfl)).trans rfl
                clear hA hD
                refine stepOk_plain rfl ?_
                intro K hK
                obtain ⟨g, rfl, hg, hgb⟩ := r28; obtain ⟨v', w2, hrun, r1, r2, _⟩ := run_append_fresh (P := Tryd.prog) (w := w') w3.heap.size 22 22 27 i0 (.agg #[.int .u64 0, .int .i64 0, .int .u64 0]) 3 24 Tryd.underlying22 hi hz0 hz1 hz2 rfl (by decide) g hg hgb _ 0 ((O.take 0).flatMap encId) ⟨by simp, .inl ⟨rfl, rfl⟩⟩ enc_one (by unfold maxLen; omega) (by omega) hC.size; refine opIn_append _ _ _ rfl (sim1 s28) (sim1 s31) hrun ?_
                exact hK _ _ r1 r2
              · -- 5
                intro a' w' hA hC hD
                have s5 : a'.tmps[5]? = some _ := (hA.at 5 (by kernel_rfl)).trans rfl
                have hx_ := (hC.block _ (block_lt Hbx.out)).trans Hbx.out; have c0 := cell_of_block (k := 0) (v := .int .u64 x1) hx_ rfl; have c1 := cell_of_block (k := 1) (v := .int .i64 x2) hx_ rfl; have c2 := cell_of_block (k := 2) (v := .int .u64 x3) hx_ rfl
                clear hA hD
                refine stepOk_plain rfl ?_
                intro K hK
                gi_wp2
                exact hK _ _ rfl ((fun _ => Below.refl _ _) _)
              · -- 6
                intro a' w' hA hC hD
                obtain ⟨u33, s33, r33⟩ := hD ⟨5, .data⟩ (by simp) rfl (by simp) _ rfl
                replace r33 : u33 = _ := r33
                subst r33
                clear hA hD
                refine stepOk_plain rfl ?_
                intro K hK
                gi_wp2
                exact hK (.slice (some ⟨w'.heap.size, 0, none⟩) 1 1) _ ⟨w'.heap.size, rfl, World.alloc_heap_new _ _⟩ ((Below.refl _ _).alloc (Nat.le_refl _) _)
            case hend =>
              intro w4 hC
              simp only [EndL, pickM, eqv, forall_eq, Act.put, List.setIfInBounds_toArray, List.set_cons_succ, List.set_cons_zero]
              rintro _ ⟨g, rfl, hg, hgb⟩ v4 hrow4 _ ⟨q, rfl, hq⟩
              have hz4 := hC.size
              dsimp only at hz4
              have hO4 := HOl.out
              refine wpListIn_append_src w4 rfl _ _ 22 rfl w3.heap.size 27 i0 (.agg #[.int .u64 0, .int .i64 0, .int .u64 0]) 3 24 Tryd.underlying22 hi hz0 hz1 hz2 rfl (by decide) _ _ _ rfl hrow4 _ 1 (encId ⟨x1, x2, x3⟩) rfl ⟨rfl, .inr ⟨_, _, rfl, cells_of_block hq⟩⟩ (encId_one _) (by unfold maxLen; omega) (by omega) hz4 ?_
              intro v7 w5 hown7 hgrow7 _
              have hz5 := hgrow7.size
              have hB5 : Below w3.heap.size w3 w5 := (show Below w3.heap.size w3 w4 from (grows_drew w3).trans hC).grown hgrow7 hz4 (fun y e => (hrow4.lt y e).1)
              have hsrc : Src w5 3 (.slice none 0 0) (0 - 0) ((O.drop 0).flatMap encId) := ⟨by rw [flat_length encId_len, List.drop_zero, hO4], .inl ⟨rfl, rfl⟩⟩
              refine wpListIn_append_src w5 rfl _ _ 22 rfl w3.heap.size 27 i0 (.agg #[.int .u64 0, .int .i64 0, .int .u64 0]) 3 24 Tryd.underlying22 hi hz0 hz1 hz2 rfl (by decide) _ _ _ rfl hown7 _ (0 - 0) ((O.drop 0).flatMap encId) rfl hsrc enc_one (by unfold maxLen; omega) (by omega) (by omega) ?_
              intro v11 w6 hown11 hgrow11 hnn
              have hB6 := hB5.grown hgrow11 hB5.size (fun y e => (hown7.lt y e).1)
              have HO := Lib.hid hown11
              have HB6 := Lib.hid (HB.out.trans ((HBw.out.mono HB.out.size).trans (hB6.mono (Nat.le_trans HB.out.size HBw.out.size))))
              have HN := Lib.hid hnn
              have HZ := Lib.hid (Nat.le_trans HB.out.size HBw.out.size)
              clear hown11 hgrow11 hnn hB6 hsrc hB5 hown7 hgrow7 hz5 hz4 hrow4 hq hgb hg hC hO4
              have HREL := Lib.hid (show ∃ k' : Nat, k' ≤ n ∧ (Value.int .i64 ((0 : Int) + 1)) = .int .i64 (k' : Int) ∧ w6.ownsRow w.heap.size 27 3 v11 k' ((insTo l k').flatMap encId) ∧ (k' = 0 ↔ v11 = .slice none 0 0) ∧ Below w.heap.size w w6 from by
                refine ⟨0 + 1, by omega, by simp, ?_, by have := HN.out; simp; exact this (by omega), HB6.out⟩
                have h := HO.out
                rw [show 0 + 1 + (0 - 0) = 0 + 1 from by omega] at h
                rw [Hins.out]
                unfold insId
                rw [← Hcut.out]
                simpa [List.flatMap_append, List.flatMap_cons] using ownsRow_mono h HZ.out)
              gi_wp2
              go_wp2_with fail
              go_roundw
              all_goals first | exact HREL.out | exact ⟨HREL.out, by simp [intOf]; omega⟩ | (simp [intOf]; omega)
      · obtain ⟨b, off, rfl, hltb, hcb⟩ := Hos.out.resolve_left hk0
        have Hcb := Lib.hid hcb
        clear hcb
        have hA := HB.out.alloc HB.out.size (.cells #[.int .u64 x1, .int .i64 x2, .int .u64 x3] 27)
        have hbx := World.alloc_heap_new wo (.cells #[.int .u64 x1, .int .i64 x2, .int .u64 x3] 27)
        have HA := Lib.hid hA
        have Hbx0 := Lib.hid hbx
        clear hA hbx
        go_loopw [6] (fun i wr => ∃ j : Nat, j ≤ k ∧ i = .int .i64 j ∧ (∀ m y, m < j → O[m]? = some y → idLess ⟨x1, x2, x3⟩ y = false) ∧ Below wo.heap.size wo wr ∧ wr.heap[wo.heap.size]? = some (.cells #[.int .u64 x1, .int .i64 x2, .int .u64 x3] 27 (0, 0))) (fun i _ => k - (intOf i).toNat)
        case atStart => exact ⟨0, Nat.zero_le _, rfl, fun m y hm => absurd hm (Nat.not_lt_zero _), (Below.refl _ _).alloc (Nat.le_refl _) _, Hbx0.out⟩
        case round =>
          obtain ⟨j, hjk, rfl, hall, hBw, hbx⟩ := hrel
          clear HA Hbx0
          have Hall := Lib.hid hall
          have HBw := Lib.hid hBw
          have Hbx := Lib.hid hbx
          clear hall hBw hbx
          have hlt : b < wr.heap.size := Nat.lt_of_lt_of_le hltb HBw.out.size
          have Hc := Lib.hid (fun (j : Nat) (hj : j < k * 3) => (HBw.out.cell (p := ⟨b, off + j, none⟩) hltb).trans (Hcb.out j hj))
          have hlen := HOl.out
          by_cases hjk2 : j < k
          case' pos =>
            obtain ⟨y, hy⟩ : ∃ y, O[j]? = some y := ⟨_, List.getElem?_eq_getElem (by rw [HOl.out]; exact hjk2)⟩
            have Hy := Lib.hid hy
            clear hy
            obtain ⟨y1, y2, y3⟩ := y
            obtain ⟨ls, hls⟩ : ∃ ls, idLess ⟨x1, x2, x3⟩ ⟨y1, y2, y3⟩ = ls := ⟨_, rfl⟩
            have Hless := Lib.hid hls
            clear hls
            cases ls
            case' false =>
              go_wp2_with fail
              refine (wpIn_wide (n := 0)).1 ?_
              apply wp_region_vals 13 (Rl := [(eqv _), (eqv _), (eqv _), (eqv _), (eqv _), (eqv _), (eqv _), (eqv _), (eqv _), (eqv _), (eqv _), (eqv _), (eqv _)]) (C := (fun x y => Below x.heap.size x y))
              case hm => kernel_rfl
              case hk => rfl
              case hCr => exact (fun _ => Below.refl _ _)
              case hCt => intro _ _ _; exact (fun h k => grows_trans h k)
              case hst => exact ⟨fun _ _ _ _ h => h, fun _ _ _ _ h => h, fun _ _ _ _ h => h, fun _ _ _ _ h => h, fun _ _ _ _ h => h, fun _ _ _ _ h => h, fun _ _ _ _ h => h, fun _ _ _ _ h => h, fun _ _ _ _ h => h, fun _ _ _ _ h => h, fun _ _ _ _ h => h, fun _ _ _ _ h => h, fun _ _ _ _ h => h, trivial⟩
              case hfo => kernel_rfl
              case ht => kernel_rfl
              case hC0 => exact (grows_drew _)
              case hsteps =>
                refine ⟨?_, ?_, ?_, ?_, ?_, ?_, ?_, ?_, ?_, ?_, ?_, ?_, ?_, trivial⟩
                · -- 0
                  intro a' w' hA hC hD
                  have s6 : a'.tmps[6]? = some _ := (hA.at 6 (by kernel_rfl)).trans rfl
                  clear hA hD
                  refine stepOk_plain rfl ?_
                  intro K hK
                  gi_wp2
                  exact hK _ _ rfl ((fun _ => Below.refl _ _) _)
                · -- 1
                  intro a' w' hA hC hD
                  have s3 : a'.tmps[3]? = some _ := (hA.at 3 (by kernel_rfl)).trans rfl
                  clear hA hD
                  refine stepOk_plain rfl ?_
                  intro K hK
                  gi_wp2
                  exact hK _ _ rfl ((fun _ => Below.refl _ _) _)
                · -- 2
                  intro a' w' hA hC hD
                  obtain ⟨u14, s14, r14⟩ := hD ⟨1, .data⟩ (by simp) rfl _ rfl
                  replace r14 : u14 = _ := r14
                  subst r14
                  clear hA hD
                  refine stepOk_plain rfl ?_
                  intro K hK
                  gi_wp2
                  exact hK _ _ rfl ((fun _ => Below.refl _ _) _)
                · -- 3
                  intro a' w' hA hC hD
                  obtain ⟨u13, s13, r13⟩ := hD ⟨0, .data⟩ (by simp) rfl _ rfl
                  replace r13 : u13 = _ := r13
                  subst r13
                  obtain ⟨u15, s15, r15⟩ := hD ⟨2, .data⟩ (by simp) rfl _ rfl
                  replace r15 : u15 = _ := r15
                  subst r15
                  clear hA hD
                  refine stepOk_plain rfl ?_
                  intro K hK
                  gi_wp2
                  exact hK _ _ rfl ((fun _ => Below.refl _ _) _)
                · -- 4
                  intro a' w' hA hC hD
                  obtain ⟨u16, s16, r16⟩ := hD ⟨3, .data⟩ (by simp) rfl _ rfl
                  replace r16 : u16 = _ := r16
                  subst r16
                  clear hA hD
                  refine stepOk_plain rfl ?_
                  intro K hK
                  gi_wp2
                  exact hK _ _ rfl ((fun _ => Below.refl _ _) _)
                · -- 5
                  intro a' w' hA hC hD
                  have s5 : a'.tmps[5]? = some _ := (hA.at 5 (by kernel_rfl)).trans rfl
                  obtain ⟨u17, s17, r17⟩ := hD ⟨4, .guard⟩ (by simp) rfl _ rfl
                  replace r17 : u17 = _ := r17
                  subst r17
                  have hx_ := (hC.block _ (block_lt Hbx.out)).trans Hbx.out; have c0 := cell_of_block (k := 0) (v := .int .u64 x1) hx_ rfl; have c1 := cell_of_block (k := 1) (v := .int .i64 x2) hx_ rfl; have c2 := cell_of_block (k := 2) (v := .int .u64 x3) hx_ rfl
                  clear hA hD
                  refine stepOk_want rfl rfl s17 ?_
                  intro K hK
                  gi_wp2
                  exact hK _ _ rfl ((fun _ => Below.refl _ _) _)
                · -- 6
                  intro a' w' hA hC hD
                  have s3 : a'.tmps[3]? = some _ := (hA.at 3 (by kernel_rfl)).trans rfl
                  obtain ⟨u17, s17, r17⟩ := hD ⟨4, .guard⟩ (by simp) rfl _ rfl
                  replace r17 : u17 = _ := r17
                  subst r17
                  clear hA hD
                  refine stepOk_want rfl rfl s17 ?_
                  intro K hK
                  gi_wp2
                  exact hK _ _ rfl ((fun _ => Below.refl _ _) _)
                · -- 7
                  intro a' w' hA hC hD
                  have s6 : a'.tmps[6]? = some _ := (hA.at 6 (by kernel_rfl)).trans rfl
                  obtain ⟨u17, s17, r17⟩ := hD ⟨4, .guard⟩ (by simp) rfl _ rfl
                  replace r17 : u17 = _ := r17
                  subst r17
                  clear hA hD
                  refine stepOk_want rfl rfl s17 ?_
                  intro K hK
                  gi_wp2
                  exact hK _ _ rfl ((fun _ => Below.refl _ _) _)
                · -- 8
                  intro a' w' hA hC hD
                  obtain ⟨u19, s19, r19⟩ := hD ⟨6, .data⟩ (by simp) rfl _ rfl
                  replace r19 : u19 = _ := r19
                  subst r19
                  obtain ⟨u20, s20, r20⟩ := hD ⟨7, .data⟩ (by simp) rfl _ rfl
                  replace r20 : u20 = _ := r20
                  subst r20
                  obtain ⟨u17, s17, r17⟩ := hD ⟨4, .guard⟩ (by simp) rfl _ rfl
                  replace r17 : u17 = _ := r17
                  subst r17
                  clear hA hD
                  refine stepOk_want rfl rfl s17 ?_
                  intro K hK
                  gi_wp2
                  exact hK _ _ rfl ((fun _ => Below.refl _ _) _)
                · -- 9
                  intro a' w' hA hC hD
                  obtain ⟨u21, s21, r21⟩ := hD ⟨8, .data⟩ (by simp) rfl _ rfl
                  replace r21 : u21 = _ := r21
                  subst r21
                  obtain ⟨u17, s17, r17⟩ := hD ⟨4, .guard⟩ (by simp) rfl _ rfl
                  replace r17 : u17 = _ := r17
                  subst r17
                  have hf_ := idElem3 (fun j hj => (hC.cell (p := ⟨b, off + j, none⟩) hlt).trans (Hc.out j hj)) Hy.out; obtain ⟨c0, c1, c2⟩ := hf_
                  clear hA hD
                  refine stepOk_want rfl rfl s17 ?_
                  intro K hK
                  gi_wp2
                  exact hK _ _ rfl ((fun _ => Below.refl _ _) _)
                · -- 10
                  intro a' w' hA hC hD
                  obtain ⟨u18, s18, r18⟩ := hD ⟨5, .data⟩ (by simp) rfl _ rfl
                  replace r18 : u18 = _ := r18
                  subst r18
                  obtain ⟨u22, s22, r22⟩ := hD ⟨9, .data⟩ (by simp) rfl _ rfl
                  replace r22 : u22 = _ := r22
                  subst r22
                  obtain ⟨u17, s17, r17⟩ := hD ⟨4, .chain⟩ (by simp) rfl _ rfl
                  replace r17 : u17 = _ := r17
                  subst r17
                  clear hA hD
                  refine stepOk_want rfl rfl s17 ?_
                  intro K hK
                  gi_wp2_with fail; refine (callsIn_wide.2 (refLess_any ⟨x1, x2, x3⟩ ⟨y1, y2, y3⟩ _)).mono ?_; rintro e w2 ⟨rfl, hb⟩; rw [Hless.out]
                  exact hK _ _ rfl hb
                · -- 11
                  intro a' w' hA hC hD
                  obtain ⟨u23, s23, r23⟩ := hD ⟨10, .data⟩ (by simp) rfl _ rfl
                  replace r23 : u23 = _ := r23
                  subst r23
                  obtain ⟨u17, s17, r17⟩ := hD ⟨4, .guard⟩ (by simp) rfl _ rfl
                  replace r17 : u17 = _ := r17
                  subst r17
                  clear hA hD
                  refine stepOk_want rfl rfl s17 ?_
                  intro K hK
                  gi_wp2
                  exact hK _ _ rfl ((fun _ => Below.refl _ _) _)
                · -- 12
                  intro a' w' hA hC hD
                  obtain ⟨u17, s17, r17⟩ := hD ⟨4, .data⟩ (by simp) rfl _ rfl
                  replace r17 : u17 = _ := r17
                  subst r17
                  obtain ⟨u24, s24, r24⟩ := hD ⟨11, .data⟩ (by simp) rfl _ rfl
                  replace r24 : u24 = _ := r24
                  subst r24
                  clear hA hD
                  refine stepOk_plain rfl ?_
                  intro K hK
                  gi_wp2
                  exact hK _ _ rfl ((fun _ => Below.refl _ _) _)
              case hend =>
                intro w3 hC
                simp only [EndFrom, eqv, forall_eq, Act.put, List.length_cons, List.length_nil, List.drop_succ_cons, List.drop_zero, Nat.reduceAdd, List.setIfInBounds_toArray, List.set_cons_succ, List.set_cons_zero]
                have HBw := Lib.hid (HBw.out.trans (hC.mono HBw.out.size))
                have Hbx := Lib.hid ((hC.block _ (block_lt Hbx.out)).trans Hbx.out)
                clear hC
                gi_wp2
                go_wp2_with fail
                go_roundw
                case rel =>
                  refine ⟨j + 1, by omega, by go_num, fun m y hm hy => ?_, HBw.out, Hbx.out⟩
                  rcases Nat.lt_or_eq_of_le (Nat.lt_succ_iff.1 hm) with h | rfl
                  · exact Hall.out m y h hy
                  · rw [Hy.out] at hy; cases hy; exact Hless.out
                case measure => simp [intOf]; omega
            case' true =>
              have hcut : j = cutAt ⟨x1, x2, x3⟩ O := cutAt_unique _ O j (by omega) (fun m y hm hy => Hall.out m y hm hy) (fun y hy => by rw [Hy.out] at hy; cases hy; exact Hless.out)
              have Hcut := Lib.hid hcut
              clear hcut
              go_wp2_with fail
              refine (wpIn_wide (n := 0)).1 ?_
              apply wp_region_vals 13 (Rl := [(eqv _), (eqv _), (eqv _), (eqv _), (eqv _), (eqv _), (eqv _), (eqv _), (eqv _), (eqv _), (eqv _), (eqv _), (eqv _)]) (C := (fun x y => Below x.heap.size x y))
              case hm => kernel_rfl
              case hk => rfl
              case hCr => exact (fun _ => Below.refl _ _)
              case hCt => intro _ _ _; exact (fun h k => grows_trans h k)
              case hst => exact ⟨fun _ _ _ _ h => h, fun _ _ _ _ h => h, fun _ _ _ _ h => h, fun _ _ _ _ h => h, fun _ _ _ _ h => h, fun _ _ _ _ h => h, fun _ _ _ _ h => h, fun _ _ _ _ h => h, fun _ _ _ _ h => h, fun _ _ _ _ h => h, fun _ _ _ _ h => h, fun _ _ _ _ h => h, fun _ _ _ _ h => h, trivial⟩
              case hfo => kernel_rfl
              case ht => kernel_rfl
              case hC0 => exact (grows_drew _)
              case hsteps =>
                refine ⟨?_, ?_, ?_, ?_, ?_, ?_, ?_, ?_, ?_, ?_, ?_, ?_, ?_, trivial⟩
                · -- 0
                  intro a' w' hA hC hD
                  have s6 : a'.tmps[6]? = some _ := (hA.at 6 (by kernel_rfl)).trans rfl
                  clear hA hD
                  refine stepOk_plain rfl ?_
                  intro K hK
                  gi_wp2
                  exact hK _ _ rfl ((fun _ => Below.refl _ _) _)
                · -- 1
                  intro a' w' hA hC hD
                  have s3 : a'.tmps[3]? = some _ := (hA.at 3 (by kernel_rfl)).trans rfl
                  clear hA hD
                  refine stepOk_plain rfl ?_
                  intro K hK
                  gi_wp2
                  exact hK _ _ rfl ((fun _ => Below.refl _ _) _)
                · -- 2
                  intro a' w' hA hC hD
                  obtain ⟨u14, s14, r14⟩ := hD ⟨1, .data⟩ (by simp) rfl _ rfl
                  replace r14 : u14 = _ := r14
                  subst r14
                  clear hA hD
                  refine stepOk_plain rfl ?_
                  intro K hK
                  gi_wp2
                  exact hK _ _ rfl ((fun _ => Below.refl _ _) _)
                · -- 3
                  intro a' w' hA hC hD
                  obtain ⟨u13, s13, r13⟩ := hD ⟨0, .data⟩ (by simp) rfl _ rfl
                  replace r13 : u13 = _ := r13
                  subst r13
                  obtain ⟨u15, s15, r15⟩ := hD ⟨2, .data⟩ (by simp) rfl _ rfl
                  replace r15 : u15 = _ := r15
                  subst r15
                  clear hA hD
                  refine stepOk_plain rfl ?_
                  intro K hK
                  gi_wp2
                  exact hK _ _ rfl ((fun _ => Below.refl _ _) _)
                · -- 4
                  intro a' w' hA hC hD
                  obtain ⟨u16, s16, r16⟩ := hD ⟨3, .data⟩ (by simp) rfl _ rfl
                  replace r16 : u16 = _ := r16
                  subst r16
                  clear hA hD
                  refine stepOk_plain rfl ?_
                  intro K hK
                  gi_wp2
                  exact hK _ _ rfl ((fun _ => Below.refl _ _) _)
                · -- 5
                  intro a' w' hA hC hD
                  have s5 : a'.tmps[5]? = some _ := (hA.at 5 (by kernel_rfl)).trans rfl
                  obtain ⟨u17, s17, r17⟩ := hD ⟨4, .guard⟩ (by simp) rfl _ rfl
                  replace r17 : u17 = _ := r17
                  subst r17
                  have hx_ := (hC.block _ (block_lt Hbx.out)).trans Hbx.out; have c0 := cell_of_block (k := 0) (v := .int .u64 x1) hx_ rfl; have c1 := cell_of_block (k := 1) (v := .int .i64 x2) hx_ rfl; have c2 := cell_of_block (k := 2) (v := .int .u64 x3) hx_ rfl
                  clear hA hD
                  refine stepOk_want rfl rfl s17 ?_
                  intro K hK
                  gi_wp2
                  exact hK _ _ rfl ((fun _ => Below.refl _ _) _)
                · -- 6
                  intro a' w' hA hC hD
                  have s3 : a'.tmps[3]? = some _ := (hA.at 3 (by kernel_rfl)).trans rfl
                  obtain ⟨u17, s17, r17⟩ := hD ⟨4, .guard⟩ (by simp) rfl _ rfl
                  replace r17 : u17 = _ := r17
                  subst r17
                  clear hA hD
                  refine stepOk_want rfl rfl s17 ?_
                  intro K hK
                  gi_wp2
                  exact hK _ _ rfl ((fun _ => Below.refl _ _) _)
                · -- 7
                  intro a' w' hA hC hD
                  have s6 : a'.tmps[6]? = some _ := (hA.at 6 (by kernel_rfl)).trans rfl
                  obtain ⟨u17, s17, r17⟩ := hD ⟨4, .guard⟩ (by simp) rfl _ rfl
                  replace r17 : u17 = _ := r17
                  subst r17
                  clear hA hD
                  refine stepOk_want rfl rfl s17 ?_
                  intro K hK
                  gi_wp2
                  exact hK _ _ rfl ((fun _ => Below.refl _ _) _)
                · -- 8
                  intro a' w' hA hC hD
                  obtain ⟨u19, s19, r19⟩ := hD ⟨6, .data⟩ (by simp) rfl _ rfl
                  replace r19 : u19 = _ := r19
                  subst r19
                  obtain ⟨u20, s20, r20⟩ := hD ⟨7, .data⟩ (by simp) rfl _ rfl
                  replace r20 : u20 = _ := r20
                  subst r20
                  obtain ⟨u17, s17, r17⟩ := hD ⟨4, .guard⟩ (by simp) rfl _ rfl
                  replace r17 : u17 = _ := r17
                  subst r17
                  clear hA hD
                  refine stepOk_want rfl rfl s17 ?_
                  intro K hK
                  gi_wp2
                  exact hK _ _ rfl ((fun _ => Below.refl _ _) _)
                · -- 9
                  intro a' w' hA hC hD
                  obtain ⟨u21, s21, r21⟩ := hD ⟨8, .data⟩ (by simp) rfl _ rfl
                  replace r21 : u21 = _ := r21
                  subst r21
                  obtain ⟨u17, s17, r17⟩ := hD ⟨4, .guard⟩ (by simp) rfl _ rfl
                  replace r17 : u17 = _ := r17
                  subst r17
                  have hf_ := idElem3 (fun j hj => (hC.cell (p := ⟨b, off + j, none⟩) hlt).trans (Hc.out j hj)) Hy.out; obtain ⟨c0, c1, c2⟩ := hf_
                  clear hA hD
                  refine stepOk_want rfl rfl s17 ?_
                  intro K hK
                  gi_wp2
                  exact hK _ _ rfl ((fun _ => Below.refl _ _) _)
                · -- 10
                  intro a' w' hA hC hD
                  obtain ⟨u18, s18, r18⟩ := hD ⟨5, .data⟩ (by simp) rfl _ rfl
                  replace r18 : u18 = _ := r18
                  subst r18
                  obtain ⟨u22, s22, r22⟩ := hD ⟨9, .data⟩ (by simp) rfl _ rfl
                  replace r22 : u22 = _ := r22
                  subst r22
                  obtain ⟨u17, s17, r17⟩ := hD ⟨4, .chain⟩ (by simp) rfl _ rfl
                  replace r17 : u17 = _ := r17
                  subst r17
                  clear hA hD
                  refine stepOk_want rfl rfl s17 ?_
                  intro K hK
                  gi_wp2_with fail; refine (callsIn_wide.2 (refLess_any ⟨x1, x2, x3⟩ ⟨y1, y2, y3⟩ _)).mono ?_; rintro e w2 ⟨rfl, hb⟩; rw [Hless.out]
                  exact hK _ _ rfl hb
                · -- 11
                  intro a' w' hA hC hD
                  obtain ⟨u23, s23, r23⟩ := hD ⟨10, .data⟩ (by simp) rfl _ rfl
                  replace r23 : u23 = _ := r23
                  subst r23
                  obtain ⟨u17, s17, r17⟩ := hD ⟨4, .guard⟩ (by simp) rfl _ rfl
                  replace r17 : u17 = _ := r17
                  subst r17
                  clear hA hD
                  refine stepOk_want rfl rfl s17 ?_
                  intro K hK
                  gi_wp2
                  exact hK _ _ rfl ((fun _ => Below.refl _ _) _)
                · -- 12
                  intro a' w' hA hC hD
                  obtain ⟨u17, s17, r17⟩ := hD ⟨4, .data⟩ (by simp) rfl _ rfl
                  replace r17 : u17 = _ := r17
                  subst r17
                  obtain ⟨u24, s24, r24⟩ := hD ⟨11, .data⟩ (by simp) rfl _ rfl
                  replace r24 : u24 = _ := r24
                  subst r24
                  clear hA hD
                  refine stepOk_plain rfl ?_
                  intro K hK
                  gi_wp2
                  exact hK _ _ rfl ((fun _ => Below.refl _ _) _)
              case' hend =>
                intro w3 hC
                simp only [EndFrom, eqv, forall_eq, Act.put, List.length_cons, List.length_nil, List.drop_succ_cons, List.drop_zero, Nat.reduceAdd, List.setIfInBounds_toArray, List.set_cons_succ, List.set_cons_zero]
                clear Hy
          case' neg =>
            have hjk3 : j = k := by omega
            have Hjk3 := Lib.hid hjk3
            clear hjk3
            have hcut : j = cutAt ⟨x1, x2, x3⟩ O := cutAt_unique _ O j (by rw [HOl.out]; omega) (fun m y hm hy => Hall.out m y hm hy) (fun y hy => by rw [List.getElem?_eq_none (by rw [HOl.out]; omega)] at hy; cases hy)
            have Hcut := Lib.hid hcut
            clear hcut
            go_wp2_with fail
            refine (wpIn_wide (n := 0)).1 ?_
            apply wp_region_vals 13 (Rl := [(eqv _), (eqv _), (eqv _), (eqv _), (eqv _), (fun v_ _ => v_ = (undef : Value)), (fun v_ _ => v_ = (undef : Value)), (fun v_ _ => v_ = (undef : Value)), (fun v_ _ => v_ = (undef : Value)), (fun v_ _ => v_ = (undef : Value)), (fun v_ _ => v_ = (undef : Value)), (fun v_ _ => v_ = (undef : Value)), (eqv _)]) (C := (fun x y => Below x.heap.size x y))
            case hm => kernel_rfl
            case hk => rfl
            case hCr => exact (fun _ => Below.refl _ _)
            case hCt => intro _ _ _; exact (fun h k => grows_trans h k)
            case hst => exact ⟨fun _ _ _ _ h => h, fun _ _ _ _ h => h, fun _ _ _ _ h => h, fun _ _ _ _ h => h, fun _ _ _ _ h => h, fun _ _ _ _ h => h, fun _ _ _ _ h => h, fun _ _ _ _ h => h, fun _ _ _ _ h => h, fun _ _ _ _ h => h, fun _ _ _ _ h => h, fun _ _ _ _ h => h, fun _ _ _ _ h => h, trivial⟩
            case hfo => kernel_rfl
            case ht => kernel_rfl
            case hC0 => exact (grows_drew _)
            case hsteps =>
              refine ⟨?_, ?_, ?_, ?_, ?_, ?_, ?_, ?_, ?_, ?_, ?_, ?_, ?_, trivial⟩
              · -- 0
                intro a' w' hA hC hD
                have s6 : a'.tmps[6]? = some _ := (hA.at 6 (by kernel_rfl)).trans rfl
                clear hA hD
                refine stepOk_plain rfl ?_
                intro K hK
                gi_wp2
                exact hK _ _ rfl ((fun _ => Below.refl _ _) _)
              · -- 1
                intro a' w' hA hC hD
                have s3 : a'.tmps[3]? = some _ := (hA.at 3 (by kernel_rfl)).trans rfl
                clear hA hD
                refine stepOk_plain rfl ?_
                intro K hK
                gi_wp2
                exact hK _ _ rfl ((fun _ => Below.refl _ _) _)
              · -- 2
                intro a' w' hA hC hD
                obtain ⟨u14, s14, r14⟩ := hD ⟨1, .data⟩ (by simp) rfl _ rfl
                replace r14 : u14 = _ := r14
                subst r14
                clear hA hD
                refine stepOk_plain rfl ?_
                intro K hK
                gi_wp2
                exact hK _ _ rfl ((fun _ => Below.refl _ _) _)
              · -- 3
                intro a' w' hA hC hD
                obtain ⟨u13, s13, r13⟩ := hD ⟨0, .data⟩ (by simp) rfl _ rfl
                replace r13 : u13 = _ := r13
                subst r13
                obtain ⟨u15, s15, r15⟩ := hD ⟨2, .data⟩ (by simp) rfl _ rfl
                replace r15 : u15 = _ := r15
                subst r15
                clear hA hD
                refine stepOk_plain rfl ?_
                intro K hK
                gi_wp2
                exact hK _ _ rfl ((fun _ => Below.refl _ _) _)
              · -- 4
                intro a' w' hA hC hD
                obtain ⟨u16, s16, r16⟩ := hD ⟨3, .data⟩ (by simp) rfl _ rfl
                replace r16 : u16 = _ := r16
                subst r16
                clear hA hD
                refine stepOk_plain rfl ?_
                intro K hK
                gi_wp2
                exact hK _ _ rfl ((fun _ => Below.refl _ _) _)
              · -- 5
                intro a' w' hA hC hD
                have s5 : a'.tmps[5]? = some _ := (hA.at 5 (by kernel_rfl)).trans rfl
                obtain ⟨u17, s17, r17⟩ := hD ⟨4, .guard⟩ (by simp) rfl _ rfl
                replace r17 : u17 = _ := r17
                subst r17
                clear hA hD
                exact stepOk_skip rfl rfl s17 rfl
              · -- 6
                intro a' w' hA hC hD
                have s3 : a'.tmps[3]? = some _ := (hA.at 3 (by kernel_rfl)).trans rfl
                obtain ⟨u17, s17, r17⟩ := hD ⟨4, .guard⟩ (by simp) rfl _ rfl
                replace r17 : u17 = _ := r17
                subst r17
                clear hA hD
                exact stepOk_skip rfl rfl s17 rfl
              · -- 7
                intro a' w' hA hC hD
                have s6 : a'.tmps[6]? = some _ := (hA.at 6 (by kernel_rfl)).trans rfl
                obtain ⟨u17, s17, r17⟩ := hD ⟨4, .guard⟩ (by simp) rfl _ rfl
                replace r17 : u17 = _ := r17
                subst r17
                clear hA hD
                exact stepOk_skip rfl rfl s17 rfl
              · -- 8
                intro a' w' hA hC hD
                obtain ⟨u19, s19, r19⟩ := hD ⟨6, .data⟩ (by simp) rfl _ rfl
                replace r19 : u19 = undef := r19
                subst r19
                obtain ⟨u20, s20, r20⟩ := hD ⟨7, .data⟩ (by simp) rfl _ rfl
                replace r20 : u20 = undef := r20
                subst r20
                obtain ⟨u17, s17, r17⟩ := hD ⟨4, .guard⟩ (by simp) rfl _ rfl
                replace r17 : u17 = _ := r17
                subst r17
                clear hA hD
                exact stepOk_skip rfl rfl s17 rfl
              · -- 9
                intro a' w' hA hC hD
                obtain ⟨u21, s21, r21⟩ := hD ⟨8, .data⟩ (by simp) rfl _ rfl
                replace r21 : u21 = undef := r21
                subst r21
                obtain ⟨u17, s17, r17⟩ := hD ⟨4, .guard⟩ (by simp) rfl _ rfl
                replace r17 : u17 = _ := r17
                subst r17
                clear hA hD
                exact stepOk_skip rfl rfl s17 rfl
              · -- 10
                intro a' w' hA hC hD
                obtain ⟨u18, s18, r18⟩ := hD ⟨5, .data⟩ (by simp) rfl _ rfl
                replace r18 : u18 = undef := r18
                subst r18
                obtain ⟨u22, s22, r22⟩ := hD ⟨9, .data⟩ (by simp) rfl _ rfl
                replace r22 : u22 = undef := r22
                subst r22
                obtain ⟨u17, s17, r17⟩ := hD ⟨4, .chain⟩ (by simp) rfl _ rfl
                replace r17 : u17 = _ := r17
                subst r17
                clear hA hD
                exact stepOk_skip rfl rfl s17 rfl
              · -- 11
                intro a' w' hA hC hD
                obtain ⟨u23, s23, r23⟩ := hD ⟨10, .data⟩ (by simp) rfl _ rfl
                replace r23 : u23 = undef := r23
                subst r23
                obtain ⟨u17, s17, r17⟩ := hD ⟨4, .guard⟩ (by simp) rfl _ rfl
                replace r17 : u17 = _ := r17
                subst r17
                clear hA hD
                exact stepOk_skip rfl rfl s17 rfl
              · -- 12
                intro a' w' hA hC hD
                obtain ⟨u17, s17, r17⟩ := hD ⟨4, .data⟩ (by simp) rfl _ rfl
                replace r17 : u17 = _ := r17
                subst r17
                obtain ⟨u24, s24, r24⟩ := hD ⟨11, .data⟩ (by simp) rfl _ rfl
                replace r24 : u24 = undef := r24
                subst r24
                clear hA hD
                refine stepOk_plain rfl ?_
                intro K hK
                gi_wp2
                exact hK _ _ rfl ((fun _ => Below.refl _ _) _)
            case' hend =>
              intro w3 hC
              simp only [EndFrom, eqv, forall_eq, Act.put, List.length_cons, List.length_nil, List.drop_succ_cons, List.drop_zero, Nat.reduceAdd, List.setIfInBounds_toArray, List.set_cons_succ, List.set_cons_zero]
          all_goals
            have HBw := Lib.hid (HBw.out.trans (hC.mono HBw.out.size))
            have Hbx := Lib.hid ((hC.block _ (block_lt Hbx.out)).trans Hbx.out)
            have hlt3 : b < w3.heap.size := Nat.lt_of_lt_of_le hlt hC.size
            have Hc3 := Lib.hid (fun (j : Nat) (hj : j < k * 3) => (HBw.out.cell (p := ⟨b, off + j, none⟩) hltb).trans (Hcb.out j hj))
            clear hC
            gi_wp2
            go_wp2_with fail
            have hjc : j ≤ ocap := by omega
            refine (wpIn_wide (n := 0)).1 ?_
            refine wpIn_region_any (by kernel_rfl) ?_
            apply take_first (i := 1) (some 29)
            case hro => rfl
            case hi => rfl
            case hd => rfl
            case hs => kernel_rfl
            case hf => kernel_rfl
            case hr => kernel_rfl
            case hQ => exact fun _ _ _ h => h
            case hy => exact ⟨.inl ⟨by rfl, fun w => by go_simp; rfl⟩, fun _ => rfl⟩
            simp only [Act.put, List.setIfInBounds_toArray, List.set_cons_succ, List.set_cons_zero]
            apply take_first (i := 2) (some 30)
            case hro => rfl
            case hi => rfl
            case hd => rfl
            case hs => kernel_rfl
            case hf => kernel_rfl
            case hr => kernel_rfl
            case hQ => exact fun _ _ _ h => h
            case hy => exact ⟨.inl ⟨by rfl, fun w => by go_simp; rfl⟩, fun _ => rfl⟩
            simp only [Act.put, List.setIfInBounds_toArray, List.set_cons_succ, List.set_cons_zero]
            apply take_first (i := 3) (some 31)
            case hro => rfl
            case hi => rfl
            case hd => rfl
            case hs => kernel_rfl
            case hf => kernel_rfl
            case hr => kernel_rfl
            case hQ => exact fun _ _ _ h => h
            case hy => exact ⟨.inl ⟨by rfl, fun w => by go_simp; rfl⟩, fun _ => rfl⟩
            simp only [Act.put, List.setIfInBounds_toArray, List.set_cons_succ, List.set_cons_zero]
            apply take_first (i := 8) (some 36)
            case hro => rfl
            case hi => rfl
            case hd => rfl
            case hs => kernel_rfl
            case hf => kernel_rfl
            case hr => kernel_rfl
            case hQ => exact fun _ _ _ h => h
            case hy => exact ⟨.inl ⟨by rfl, fun w => by go_simp; rfl⟩, fun _ => rfl⟩
            simp only [Act.put, List.setIfInBounds_toArray, List.set_cons_succ, List.set_cons_zero]
            apply take_first (i := 9) (some 37)
            case hro => rfl
            case hi => rfl
            case hd => rfl
            case hs => kernel_rfl
            case hf => kernel_rfl
            case hr => kernel_rfl
            case hQ => exact fun _ _ _ h => h
            case hy => exact ⟨.inl ⟨by rfl, fun w => by go_simp; rfl⟩, fun _ => rfl⟩
            simp only [Act.put, List.setIfInBounds_toArray, List.set_cons_succ, List.set_cons_zero]
            apply take_first (i := 10) (some 38)
            case hro => rfl
            case hi => rfl
            case hd => rfl
            case hs => kernel_rfl
            case hf => kernel_rfl
            case hr => kernel_rfl
            case hQ => exact fun _ _ _ h => h
            case hy => exact ⟨.inl ⟨by rfl, fun w => by go_simp; rfl⟩, fun _ => rfl⟩
            simp only [Act.put, List.setIfInBounds_toArray, List.set_cons_succ, List.set_cons_zero]
            apply wp_facts_marks [0, 4, 5, 6] [7, 11, 12] [true, false, false, false, true, true, true, false, false, false, false, false, false] [false, false, false, false, false, false, false, true, false, false, false, true, true] (Rl := [(0, (fun v_ w_ => ∃ g, v_ = .slice (some ⟨g, 0, none⟩) 0 0 ∧ w3.heap.size ≤ g ∧ w_.heap[g]? = some (.cells #[] 27 (0, 0)))), (4, (fun v_ w_ => w_.ownsRow w3.heap.size 27 3 v_ j ((O.take j).flatMap encId))), (5, (eqv _)), (6, (fun v_ w_ => ∃ q, v_ = .slice (some ⟨q, 0, none⟩) 1 1 ∧ w_.heap[q]? = some (.cells #[.int .u64 x1, .int .i64 x2, .int .u64 x3] 27 (0, 0))))]) (C := (fun x y => Below x.heap.size x y))
            case hk => rfl
            case hnd => decide
            case hmf => kernel_rfl
            case hmt => kernel_rfl
            case hCr => exact (fun _ => Below.refl _ _)
            case hCt => intro _ _ _; exact (fun h k => grows_trans h k)
            case hst => exact ⟨fun _ _ _ hC ⟨g, e, hg, h⟩ => ⟨g, e, hg, (hC.block _ (block_lt h)).trans h⟩, fun _ _ _ hC h => ownsRow_below h hC, fun _ _ _ _ h => h, fun _ _ _ hC ⟨q, e, h⟩ => ⟨q, e, (hC.block _ (block_lt h)).trans h⟩, trivial⟩
            case hfo => kernel_rfl
            case hsp => kernel_rfl
            case hch => kernel_rfl
            case hfuel => kernel_rfl
            case hsteps =>
              refine ⟨?_, ?_, ?_, ?_, trivial⟩
              · -- 0
                intro a' w' hA hC hD
                clear hA hD
                refine stepOk_plain rfl ?_
                intro K hK
                gi_wp2
                exact hK (.slice (some ⟨w'.heap.size, 0, none⟩) 0 0) _ ⟨w'.heap.size, rfl, hC.size, World.alloc_heap_new _ _⟩ ((Below.refl _ _).alloc (Nat.le_refl _) _)
              · -- 4
                intro a' w' hA hC hD
                obtain ⟨u28, s28, r28⟩ := hD ⟨0, .data⟩ (by simp) rfl (by simp) _ rfl
                replace r28 : (fun v_ w_ => ∃ g, v_ = .slice (some ⟨g, 0, none⟩) 0 0 ∧ w3.heap.size ≤ g ∧ w_.heap[g]? = some (.cells #[] 27 (0, 0))) u28 w' := r28
                have s31 : a'.tmps[31]? = some _ := (hA.at 31 (by kernel_rfl)).trans rfl
                clear hA hD
                refine stepOk_plain rfl ?_
                intro K hK
                obtain ⟨g, rfl, hg, hgb⟩ := r28; obtain ⟨v', w2, hrun, r1, r2, _⟩ := run_append_fresh (P := Tryd.prog) (w := w') w3.heap.size 22 22 27 i0 (.agg #[.int .u64 0, .int .i64 0, .int .u64 0]) 3 24 Tryd.underlying22 hi hz0 hz1 hz2 rfl (by decide) g hg hgb _ j ((O.take j).flatMap encId) (srcTake (fun j hj => (hC.cell (p := ⟨b, off + j, none⟩) hlt3).trans (Hc3.out j hj)) HOl.out hjk) enc_one (by unfold maxLen; omega) (by omega) hC.size; refine opIn_append _ _ _ rfl (sim1 s28) (sim1 s31) hrun ?_
                exact hK _ _ r1 r2
              · -- 5
                intro a' w' hA hC hD
                have s5 : a'.tmps[5]? = some _ := (hA.at 5 (by kernel_rfl)).trans rfl
                have hx_ := (hC.block _ (block_lt Hbx.out)).trans Hbx.out; have c0 := cell_of_block (k := 0) (v := .int .u64 x1) hx_ rfl; have c1 := cell_of_block (k := 1) (v := .int .i64 x2) hx_ rfl; have c2 := cell_of_block (k := 2) (v := .int .u64 x3) hx_ rfl
                clear hA hD
                refine stepOk_plain rfl ?_
                intro K hK
                gi_wp2
                exact hK _ _ rfl ((fun _ => Below.refl _ _) _)
              · -- 6
                intro a' w' hA hC hD
                obtain ⟨u33, s33, r33⟩ := hD ⟨5, .data⟩ (by simp) rfl (by simp) _ rfl
                replace r33 : u33 = _ := r33
                subst r33
                clear hA hD
                refine stepOk_plain rfl ?_
                intro K hK
                gi_wp2
                exact hK (.slice (some ⟨w'.heap.size, 0, none⟩) 1 1) _ ⟨w'.heap.size, rfl, World.alloc_heap_new _ _⟩ ((Below.refl _ _).alloc (Nat.le_refl _) _)
            case hend =>
              intro w4 hC
              simp only [EndL, pickM, eqv, forall_eq, Act.put, List.setIfInBounds_toArray, List.set_cons_succ, List.set_cons_zero]
              rintro _ ⟨g, rfl, hg, hgb⟩ v4 hrow4 _ ⟨q, rfl, hq⟩
              have hz4 := hC.size
              dsimp only at hz4
              have hO4 := HOl.out
              refine wpListIn_append_src w4 rfl _ _ 22 rfl w3.heap.size 27 i0 (.agg #[.int .u64 0, .int .i64 0, .int .u64 0]) 3 24 Tryd.underlying22 hi hz0 hz1 hz2 rfl (by decide) _ _ _ rfl hrow4 _ 1 (encId ⟨x1, x2, x3⟩) rfl ⟨rfl, .inr ⟨_, _, rfl, cells_of_block hq⟩⟩ (encId_one _) (by unfold maxLen; omega) (by omega) hz4 ?_
              intro v7 w5 hown7 hgrow7 _
              have hz5 := hgrow7.size
              have hB5 : Below w3.heap.size w3 w5 := (show Below w3.heap.size w3 w4 from (grows_drew w3).trans hC).grown hgrow7 hz4 (fun y e => (hrow4.lt y e).1)
              have hsrc : Src w5 3 (.slice (if ocap = j then some ⟨b, off, none⟩ else some ⟨b, off + j * 3, none⟩) (k - j) (ocap - j)) (k - j) ((O.drop j).flatMap encId) := by
                split
                · have e1 : k - j = 0 := by omega
                  rw [e1, List.drop_of_length_le (by omega)]
                  exact srcNone
                · exact srcDrop (fun m hm => (hB5.cell (p := ⟨b, off + m, none⟩) hlt3).trans (Hc3.out m hm)) hO4 hjk
              refine wpListIn_append_src w5 rfl _ _ 22 rfl w3.heap.size 27 i0 (.agg #[.int .u64 0, .int .i64 0, .int .u64 0]) 3 24 Tryd.underlying22 hi hz0 hz1 hz2 rfl (by decide) _ _ _ rfl hown7 _ (k - j) ((O.drop j).flatMap encId) rfl hsrc enc_one (by unfold maxLen; omega) (by omega) (by omega) ?_
              intro v11 w6 hown11 hgrow11 hnn
              have hB6 := hB5.grown hgrow11 hB5.size (fun y e => (hown7.lt y e).1)
              have HO := Lib.hid hown11
              have HB6 := Lib.hid (HB.out.trans ((HBw.out.mono HB.out.size).trans (hB6.mono (Nat.le_trans HB.out.size HBw.out.size))))
              have HN := Lib.hid hnn
              have HZ := Lib.hid (Nat.le_trans HB.out.size HBw.out.size)
              clear hown11 hgrow11 hnn hB6 hsrc hB5 hown7 hgrow7 hz5 hz4 hrow4 hq hgb hg hC hO4
              have HREL := Lib.hid (show ∃ k' : Nat, k' ≤ n ∧ (Value.int .i64 ((k : Int) + 1)) = .int .i64 (k' : Int) ∧ w6.ownsRow w.heap.size 27 3 v11 k' ((insTo l k').flatMap encId) ∧ (k' = 0 ↔ v11 = .slice none 0 0) ∧ Below w.heap.size w w6 from by
                refine ⟨k + 1, by omega, by simp, ?_, by have := HN.out; simp; exact this (by omega), HB6.out⟩
                have h := HO.out
                rw [show j + 1 + (k - j) = k + 1 from by omega] at h
                rw [Hins.out]
                unfold insId
                rw [← Hcut.out]
                simpa [List.flatMap_append, List.flatMap_cons] using ownsRow_mono h HZ.out)
              gi_wp2
              go_wp2_with fail
              go_roundw
              all_goals first | exact HREL.out | exact ⟨HREL.out, by simp [intOf]; omega⟩ | (simp [intOf]; omega)
    · obtain rfl : n = k := by omega
      go_wp2_with fail
      go_ret
      refine ⟨_, rfl, ?_, HB.out⟩
      have e : insTo l n = sortIds l := by rw [← Hn.out]; exact insTo_all l
      rw [← e]
      exact Hrow.out
end Go.Proofs.YtppaheekpmgifaaDoor
