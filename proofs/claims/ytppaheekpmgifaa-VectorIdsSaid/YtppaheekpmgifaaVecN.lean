/- The library's Equal on rows of stretches. -/
import Derived.Test.YtppaheekpmgifaaVecM
namespace Go.Proofs.Ytppaheekpmgifaa
set_option linter.unusedSimpArgs false
set_option linter.unusedVariables false
open Go.RowKit Go.Shelf

def strEq (s t : StrT) : Bool := s.site == t.site && (s.fr == t.fr && s.upto == t.upto)
theorem strEq_iff (s t : StrT) : strEq s t = true ↔ s = t := by
  obtain ⟨a, b, c⟩ := s
  obtain ⟨d, e, f⟩ := t
  simp [strEq]
def strAt (l : List StrT) (k : Nat) : StrT := (l[k]?).getD ⟨0, 0, 0⟩
/-- Are two rows the same? -/
def strsEq (l m : List StrT) : Bool := l.length == m.length && (List.range l.length).all fun k => strEq (strAt l k) (strAt m k)
theorem strsEq_self (l : List StrT) : strsEq l l = true := by
  unfold strsEq
  simp only [beq_self_eq_true, Bool.true_and, List.all_eq_true]
  intro k _
  exact (strEq_iff _ _).2 rfl
theorem strsEq_iff (l m : List StrT) : strsEq l m = true ↔ l = m := by
  constructor
  · intro h
    unfold strsEq at h
    simp only [Bool.and_eq_true, beq_iff_eq, List.all_eq_true, List.mem_range] at h
    refine List.ext_getElem h.1 fun k h1 h2 => ?_
    have := (strEq_iff _ _).1 (h.2 k h1)
    simpa [strAt, List.getElem?_eq_getElem h1, List.getElem?_eq_getElem h2] using this
  · rintro rfl
    exact strsEq_self l

theorem run_neq_str (w : World) (a b c d e f : Int) : (binOp .neq 36 (.agg #[.int .i64 a, .int .u64 b, .int .u64 c]) (.agg #[.int .i64 d, .int .u64 e, .int .u64 f])).run Try.prog w = .ok (.bool (!(a == d && (b == e && c == f)))) w := by
  simp [binOp, Op.equal, Op.maxDepth, go_sem]
  by_cases h1 : a = d <;> by_cases h2 : b = e <;> by_cases h3 : c = f <;> simp [h1, h2, h3]

set_option maxRecDepth 100000 in
set_option maxHeartbeats 2000000 in
theorem strEqual_any (l m : List StrT) (s1 s2 : Value) (w : World) (hl : l.length ≤ 1000000) (h1 : Elems w s1 l.length 3 (strCells l)) (h2 : Elems w s2 m.length 3 (strCells m)) (hm : m.length ≤ 1000000) :
    Calls Try.prog 23 #[s1, s2] w (Gives (.bool (strsEq l m)) w) := by
  obtain ⟨a1, cap1, rfl, g1⟩ := h1.shape
  obtain ⟨a2, cap2, rfl, g2⟩ := h2.shape
  have G1 := Lib.hid g1
  have G2 := Lib.hid g2
  clear h1 h2 g1 g2
  cases hlen : (l.length == m.length)
  · have hr : strsEq l m = false := by unfold strsEq; rw [hlen]; rfl
    rw [hr]
    clear hr
    have hne : ((l.length : Int) != (m.length : Int)) = true := by
      have h : l.length ≠ m.length := by simpa using hlen
      rw [bne_iff_ne]
      omega
    clear hlen
    go_enter Try.func23, Try.ntmps23
    go_wp2_with fail
    go_ret
    exact ⟨rfl, Below.refl _ _⟩
  · have hr : strsEq l m = (List.range l.length).all fun k => strEq (strAt l k) (strAt m k) := by unfold strsEq; rw [hlen]; rfl
    rw [hr]
    clear hr
    have hlen' : m.length = l.length := by have h : l.length = m.length := by simpa using hlen
                                           exact h.symm
    rw [hlen'] at hm G2 ⊢
    have hne : ((l.length : Int) != (l.length : Int)) = false := by simp
    have Hlen := Lib.hid hlen'
    clear hlen hlen'
    go_enter Try.func23, Try.ntmps23
    go_wp2_with fail
    go_loopw [13] (fun i wr => ∃ k : Nat, k ≤ l.length ∧ i = .int .i64 k ∧ (∀ j, j < k → strEq (strAt l j) (strAt m j) = true) ∧ Below w.heap.size w wr) (fun i _ => l.length - (intOf i).toNat)
    case atStart => exact ⟨0, Nat.zero_le _, rfl, fun j hj => absurd hj (Nat.not_lt_zero _), Below.refl _ _⟩
    case round =>
      obtain ⟨k, hk, rfl, hall, hbl⟩ := hrel
      have Hall := Lib.hid hall
      have Hbl := Lib.hid hbl
      clear hall hbl
      by_cases hkn : k < l.length
      · obtain ⟨b1, o1, rfl, hlt1, hc1⟩ := G1.out.resolve_left (by omega)
        obtain ⟨b2, o2, rfl, hlt2, hc2⟩ := G2.out.resolve_left (by omega)
        have hk1 : l[k]? = some (strAt l k) := by unfold strAt; rw [List.getElem?_eq_getElem hkn]; rfl
        have hk2 : m[k]? = some (strAt m k) := by unfold strAt; rw [List.getElem?_eq_getElem (by rw [Hlen.out]; exact hkn)]; rfl
        have f1 := Lib.hid (strElem (fun j hj => (Hbl.out.cell (p := ⟨b1, o1 + j, none⟩) hlt1).trans (hc1 j hj)) hk1)
        have f2 := Lib.hid (strElem (fun j hj => (Hbl.out.cell (p := ⟨b2, o2 + j, none⟩) hlt2).trans (hc2 j (by have := Hlen.out; omega))) hk2)
        have l1 := Nat.lt_of_lt_of_le hlt1 Hbl.out.size
        have l2 := Nat.lt_of_lt_of_le hlt2 Hbl.out.size
        have Heq := Lib.hid (rfl : strEq (strAt l k) (strAt m k) = strEq (strAt l k) (strAt m k))
        clear hc1 hc2 hk1 hk2
        have hx : ∃ p q : StrT, strAt l k = p ∧ strAt m k = q := ⟨_, _, rfl, rfl⟩
        obtain ⟨⟨p1, p2, p3⟩, ⟨q1, q2, q3⟩, hp, hq⟩ := hx
        rw [hp] at f1
        rw [hq] at f2
        have Hp := Lib.hid hp
        have Hq := Lib.hid hq
        clear hp hq
        have hrn := fun w => run_neq_str w p1 p2 p3 q1 q2 q3
        cases hs : strEq ⟨p1, p2, p3⟩ ⟨q1, q2, q3⟩
        all_goals
          have hs2 : (!(p1 == q1 && (p2 == q2 && p3 == q3))) = !strEq ⟨p1, p2, p3⟩ ⟨q1, q2, q3⟩ := rfl
          rw [hs] at hs2
          simp only [hs2] at hrn
          have Hs := Lib.hid hs
          clear hs hs2
          go_wp2_with fail
          refine (wpIn_wide (n := 0)).1 ?_
        ·
          refine wp_region_facts (by kernel_rfl) [(fun v_ _ => v_ = (.slice (some ⟨b1, o1, none⟩) l.length cap1 : Value)), (fun v_ _ => v_ = (.int .i64 k : Value)), (fun v_ _ => v_ = (.pointer (some ⟨b1, o1 + k * 3, none⟩) : Value)), (fun v_ _ => v_ = (.agg #[.int .i64 p1, .int .u64 p2, .int .u64 p3] : Value)), (fun v_ _ => v_ = (.slice (some ⟨b2, o2, none⟩) l.length cap2 : Value)), (fun v_ _ => v_ = (.int .i64 k : Value)), (fun v_ _ => v_ = (.pointer (some ⟨b2, o2 + k * 3, none⟩) : Value)), (fun v_ _ => v_ = (.agg #[.int .i64 q1, .int .u64 q2, .int .u64 q3] : Value)), (fun v_ _ => v_ = (.bool true : Value))] (fun x y => Below x.heap.size x y) (fun _ => Below.refl _ _) (fun h k => grows_trans h k) ⟨fun _ _ _ _ h => h, fun _ _ _ _ h => h, fun _ _ _ _ h => h, fun _ _ _ _ h => h, fun _ _ _ _ h => h, fun _ _ _ _ h => h, fun _ _ _ _ h => h, fun _ _ _ _ h => h, fun _ _ _ _ h => h, trivial⟩ (by kernel_rfl) (by kernel_rfl) (grows_drew _)  ?steps ?fin
          case steps =>
            refine ⟨?_, ?_, ?_, ?_, ?_, ?_, ?_, ?_, ?_, trivial⟩
            · -- 0
              intro a' w' hA hC hD
              have s0 : a'.tmps[0]? = some (.slice (some ⟨b1, o1, none⟩) l.length cap1) := (hA.at 0 (by kernel_rfl)).trans rfl
              clear hA hD
              refine stepOk_plain rfl ?_
              intro K hK
              gi_wp2
              exact hK (.slice (some ⟨b1, o1, none⟩) l.length cap1) _ rfl ((fun _ => Below.refl _ _) _)
            · -- 1
              intro a' w' hA hC hD
              have s5 : a'.tmps[5]? = some (.int .i64 k) := (hA.at 5 (by kernel_rfl)).trans rfl
              clear hA hD
              refine stepOk_plain rfl ?_
              intro K hK
              gi_wp2
              exact hK (.int .i64 k) _ rfl ((fun _ => Below.refl _ _) _)
            · -- 2
              intro a' w' hA hC hD
              obtain ⟨u16, s16, r16⟩ := hD ⟨0, .data⟩ (by simp) rfl _ rfl
              replace r16 : u16 = .slice (some ⟨b1, o1, none⟩) l.length cap1 := r16
              subst r16
              obtain ⟨u17, s17, r17⟩ := hD ⟨1, .data⟩ (by simp) rfl _ rfl
              replace r17 : u17 = .int .i64 k := r17
              subst r17
              clear hA hD
              refine stepOk_plain rfl ?_
              intro K hK
              gi_wp2
              exact hK (.pointer (some ⟨b1, o1 + k * 3, none⟩)) _ rfl ((fun _ => Below.refl _ _) _)
            · -- 3
              intro a' w' hA hC hD
              obtain ⟨u18, s18, r18⟩ := hD ⟨2, .data⟩ (by simp) rfl _ rfl
              replace r18 : u18 = .pointer (some ⟨b1, o1 + k * 3, none⟩) := r18
              subst r18
              have e0 := (hC.cell (p := ⟨b1, o1 + k * 3, none⟩) l1).trans f1.out.1; have e1 := (hC.cell (p := ⟨b1, o1 + k * 3 + 1, none⟩) l1).trans f1.out.2.1; have e2 := (hC.cell (p := ⟨b1, o1 + k * 3 + 2, none⟩) l1).trans f1.out.2.2
              clear hA hD
              refine stepOk_plain rfl ?_
              intro K hK
              gi_wp2
              exact hK (.agg #[.int .i64 p1, .int .u64 p2, .int .u64 p3]) _ rfl ((fun _ => Below.refl _ _) _)
            · -- 4
              intro a' w' hA hC hD
              have s1 : a'.tmps[1]? = some (.slice (some ⟨b2, o2, none⟩) l.length cap2) := (hA.at 1 (by kernel_rfl)).trans rfl
              clear hA hD
              refine stepOk_plain rfl ?_
              intro K hK
              gi_wp2
              exact hK (.slice (some ⟨b2, o2, none⟩) l.length cap2) _ rfl ((fun _ => Below.refl _ _) _)
            · -- 5
              intro a' w' hA hC hD
              have s5 : a'.tmps[5]? = some (.int .i64 k) := (hA.at 5 (by kernel_rfl)).trans rfl
              clear hA hD
              refine stepOk_plain rfl ?_
              intro K hK
              gi_wp2
              exact hK (.int .i64 k) _ rfl ((fun _ => Below.refl _ _) _)
            · -- 6
              intro a' w' hA hC hD
              obtain ⟨u20, s20, r20⟩ := hD ⟨4, .data⟩ (by simp) rfl _ rfl
              replace r20 : u20 = .slice (some ⟨b2, o2, none⟩) l.length cap2 := r20
              subst r20
              obtain ⟨u21, s21, r21⟩ := hD ⟨5, .data⟩ (by simp) rfl _ rfl
              replace r21 : u21 = .int .i64 k := r21
              subst r21
              clear hA hD
              refine stepOk_plain rfl ?_
              intro K hK
              gi_wp2
              exact hK (.pointer (some ⟨b2, o2 + k * 3, none⟩)) _ rfl ((fun _ => Below.refl _ _) _)
            · -- 7
              intro a' w' hA hC hD
              obtain ⟨u22, s22, r22⟩ := hD ⟨6, .data⟩ (by simp) rfl _ rfl
              replace r22 : u22 = .pointer (some ⟨b2, o2 + k * 3, none⟩) := r22
              subst r22
              have e0 := (hC.cell (p := ⟨b2, o2 + k * 3, none⟩) l2).trans f2.out.1; have e1 := (hC.cell (p := ⟨b2, o2 + k * 3 + 1, none⟩) l2).trans f2.out.2.1; have e2 := (hC.cell (p := ⟨b2, o2 + k * 3 + 2, none⟩) l2).trans f2.out.2.2
              clear hA hD
              refine stepOk_plain rfl ?_
              intro K hK
              gi_wp2
              exact hK (.agg #[.int .i64 q1, .int .u64 q2, .int .u64 q3]) _ rfl ((fun _ => Below.refl _ _) _)
            · -- 8
              intro a' w' hA hC hD
              obtain ⟨u19, s19, r19⟩ := hD ⟨3, .data⟩ (by simp) rfl _ rfl
              replace r19 : u19 = .agg #[.int .i64 p1, .int .u64 p2, .int .u64 p3] := r19
              subst r19
              obtain ⟨u23, s23, r23⟩ := hD ⟨7, .data⟩ (by simp) rfl _ rfl
              replace r23 : u23 = .agg #[.int .i64 q1, .int .u64 q2, .int .u64 q3] := r23
              subst r23
              clear hA hD
              refine stepOk_plain rfl ?_
              intro K hK
              gi_wp2
              exact hK (.bool true) _ rfl ((fun _ => Below.refl _ _) _)
          case fin =>
            intro w3 hC
            simp only [EndFrom, forall_eq, Act.put, List.length_cons, List.length_nil, List.drop_succ_cons, List.drop_zero, Nat.reduceAdd, List.setIfInBounds_toArray, List.set_cons_succ, List.set_cons_zero]
            gi_wp2
            go_wp2
            go_ret
            refine ⟨ret_bool ?_, Hbl.out.trans (hC.mono Hbl.out.size)⟩
            symm
            rw [List.all_eq_false]
            refine ⟨k, List.mem_range.2 hkn, ?_⟩
            rw [Hp.out, Hq.out, Hs.out]
            simp
        ·
          refine wp_region_facts (by kernel_rfl) [(fun v_ _ => v_ = (.slice (some ⟨b1, o1, none⟩) l.length cap1 : Value)), (fun v_ _ => v_ = (.int .i64 k : Value)), (fun v_ _ => v_ = (.pointer (some ⟨b1, o1 + k * 3, none⟩) : Value)), (fun v_ _ => v_ = (.agg #[.int .i64 p1, .int .u64 p2, .int .u64 p3] : Value)), (fun v_ _ => v_ = (.slice (some ⟨b2, o2, none⟩) l.length cap2 : Value)), (fun v_ _ => v_ = (.int .i64 k : Value)), (fun v_ _ => v_ = (.pointer (some ⟨b2, o2 + k * 3, none⟩) : Value)), (fun v_ _ => v_ = (.agg #[.int .i64 q1, .int .u64 q2, .int .u64 q3] : Value)), (fun v_ _ => v_ = (.bool false : Value))] (fun x y => Below x.heap.size x y) (fun _ => Below.refl _ _) (fun h k => grows_trans h k) ⟨fun _ _ _ _ h => h, fun _ _ _ _ h => h, fun _ _ _ _ h => h, fun _ _ _ _ h => h, fun _ _ _ _ h => h, fun _ _ _ _ h => h, fun _ _ _ _ h => h, fun _ _ _ _ h => h, fun _ _ _ _ h => h, trivial⟩ (by kernel_rfl) (by kernel_rfl) (grows_drew _)  ?steps ?fin
          case steps =>
            refine ⟨?_, ?_, ?_, ?_, ?_, ?_, ?_, ?_, ?_, trivial⟩
            · -- 0
              intro a' w' hA hC hD
              have s0 : a'.tmps[0]? = some (.slice (some ⟨b1, o1, none⟩) l.length cap1) := (hA.at 0 (by kernel_rfl)).trans rfl
              clear hA hD
              refine stepOk_plain rfl ?_
              intro K hK
              gi_wp2
              exact hK (.slice (some ⟨b1, o1, none⟩) l.length cap1) _ rfl ((fun _ => Below.refl _ _) _)
            · -- 1
              intro a' w' hA hC hD
              have s5 : a'.tmps[5]? = some (.int .i64 k) := (hA.at 5 (by kernel_rfl)).trans rfl
              clear hA hD
              refine stepOk_plain rfl ?_
              intro K hK
              gi_wp2
              exact hK (.int .i64 k) _ rfl ((fun _ => Below.refl _ _) _)
            · -- 2
              intro a' w' hA hC hD
              obtain ⟨u16, s16, r16⟩ := hD ⟨0, .data⟩ (by simp) rfl _ rfl
              replace r16 : u16 = .slice (some ⟨b1, o1, none⟩) l.length cap1 := r16
              subst r16
              obtain ⟨u17, s17, r17⟩ := hD ⟨1, .data⟩ (by simp) rfl _ rfl
              replace r17 : u17 = .int .i64 k := r17
              subst r17
              clear hA hD
              refine stepOk_plain rfl ?_
              intro K hK
              gi_wp2
              exact hK (.pointer (some ⟨b1, o1 + k * 3, none⟩)) _ rfl ((fun _ => Below.refl _ _) _)
            · -- 3
              intro a' w' hA hC hD
              obtain ⟨u18, s18, r18⟩ := hD ⟨2, .data⟩ (by simp) rfl _ rfl
              replace r18 : u18 = .pointer (some ⟨b1, o1 + k * 3, none⟩) := r18
              subst r18
              have e0 := (hC.cell (p := ⟨b1, o1 + k * 3, none⟩) l1).trans f1.out.1; have e1 := (hC.cell (p := ⟨b1, o1 + k * 3 + 1, none⟩) l1).trans f1.out.2.1; have e2 := (hC.cell (p := ⟨b1, o1 + k * 3 + 2, none⟩) l1).trans f1.out.2.2
              clear hA hD
              refine stepOk_plain rfl ?_
              intro K hK
              gi_wp2
              exact hK (.agg #[.int .i64 p1, .int .u64 p2, .int .u64 p3]) _ rfl ((fun _ => Below.refl _ _) _)
            · -- 4
              intro a' w' hA hC hD
              have s1 : a'.tmps[1]? = some (.slice (some ⟨b2, o2, none⟩) l.length cap2) := (hA.at 1 (by kernel_rfl)).trans rfl
              clear hA hD
              refine stepOk_plain rfl ?_
              intro K hK
              gi_wp2
              exact hK (.slice (some ⟨b2, o2, none⟩) l.length cap2) _ rfl ((fun _ => Below.refl _ _) _)
            · -- 5
              intro a' w' hA hC hD
              have s5 : a'.tmps[5]? = some (.int .i64 k) := (hA.at 5 (by kernel_rfl)).trans rfl
              clear hA hD
              refine stepOk_plain rfl ?_
              intro K hK
              gi_wp2
              exact hK (.int .i64 k) _ rfl ((fun _ => Below.refl _ _) _)
            · -- 6
              intro a' w' hA hC hD
              obtain ⟨u20, s20, r20⟩ := hD ⟨4, .data⟩ (by simp) rfl _ rfl
              replace r20 : u20 = .slice (some ⟨b2, o2, none⟩) l.length cap2 := r20
              subst r20
              obtain ⟨u21, s21, r21⟩ := hD ⟨5, .data⟩ (by simp) rfl _ rfl
              replace r21 : u21 = .int .i64 k := r21
              subst r21
              clear hA hD
              refine stepOk_plain rfl ?_
              intro K hK
              gi_wp2
              exact hK (.pointer (some ⟨b2, o2 + k * 3, none⟩)) _ rfl ((fun _ => Below.refl _ _) _)
            · -- 7
              intro a' w' hA hC hD
              obtain ⟨u22, s22, r22⟩ := hD ⟨6, .data⟩ (by simp) rfl _ rfl
              replace r22 : u22 = .pointer (some ⟨b2, o2 + k * 3, none⟩) := r22
              subst r22
              have e0 := (hC.cell (p := ⟨b2, o2 + k * 3, none⟩) l2).trans f2.out.1; have e1 := (hC.cell (p := ⟨b2, o2 + k * 3 + 1, none⟩) l2).trans f2.out.2.1; have e2 := (hC.cell (p := ⟨b2, o2 + k * 3 + 2, none⟩) l2).trans f2.out.2.2
              clear hA hD
              refine stepOk_plain rfl ?_
              intro K hK
              gi_wp2
              exact hK (.agg #[.int .i64 q1, .int .u64 q2, .int .u64 q3]) _ rfl ((fun _ => Below.refl _ _) _)
            · -- 8
              intro a' w' hA hC hD
              obtain ⟨u19, s19, r19⟩ := hD ⟨3, .data⟩ (by simp) rfl _ rfl
              replace r19 : u19 = .agg #[.int .i64 p1, .int .u64 p2, .int .u64 p3] := r19
              subst r19
              obtain ⟨u23, s23, r23⟩ := hD ⟨7, .data⟩ (by simp) rfl _ rfl
              replace r23 : u23 = .agg #[.int .i64 q1, .int .u64 q2, .int .u64 q3] := r23
              subst r23
              clear hA hD
              refine stepOk_plain rfl ?_
              intro K hK
              gi_wp2
              exact hK (.bool false) _ rfl ((fun _ => Below.refl _ _) _)
          case fin =>
            intro w3 hC
            simp only [EndFrom, forall_eq, Act.put, List.length_cons, List.length_nil, List.drop_succ_cons, List.drop_zero, Nat.reduceAdd, List.setIfInBounds_toArray, List.set_cons_succ, List.set_cons_zero]
            gi_wp2
            go_wp2
            go_roundw
            case rel =>
              refine ⟨k + 1, hkn, by go_num, fun j hj => ?_, Hbl.out.trans (hC.mono Hbl.out.size)⟩
              rcases Nat.lt_or_eq_of_le (Nat.lt_succ_iff.1 hj) with h | rfl
              · exact Hall.out j h
              · rw [Hp.out, Hq.out, Hs.out]
            case measure => simp [intOf]; omega
      · obtain rfl : k = l.length := by omega
        go_wp2_with fail
        go_ret
        refine ⟨ret_bool ?_, Hbl.out⟩
        symm
        rw [List.all_eq_true]
        exact fun j hj => Hall.out j (List.mem_range.1 hj)
end Go.Proofs.Ytppaheekpmgifaa
