/- ShapeUnions: the walk. -/
import Derived.Test.YtflbcabjefpojaaUnionsA
import Derived.Test.YtflbcabjefpojaaSteps
namespace Go.Proofs.Ytflbcabjefpojaa
set_option linter.unusedSimpArgs false
set_option linter.unusedVariables false
open Go.RowKit Go.Shelf
attribute [local go_sem] Oper.semAt_some

theorem rowsR_of {w : World} {b : Nat} {cs : Array Value} {t : TypeId} {f : Nat × Nat} (h : w.heap[b]? = some (.cells cs t f)) (ls : List (List SpT)) (hls : ∀ (k : Nat) (l : List SpT), ls[k]? = some l → ∃ a c, cs[k]? = some (.slice a l.length c) ∧ Elems w (.slice a l.length c) l.length 3 (rowC encS l)) : RowsR w (some ⟨b, 0, none⟩) ls := fun k l hk => by
  obtain ⟨a, c, h1, h2⟩ := hls k l hk
  exact ⟨b, 0, a, c, rfl, block_lt h, by rw [Nat.zero_add]; exact cell_of_block h h1, h2⟩
theorem setSame {la lb M : List SpT} (h : SetRow (fun p => hasB [la, lb].flatten p = true) M) : SetRow (fun p => hasB [lb, la, lb, M].flatten p = true) M := h.congr fun p => by
  have := h.has p
  simp only [List.flatten_cons, List.flatten_nil, List.append_nil, hasB_append] at this ⊢
  revert this
  cases hasB la p <;> cases hasB lb p <;> cases hasB M p <;> simp
theorem setOne {P : PtT → Prop} {M : List SpT} (h : SetRow P M) : SetRow (fun p => hasB [M].flatten p = true) M := ⟨h.row, fun p => by simp⟩
theorem setNone : SetRow (fun p => hasB ([] : List (List SpT)).flatten p = true) [] := ⟨⟨by simp, List.Pairwise.nil⟩, fun p => by simp [hasB]⟩

set_option maxRecDepth 100000 in
set_option maxHeartbeats 4000000 in
theorem unions_any (a1 a2 : Option Addr) (n1 n2 c1 c2 : Nat) (x y : List SpT) (hl1 : x.length = n1) (hl2 : y.length = n2) (hc1 : n1 ≤ c1) (hc2 : n2 ≤ c2) (hd1 : c1 ≤ 9223372036854775807) (hd2 : c2 ≤ 9223372036854775807) (p : PtT) (w : World) (h1 : Elems w (.slice a1 n1 c1) n1 3 (rowC encS x)) (h2 : Elems w (.slice a2 n2 c2) n2 3 (rowC encS y)) :
    Calls Try.prog 7 #[.slice a1 n1 c1, .slice a2 n2 c2, p.val] w (Gives (.bool true) w) := by
  have HFA := Lib.hid (few_any a1 n1 c1 x hl1 hc1 hd1)
  have HFB := Lib.hid (few_any a2 n2 c2 y hl2 hc2 hd2)
  obtain ⟨ma, hma⟩ : ∃ ma, min n1 40 = ma := ⟨_, rfl⟩
  obtain ⟨mb, hmb⟩ : ∃ mb, min n2 40 = mb := ⟨_, rfl⟩
  obtain ⟨la, hla⟩ : ∃ la, x.take 40 = la := ⟨_, rfl⟩
  obtain ⟨lb, hlb⟩ : ∃ lb, y.take 40 = lb := ⟨_, rfl⟩
  rw [hma, hla] at HFA
  rw [hmb, hlb] at HFB
  have HLA := Lib.hid (show la.length = ma ∧ ma ≤ 40 by constructor; rw [← hla, List.length_take]; omega; omega)
  have HLB := Lib.hid (show lb.length = mb ∧ mb ≤ 40 by constructor; rw [← hlb, List.length_take]; omega; omega)
  have HS := Lib.hid (((St.start w).addRow h1).addRow h2)
  clear hma hmb hla hlb h1 h2 hl1 hl2 hc1 hc2 hd1 hd2
  obtain ⟨px, py⟩ := p
  unfold PtT.val
  refine (callsIn_wide (n := 10)).1 ?_
  refine callsIn_of_wp_marks Try.func7 rfl trivial ?_ rfl
  simp only [Try.ntmps7, List.size_toArray, List.length_cons, List.length_nil, Nat.reduceAdd, Nat.reduceSub, Array.replicate_succ, Array.replicate_zero, List.push_toArray, List.append_toArray, List.nil_append, List.cons_append]
  gi_wp2_with fail
  have hs_ := ((HS.out.alloc (.cells #[.int .i64 px, .int .i64 py] 28)).alloc (.cells #[.bool false] 4))
  obtain ⟨w1, hw_⟩ : ∃ w1 : World, ((w.alloc (.cells #[.int .i64 px, .int .i64 py] 28)).alloc (.cells #[.bool false] 4)) = w1 := ⟨_, rfl⟩
  rw [hw_] at hs_
  try simp only [World.size_alloc] at hs_
  have HS := Lib.hid hs_
  rw [hw_]
  clear hw_ hs_
  refine (callsIn_wide.2 (wakes_any _)).mono ?_
  rintro e w2 ⟨rfl, hb_⟩
  have HS := Lib.hid (HS.out.below hb_)
  clear hb_
  gi_wp2_with fail
  refine (callsIn_wide.2 (HFA.out w2 (HS.out.elems 3 rfl))).mono ?_
  rintro e w3 ⟨-, a3, c3, rfl, hc3, he_, hb_⟩
  have HS := Lib.hid ((HS.out.below hb_).addRow he_)
  clear hb_ he_
  gi_wp2_with fail
  refine (callsIn_wide.2 (HFB.out w3 (HS.out.elems 3 rfl))).mono ?_
  rintro e w4 ⟨-, a4, c4, rfl, hc4, he_, hb_⟩
  have HS := Lib.hid ((HS.out.below hb_).addRow he_)
  clear hb_ he_
  clear HFA HFB
  gi_wp2_with fail
  have hs_ := ((HS.out.alloc (.cells #[.slice a4 mb c4] 29)).alloc (.cells #[.slice a3 ma c3, .slice a4 mb c4] 29))
  obtain ⟨w5, hw_⟩ : ∃ w5 : World, ((w4.alloc (.cells #[.slice a4 mb c4] 29)).alloc (.cells #[.slice a3 ma c3, .slice a4 mb c4] 29)) = w5 := ⟨_, rfl⟩
  rw [hw_] at hs_
  try simp only [World.size_alloc] at hs_
  have HS := Lib.hid hs_
  rw [hw_]
  clear hw_ hs_
  have hrr := rowsR_of (HS.out.blockAt 0 rfl) [la, lb] (fun k l hk => by
    rcases k with _ | _ | k
    · simp only [List.getElem?_cons_zero, Option.some.injEq] at hk
      subst hk
      rw [HLA.out.1]
      exact ⟨a3, c3, rfl, HS.out.elems 3 rfl⟩
    · simp only [List.getElem?_cons_succ, List.getElem?_cons_zero, Option.some.injEq] at hk
      subst hk
      rw [HLB.out.1]
      exact ⟨a4, c4, rfl, HS.out.elems 2 rfl⟩
    · simp at hk)
  have HU := Lib.hid (shUnion_any _ 2 2 [la, lb] rfl (by decide) (by have := HLA.out; have := HLB.out; simp; omega) w5 hrr)
  have hok : [la, lb].all rightB = (rightB la && rightB lb) := by simp
  rw [hok] at HU
  clear hrr hok
  cases hra : rightB la
  · have HRA := Lib.hid hra
    rw [hra, Bool.false_and] at HU
    clear hra
    refine (callsIn_wide.2 HU.out).mono ?_
    rintro e w6 hg
    obtain ⟨-, a6, c6, rfl, he_, hb_⟩ := hg.bad
    have HS := Lib.hid ((HS.out.below hb_).addRow he_)
    clear hg he_ hb_ HU
    gi_wp2_with fail
    have hs_ := (HS.out.alloc (.cells #[.slice a6 0 c6] 29))
    obtain ⟨w7, hw_⟩ : ∃ w7 : World, (w6.alloc (.cells #[.slice a6 0 c6] 29)) = w7 := ⟨_, rfl⟩
    rw [hw_] at hs_
    try simp only [World.size_alloc] at hs_
    have HS := Lib.hid hs_
    rw [hw_]
    clear hw_ hs_
    have HCA := Lib.hid (check_any a3 ma c3 la HLA.out.1 (by have := HLA.out; omega) w7 (HS.out.elems 5 rfl))
    rw [HRA.out] at HCA
    refine (callsIn_wide.2 (HCA.out)).mono ?_
    rintro e w8 ⟨rfl, hb_⟩
    have HS := Lib.hid (HS.out.below hb_)
    clear hb_
    have cF := cell_of_block (k := 0) (HS.out.blockAt 6 rfl) rfl
    have fF := free_of_block (HS.out.blockAt 6 rfl) 0
    gi_wp2_with fail
    have hc := cell_of_block (k := 0) (v := .bool true) (heap_set_same (HS.out.blockAt 6 rfl) (.bool true) (k := 0)) rfl
    exact ⟨.bool true, by simp [results, Try.results7, go_sem, hc], rfl, HS.out.low.setCell (p := ⟨w.heap.size + 1, 0, none⟩) (by simp) _⟩
  · have HRA := Lib.hid hra
    rw [hra, Bool.true_and] at HU
    clear hra
    cases hrb : rightB lb
    · have HRB := Lib.hid hrb
      rw [hrb] at HU
      clear hrb
      refine (callsIn_wide.2 HU.out).mono ?_
      rintro e w6 hg
      obtain ⟨-, a6, c6, rfl, he_, hb_⟩ := hg.bad
      have HS := Lib.hid ((HS.out.below hb_).addRow he_)
      clear hg he_ hb_ HU
      gi_wp2_with fail
      have hs_ := (HS.out.alloc (.cells #[.slice a6 0 c6] 29))
      obtain ⟨w7, hw_⟩ : ∃ w7 : World, (w6.alloc (.cells #[.slice a6 0 c6] 29)) = w7 := ⟨_, rfl⟩
      rw [hw_] at hs_
      try simp only [World.size_alloc] at hs_
      have HS := Lib.hid hs_
      rw [hw_]
      clear hw_ hs_
      have HCA := Lib.hid (check_any a3 ma c3 la HLA.out.1 (by have := HLA.out; omega) w7 (HS.out.elems 5 rfl))
      rw [HRA.out] at HCA
      refine (callsIn_wide.2 (HCA.out)).mono ?_
      rintro e w8 ⟨rfl, hb_⟩
      have HS := Lib.hid (HS.out.below hb_)
      clear hb_
      have cX := cell_of_block (k := 0) (HS.out.blockAt 3 rfl) rfl
      gi_wp2_with fail
      clear cX
      have HCB := Lib.hid (check_any a4 mb c4 lb HLB.out.1 (by have := HLB.out; omega) w8 (HS.out.elems 4 rfl))
      rw [HRB.out, errOf_false] at HCB
      refine (callsIn_wide.2 (HCB.out)).mono ?_
      rintro e w9 ⟨rfl, hb_⟩
      have HS := Lib.hid (HS.out.below hb_)
      clear hb_
      have cF := cell_of_block (k := 0) (HS.out.blockAt 6 rfl) rfl
      have fF := free_of_block (HS.out.blockAt 6 rfl) 0
      gi_wp2_with fail
      have hc := cell_of_block (k := 0) (v := .bool true) (heap_set_same (HS.out.blockAt 6 rfl) (.bool true) (k := 0)) rfl
      exact ⟨.bool true, by simp [results, Try.results7, go_sem, hc], rfl, HS.out.low.setCell (p := ⟨w.heap.size + 1, 0, none⟩) (by simp) _⟩
    · have HRB := Lib.hid hrb
      rw [hrb] at HU
      clear hrb
      refine (callsIn_wide.2 HU.out).mono ?_
      rintro e w6 hg
      obtain ⟨M, hset, hml, -, a6, c6, rfl, he_, hb_⟩ := hg.good
      obtain ⟨m, hm⟩ : ∃ m, M.length = m := ⟨_, rfl⟩
      rw [hm] at hml he_
      rw [hm]
      have hrm : rightB M = true := right_of_set hset (fun q hq => by
        simp only [List.flatten_cons, List.flatten_nil, List.append_nil, hasB_append, Bool.or_eq_true] at hq
        rcases hq with hq | hq
        · exact right_reach HRA.out hq
        · exact right_reach HRB.out hq)
      have HM := Lib.hid (And.intro hm (And.intro hml (And.intro hset hrm)))
      have HS := Lib.hid ((HS.out.below hb_).addRow he_)
      clear hg he_ hb_ HU hm hml hset hrm
      have cX := cell_of_block (k := 0) ((HS.out.alloc (.cells #[.slice a6 m c6] 29)).blockAt 3 rfl) rfl
      gi_wp2_with fail
      clear cX
      have hs_ := ((HS.out.alloc (.cells #[.slice a6 m c6] 29)).alloc (.cells #[.slice a4 mb c4, .slice a3 ma c3, .slice a4 mb c4, .slice a6 m c6] 29))
      obtain ⟨w7, hw_⟩ : ∃ w7 : World, ((w6.alloc (.cells #[.slice a6 m c6] 29)).alloc (.cells #[.slice a4 mb c4, .slice a3 ma c3, .slice a4 mb c4, .slice a6 m c6] 29)) = w7 := ⟨_, rfl⟩
      rw [hw_] at hs_
      try simp only [World.size_alloc] at hs_
      have HS := Lib.hid hs_
      rw [hw_]
      clear hw_ hs_
      have hrr := rowsR_of (HS.out.blockAt 0 rfl) [lb, la, lb, M] (fun k l hk => by
        rcases k with _ | _ | _ | _ | k
        · simp only [List.getElem?_cons_zero, Option.some.injEq] at hk
          subst hk; rw [HLB.out.1]; exact ⟨a4, c4, rfl, HS.out.elems 5 rfl⟩
        · simp only [List.getElem?_cons_succ, List.getElem?_cons_zero, Option.some.injEq] at hk
          subst hk; rw [HLA.out.1]; exact ⟨a3, c3, rfl, HS.out.elems 6 rfl⟩
        · simp only [List.getElem?_cons_succ, List.getElem?_cons_zero, Option.some.injEq] at hk
          subst hk; rw [HLB.out.1]; exact ⟨a4, c4, rfl, HS.out.elems 5 rfl⟩
        · simp only [List.getElem?_cons_succ, List.getElem?_cons_zero, Option.some.injEq] at hk
          subst hk; rw [HM.out.1]; exact ⟨a6, c6, rfl, HS.out.elems 2 rfl⟩
        · simp at hk)
      have HU2 := Lib.hid ((shUnion_any _ 4 4 [lb, la, lb, M] rfl (by decide) (by
          have h1 := (union_small HRA.out HRB.out HM.out.2.2.1).1
          have := HLA.out; have := HLB.out; simp; omega) w7 hrr).mono fun _ _ h => h.known (by simp [HRA.out, HRB.out, HM.out.2.2.2]) (setSame HM.out.2.2.1) m HM.out.1)
      clear hrr
      refine (callsIn_wide.2 (HU2.out)).mono ?_
      rintro e w8 ⟨-, a8, c8, rfl, he_, hb_⟩
      have HS := Lib.hid ((HS.out.below hb_).addRow he_)
      clear hb_ he_
      have cZ := cell_of_block (k := 0) (HS.out.blockAt 2 rfl) rfl
      clear HU2
      gi_wp2_with fail
      clear cZ
      have hs_ := (HS.out.alloc (.cells #[.slice a6 m c6] 29))
      obtain ⟨w9, hw_⟩ : ∃ w9 : World, (w8.alloc (.cells #[.slice a6 m c6] 29)) = w9 := ⟨_, rfl⟩
      rw [hw_] at hs_
      try simp only [World.size_alloc] at hs_
      have HS := Lib.hid hs_
      rw [hw_]
      clear hw_ hs_
      have hrr := rowsR_of (HS.out.blockAt 0 rfl) [M] (fun k l hk => by
        rcases k with _ | k
        · simp only [List.getElem?_cons_zero, Option.some.injEq] at hk
          subst hk; rw [HM.out.1]; exact ⟨a6, c6, rfl, HS.out.elems 4 rfl⟩
        · simp at hk)
      have HU3 := Lib.hid ((shUnion_any _ 1 1 [M] rfl (by decide) (by have := HM.out.2.1; have := HM.out.1; simp; omega) w9 hrr).mono fun _ _ h => h.known (by simp [HM.out.2.2.2]) (setOne HM.out.2.2.1) m HM.out.1)
      clear hrr
      refine (callsIn_wide.2 (HU3.out)).mono ?_
      rintro e w10 ⟨-, a10, c10, rfl, he_, hb_⟩
      have HS := Lib.hid ((HS.out.below hb_).addRow he_)
      clear hb_ he_
      clear HU3
      gi_wp2_with fail
      have HU4 := Lib.hid ((shUnion_any none 0 0 [] rfl (by decide) (by decide) w10 (fun k l hk => by simp at hk)).mono fun _ _ h => h.known rfl setNone 0 rfl)
      refine (callsIn_wide.2 (HU4.out)).mono ?_
      rintro e w11 ⟨-, a11, c11, rfl, he_, hb_⟩
      have HS := Lib.hid ((HS.out.below hb_).addRow he_)
      clear hb_ he_
      clear HU4
      have cZ := cell_of_block (k := 0) (HS.out.blockAt 5 rfl) rfl
      gi_wp2_with fail
      clear cZ
      refine (callsIn_wide.2 (eqS_same _ _ M m HM.out.1 _ (HS.out.elems 6 rfl) (HS.out.elems 3 rfl) (Nat.le_trans HM.out.2.1 (by decide)))).mono ?_
      rintro e w12 ⟨rfl, hb_⟩
      have HS := Lib.hid (HS.out.below hb_)
      clear hb_
      have cZ := cell_of_block (k := 0) (HS.out.blockAt 5 rfl) rfl
      gi_wp2_with fail
      clear cZ
      refine (callsIn_wide.2 (eqS_same _ _ M m HM.out.1 _ (HS.out.elems 6 rfl) (HS.out.elems 1 rfl) (Nat.le_trans HM.out.2.1 (by decide)))).mono ?_
      rintro e w13 ⟨rfl, hb_⟩
      have HS := Lib.hid (HS.out.below hb_)
      clear hb_
      have cZ := cell_of_block (k := 0) (HS.out.blockAt 5 rfl) rfl
      gi_wp2_with fail
      clear cZ
      have HCM := Lib.hid (check_any a6 m c6 M HM.out.1 (by have := HM.out.2.1; omega) w13 (HS.out.elems 6 rfl))
      rw [HM.out.2.2.2] at HCM
      refine (callsIn_wide.2 (HCM.out)).mono ?_
      rintro e w14 ⟨rfl, hb_⟩
      have HS := Lib.hid (HS.out.below hb_)
      clear hb_
      clear HCM
      have HA3 := Lib.hid (aBlk_lt (HS.out.elems 10 rfl))
      have hw14 : w.heap.size + 1 < w14.heap.size := HS.out.lt 11 rfl
      gi_wp2_with fail
      have hs_ := (HS.out.alloc (.cells #[.int .i64 0] 3))
      obtain ⟨w15, hw_⟩ : ∃ w15 : World, (w14.alloc (.cells #[.int .i64 0] 3)) = w15 := ⟨_, rfl⟩
      rw [hw_] at hs_
      try simp only [World.size_alloc] at hs_
      have HS := Lib.hid hs_
      rw [hw_]
      clear hw_ hs_
      have hz15 : w14.heap.size < w15.heap.size := HS.out.lt 0 rfl
      refine (callsIn_wide.2 (all_any _ _ _ _)).mono ?_
      rintro e w' ⟨rfl, rfl⟩
      have hs_ := (HS.out.alloc (.cells #[.slice a3 ma c3] 29))
      obtain ⟨w16, hw_⟩ : ∃ w16 : World, (w15.alloc (.cells #[.slice a3 ma c3] 29)) = w16 := ⟨_, rfl⟩
      rw [hw_] at hs_
      try simp only [World.size_alloc] at hs_
      have HS := Lib.hid hs_
      rw [hw_]
      clear hw_ hs_
      have hz16 : w15.heap.size < w16.heap.size := HS.out.lt 0 rfl
      gi_wp2_with fail
      have hbs : ∀ c ∈ w15.heap.size :: aBlk a3, c < w16.heap.size := by
        intro c hc
        rcases List.mem_cons.1 hc with rfl | hc
        · exact hz16
        · have := HA3.out c hc; omega
      have hnb : w14.heap.size ∉ w15.heap.size :: aBlk a3 := by
        intro hc
        rcases List.mem_cons.1 hc with e | hc
        · omega
        · have := HA3.out _ hc; omega
      obtain ⟨A, hA⟩ : ∃ A, allL la = A := ⟨_, rfl⟩
      have hA2 : ptsL la = A := (allL_right HRA.out).symm.trans hA
      have hit := all_iter (fun _ _ => False) w16 (ownSt_none _) (fun _ h => h.elim) w15.heap.size (w15.heap.size :: aBlk a3) a3 ma c3 la HLA.out.1 (by have := HLA.out.2; omega) A hA hbs (by simp) (fun b off e => List.mem_cons_of_mem _ (aBlk_mem e)) (cell_of_block (HS.out.blockAt 0 rfl) rfl) (HS.out.elems 12 rfl)
      have hst := HS.out.sub (its' := [.blk w15.heap.size (.cells #[.slice a3 ma c3] 29 (0, 0)), .blk w14.heap.size (.cells #[.int .i64 0] 3 (0, 0)), .blk w6.heap.size (.cells #[.slice a6 m c6] 29 (0, 0)), .row (.slice a6 m c6) m 3 (rowC encS M) w6.heap.size, .blk w4.heap.size (.cells #[.slice a4 mb c4] 29 (0, 0)), .row (.slice a4 mb c4) mb 3 (rowC encS lb) w4.heap.size, .row (.slice a3 ma c3) ma 3 (rowC encS la) w3.heap.size, .blk (w.heap.size + 1) (.cells #[.bool false] 4 (0, 0)), .blk w.heap.size (.cells #[.int .i64 px, .int .i64 py] 28 (0, 0))]) (.cons_cons _ (.cons_cons _ (.cons _ (.cons _ (.cons _ (.cons _ (.cons _ (.cons_cons _ (.cons_cons _ (.cons _ (.cons_cons _ (.cons_cons _ (.cons_cons _ (.cons_cons _ (.cons_cons _ (List.nil_sublist _))))))))))))))))
      have HA2 := Lib.hid hA2
      have HZ := Lib.hid (And.intro hw14 (And.intro hz15 hz16))
      clear HS hA hA2
      apply with_actIn
      intro a0 ha0
      refine range_iterO hit (by omega) (ownSt_none _) (by rw [ha0]; rfl) (enters_of Try.func54 (by kernel_rfl) rfl) hbs (fun _ => rfl) (fun x => [(100, (A[x.1]).val)]) (fun _ => by simp)
        (fun pre W => St w [.blk w15.heap.size (.cells #[.slice a3 ma c3] 29 (0, 0)), .blk w14.heap.size (.cells #[.int .i64 (((pre.map fun i => A[i.1]).countP (hasB lb) : Nat) : Int)] 3 (0, 0)), .blk w6.heap.size (.cells #[.slice a6 m c6] 29 (0, 0)), .row (.slice a6 m c6) m 3 (rowC encS M) w6.heap.size, .blk w4.heap.size (.cells #[.slice a4 mb c4] 29 (0, 0)), .row (.slice a4 mb c4) mb 3 (rowC encS lb) w4.heap.size, .row (.slice a3 ma c3) ma 3 (rowC encS la) w3.heap.size, .blk (w.heap.size + 1) (.cells #[.bool false] 4 (0, 0)), .blk w.heap.size (.cells #[.int .i64 px, .int .i64 py] 28 (0, 0))] W ∧ w16.heap.size ≤ W.heap.size)
        (fun _ _ _ => False) (OwnFrom.and (ownFrom_St (w0 := w) (fun (pre : List (Fin A.length)) => [.blk w15.heap.size (.cells #[.slice a3 ma c3] 29 (0, 0)), .blk w14.heap.size (.cells #[.int .i64 (((pre.map fun i => A[i.1]).countP (hasB lb) : Nat) : Int)] 3 (0, 0)), .blk w6.heap.size (.cells #[.slice a6 m c6] 29 (0, 0)), .row (.slice a6 m c6) m 3 (rowC encS M) w6.heap.size, .blk w4.heap.size (.cells #[.slice a4 mb c4] 29 (0, 0)), .row (.slice a4 mb c4) mb 3 (rowC encS lb) w4.heap.size, .row (.slice a3 ma c3) ma 3 (rowC encS la) w3.heap.size, .blk (w.heap.size + 1) (.cells #[.bool false] 4 (0, 0)), .blk w.heap.size (.cells #[.int .i64 px, .int .i64 py] 28 (0, 0))]) (by omega) (by intro s b o hb; simp at hb; rcases hb with ⟨_, rfl⟩ | ⟨_, rfl⟩ | ⟨_, rfl⟩ | ⟨_, rfl⟩ | ⟨_, rfl⟩ | ⟨_, rfl⟩ <;> rfl)) (ownFrom_size _)) (fun _ => ownFrom_pure _ _) ⟨hst, Nat.le_refl _⟩
        (fun x a' W => ∃ p, a' = loopAct a0 [(100, (A[x.1]).val), (18, .pointer (some ⟨p, 0, none⟩))] ∧ W.heap[p]? = some (.cells #[.int .i64 (A[x.1]).x, .int .i64 (A[x.1]).y] 28 (0, 0))) ?hAx ?assign ?body ?done ?stop
      case hAx =>
        rintro x a' s X Y row ⟨p, e, hp⟩ hg hr
        exact ⟨p, e, (grownBy_keeps_cells hg (fun r e => (hr r e).2) hp rfl).trans hp⟩
      case assign =>
        rintro ly pre x W K ⟨hI, hlt5⟩ hK
        have HK := Lib.hid hK
        have HI := Lib.hid hI
        clear hK hI
        rw [ha0] at HK ⊢
        unfold loopAct at HK ⊢
        simp only [PtT.val, List.foldl, List.setIfInBounds_toArray, List.set_cons_succ, List.set_cons_zero] at HK ⊢
        gi_wp2
        have hb := (Below.refl W.heap.size W).alloc (Nat.le_refl _) (.cells #[.int .i64 (A[x.1]).x, .int .i64 (A[x.1]).y] 28)
        exact HK.out _ _ (keepsFrom_below hb) (KO.of_below (ownSt_none _) hb hlt5 (fun c hc => Nat.lt_of_lt_of_le (hbs c hc) hlt5)) ⟨HI.out.below hb, Nat.le_trans hlt5 hb.size⟩ ⟨W.heap.size, rfl, World.alloc_heap_new W _⟩
      case body =>
        rintro ly pre x a' W ⟨hI, hlt5⟩ ⟨p, rfl, hp⟩ hlen
        rw [ha0]
        unfold loopAct
        have hqa : hasB la A[x.1] = true := mem_ptsL.1 (by rw [HA2.out]; exact List.getElem_mem _)
        have hmq : hasB M A[x.1] = true := (HM.out.2.2.1.has _).2 (by simp [hasB_append, hqa])
        have hcp : (((pre ++ [x]).map fun i => A[i.1]).countP (hasB lb)) = ((pre.map fun i => A[i.1]).countP (hasB lb)) + (if hasB lb A[x.1] = true then 1 else 0) := by
          rw [List.map_append, List.countP_append]
          simp [List.countP_cons]
        have hcle : ((pre.map fun i => A[i.1]).countP (hasB lb)) ≤ A.length := by
          have h1 := List.countP_le_length (p := hasB lb) (l := pre.map fun i => A[i.1])
          rw [List.length_map] at h1
          omega
        have hAle : A.length ≤ 20480 := by have h1 := ptsL_le HRA.out; have := HLA.out; rw [HA2.out] at h1; omega
        obtain ⟨q, hq⟩ : ∃ q, A[x.1] = q := ⟨_, rfl⟩
        obtain ⟨cn, hcn⟩ : ∃ cn, ((pre.map fun i => A[i.1]).countP (hasB lb)) = cn := ⟨_, rfl⟩
        rw [hq] at hp hmq hcp ⊢
        rw [hcn] at hcp hI hcle
        have HCP := Lib.hid hcp
        have HUQ := Lib.hid (shHas_any a6 m c6 M HM.out.1 (by have := HM.out.2.1; have := HM.out.1; omega) q W (hI.elems 3 rfl))
        rw [HM.out.2.2.2, hmq, Bool.and_self] at HUQ
        have HCL := Lib.hid (And.intro hcle hAle)
        clear hqa hmq hcp hq hcn hcle hAle
        obtain ⟨qx, qy⟩ := q
        simp only [PtT.val, List.foldl, List.setIfInBounds_toArray, List.set_cons_succ, List.set_cons_zero] at hp HUQ ⊢
        have cZ := cell_of_block (k := 0) (hI.blockAt 2 rfl) rfl
        have k0 := cell_of_block (k := 0) hp rfl
        have k1 := cell_of_block (k := 1) hp rfl
        have HI := Lib.hid hI
        have HP := Lib.hid hp
        clear hI hp
        gi_wp2_with fail
        refine ((callsIn_wide.2 HUQ.out).inRound ly).mono ?_
        rintro e W2 ⟨rfl, hb2⟩
        clear cZ k0 k1 HUQ
        have HI2 := Lib.hid (HI.out.below hb2)
        have HP2 := Lib.hid ((hb2.block p (block_lt HP.out)).trans HP.out)
        have HB2 := Lib.hid hb2
        clear hb2
        have cX := cell_of_block (k := 0) (HI2.out.blockAt 4 rfl) rfl
        have k0 := cell_of_block (k := 0) HP2.out rfl
        have k1 := cell_of_block (k := 1) HP2.out rfl
        have HBQ := Lib.hid (shHas_any a4 mb c4 lb HLB.out.1 (by have := HLB.out; omega) ⟨qx, qy⟩ W2 (HI2.out.elems 5 rfl))
        rw [HRB.out, Bool.true_and] at HBQ
        simp only [PtT.val] at HBQ
        gi_wp2_with fail
        refine ((callsIn_wide.2 HBQ.out).inRound ly).mono ?_
        rintro e W3 ⟨rfl, hb3⟩
        clear cX k0 k1 HBQ
        have HI3 := Lib.hid (HI2.out.below hb3)
        have HB3 := Lib.hid (HB2.out.trans (hb3.mono HB2.out.size))
        clear hb3 HI2 HB2 HP2
        cases hh : hasB lb ⟨qx, qy⟩
        · rw [hh] at HCP
          have HC2 := Lib.hid (show _ = cn from HCP.out.trans (by simp))
          clear hh
          gi_wp2
          refine ⟨keepsFrom_below HB3.out, KO.of_below (ownSt_none _) HB3.out hlt5 (fun c hc => Nat.lt_of_lt_of_le (hbs c hc) hlt5), ?_, Nat.le_trans hlt5 HB3.out.size⟩
          rw [HC2.out]
          exact HI3.out
        · rw [hh] at HCP
          have HC2 := Lib.hid (show _ = cn + 1 from HCP.out.trans (by simp))
          clear hh
          have c1 := cell_of_block (k := 0) (HI3.out.blockAt 1 rfl) rfl
          have f1 := free_of_block (HI3.out.blockAt 1 rfl) 0
          have wk : wrap64 ((cn : Int) + 1) = ((cn + 1 : Nat) : Int) := by have := HCL.out; unfold wrap64; omega
          gi_wp2
          refine ⟨(keepsFrom_below HB3.out).trans ((KeepsOthers.setCell W3 _ _).from _), (KO.of_below (ownSt_none _) HB3.out hlt5 (fun c hc => Nat.lt_of_lt_of_le (hbs c hc) hlt5)).trans (KO.setCell W3 _ _ _ (by omega) hnb), ?_, by have := HB3.out.size; simp; omega⟩
          rw [HC2.out]
          exact HI3.out.putAt (pre := [_]) (by intro i hi; simp at hi; exact ⟨_, _, hi⟩) 0 _ (by simp)
      case done =>
        rintro D W hD ⟨hI, -⟩ hK
        rw [map_fin] at hI
        rw [ha0]
        dsimp only
        have HS := Lib.hid hI
        have HK := Lib.hid hK
        obtain ⟨nM, hnM⟩ : ∃ nM, (ptsL M).length = nM := ⟨_, rfl⟩
        obtain ⟨nA, hnA⟩ : ∃ nA, (ptsL la).length = nA := ⟨_, rfl⟩
        obtain ⟨nB, hnB⟩ : ∃ nB, (ptsL lb).length = nB := ⟨_, rfl⟩
        obtain ⟨cn, hcn⟩ : ∃ cn, A.countP (hasB lb) = cn := ⟨_, rfl⟩
        have hcnt := union_count ((rightB_iff _).1 HRA.out).rowP ((rightB_iff _).1 HRB.out).rowP (show SetRow (fun p => hasB (la ++ lb) p = true) M from HM.out.2.2.1.congr fun p => by simp)
        rw [hnM, hnA, hnB, HA2.out, hcn] at hcnt
        have hA5 : nA ≤ 20480 := by have := ptsL_le HRA.out; have := HLA.out; omega
        have hB5 : nB ≤ 20480 := by have := ptsL_le HRB.out; have := HLB.out; omega
        rw [hcn] at HS
        have HCM := Lib.hid (fun w h => count_any a6 m c6 M HM.out.1 (by have := HM.out.2.1; have := HM.out.1; omega) w h (by rw [allL_right HM.out.2.2.2, hnM]; omega))
        have HCA := Lib.hid (fun w h => count_any a3 ma c3 la HLA.out.1 (by have := HLA.out; omega) w h (by rw [allL_right HRA.out, hnA]; omega))
        have HCB := Lib.hid (fun w h => count_any a4 mb c4 lb HLB.out.1 (by have := HLB.out; omega) w h (by rw [allL_right HRB.out, hnB]; omega))
        simp only [allL_right HM.out.2.2.2, hnM] at HCM
        simp only [allL_right HRA.out, hnA] at HCA
        simp only [allL_right HRB.out, hnB] at HCB
        have HHM := Lib.hid (fun w h => shHas_any a6 m c6 M HM.out.1 (by have := HM.out.2.1; have := HM.out.1; omega) ⟨px, py⟩ w h)
        have HHA := Lib.hid (fun w h => shHas_any a3 ma c3 la HLA.out.1 (by have := HLA.out; omega) ⟨px, py⟩ w h)
        have HHB := Lib.hid (fun w h => shHas_any a4 mb c4 lb HLB.out.1 (by have := HLB.out; omega) ⟨px, py⟩ w h)
        have hMp : hasB M ⟨px, py⟩ = (hasB la ⟨px, py⟩ || hasB lb ⟨px, py⟩) := by
          rw [Bool.eq_iff_iff, HM.out.2.2.1.has]
          simp [hasB_append]
        simp only [HM.out.2.2.2, Bool.true_and, hMp] at HHM
        simp only [HRA.out, Bool.true_and] at HHA
        simp only [HRB.out, Bool.true_and] at HHB
        have HW1 := Lib.hid (show wrap64 ((nA : Int) + (nB : Int)) = (nA : Int) + (nB : Int) by unfold wrap64; omega)
        have HW2 := Lib.hid (show wrap64 ((nA : Int) + (nB : Int) - (cn : Int)) = (nM : Int) by unfold wrap64; omega)
        have HDD := Lib.hid hD
        clear hI hK hcnt hA5 hB5 hMp hnM hnA hnB hcn hD hbs hnb
        cases ha : hasB la ⟨px, py⟩
        · rw [ha] at HHA
          simp only [ha, Bool.false_or] at HHM
          clear ha
          cases hb : hasB lb ⟨px, py⟩
          · rw [hb] at HHB
            simp only [hb] at HHM
            clear hb
            gi_wp2_with fail
            apply wp_region_vals 24 (Rl := [(eqv _), (eqv _), (eqv _), (eqv _), (eqv _), (eqv _), (eqv _), (eqv _), (eqv _), (eqv _), (eqv _), (eqv _), (eqv _), (eqv _), (eqv _), (eqv _), (eqv _), (eqv _), (eqv _), (eqv _), (eqv _), (eqv _), (eqv _), (eqv _)]) (C := (fun x y => Below x.heap.size x y))
            case hm => kernel_rfl
            case hk => rfl
            case hCr => exact (fun _ => Below.refl _ _)
            case hCt => intro _ _ _; exact (fun h k => grows_trans h k)
            case hst => exact ⟨fun _ _ _ _ h => h, fun _ _ _ _ h => h, fun _ _ _ _ h => h, fun _ _ _ _ h => h, fun _ _ _ _ h => h, fun _ _ _ _ h => h, fun _ _ _ _ h => h, fun _ _ _ _ h => h, fun _ _ _ _ h => h, fun _ _ _ _ h => h, fun _ _ _ _ h => h, fun _ _ _ _ h => h, fun _ _ _ _ h => h, fun _ _ _ _ h => h, fun _ _ _ _ h => h, fun _ _ _ _ h => h, fun _ _ _ _ h => h, fun _ _ _ _ h => h, fun _ _ _ _ h => h, fun _ _ _ _ h => h, fun _ _ _ _ h => h, fun _ _ _ _ h => h, fun _ _ _ _ h => h, fun _ _ _ _ h => h, trivial⟩
            case hfo => kernel_rfl
            case ht => kernel_rfl
            case hC0 => exact (grows_drew _)
            case hsteps =>
              refine ⟨?_, ?_, ?_, ?_, ?_, ?_, ?_, ?_, ?_, ?_, ?_, ?_, ?_, ?_, ?_, ?_, ?_, ?_, ?_, ?_, ?_, ?_, ?_, ?_, trivial⟩
              · -- 0
                intro a' w' hA hC hD
                have s9 : a'.tmps[9]? = some _ := (hA.at 9 (by kernel_rfl)).trans rfl
                have h1_ := (HS.out.below hC).blockAt 2 rfl; have c1_0 := cell_of_block (k := 0) h1_ rfl; clear h1_
                clear hA hD
                refine stepOk_plain rfl ?_
                intro K hK
                gi_wp2
                exact hK _ _ rfl ((fun _ => Below.refl _ _) _)
              · -- 1
                intro a' w' hA hC hD
                obtain ⟨u110, s110, r110⟩ := hD ⟨0, .data⟩ (by simp) rfl _ rfl
                replace r110 : u110 = _ := r110
                subst r110
                clear hA hD
                refine stepOk_plain rfl ?_
                intro K hK
                gi_wp2_with fail; refine (callsIn_wide.2 (HCM.out _ ((HS.out.elems 3 rfl).below hC))).mono ?_; rintro e w2 ⟨rfl, hb⟩
                exact hK _ _ rfl hb
              · -- 2
                intro a' w' hA hC hD
                have s7 : a'.tmps[7]? = some _ := (hA.at 7 (by kernel_rfl)).trans rfl
                clear hA hD
                refine stepOk_plain rfl ?_
                intro K hK
                gi_wp2
                exact hK _ _ rfl ((fun _ => Below.refl _ _) _)
              · -- 3
                intro a' w' hA hC hD
                obtain ⟨u112, s112, r112⟩ := hD ⟨2, .data⟩ (by simp) rfl _ rfl
                replace r112 : u112 = _ := r112
                subst r112
                clear hA hD
                refine stepOk_plain rfl ?_
                intro K hK
                gi_wp2_with fail; refine (callsIn_wide.2 (HCA.out _ ((HS.out.elems 6 rfl).below hC))).mono ?_; rintro e w2 ⟨rfl, hb⟩
                exact hK _ _ rfl hb
              · -- 4
                intro a' w' hA hC hD
                have s8 : a'.tmps[8]? = some _ := (hA.at 8 (by kernel_rfl)).trans rfl
                have h1_ := (HS.out.below hC).blockAt 4 rfl; have c1_0 := cell_of_block (k := 0) h1_ rfl; clear h1_
                clear hA hD
                refine stepOk_plain rfl ?_
                intro K hK
                gi_wp2
                exact hK _ _ rfl ((fun _ => Below.refl _ _) _)
              · -- 5
                intro a' w' hA hC hD
                obtain ⟨u114, s114, r114⟩ := hD ⟨4, .data⟩ (by simp) rfl _ rfl
                replace r114 : u114 = _ := r114
                subst r114
                clear hA hD
                refine stepOk_plain rfl ?_
                intro K hK
                gi_wp2_with fail; refine (callsIn_wide.2 (HCB.out _ ((HS.out.elems 5 rfl).below hC))).mono ?_; rintro e w2 ⟨rfl, hb⟩
                exact hK _ _ rfl hb
              · -- 6
                intro a' w' hA hC hD
                obtain ⟨u113, s113, r113⟩ := hD ⟨3, .data⟩ (by simp) rfl _ rfl
                replace r113 : u113 = _ := r113
                subst r113
                obtain ⟨u115, s115, r115⟩ := hD ⟨5, .data⟩ (by simp) rfl _ rfl
                replace r115 : u115 = _ := r115
                subst r115
                clear hA hD
                refine stepOk_plain rfl ?_
                intro K hK
                gi_wp2
                rw [HW1.out]
                exact hK _ _ rfl ((fun _ => Below.refl _ _) _)
              · -- 7
                intro a' w' hA hC hD
                have s17 : a'.tmps[17]? = some _ := (hA.at 17 (by kernel_rfl)).trans rfl
                have h1_ := (HS.out.below hC).blockAt 1 rfl; have c1_0 := cell_of_block (k := 0) h1_ rfl; clear h1_
                clear hA hD
                refine stepOk_plain rfl ?_
                intro K hK
                gi_wp2
                exact hK _ _ rfl ((fun _ => Below.refl _ _) _)
              · -- 8
                intro a' w' hA hC hD
                obtain ⟨u116, s116, r116⟩ := hD ⟨6, .data⟩ (by simp) rfl _ rfl
                replace r116 : u116 = _ := r116
                subst r116
                obtain ⟨u117, s117, r117⟩ := hD ⟨7, .data⟩ (by simp) rfl _ rfl
                replace r117 : u117 = _ := r117
                subst r117
                clear hA hD
                refine stepOk_plain rfl ?_
                intro K hK
                gi_wp2
                rw [HW2.out]
                exact hK _ _ rfl ((fun _ => Below.refl _ _) _)
              · -- 9
                intro a' w' hA hC hD
                obtain ⟨u111, s111, r111⟩ := hD ⟨1, .data⟩ (by simp) rfl _ rfl
                replace r111 : u111 = _ := r111
                subst r111
                obtain ⟨u118, s118, r118⟩ := hD ⟨8, .data⟩ (by simp) rfl _ rfl
                replace r118 : u118 = _ := r118
                subst r118
                clear hA hD
                refine stepOk_plain rfl ?_
                intro K hK
                gi_wp2
                exact hK _ _ rfl ((fun _ => Below.refl _ _) _)
              · -- 10
                intro a' w' hA hC hD
                obtain ⟨u119, s119, r119⟩ := hD ⟨9, .data⟩ (by simp) rfl _ rfl
                replace r119 : u119 = _ := r119
                subst r119
                clear hA hD
                refine stepOk_plain rfl ?_
                intro K hK
                gi_wp2
                exact hK _ _ rfl ((fun _ => Below.refl _ _) _)
              · -- 11
                intro a' w' hA hC hD
                have s9 : a'.tmps[9]? = some _ := (hA.at 9 (by kernel_rfl)).trans rfl
                obtain ⟨u120, s120, r120⟩ := hD ⟨10, .guard⟩ (by simp) rfl _ rfl
                replace r120 : u120 = _ := r120
                subst r120
                have h1_ := (HS.out.below hC).blockAt 2 rfl; have c1_0 := cell_of_block (k := 0) h1_ rfl; clear h1_
                clear hA hD
                refine stepOk_want rfl rfl s120 ?_
                intro K hK
                gi_wp2
                exact hK _ _ rfl ((fun _ => Below.refl _ _) _)
              · -- 12
                intro a' w' hA hC hD
                have s5 : a'.tmps[5]? = some _ := (hA.at 5 (by kernel_rfl)).trans rfl
                obtain ⟨u120, s120, r120⟩ := hD ⟨10, .guard⟩ (by simp) rfl _ rfl
                replace r120 : u120 = _ := r120
                subst r120
                have h1_ := (HS.out.below hC).blockAt 8 rfl; have c1_0 := cell_of_block (k := 0) h1_ rfl; have c1_1 := cell_of_block (k := 1) h1_ rfl; clear h1_
                clear hA hD
                refine stepOk_want rfl rfl s120 ?_
                intro K hK
                gi_wp2
                exact hK _ _ rfl ((fun _ => Below.refl _ _) _)
              · -- 13
                intro a' w' hA hC hD
                obtain ⟨u121, s121, r121⟩ := hD ⟨11, .data⟩ (by simp) rfl _ rfl
                replace r121 : u121 = _ := r121
                subst r121
                obtain ⟨u122, s122, r122⟩ := hD ⟨12, .data⟩ (by simp) rfl _ rfl
                replace r122 : u122 = _ := r122
                subst r122
                obtain ⟨u120, s120, r120⟩ := hD ⟨10, .chain⟩ (by simp) rfl _ rfl
                replace r120 : u120 = _ := r120
                subst r120
                clear hA hD
                refine stepOk_want rfl rfl s120 ?_
                intro K hK
                gi_wp2_with fail; refine (callsIn_wide.2 (HHM.out _ ((HS.out.elems 3 rfl).below hC))).mono ?_; rintro e w2 ⟨rfl, hb⟩
                exact hK _ _ rfl hb
              · -- 14
                intro a' w' hA hC hD
                have s7 : a'.tmps[7]? = some _ := (hA.at 7 (by kernel_rfl)).trans rfl
                obtain ⟨u120, s120, r120⟩ := hD ⟨10, .guard⟩ (by simp) rfl _ rfl
                replace r120 : u120 = _ := r120
                subst r120
                clear hA hD
                refine stepOk_want rfl rfl s120 ?_
                intro K hK
                gi_wp2
                exact hK _ _ rfl ((fun _ => Below.refl _ _) _)
              · -- 15
                intro a' w' hA hC hD
                have s5 : a'.tmps[5]? = some _ := (hA.at 5 (by kernel_rfl)).trans rfl
                obtain ⟨u120, s120, r120⟩ := hD ⟨10, .guard⟩ (by simp) rfl _ rfl
                replace r120 : u120 = _ := r120
                subst r120
                have h1_ := (HS.out.below hC).blockAt 8 rfl; have c1_0 := cell_of_block (k := 0) h1_ rfl; have c1_1 := cell_of_block (k := 1) h1_ rfl; clear h1_
                clear hA hD
                refine stepOk_want rfl rfl s120 ?_
                intro K hK
                gi_wp2
                exact hK _ _ rfl ((fun _ => Below.refl _ _) _)
              · -- 16
                intro a' w' hA hC hD
                obtain ⟨u124, s124, r124⟩ := hD ⟨14, .data⟩ (by simp) rfl _ rfl
                replace r124 : u124 = _ := r124
                subst r124
                obtain ⟨u125, s125, r125⟩ := hD ⟨15, .data⟩ (by simp) rfl _ rfl
                replace r125 : u125 = _ := r125
                subst r125
                obtain ⟨u120, s120, r120⟩ := hD ⟨10, .guard⟩ (by simp) rfl _ rfl
                replace r120 : u120 = _ := r120
                subst r120
                clear hA hD
                refine stepOk_want rfl rfl s120 ?_
                intro K hK
                gi_wp2_with fail; refine (callsIn_wide.2 (HHA.out _ ((HS.out.elems 6 rfl).below hC))).mono ?_; rintro e w2 ⟨rfl, hb⟩
                exact hK _ _ rfl hb
              · -- 17
                intro a' w' hA hC hD
                obtain ⟨u126, s126, r126⟩ := hD ⟨16, .data⟩ (by simp) rfl _ rfl
                replace r126 : u126 = _ := r126
                subst r126
                obtain ⟨u120, s120, r120⟩ := hD ⟨10, .guard⟩ (by simp) rfl _ rfl
                replace r120 : u120 = _ := r120
                subst r120
                clear hA hD
                refine stepOk_want rfl rfl s120 ?_
                intro K hK
                gi_wp2
                exact hK _ _ rfl ((fun _ => Below.refl _ _) _)
              · -- 18
                intro a' w' hA hC hD
                have s8 : a'.tmps[8]? = some _ := (hA.at 8 (by kernel_rfl)).trans rfl
                obtain ⟨u127, s127, r127⟩ := hD ⟨17, .guard⟩ (by simp) rfl _ rfl
                replace r127 : u127 = _ := r127
                subst r127
                have h1_ := (HS.out.below hC).blockAt 4 rfl; have c1_0 := cell_of_block (k := 0) h1_ rfl; clear h1_
                clear hA hD
                refine stepOk_want rfl rfl s127 ?_
                intro K hK
                gi_wp2
                exact hK _ _ rfl ((fun _ => Below.refl _ _) _)
              · -- 19
                intro a' w' hA hC hD
                have s5 : a'.tmps[5]? = some _ := (hA.at 5 (by kernel_rfl)).trans rfl
                obtain ⟨u127, s127, r127⟩ := hD ⟨17, .guard⟩ (by simp) rfl _ rfl
                replace r127 : u127 = _ := r127
                subst r127
                have h1_ := (HS.out.below hC).blockAt 8 rfl; have c1_0 := cell_of_block (k := 0) h1_ rfl; have c1_1 := cell_of_block (k := 1) h1_ rfl; clear h1_
                clear hA hD
                refine stepOk_want rfl rfl s127 ?_
                intro K hK
                gi_wp2
                exact hK _ _ rfl ((fun _ => Below.refl _ _) _)
              · -- 20
                intro a' w' hA hC hD
                obtain ⟨u128, s128, r128⟩ := hD ⟨18, .data⟩ (by simp) rfl _ rfl
                replace r128 : u128 = _ := r128
                subst r128
                obtain ⟨u129, s129, r129⟩ := hD ⟨19, .data⟩ (by simp) rfl _ rfl
                replace r129 : u129 = _ := r129
                subst r129
                obtain ⟨u127, s127, r127⟩ := hD ⟨17, .chain⟩ (by simp) rfl _ rfl
                replace r127 : u127 = _ := r127
                subst r127
                clear hA hD
                refine stepOk_want rfl rfl s127 ?_
                intro K hK
                gi_wp2_with fail; refine (callsIn_wide.2 (HHB.out _ ((HS.out.elems 5 rfl).below hC))).mono ?_; rintro e w2 ⟨rfl, hb⟩
                exact hK _ _ rfl hb
              · -- 21
                intro a' w' hA hC hD
                obtain ⟨u127, s127, r127⟩ := hD ⟨17, .data⟩ (by simp) rfl _ rfl
                replace r127 : u127 = _ := r127
                subst r127
                obtain ⟨u130, s130, r130⟩ := hD ⟨20, .data⟩ (by simp) rfl _ rfl
                replace r130 : u130 = _ := r130
                subst r130
                obtain ⟨u120, s120, r120⟩ := hD ⟨10, .guard⟩ (by simp) rfl _ rfl
                replace r120 : u120 = _ := r120
                subst r120
                clear hA hD
                refine stepOk_want rfl rfl s120 ?_
                intro K hK
                gi_wp2
                exact hK _ _ rfl ((fun _ => Below.refl _ _) _)
              · -- 22
                intro a' w' hA hC hD
                obtain ⟨u123, s123, r123⟩ := hD ⟨13, .data⟩ (by simp) rfl _ rfl
                replace r123 : u123 = _ := r123
                subst r123
                obtain ⟨u131, s131, r131⟩ := hD ⟨21, .data⟩ (by simp) rfl _ rfl
                replace r131 : u131 = _ := r131
                subst r131
                obtain ⟨u120, s120, r120⟩ := hD ⟨10, .guard⟩ (by simp) rfl _ rfl
                replace r120 : u120 = _ := r120
                subst r120
                clear hA hD
                refine stepOk_want rfl rfl s120 ?_
                intro K hK
                gi_wp2
                exact hK _ _ rfl ((fun _ => Below.refl _ _) _)
              · -- 23
                intro a' w' hA hC hD
                obtain ⟨u120, s120, r120⟩ := hD ⟨10, .data⟩ (by simp) rfl _ rfl
                replace r120 : u120 = _ := r120
                subst r120
                obtain ⟨u132, s132, r132⟩ := hD ⟨22, .data⟩ (by simp) rfl _ rfl
                replace r132 : u132 = _ := r132
                subst r132
                clear hA hD
                refine stepOk_plain rfl ?_
                intro K hK
                gi_wp2
                exact hK _ _ rfl ((fun _ => Below.refl _ _) _)
            case hend =>
              intro w30 hC
              simp only [EndFrom, eqv, forall_eq, Act.put, List.length_cons, List.length_nil, List.drop_succ_cons, List.drop_zero, Nat.reduceAdd, List.setIfInBounds_toArray, List.set_cons_succ, List.set_cons_zero]
              have HS2 := Lib.hid (HS.out.below hC)
              have HK2 := Lib.hid ((hC.block D (block_lt HK.out)).trans HK.out)
              clear hC
              have cF := cell_of_block (k := 0) (HS2.out.blockAt 7 rfl) rfl
              have fF := free_of_block (HS2.out.blockAt 7 rfl) 0
              gi_wp2
              have hne : D ≠ w.heap.size + 1 := by have := HDD.out; have := HZ.out; omega
              have hlow := HS2.out.low
              have hbF := heap_set_same (HS2.out.blockAt 7 rfl) (.bool true) (k := 0)
              have hkD := (Below.heap_setCell w30 ⟨w.heap.size + 1, 0, none⟩ (.bool true) D hne).trans HK2.out
              have hcF := cell_of_block (k := 0) (v := .bool true) (((grownBy_putObj' (w30.setCell ⟨w.heap.size + 1, 0, none⟩ (.bool true)) D (.deferred none)).block (w.heap.size + 1) (block_lt hbF) (fun e => hne (by cases e; rfl))).trans hbF) rfl
              refine ret_marked (v := .bool true) rfl hkD ?_ ⟨rfl, below_putObj (hlow.setCell (p := ⟨w.heap.size + 1, 0, none⟩) (by simp) _) hkD (by have := HDD.out; have := HZ.out; omega) _⟩
              simp [results, Try.results7, go_sem, hcF]
          · rw [hb] at HHB
            simp only [hb] at HHM
            clear hb
            gi_wp2_with fail
            apply wp_region_vals 24 (Rl := [(eqv _), (eqv _), (eqv _), (eqv _), (eqv _), (eqv _), (eqv _), (eqv _), (eqv _), (eqv _), (eqv _), (eqv _), (eqv _), (eqv _), (eqv _), (eqv _), (eqv _), (eqv _), (eqv _), (eqv _), (eqv _), (eqv _), (eqv _), (eqv _)]) (C := (fun x y => Below x.heap.size x y))
            case hm => kernel_rfl
            case hk => rfl
            case hCr => exact (fun _ => Below.refl _ _)
            case hCt => intro _ _ _; exact (fun h k => grows_trans h k)
            case hst => exact ⟨fun _ _ _ _ h => h, fun _ _ _ _ h => h, fun _ _ _ _ h => h, fun _ _ _ _ h => h, fun _ _ _ _ h => h, fun _ _ _ _ h => h, fun _ _ _ _ h => h, fun _ _ _ _ h => h, fun _ _ _ _ h => h, fun _ _ _ _ h => h, fun _ _ _ _ h => h, fun _ _ _ _ h => h, fun _ _ _ _ h => h, fun _ _ _ _ h => h, fun _ _ _ _ h => h, fun _ _ _ _ h => h, fun _ _ _ _ h => h, fun _ _ _ _ h => h, fun _ _ _ _ h => h, fun _ _ _ _ h => h, fun _ _ _ _ h => h, fun _ _ _ _ h => h, fun _ _ _ _ h => h, fun _ _ _ _ h => h, trivial⟩
            case hfo => kernel_rfl
            case ht => kernel_rfl
            case hC0 => exact (grows_drew _)
            case hsteps =>
              refine ⟨?_, ?_, ?_, ?_, ?_, ?_, ?_, ?_, ?_, ?_, ?_, ?_, ?_, ?_, ?_, ?_, ?_, ?_, ?_, ?_, ?_, ?_, ?_, ?_, trivial⟩
              · -- 0
                intro a' w' hA hC hD
                have s9 : a'.tmps[9]? = some _ := (hA.at 9 (by kernel_rfl)).trans rfl
                have h1_ := (HS.out.below hC).blockAt 2 rfl; have c1_0 := cell_of_block (k := 0) h1_ rfl; clear h1_
                clear hA hD
                refine stepOk_plain rfl ?_
                intro K hK
                gi_wp2
                exact hK _ _ rfl ((fun _ => Below.refl _ _) _)
              · -- 1
                intro a' w' hA hC hD
                obtain ⟨u110, s110, r110⟩ := hD ⟨0, .data⟩ (by simp) rfl _ rfl
                replace r110 : u110 = _ := r110
                subst r110
                clear hA hD
                refine stepOk_plain rfl ?_
                intro K hK
                gi_wp2_with fail; refine (callsIn_wide.2 (HCM.out _ ((HS.out.elems 3 rfl).below hC))).mono ?_; rintro e w2 ⟨rfl, hb⟩
                exact hK _ _ rfl hb
              · -- 2
                intro a' w' hA hC hD
                have s7 : a'.tmps[7]? = some _ := (hA.at 7 (by kernel_rfl)).trans rfl
                clear hA hD
                refine stepOk_plain rfl ?_
                intro K hK
                gi_wp2
                exact hK _ _ rfl ((fun _ => Below.refl _ _) _)
              · -- 3
                intro a' w' hA hC hD
                obtain ⟨u112, s112, r112⟩ := hD ⟨2, .data⟩ (by simp) rfl _ rfl
                replace r112 : u112 = _ := r112
                subst r112
                clear hA hD
                refine stepOk_plain rfl ?_
                intro K hK
                gi_wp2_with fail; refine (callsIn_wide.2 (HCA.out _ ((HS.out.elems 6 rfl).below hC))).mono ?_; rintro e w2 ⟨rfl, hb⟩
                exact hK _ _ rfl hb
              · -- 4
                intro a' w' hA hC hD
                have s8 : a'.tmps[8]? = some _ := (hA.at 8 (by kernel_rfl)).trans rfl
                have h1_ := (HS.out.below hC).blockAt 4 rfl; have c1_0 := cell_of_block (k := 0) h1_ rfl; clear h1_
                clear hA hD
                refine stepOk_plain rfl ?_
                intro K hK
                gi_wp2
                exact hK _ _ rfl ((fun _ => Below.refl _ _) _)
              · -- 5
                intro a' w' hA hC hD
                obtain ⟨u114, s114, r114⟩ := hD ⟨4, .data⟩ (by simp) rfl _ rfl
                replace r114 : u114 = _ := r114
                subst r114
                clear hA hD
                refine stepOk_plain rfl ?_
                intro K hK
                gi_wp2_with fail; refine (callsIn_wide.2 (HCB.out _ ((HS.out.elems 5 rfl).below hC))).mono ?_; rintro e w2 ⟨rfl, hb⟩
                exact hK _ _ rfl hb
              · -- 6
                intro a' w' hA hC hD
                obtain ⟨u113, s113, r113⟩ := hD ⟨3, .data⟩ (by simp) rfl _ rfl
                replace r113 : u113 = _ := r113
                subst r113
                obtain ⟨u115, s115, r115⟩ := hD ⟨5, .data⟩ (by simp) rfl _ rfl
                replace r115 : u115 = _ := r115
                subst r115
                clear hA hD
                refine stepOk_plain rfl ?_
                intro K hK
                gi_wp2
                rw [HW1.out]
                exact hK _ _ rfl ((fun _ => Below.refl _ _) _)
              · -- 7
                intro a' w' hA hC hD
                have s17 : a'.tmps[17]? = some _ := (hA.at 17 (by kernel_rfl)).trans rfl
                have h1_ := (HS.out.below hC).blockAt 1 rfl; have c1_0 := cell_of_block (k := 0) h1_ rfl; clear h1_
                clear hA hD
                refine stepOk_plain rfl ?_
                intro K hK
                gi_wp2
                exact hK _ _ rfl ((fun _ => Below.refl _ _) _)
              · -- 8
                intro a' w' hA hC hD
                obtain ⟨u116, s116, r116⟩ := hD ⟨6, .data⟩ (by simp) rfl _ rfl
                replace r116 : u116 = _ := r116
                subst r116
                obtain ⟨u117, s117, r117⟩ := hD ⟨7, .data⟩ (by simp) rfl _ rfl
                replace r117 : u117 = _ := r117
                subst r117
                clear hA hD
                refine stepOk_plain rfl ?_
                intro K hK
                gi_wp2
                rw [HW2.out]
                exact hK _ _ rfl ((fun _ => Below.refl _ _) _)
              · -- 9
                intro a' w' hA hC hD
                obtain ⟨u111, s111, r111⟩ := hD ⟨1, .data⟩ (by simp) rfl _ rfl
                replace r111 : u111 = _ := r111
                subst r111
                obtain ⟨u118, s118, r118⟩ := hD ⟨8, .data⟩ (by simp) rfl _ rfl
                replace r118 : u118 = _ := r118
                subst r118
                clear hA hD
                refine stepOk_plain rfl ?_
                intro K hK
                gi_wp2
                exact hK _ _ rfl ((fun _ => Below.refl _ _) _)
              · -- 10
                intro a' w' hA hC hD
                obtain ⟨u119, s119, r119⟩ := hD ⟨9, .data⟩ (by simp) rfl _ rfl
                replace r119 : u119 = _ := r119
                subst r119
                clear hA hD
                refine stepOk_plain rfl ?_
                intro K hK
                gi_wp2
                exact hK _ _ rfl ((fun _ => Below.refl _ _) _)
              · -- 11
                intro a' w' hA hC hD
                have s9 : a'.tmps[9]? = some _ := (hA.at 9 (by kernel_rfl)).trans rfl
                obtain ⟨u120, s120, r120⟩ := hD ⟨10, .guard⟩ (by simp) rfl _ rfl
                replace r120 : u120 = _ := r120
                subst r120
                have h1_ := (HS.out.below hC).blockAt 2 rfl; have c1_0 := cell_of_block (k := 0) h1_ rfl; clear h1_
                clear hA hD
                refine stepOk_want rfl rfl s120 ?_
                intro K hK
                gi_wp2
                exact hK _ _ rfl ((fun _ => Below.refl _ _) _)
              · -- 12
                intro a' w' hA hC hD
                have s5 : a'.tmps[5]? = some _ := (hA.at 5 (by kernel_rfl)).trans rfl
                obtain ⟨u120, s120, r120⟩ := hD ⟨10, .guard⟩ (by simp) rfl _ rfl
                replace r120 : u120 = _ := r120
                subst r120
                have h1_ := (HS.out.below hC).blockAt 8 rfl; have c1_0 := cell_of_block (k := 0) h1_ rfl; have c1_1 := cell_of_block (k := 1) h1_ rfl; clear h1_
                clear hA hD
                refine stepOk_want rfl rfl s120 ?_
                intro K hK
                gi_wp2
                exact hK _ _ rfl ((fun _ => Below.refl _ _) _)
              · -- 13
                intro a' w' hA hC hD
                obtain ⟨u121, s121, r121⟩ := hD ⟨11, .data⟩ (by simp) rfl _ rfl
                replace r121 : u121 = _ := r121
                subst r121
                obtain ⟨u122, s122, r122⟩ := hD ⟨12, .data⟩ (by simp) rfl _ rfl
                replace r122 : u122 = _ := r122
                subst r122
                obtain ⟨u120, s120, r120⟩ := hD ⟨10, .chain⟩ (by simp) rfl _ rfl
                replace r120 : u120 = _ := r120
                subst r120
                clear hA hD
                refine stepOk_want rfl rfl s120 ?_
                intro K hK
                gi_wp2_with fail; refine (callsIn_wide.2 (HHM.out _ ((HS.out.elems 3 rfl).below hC))).mono ?_; rintro e w2 ⟨rfl, hb⟩
                exact hK _ _ rfl hb
              · -- 14
                intro a' w' hA hC hD
                have s7 : a'.tmps[7]? = some _ := (hA.at 7 (by kernel_rfl)).trans rfl
                obtain ⟨u120, s120, r120⟩ := hD ⟨10, .guard⟩ (by simp) rfl _ rfl
                replace r120 : u120 = _ := r120
                subst r120
                clear hA hD
                refine stepOk_want rfl rfl s120 ?_
                intro K hK
                gi_wp2
                exact hK _ _ rfl ((fun _ => Below.refl _ _) _)
              · -- 15
                intro a' w' hA hC hD
                have s5 : a'.tmps[5]? = some _ := (hA.at 5 (by kernel_rfl)).trans rfl
                obtain ⟨u120, s120, r120⟩ := hD ⟨10, .guard⟩ (by simp) rfl _ rfl
                replace r120 : u120 = _ := r120
                subst r120
                have h1_ := (HS.out.below hC).blockAt 8 rfl; have c1_0 := cell_of_block (k := 0) h1_ rfl; have c1_1 := cell_of_block (k := 1) h1_ rfl; clear h1_
                clear hA hD
                refine stepOk_want rfl rfl s120 ?_
                intro K hK
                gi_wp2
                exact hK _ _ rfl ((fun _ => Below.refl _ _) _)
              · -- 16
                intro a' w' hA hC hD
                obtain ⟨u124, s124, r124⟩ := hD ⟨14, .data⟩ (by simp) rfl _ rfl
                replace r124 : u124 = _ := r124
                subst r124
                obtain ⟨u125, s125, r125⟩ := hD ⟨15, .data⟩ (by simp) rfl _ rfl
                replace r125 : u125 = _ := r125
                subst r125
                obtain ⟨u120, s120, r120⟩ := hD ⟨10, .guard⟩ (by simp) rfl _ rfl
                replace r120 : u120 = _ := r120
                subst r120
                clear hA hD
                refine stepOk_want rfl rfl s120 ?_
                intro K hK
                gi_wp2_with fail; refine (callsIn_wide.2 (HHA.out _ ((HS.out.elems 6 rfl).below hC))).mono ?_; rintro e w2 ⟨rfl, hb⟩
                exact hK _ _ rfl hb
              · -- 17
                intro a' w' hA hC hD
                obtain ⟨u126, s126, r126⟩ := hD ⟨16, .data⟩ (by simp) rfl _ rfl
                replace r126 : u126 = _ := r126
                subst r126
                obtain ⟨u120, s120, r120⟩ := hD ⟨10, .guard⟩ (by simp) rfl _ rfl
                replace r120 : u120 = _ := r120
                subst r120
                clear hA hD
                refine stepOk_want rfl rfl s120 ?_
                intro K hK
                gi_wp2
                exact hK _ _ rfl ((fun _ => Below.refl _ _) _)
              · -- 18
                intro a' w' hA hC hD
                have s8 : a'.tmps[8]? = some _ := (hA.at 8 (by kernel_rfl)).trans rfl
                obtain ⟨u127, s127, r127⟩ := hD ⟨17, .guard⟩ (by simp) rfl _ rfl
                replace r127 : u127 = _ := r127
                subst r127
                have h1_ := (HS.out.below hC).blockAt 4 rfl; have c1_0 := cell_of_block (k := 0) h1_ rfl; clear h1_
                clear hA hD
                refine stepOk_want rfl rfl s127 ?_
                intro K hK
                gi_wp2
                exact hK _ _ rfl ((fun _ => Below.refl _ _) _)
              · -- 19
                intro a' w' hA hC hD
                have s5 : a'.tmps[5]? = some _ := (hA.at 5 (by kernel_rfl)).trans rfl
                obtain ⟨u127, s127, r127⟩ := hD ⟨17, .guard⟩ (by simp) rfl _ rfl
                replace r127 : u127 = _ := r127
                subst r127
                have h1_ := (HS.out.below hC).blockAt 8 rfl; have c1_0 := cell_of_block (k := 0) h1_ rfl; have c1_1 := cell_of_block (k := 1) h1_ rfl; clear h1_
                clear hA hD
                refine stepOk_want rfl rfl s127 ?_
                intro K hK
                gi_wp2
                exact hK _ _ rfl ((fun _ => Below.refl _ _) _)
              · -- 20
                intro a' w' hA hC hD
                obtain ⟨u128, s128, r128⟩ := hD ⟨18, .data⟩ (by simp) rfl _ rfl
                replace r128 : u128 = _ := r128
                subst r128
                obtain ⟨u129, s129, r129⟩ := hD ⟨19, .data⟩ (by simp) rfl _ rfl
                replace r129 : u129 = _ := r129
                subst r129
                obtain ⟨u127, s127, r127⟩ := hD ⟨17, .chain⟩ (by simp) rfl _ rfl
                replace r127 : u127 = _ := r127
                subst r127
                clear hA hD
                refine stepOk_want rfl rfl s127 ?_
                intro K hK
                gi_wp2_with fail; refine (callsIn_wide.2 (HHB.out _ ((HS.out.elems 5 rfl).below hC))).mono ?_; rintro e w2 ⟨rfl, hb⟩
                exact hK _ _ rfl hb
              · -- 21
                intro a' w' hA hC hD
                obtain ⟨u127, s127, r127⟩ := hD ⟨17, .data⟩ (by simp) rfl _ rfl
                replace r127 : u127 = _ := r127
                subst r127
                obtain ⟨u130, s130, r130⟩ := hD ⟨20, .data⟩ (by simp) rfl _ rfl
                replace r130 : u130 = _ := r130
                subst r130
                obtain ⟨u120, s120, r120⟩ := hD ⟨10, .guard⟩ (by simp) rfl _ rfl
                replace r120 : u120 = _ := r120
                subst r120
                clear hA hD
                refine stepOk_want rfl rfl s120 ?_
                intro K hK
                gi_wp2
                exact hK _ _ rfl ((fun _ => Below.refl _ _) _)
              · -- 22
                intro a' w' hA hC hD
                obtain ⟨u123, s123, r123⟩ := hD ⟨13, .data⟩ (by simp) rfl _ rfl
                replace r123 : u123 = _ := r123
                subst r123
                obtain ⟨u131, s131, r131⟩ := hD ⟨21, .data⟩ (by simp) rfl _ rfl
                replace r131 : u131 = _ := r131
                subst r131
                obtain ⟨u120, s120, r120⟩ := hD ⟨10, .guard⟩ (by simp) rfl _ rfl
                replace r120 : u120 = _ := r120
                subst r120
                clear hA hD
                refine stepOk_want rfl rfl s120 ?_
                intro K hK
                gi_wp2
                exact hK _ _ rfl ((fun _ => Below.refl _ _) _)
              · -- 23
                intro a' w' hA hC hD
                obtain ⟨u120, s120, r120⟩ := hD ⟨10, .data⟩ (by simp) rfl _ rfl
                replace r120 : u120 = _ := r120
                subst r120
                obtain ⟨u132, s132, r132⟩ := hD ⟨22, .data⟩ (by simp) rfl _ rfl
                replace r132 : u132 = _ := r132
                subst r132
                clear hA hD
                refine stepOk_plain rfl ?_
                intro K hK
                gi_wp2
                exact hK _ _ rfl ((fun _ => Below.refl _ _) _)
            case hend =>
              intro w30 hC
              simp only [EndFrom, eqv, forall_eq, Act.put, List.length_cons, List.length_nil, List.drop_succ_cons, List.drop_zero, Nat.reduceAdd, List.setIfInBounds_toArray, List.set_cons_succ, List.set_cons_zero]
              have HS2 := Lib.hid (HS.out.below hC)
              have HK2 := Lib.hid ((hC.block D (block_lt HK.out)).trans HK.out)
              clear hC
              have cF := cell_of_block (k := 0) (HS2.out.blockAt 7 rfl) rfl
              have fF := free_of_block (HS2.out.blockAt 7 rfl) 0
              gi_wp2
              have hne : D ≠ w.heap.size + 1 := by have := HDD.out; have := HZ.out; omega
              have hlow := HS2.out.low
              have hbF := heap_set_same (HS2.out.blockAt 7 rfl) (.bool true) (k := 0)
              have hkD := (Below.heap_setCell w30 ⟨w.heap.size + 1, 0, none⟩ (.bool true) D hne).trans HK2.out
              have hcF := cell_of_block (k := 0) (v := .bool true) (((grownBy_putObj' (w30.setCell ⟨w.heap.size + 1, 0, none⟩ (.bool true)) D (.deferred none)).block (w.heap.size + 1) (block_lt hbF) (fun e => hne (by cases e; rfl))).trans hbF) rfl
              refine ret_marked (v := .bool true) rfl hkD ?_ ⟨rfl, below_putObj (hlow.setCell (p := ⟨w.heap.size + 1, 0, none⟩) (by simp) _) hkD (by have := HDD.out; have := HZ.out; omega) _⟩
              simp [results, Try.results7, go_sem, hcF]
        · rw [ha] at HHA
          simp only [ha, Bool.true_or] at HHM
          clear ha
          gi_wp2_with fail
          apply wp_region_vals 24 (Rl := [(eqv _), (eqv _), (eqv _), (eqv _), (eqv _), (eqv _), (eqv _), (eqv _), (eqv _), (eqv _), (eqv _), (eqv _), (eqv _), (eqv _), (eqv _), (eqv _), (eqv _), (eqv _), (fun v_ _ => v_ = (undef : Value)), (fun v_ _ => v_ = (undef : Value)), (fun v_ _ => v_ = (undef : Value)), (eqv _), (eqv _), (eqv _)]) (C := (fun x y => Below x.heap.size x y))
          case hm => kernel_rfl
          case hk => rfl
          case hCr => exact (fun _ => Below.refl _ _)
          case hCt => intro _ _ _; exact (fun h k => grows_trans h k)
          case hst => exact ⟨fun _ _ _ _ h => h, fun _ _ _ _ h => h, fun _ _ _ _ h => h, fun _ _ _ _ h => h, fun _ _ _ _ h => h, fun _ _ _ _ h => h, fun _ _ _ _ h => h, fun _ _ _ _ h => h, fun _ _ _ _ h => h, fun _ _ _ _ h => h, fun _ _ _ _ h => h, fun _ _ _ _ h => h, fun _ _ _ _ h => h, fun _ _ _ _ h => h, fun _ _ _ _ h => h, fun _ _ _ _ h => h, fun _ _ _ _ h => h, fun _ _ _ _ h => h, fun _ _ _ _ h => h, fun _ _ _ _ h => h, fun _ _ _ _ h => h, fun _ _ _ _ h => h, fun _ _ _ _ h => h, fun _ _ _ _ h => h, trivial⟩
          case hfo => kernel_rfl
          case ht => kernel_rfl
          case hC0 => exact (grows_drew _)
          case hsteps =>
            refine ⟨?_, ?_, ?_, ?_, ?_, ?_, ?_, ?_, ?_, ?_, ?_, ?_, ?_, ?_, ?_, ?_, ?_, ?_, ?_, ?_, ?_, ?_, ?_, ?_, trivial⟩
            · -- 0
              intro a' w' hA hC hD
              have s9 : a'.tmps[9]? = some _ := (hA.at 9 (by kernel_rfl)).trans rfl
              have h1_ := (HS.out.below hC).blockAt 2 rfl; have c1_0 := cell_of_block (k := 0) h1_ rfl; clear h1_
              clear hA hD
              refine stepOk_plain rfl ?_
              intro K hK
              gi_wp2
              exact hK _ _ rfl ((fun _ => Below.refl _ _) _)
            · -- 1
              intro a' w' hA hC hD
              obtain ⟨u110, s110, r110⟩ := hD ⟨0, .data⟩ (by simp) rfl _ rfl
              replace r110 : u110 = _ := r110
              subst r110
              clear hA hD
              refine stepOk_plain rfl ?_
              intro K hK
              gi_wp2_with fail; refine (callsIn_wide.2 (HCM.out _ ((HS.out.elems 3 rfl).below hC))).mono ?_; rintro e w2 ⟨rfl, hb⟩
              exact hK _ _ rfl hb
            · -- 2
              intro a' w' hA hC hD
              have s7 : a'.tmps[7]? = some _ := (hA.at 7 (by kernel_rfl)).trans rfl
              clear hA hD
              refine stepOk_plain rfl ?_
              intro K hK
              gi_wp2
              exact hK _ _ rfl ((fun _ => Below.refl _ _) _)
            · -- 3
              intro a' w' hA hC hD
              obtain ⟨u112, s112, r112⟩ := hD ⟨2, .data⟩ (by simp) rfl _ rfl
              replace r112 : u112 = _ := r112
              subst r112
              clear hA hD
              refine stepOk_plain rfl ?_
              intro K hK
              gi_wp2_with fail; refine (callsIn_wide.2 (HCA.out _ ((HS.out.elems 6 rfl).below hC))).mono ?_; rintro e w2 ⟨rfl, hb⟩
              exact hK _ _ rfl hb
            · -- 4
              intro a' w' hA hC hD
              have s8 : a'.tmps[8]? = some _ := (hA.at 8 (by kernel_rfl)).trans rfl
              have h1_ := (HS.out.below hC).blockAt 4 rfl; have c1_0 := cell_of_block (k := 0) h1_ rfl; clear h1_
              clear hA hD
              refine stepOk_plain rfl ?_
              intro K hK
              gi_wp2
              exact hK _ _ rfl ((fun _ => Below.refl _ _) _)
            · -- 5
              intro a' w' hA hC hD
              obtain ⟨u114, s114, r114⟩ := hD ⟨4, .data⟩ (by simp) rfl _ rfl
              replace r114 : u114 = _ := r114
              subst r114
              clear hA hD
              refine stepOk_plain rfl ?_
              intro K hK
              gi_wp2_with fail; refine (callsIn_wide.2 (HCB.out _ ((HS.out.elems 5 rfl).below hC))).mono ?_; rintro e w2 ⟨rfl, hb⟩
              exact hK _ _ rfl hb
            · -- 6
              intro a' w' hA hC hD
              obtain ⟨u113, s113, r113⟩ := hD ⟨3, .data⟩ (by simp) rfl _ rfl
              replace r113 : u113 = _ := r113
              subst r113
              obtain ⟨u115, s115, r115⟩ := hD ⟨5, .data⟩ (by simp) rfl _ rfl
              replace r115 : u115 = _ := r115
              subst r115
              clear hA hD
              refine stepOk_plain rfl ?_
              intro K hK
              gi_wp2
              rw [HW1.out]
              exact hK _ _ rfl ((fun _ => Below.refl _ _) _)
            · -- 7
              intro a' w' hA hC hD
              have s17 : a'.tmps[17]? = some _ := (hA.at 17 (by kernel_rfl)).trans rfl
              have h1_ := (HS.out.below hC).blockAt 1 rfl; have c1_0 := cell_of_block (k := 0) h1_ rfl; clear h1_
              clear hA hD
              refine stepOk_plain rfl ?_
              intro K hK
              gi_wp2
              exact hK _ _ rfl ((fun _ => Below.refl _ _) _)
            · -- 8
              intro a' w' hA hC hD
              obtain ⟨u116, s116, r116⟩ := hD ⟨6, .data⟩ (by simp) rfl _ rfl
              replace r116 : u116 = _ := r116
              subst r116
              obtain ⟨u117, s117, r117⟩ := hD ⟨7, .data⟩ (by simp) rfl _ rfl
              replace r117 : u117 = _ := r117
              subst r117
              clear hA hD
              refine stepOk_plain rfl ?_
              intro K hK
              gi_wp2
              rw [HW2.out]
              exact hK _ _ rfl ((fun _ => Below.refl _ _) _)
            · -- 9
              intro a' w' hA hC hD
              obtain ⟨u111, s111, r111⟩ := hD ⟨1, .data⟩ (by simp) rfl _ rfl
              replace r111 : u111 = _ := r111
              subst r111
              obtain ⟨u118, s118, r118⟩ := hD ⟨8, .data⟩ (by simp) rfl _ rfl
              replace r118 : u118 = _ := r118
              subst r118
              clear hA hD
              refine stepOk_plain rfl ?_
              intro K hK
              gi_wp2
              exact hK _ _ rfl ((fun _ => Below.refl _ _) _)
            · -- 10
              intro a' w' hA hC hD
              obtain ⟨u119, s119, r119⟩ := hD ⟨9, .data⟩ (by simp) rfl _ rfl
              replace r119 : u119 = _ := r119
              subst r119
              clear hA hD
              refine stepOk_plain rfl ?_
              intro K hK
              gi_wp2
              exact hK _ _ rfl ((fun _ => Below.refl _ _) _)
            · -- 11
              intro a' w' hA hC hD
              have s9 : a'.tmps[9]? = some _ := (hA.at 9 (by kernel_rfl)).trans rfl
              obtain ⟨u120, s120, r120⟩ := hD ⟨10, .guard⟩ (by simp) rfl _ rfl
              replace r120 : u120 = _ := r120
              subst r120
              have h1_ := (HS.out.below hC).blockAt 2 rfl; have c1_0 := cell_of_block (k := 0) h1_ rfl; clear h1_
              clear hA hD
              refine stepOk_want rfl rfl s120 ?_
              intro K hK
              gi_wp2
              exact hK _ _ rfl ((fun _ => Below.refl _ _) _)
            · -- 12
              intro a' w' hA hC hD
              have s5 : a'.tmps[5]? = some _ := (hA.at 5 (by kernel_rfl)).trans rfl
              obtain ⟨u120, s120, r120⟩ := hD ⟨10, .guard⟩ (by simp) rfl _ rfl
              replace r120 : u120 = _ := r120
              subst r120
              have h1_ := (HS.out.below hC).blockAt 8 rfl; have c1_0 := cell_of_block (k := 0) h1_ rfl; have c1_1 := cell_of_block (k := 1) h1_ rfl; clear h1_
              clear hA hD
              refine stepOk_want rfl rfl s120 ?_
              intro K hK
              gi_wp2
              exact hK _ _ rfl ((fun _ => Below.refl _ _) _)
            · -- 13
              intro a' w' hA hC hD
              obtain ⟨u121, s121, r121⟩ := hD ⟨11, .data⟩ (by simp) rfl _ rfl
              replace r121 : u121 = _ := r121
              subst r121
              obtain ⟨u122, s122, r122⟩ := hD ⟨12, .data⟩ (by simp) rfl _ rfl
              replace r122 : u122 = _ := r122
              subst r122
              obtain ⟨u120, s120, r120⟩ := hD ⟨10, .chain⟩ (by simp) rfl _ rfl
              replace r120 : u120 = _ := r120
              subst r120
              clear hA hD
              refine stepOk_want rfl rfl s120 ?_
              intro K hK
              gi_wp2_with fail; refine (callsIn_wide.2 (HHM.out _ ((HS.out.elems 3 rfl).below hC))).mono ?_; rintro e w2 ⟨rfl, hb⟩
              exact hK _ _ rfl hb
            · -- 14
              intro a' w' hA hC hD
              have s7 : a'.tmps[7]? = some _ := (hA.at 7 (by kernel_rfl)).trans rfl
              obtain ⟨u120, s120, r120⟩ := hD ⟨10, .guard⟩ (by simp) rfl _ rfl
              replace r120 : u120 = _ := r120
              subst r120
              clear hA hD
              refine stepOk_want rfl rfl s120 ?_
              intro K hK
              gi_wp2
              exact hK _ _ rfl ((fun _ => Below.refl _ _) _)
            · -- 15
              intro a' w' hA hC hD
              have s5 : a'.tmps[5]? = some _ := (hA.at 5 (by kernel_rfl)).trans rfl
              obtain ⟨u120, s120, r120⟩ := hD ⟨10, .guard⟩ (by simp) rfl _ rfl
              replace r120 : u120 = _ := r120
              subst r120
              have h1_ := (HS.out.below hC).blockAt 8 rfl; have c1_0 := cell_of_block (k := 0) h1_ rfl; have c1_1 := cell_of_block (k := 1) h1_ rfl; clear h1_
              clear hA hD
              refine stepOk_want rfl rfl s120 ?_
              intro K hK
              gi_wp2
              exact hK _ _ rfl ((fun _ => Below.refl _ _) _)
            · -- 16
              intro a' w' hA hC hD
              obtain ⟨u124, s124, r124⟩ := hD ⟨14, .data⟩ (by simp) rfl _ rfl
              replace r124 : u124 = _ := r124
              subst r124
              obtain ⟨u125, s125, r125⟩ := hD ⟨15, .data⟩ (by simp) rfl _ rfl
              replace r125 : u125 = _ := r125
              subst r125
              obtain ⟨u120, s120, r120⟩ := hD ⟨10, .guard⟩ (by simp) rfl _ rfl
              replace r120 : u120 = _ := r120
              subst r120
              clear hA hD
              refine stepOk_want rfl rfl s120 ?_
              intro K hK
              gi_wp2_with fail; refine (callsIn_wide.2 (HHA.out _ ((HS.out.elems 6 rfl).below hC))).mono ?_; rintro e w2 ⟨rfl, hb⟩
              exact hK _ _ rfl hb
            · -- 17
              intro a' w' hA hC hD
              obtain ⟨u126, s126, r126⟩ := hD ⟨16, .data⟩ (by simp) rfl _ rfl
              replace r126 : u126 = _ := r126
              subst r126
              obtain ⟨u120, s120, r120⟩ := hD ⟨10, .guard⟩ (by simp) rfl _ rfl
              replace r120 : u120 = _ := r120
              subst r120
              clear hA hD
              refine stepOk_want rfl rfl s120 ?_
              intro K hK
              gi_wp2
              exact hK _ _ rfl ((fun _ => Below.refl _ _) _)
            · -- 18
              intro a' w' hA hC hD
              have s8 : a'.tmps[8]? = some _ := (hA.at 8 (by kernel_rfl)).trans rfl
              obtain ⟨u127, s127, r127⟩ := hD ⟨17, .guard⟩ (by simp) rfl _ rfl
              replace r127 : u127 = _ := r127
              subst r127
              clear hA hD
              exact stepOk_skip rfl rfl s127 rfl
            · -- 19
              intro a' w' hA hC hD
              have s5 : a'.tmps[5]? = some _ := (hA.at 5 (by kernel_rfl)).trans rfl
              obtain ⟨u127, s127, r127⟩ := hD ⟨17, .guard⟩ (by simp) rfl _ rfl
              replace r127 : u127 = _ := r127
              subst r127
              clear hA hD
              exact stepOk_skip rfl rfl s127 rfl
            · -- 20
              intro a' w' hA hC hD
              obtain ⟨u128, s128, r128⟩ := hD ⟨18, .data⟩ (by simp) rfl _ rfl
              replace r128 : u128 = undef := r128
              subst r128
              obtain ⟨u129, s129, r129⟩ := hD ⟨19, .data⟩ (by simp) rfl _ rfl
              replace r129 : u129 = undef := r129
              subst r129
              obtain ⟨u127, s127, r127⟩ := hD ⟨17, .chain⟩ (by simp) rfl _ rfl
              replace r127 : u127 = _ := r127
              subst r127
              clear hA hD
              exact stepOk_skip rfl rfl s127 rfl
            · -- 21
              intro a' w' hA hC hD
              obtain ⟨u127, s127, r127⟩ := hD ⟨17, .data⟩ (by simp) rfl _ rfl
              replace r127 : u127 = _ := r127
              subst r127
              obtain ⟨u130, s130, r130⟩ := hD ⟨20, .data⟩ (by simp) rfl _ rfl
              replace r130 : u130 = undef := r130
              subst r130
              obtain ⟨u120, s120, r120⟩ := hD ⟨10, .guard⟩ (by simp) rfl _ rfl
              replace r120 : u120 = _ := r120
              subst r120
              clear hA hD
              refine stepOk_want rfl rfl s120 ?_
              intro K hK
              gi_wp2
              exact hK _ _ rfl ((fun _ => Below.refl _ _) _)
            · -- 22
              intro a' w' hA hC hD
              obtain ⟨u123, s123, r123⟩ := hD ⟨13, .data⟩ (by simp) rfl _ rfl
              replace r123 : u123 = _ := r123
              subst r123
              obtain ⟨u131, s131, r131⟩ := hD ⟨21, .data⟩ (by simp) rfl _ rfl
              replace r131 : u131 = _ := r131
              subst r131
              obtain ⟨u120, s120, r120⟩ := hD ⟨10, .guard⟩ (by simp) rfl _ rfl
              replace r120 : u120 = _ := r120
              subst r120
              clear hA hD
              refine stepOk_want rfl rfl s120 ?_
              intro K hK
              gi_wp2
              exact hK _ _ rfl ((fun _ => Below.refl _ _) _)
            · -- 23
              intro a' w' hA hC hD
              obtain ⟨u120, s120, r120⟩ := hD ⟨10, .data⟩ (by simp) rfl _ rfl
              replace r120 : u120 = _ := r120
              subst r120
              obtain ⟨u132, s132, r132⟩ := hD ⟨22, .data⟩ (by simp) rfl _ rfl
              replace r132 : u132 = _ := r132
              subst r132
              clear hA hD
              refine stepOk_plain rfl ?_
              intro K hK
              gi_wp2
              exact hK _ _ rfl ((fun _ => Below.refl _ _) _)
          case hend =>
            intro w30 hC
            simp only [EndFrom, eqv, forall_eq, Act.put, List.length_cons, List.length_nil, List.drop_succ_cons, List.drop_zero, Nat.reduceAdd, List.setIfInBounds_toArray, List.set_cons_succ, List.set_cons_zero]
            have HS2 := Lib.hid (HS.out.below hC)
            have HK2 := Lib.hid ((hC.block D (block_lt HK.out)).trans HK.out)
            clear hC
            have cF := cell_of_block (k := 0) (HS2.out.blockAt 7 rfl) rfl
            have fF := free_of_block (HS2.out.blockAt 7 rfl) 0
            gi_wp2
            have hne : D ≠ w.heap.size + 1 := by have := HDD.out; have := HZ.out; omega
            have hlow := HS2.out.low
            have hbF := heap_set_same (HS2.out.blockAt 7 rfl) (.bool true) (k := 0)
            have hkD := (Below.heap_setCell w30 ⟨w.heap.size + 1, 0, none⟩ (.bool true) D hne).trans HK2.out
            have hcF := cell_of_block (k := 0) (v := .bool true) (((grownBy_putObj' (w30.setCell ⟨w.heap.size + 1, 0, none⟩ (.bool true)) D (.deferred none)).block (w.heap.size + 1) (block_lt hbF) (fun e => hne (by cases e; rfl))).trans hbF) rfl
            refine ret_marked (v := .bool true) rfl hkD ?_ ⟨rfl, below_putObj (hlow.setCell (p := ⟨w.heap.size + 1, 0, none⟩) (by simp) _) hkD (by have := HDD.out; have := HZ.out; omega) _⟩
            simp [results, Try.results7, go_sem, hcF]
      case stop =>
        intro D c pre W _ _ h
        exact h.elim
end Go.Proofs.Ytflbcabjefpojaa
