/- gessolaw11.IdentTotal: ids stand in one order. -/
import Derived.Test.YtppaheekpmgifaaDoorIdWk
namespace Go.Proofs.YtppaheekpmgifaaDoor
set_option linter.unusedSimpArgs false
set_option linter.unusedVariables false
open Go.RowKit Go.Shelf

theorem sortIds_pairwise (l : List IdT) : (sortIds l).Pairwise fun x y => idLess y x = false := by
  have := List.pairwise_mergeSort (le := fun x y => !idLess y x) (fun a b c h1 h2 => ?_) (fun a b => ?_) l
  · exact this.imp fun h => by simpa using h
  · simp only [Bool.not_eq_true'] at h1 h2 ⊢
    have := swoId.ntrans c b a
    simp only [ltId] at this
    exact this h2 h1
  · cases h1 : idLess a b with
    | false => simp
    | true =>
      have h2 : idLess b a = false := by
        cases h2 : idLess b a with
        | false => rfl
        | true =>
          have := swoId.irrefl a
          rw [ltId] at this
          have t := swoId.trans a b a
          simp only [ltId] at t
          rw [t h1 h2] at this
          cases this
      simp [h2]
theorem idLess_irrefl (a : IdT) : idLess a a = false := by have := swoId.irrefl a; rwa [ltId] at this
theorem idLess_trans {a b c : IdT} (h1 : idLess a b = true) (h2 : idLess b c = true) : idLess a c = true := by
  have t := swoId.trans a b c
  simp only [ltId] at t
  exact t h1 h2
theorem rises3 (x y z : IdT) : risesB [x, y, z] = (idLess x y && idLess y z) := by
  show ((List.finRange 2).all fun k => idLess ([x, y, z][k.1]'(by have := k.2; simp; omega)) ([x, y, z][k.1 + 1]'(by have := k.2; simp; omega))) = _
  simp [List.finRange_succ]
/-- Three ids as they stand rise just where no two are one. -/
theorem rises_sorted (a b c x y z : IdT) (hs : sortIds [a, b, c] = [x, y, z]) : (idLess x y && idLess y z) = (!idEqB a b && (!idEqB b c && !idEqB a c)) := by
  have hp : [x, y, z].Perm [a, b, c] := by rw [← hs]; exact List.mergeSort_perm _ _
  have hw := sortIds_pairwise [a, b, c]
  rw [hs] at hw
  simp only [List.pairwise_cons, List.mem_cons, List.not_mem_nil, or_false, forall_eq_or_imp, forall_eq, false_implies, implies_true, List.Pairwise.nil, and_true] at hw
  obtain ⟨⟨w1, w2⟩, w3⟩ := hw
  have hn := hp.nodup_iff
  rw [Bool.eq_iff_iff]
  simp only [Bool.and_eq_true, Bool.not_eq_true', ← Bool.not_eq_true, idEqB_iff]
  simp only [List.nodup_cons, List.mem_cons, List.not_mem_nil, or_false, not_or, not_false_eq_true, and_true, List.nodup_nil] at hn
  constructor
  · rintro ⟨h1, h2⟩
    have h3 := idLess_trans h1 h2
    have ne : ∀ p q : IdT, idLess p q = true → p ≠ q := fun p q h e => by subst e; rw [idLess_irrefl] at h; cases h
    have := hn.1 ⟨⟨ne _ _ h1, ne _ _ h3⟩, ne _ _ h2⟩
    exact ⟨this.1.1, this.2, this.1.2⟩
  · rintro ⟨h1, h2, h3⟩
    have := hn.2 ⟨⟨h1, h3⟩, h2⟩
    constructor
    · cases h : idLess x y with
      | true => rfl
      | false => exact absurd (idLess_total x y h w1) this.1.1
    · cases h : idLess y z with
      | true => rfl
      | false => exact absurd (idLess_total y z h w3) this.2

theorem cmpId_val (a b : IdT) : cmpId a b = if idLess a b = true then -1 else if idLess b a = true then 1 else 0 := by
  by_cases h1 : idLess a b = true
  · rw [if_pos h1]
    have h2 := cmpId_lt a b
    rw [h1, decide_eq_true_iff] at h2
    revert h2
    unfold cmpId or3 Lib.compareInt
    repeat' split
    all_goals omega
  · rw [if_neg h1]
    have h2 := cmpId_lt a b
    rw [Bool.eq_false_iff.2 h1, decide_eq_false_iff_not] at h2
    by_cases h3 : idLess b a = true
    · rw [if_pos h3]
      have hne : a ≠ b := fun e => by subst e; exact h1 h3
      rw [idLess_iff] at h1 h3
      unfold cmpId or3 Lib.compareInt
      rw [if_neg hne]
      repeat' split
      all_goals first | rfl | omega
    · rw [if_neg h3]
      have := idLess_total a b (Bool.eq_false_iff.2 h1) (Bool.eq_false_iff.2 h3)
      subst this
      simp [cmpId]
theorem cmpId_anti (a b : IdT) : cmpId a b = - cmpId b a ∧ -1 ≤ cmpId a b ∧ cmpId a b ≤ 1 ∧ (cmpId a b == 0) = idEqB a b := by
  have ha : idLess a b = true → idLess b a = true → False := fun h1 h2 => by
    have := idLess_trans h1 h2
    rw [idLess_irrefl] at this
    cases this
  rw [cmpId_val a b, cmpId_val b a]
  cases h1 : idLess a b <;> cases h2 : idLess b a
  · have := idLess_total a b h1 h2
    subst this
    refine ⟨by simp, by simp, by simp, ?_⟩
    simp [(idEqB_iff a a).2 rfl]
  · refine ⟨by simp, by simp, by simp, ?_⟩
    have hne : idEqB a b = false := by
      cases h : idEqB a b with
      | false => rfl
      | true => rw [(idEqB_iff a b).1 h] at h2; rw [idLess_irrefl] at h2; cases h2
    simp [hne]
  · refine ⟨by simp, by simp, by simp, ?_⟩
    have hne : idEqB a b = false := by
      cases h : idEqB a b with
      | false => rfl
      | true => rw [(idEqB_iff a b).1 h] at h1; rw [idLess_irrefl] at h1; cases h1
    simp [hne]
  · exact (ha h1 h2).elim

/-- The cells of an element of a row of ids. -/
theorem rowCells {w : World} {b off cap n : Nat} {ids : List IdT} (h : Elems w (.slice (some ⟨b, off, none⟩) n cap) ids.length 3 (rowC encId ids)) (k : Nat) (x : IdT) (hx : ids[k]? = some x) :
    w.cell? ⟨b, off + k * 3, none⟩ = some (.int .u64 x.time) ∧ w.cell? ⟨b, off + k * 3 + 1, none⟩ = some (.int .i64 x.site) ∧ w.cell? ⟨b, off + k * 3 + 2, none⟩ = some (.int .u64 x.seq) := by
  rcases h with ⟨e, h0⟩ | ⟨b', off', cap', e, hlt, hc⟩
  · cases e
  · cases e
    have h := rowElem encId_len hc hx
    exact ⟨by simpa using h 0 _ rfl, h 1 _ rfl, h 2 _ rfl⟩

set_option maxRecDepth 100000 in
set_option maxHeartbeats 4000000 in
theorem identTotal_any (a b c : IdT) (w : World) (ht : Tab w) : Calls Tryd.prog 8 #[a.val, b.val, c.val] w (Gives (.bool true) w) := by
  obtain ⟨K1, hK1⟩ : ∃ K1, cmpId a b = K1 := ⟨_, rfl⟩
  obtain ⟨K2, hK2⟩ : ∃ K2, cmpId b a = K2 := ⟨_, rfl⟩
  obtain ⟨e1, he1⟩ : ∃ e1, idEqB a b = e1 := ⟨_, rfl⟩
  obtain ⟨e2, he2⟩ : ∃ e2, idEqB b c = e2 := ⟨_, rfl⟩
  obtain ⟨e3, he3⟩ : ∃ e3, idEqB a c = e3 := ⟨_, rfl⟩
  obtain ⟨l1, hl1⟩ : ∃ l1, idLess a b = l1 := ⟨_, rfl⟩
  obtain ⟨l2, hl2⟩ : ∃ l2, idLess b c = l2 := ⟨_, rfl⟩
  obtain ⟨l3, hl3⟩ : ∃ l3, idLess a c = l3 := ⟨_, rfl⟩
  have hlt : l1 = true → l2 = true → l3 = true := fun h1 h2 => by rw [← hl3]; exact idLess_trans (hl1.trans h1) (hl2.trans h2)
  obtain ⟨k1, k2, k3, k4⟩ := cmpId_anti a b
  rw [hK1] at k1 k2 k3 k4
  rw [hK2] at k1
  rw [he1] at k4
  have n16 : wrap64 (-K2) = K1 := by unfold wrap64; omega
  obtain ⟨x, y, z, hs⟩ : ∃ x y z, sortIds [a, b, c] = [x, y, z] := by
    have hl := sortIds_length [a, b, c]
    generalize sortIds [a, b, c] = S at hl ⊢
    rcases S with _ | ⟨x, _ | ⟨y, _ | ⟨z, _ | ⟨u, l⟩⟩⟩⟩ <;> simp at hl
    exact ⟨x, y, z, rfl⟩
  have hrb := rises_sorted a b c x y z hs
  rw [he1, he2, he3, ← rises3] at hrb
  have hw := sortIds_pairwise [a, b, c]
  rw [hs] at hw
  simp only [List.pairwise_cons, List.mem_cons, List.not_mem_nil, or_false, forall_eq_or_imp, forall_eq, false_implies, implies_true, List.Pairwise.nil, and_true] at hw
  have HL1 := Lib.hid (show decide (cmpId y x < 0) = false by rw [cmpId_lt]; exact hw.1.1)
  have HL2 := Lib.hid (show decide (cmpId z y < 0) = false by rw [cmpId_lt]; exact hw.2)
  have HRB := Lib.hid hrb
  have HSO := Lib.hid hs
  have HT := Lib.hid ht
  have HC1 := Lib.hid (fun w => (compare_any a b w)); rw [hK1] at HC1
  have HC2 := Lib.hid (fun w => (compare_any b a w)); rw [hK2] at HC2
  have H1 := Lib.hid (fun w => (identLess_any a b w)); simp only [cmpId_lt, hl1] at H1
  have H2 := Lib.hid (fun w => (identLess_any b c w)); simp only [cmpId_lt, hl2] at H2
  have H3 := Lib.hid (fun w => (identLess_any a c w)); simp only [cmpId_lt, hl3] at H3
  clear hrb hs ht hw k1 k2 k3 hK1 hK2 hl1 hl2 hl3
  obtain ⟨a1, a2, a3⟩ := a
  obtain ⟨b1, b2, b3⟩ := b
  obtain ⟨c1, c2, c3⟩ := c
  obtain ⟨x1, x2, x3⟩ := x
  obtain ⟨y1, y2, y3⟩ := y
  obtain ⟨z1, z2, z3⟩ := z
  have hq1 := fun w => run_eql_id w a1 a2 a3 b1 b2 b3
  have hq2 := fun w => run_neq_id w a1 a2 a3 b1 b2 b3
  have hq3 := fun w => run_neq_id w b1 b2 b3 c1 c2 c3
  have hq4 := fun w => run_neq_id w a1 a2 a3 c1 c2 c3
  simp only [he1] at hq1 hq2
  simp only [he2] at hq3
  simp only [he3] at hq4
  have HE1 := Lib.hid hq1
  have HN1 := Lib.hid hq2
  have HN2 := Lib.hid hq3
  have HN3 := Lib.hid hq4
  clear hq1 hq2 hq3 hq4 he1 he2 he3
  have HS := Lib.hid (St.start w)
  unfold IdT.val at *
  go_enter Tryd.func8, Tryd.ntmps8
  repeat ((fail_if_success (with_reducible refine stop_at (id := 1) ?_)); (first | go_values | go_skip | go_guarded | go_step | go_upon | go_back | (simp only [Int.not_lt, Int.not_le] at *; go_simp) | (go_values <;> (try go_simp)) | (go_ite <;> go_prune <;> (try go_simp)) | (split <;> (first | (rename_i hx; exact (hx _ rfl).elim) | go_prune))))
  have hs_ := (((HS.out.alloc (.cells #[.int .u64 a1, .int .i64 a2, .int .u64 a3] 27)).alloc (.cells #[.int .u64 b1, .int .i64 b2, .int .u64 b3] 27)).alloc (.cells #[.int .u64 c1, .int .i64 c2, .int .u64 c3] 27))
  obtain ⟨w1, hw_⟩ : ∃ w1 : World, (((w.alloc (.cells #[.int .u64 a1, .int .i64 a2, .int .u64 a3] 27)).alloc (.cells #[.int .u64 b1, .int .i64 b2, .int .u64 b3] 27)).alloc (.cells #[.int .u64 c1, .int .i64 c2, .int .u64 c3] 27)) = w1 := ⟨_, rfl⟩
  rw [hw_] at hs_
  try simp only [World.size_alloc] at hs_
  have HS := Lib.hid hs_
  rw [hw_]
  clear hw_ hs_
  go_wp2_with fail
  refine (wakes_any _ (HT.out.below HS.out.low)).mono ?_
  rintro e w2 ⟨rfl, hb_⟩
  have HS := Lib.hid (HS.out.below hb_)
  clear hb_
  go_wp2_with fail
  refine (wpIn_wide (n := 0)).1 ?_
  apply wp_region_vals 18 (Rl := [(eqv _), (eqv _), (eqv _), (eqv _), (eqv _), (eqv _), (eqv _), (eqv _), (eqv _), (eqv _), (eqv _), (eqv _), (eqv _), (eqv _), (eqv _), (eqv _), (eqv _), (eqv _)]) (C := (fun x y => Below x.heap.size x y))
  case hm => kernel_rfl
  case hk => rfl
  case hCr => exact (fun _ => Below.refl _ _)
  case hCt => intro _ _ _; exact (fun h k => grows_trans h k)
  case hst => exact ⟨fun _ _ _ _ h => h, fun _ _ _ _ h => h, fun _ _ _ _ h => h, fun _ _ _ _ h => h, fun _ _ _ _ h => h, fun _ _ _ _ h => h, fun _ _ _ _ h => h, fun _ _ _ _ h => h, fun _ _ _ _ h => h, fun _ _ _ _ h => h, fun _ _ _ _ h => h, fun _ _ _ _ h => h, fun _ _ _ _ h => h, fun _ _ _ _ h => h, fun _ _ _ _ h => h, fun _ _ _ _ h => h, fun _ _ _ _ h => h, fun _ _ _ _ h => h, trivial⟩
  case hfo => kernel_rfl
  case ht => kernel_rfl
  case hC0 => exact (grows_drew _)
  case hsteps =>
    refine ⟨?_, ?_, ?_, ?_, ?_, ?_, ?_, ?_, ?_, ?_, ?_, ?_, ?_, ?_, ?_, ?_, ?_, ?_, trivial⟩
    · -- 0
      intro a' w' hA hC hD
      have s3 : a'.tmps[3]? = some _ := (hA.at 3 (by kernel_rfl)).trans rfl
      have h1_ := (HS.out.below hC).blockAt 2 rfl; have c1_0 := cell_of_block (k := 0) h1_ rfl; have c1_1 := cell_of_block (k := 1) h1_ rfl; have c1_2 := cell_of_block (k := 2) h1_ rfl; clear h1_
      clear hA hD
      refine stepOk_plain rfl ?_
      intro K hK
      gi_wp2
      exact hK _ _ rfl ((fun _ => Below.refl _ _) _)
    · -- 1
      intro a' w' hA hC hD
      have s4 : a'.tmps[4]? = some _ := (hA.at 4 (by kernel_rfl)).trans rfl
      have h1_ := (HS.out.below hC).blockAt 1 rfl; have c1_0 := cell_of_block (k := 0) h1_ rfl; have c1_1 := cell_of_block (k := 1) h1_ rfl; have c1_2 := cell_of_block (k := 2) h1_ rfl; clear h1_
      clear hA hD
      refine stepOk_plain rfl ?_
      intro K hK
      gi_wp2
      exact hK _ _ rfl ((fun _ => Below.refl _ _) _)
    · -- 2
      intro a' w' hA hC hD
      obtain ⟨u10, s10, r10⟩ := hD ⟨0, .data⟩ (by simp) rfl _ rfl
      replace r10 : u10 = _ := r10
      subst r10
      obtain ⟨u11, s11, r11⟩ := hD ⟨1, .data⟩ (by simp) rfl _ rfl
      replace r11 : u11 = _ := r11
      subst r11
      clear hA hD
      refine stepOk_plain rfl ?_
      intro K hK
      gi_wp2_with fail; refine (callsIn_wide.2 (HC1.out _)).mono ?_; rintro e w2 hg; obtain ⟨rfl, hb⟩ := hg.gives; exact hK _ _ rfl hb
    · -- 3
      intro a' w' hA hC hD
      have s4 : a'.tmps[4]? = some _ := (hA.at 4 (by kernel_rfl)).trans rfl
      have h1_ := (HS.out.below hC).blockAt 1 rfl; have c1_0 := cell_of_block (k := 0) h1_ rfl; have c1_1 := cell_of_block (k := 1) h1_ rfl; have c1_2 := cell_of_block (k := 2) h1_ rfl; clear h1_
      clear hA hD
      refine stepOk_plain rfl ?_
      intro K hK
      gi_wp2
      exact hK _ _ rfl ((fun _ => Below.refl _ _) _)
    · -- 4
      intro a' w' hA hC hD
      have s3 : a'.tmps[3]? = some _ := (hA.at 3 (by kernel_rfl)).trans rfl
      have h1_ := (HS.out.below hC).blockAt 2 rfl; have c1_0 := cell_of_block (k := 0) h1_ rfl; have c1_1 := cell_of_block (k := 1) h1_ rfl; have c1_2 := cell_of_block (k := 2) h1_ rfl; clear h1_
      clear hA hD
      refine stepOk_plain rfl ?_
      intro K hK
      gi_wp2
      exact hK _ _ rfl ((fun _ => Below.refl _ _) _)
    · -- 5
      intro a' w' hA hC hD
      obtain ⟨u13, s13, r13⟩ := hD ⟨3, .data⟩ (by simp) rfl _ rfl
      replace r13 : u13 = _ := r13
      subst r13
      obtain ⟨u14, s14, r14⟩ := hD ⟨4, .data⟩ (by simp) rfl _ rfl
      replace r14 : u14 = _ := r14
      subst r14
      clear hA hD
      refine stepOk_plain rfl ?_
      intro K hK
      gi_wp2_with fail; refine (callsIn_wide.2 (HC2.out _)).mono ?_; rintro e w2 hg; obtain ⟨rfl, hb⟩ := hg.gives; exact hK _ _ rfl hb
    · -- 6
      intro a' w' hA hC hD
      obtain ⟨u15, s15, r15⟩ := hD ⟨5, .data⟩ (by simp) rfl _ rfl
      replace r15 : u15 = _ := r15
      subst r15
      clear hA hD
      refine stepOk_plain rfl ?_
      intro K hK
      gi_wp2
      exact hK _ _ rfl ((fun _ => Below.refl _ _) _)
    · -- 7
      intro a' w' hA hC hD
      obtain ⟨u12, s12, r12⟩ := hD ⟨2, .data⟩ (by simp) rfl _ rfl
      replace r12 : u12 = _ := r12
      subst r12
      obtain ⟨u16, s16, r16⟩ := hD ⟨6, .data⟩ (by simp) rfl _ rfl
      replace r16 : u16 = _ := r16
      subst r16
      clear hA hD
      refine stepOk_plain rfl ?_
      intro K hK
      gi_wp2
      exact hK _ _ rfl ((fun _ => Below.refl _ _) _)
    · -- 8
      intro a' w' hA hC hD
      obtain ⟨u17, s17, r17⟩ := hD ⟨7, .data⟩ (by simp) rfl _ rfl
      replace r17 : u17 = _ := r17
      subst r17
      clear hA hD
      refine stepOk_plain rfl ?_
      intro K hK
      gi_wp2
      exact hK _ _ rfl ((fun _ => Below.refl _ _) _)
    · -- 9
      intro a' w' hA hC hD
      have s3 : a'.tmps[3]? = some _ := (hA.at 3 (by kernel_rfl)).trans rfl
      obtain ⟨u18, s18, r18⟩ := hD ⟨8, .guard⟩ (by simp) rfl _ rfl
      replace r18 : u18 = _ := r18
      subst r18
      have h1_ := (HS.out.below hC).blockAt 2 rfl; have c1_0 := cell_of_block (k := 0) h1_ rfl; have c1_1 := cell_of_block (k := 1) h1_ rfl; have c1_2 := cell_of_block (k := 2) h1_ rfl; clear h1_
      clear hA hD
      refine stepOk_want rfl rfl s18 ?_
      intro K hK
      gi_wp2
      exact hK _ _ rfl ((fun _ => Below.refl _ _) _)
    · -- 10
      intro a' w' hA hC hD
      have s4 : a'.tmps[4]? = some _ := (hA.at 4 (by kernel_rfl)).trans rfl
      obtain ⟨u18, s18, r18⟩ := hD ⟨8, .guard⟩ (by simp) rfl _ rfl
      replace r18 : u18 = _ := r18
      subst r18
      have h1_ := (HS.out.below hC).blockAt 1 rfl; have c1_0 := cell_of_block (k := 0) h1_ rfl; have c1_1 := cell_of_block (k := 1) h1_ rfl; have c1_2 := cell_of_block (k := 2) h1_ rfl; clear h1_
      clear hA hD
      refine stepOk_want rfl rfl s18 ?_
      intro K hK
      gi_wp2
      exact hK _ _ rfl ((fun _ => Below.refl _ _) _)
    · -- 11
      intro a' w' hA hC hD
      obtain ⟨u19, s19, r19⟩ := hD ⟨9, .data⟩ (by simp) rfl _ rfl
      replace r19 : u19 = _ := r19
      subst r19
      obtain ⟨u20, s20, r20⟩ := hD ⟨10, .data⟩ (by simp) rfl _ rfl
      replace r20 : u20 = _ := r20
      subst r20
      obtain ⟨u18, s18, r18⟩ := hD ⟨8, .chain⟩ (by simp) rfl _ rfl
      replace r18 : u18 = _ := r18
      subst r18
      clear hA hD
      refine stepOk_want rfl rfl s18 ?_
      intro K hK
      gi_wp2_with fail; refine (callsIn_wide.2 (HC1.out _)).mono ?_; rintro e w2 hg; obtain ⟨rfl, hb⟩ := hg.gives; exact hK _ _ rfl hb
    · -- 12
      intro a' w' hA hC hD
      obtain ⟨u21, s21, r21⟩ := hD ⟨11, .data⟩ (by simp) rfl _ rfl
      replace r21 : u21 = _ := r21
      subst r21
      obtain ⟨u18, s18, r18⟩ := hD ⟨8, .guard⟩ (by simp) rfl _ rfl
      replace r18 : u18 = _ := r18
      subst r18
      clear hA hD
      refine stepOk_want rfl rfl s18 ?_
      intro K hK
      gi_wp2
      exact hK _ _ rfl ((fun _ => Below.refl _ _) _)
    · -- 13
      intro a' w' hA hC hD
      have s3 : a'.tmps[3]? = some _ := (hA.at 3 (by kernel_rfl)).trans rfl
      obtain ⟨u18, s18, r18⟩ := hD ⟨8, .guard⟩ (by simp) rfl _ rfl
      replace r18 : u18 = _ := r18
      subst r18
      have h1_ := (HS.out.below hC).blockAt 2 rfl; have c1_0 := cell_of_block (k := 0) h1_ rfl; have c1_1 := cell_of_block (k := 1) h1_ rfl; have c1_2 := cell_of_block (k := 2) h1_ rfl; clear h1_
      clear hA hD
      refine stepOk_want rfl rfl s18 ?_
      intro K hK
      gi_wp2
      exact hK _ _ rfl ((fun _ => Below.refl _ _) _)
    · -- 14
      intro a' w' hA hC hD
      have s4 : a'.tmps[4]? = some _ := (hA.at 4 (by kernel_rfl)).trans rfl
      obtain ⟨u18, s18, r18⟩ := hD ⟨8, .guard⟩ (by simp) rfl _ rfl
      replace r18 : u18 = _ := r18
      subst r18
      have h1_ := (HS.out.below hC).blockAt 1 rfl; have c1_0 := cell_of_block (k := 0) h1_ rfl; have c1_1 := cell_of_block (k := 1) h1_ rfl; have c1_2 := cell_of_block (k := 2) h1_ rfl; clear h1_
      clear hA hD
      refine stepOk_want rfl rfl s18 ?_
      intro K hK
      gi_wp2
      exact hK _ _ rfl ((fun _ => Below.refl _ _) _)
    · -- 15
      intro a' w' hA hC hD
      obtain ⟨u23, s23, r23⟩ := hD ⟨13, .data⟩ (by simp) rfl _ rfl
      replace r23 : u23 = _ := r23
      subst r23
      obtain ⟨u24, s24, r24⟩ := hD ⟨14, .data⟩ (by simp) rfl _ rfl
      replace r24 : u24 = _ := r24
      subst r24
      obtain ⟨u18, s18, r18⟩ := hD ⟨8, .guard⟩ (by simp) rfl _ rfl
      replace r18 : u18 = _ := r18
      subst r18
      have hr := HE1.out
      clear hA hD
      refine stepOk_want rfl rfl s18 ?_
      intro K hK
      gi_wp2
      exact hK _ _ rfl ((fun _ => Below.refl _ _) _)
    · -- 16
      intro a' w' hA hC hD
      obtain ⟨u22, s22, r22⟩ := hD ⟨12, .data⟩ (by simp) rfl _ rfl
      replace r22 : u22 = _ := r22
      subst r22
      obtain ⟨u25, s25, r25⟩ := hD ⟨15, .data⟩ (by simp) rfl _ rfl
      replace r25 : u25 = _ := r25
      subst r25
      obtain ⟨u18, s18, r18⟩ := hD ⟨8, .guard⟩ (by simp) rfl _ rfl
      replace r18 : u18 = _ := r18
      subst r18
      clear hA hD
      refine stepOk_want rfl rfl s18 ?_
      intro K hK
      gi_wp2
      exact hK _ _ rfl ((fun _ => Below.refl _ _) _)
    · -- 17
      intro a' w' hA hC hD
      obtain ⟨u18, s18, r18⟩ := hD ⟨8, .data⟩ (by simp) rfl _ rfl
      replace r18 : u18 = _ := r18
      subst r18
      obtain ⟨u26, s26, r26⟩ := hD ⟨16, .data⟩ (by simp) rfl _ rfl
      replace r26 : u26 = _ := r26
      subst r26
      clear hA hD
      refine stepOk_plain rfl ?_
      intro K hK
      gi_wp2
      exact hK _ _ rfl ((fun _ => Below.refl _ _) _)
  case hend =>
    intro w3 hC
    simp only [EndFrom, eqv, forall_eq, Act.put, List.length_cons, List.length_nil, List.drop_succ_cons, List.drop_zero, Nat.reduceAdd, List.setIfInBounds_toArray, List.set_cons_succ, List.set_cons_zero]
    have HS := Lib.hid (HS.out.below hC)
    clear hC
    cases l1
    case' false =>
      have p0 := cell_of_block (k := 0) (HS.out.blockAt 2 rfl) rfl
      have p1 := cell_of_block (k := 1) (HS.out.blockAt 2 rfl) rfl
      have p2 := cell_of_block (k := 2) (HS.out.blockAt 2 rfl) rfl
      have q0 := cell_of_block (k := 0) (HS.out.blockAt 1 rfl) rfl
      have q1 := cell_of_block (k := 1) (HS.out.blockAt 1 rfl) rfl
      have q2 := cell_of_block (k := 2) (HS.out.blockAt 1 rfl) rfl
      have r0 := cell_of_block (k := 0) (HS.out.blockAt 0 rfl) rfl
      have r1 := cell_of_block (k := 1) (HS.out.blockAt 0 rfl) rfl
      have r2 := cell_of_block (k := 2) (HS.out.blockAt 0 rfl) rfl
      gi_wp2
      go_wp2_with fail
      clear p0 p1 p2 q0 q1 q2 r0 r1 r2
      refine (H1.out _).mono ?_
      rintro e w4 ⟨rfl, hb_⟩
      have HS := Lib.hid (HS.out.below hb_)
      clear hb_
      repeat ((fail_if_success (with_reducible refine stop_at (id := 7) ?_)); (first | go_values | go_skip | go_guarded | go_step | go_upon | go_back | (simp only [Int.not_lt, Int.not_le] at *; go_simp) | (go_values <;> (try go_simp)) | (go_ite <;> go_prune <;> (try go_simp)) | (split <;> (first | (rename_i hx; exact (hx _ rfl).elim) | go_prune))))
    case' true =>
      have p0 := cell_of_block (k := 0) (HS.out.blockAt 2 rfl) rfl
      have p1 := cell_of_block (k := 1) (HS.out.blockAt 2 rfl) rfl
      have p2 := cell_of_block (k := 2) (HS.out.blockAt 2 rfl) rfl
      have q0 := cell_of_block (k := 0) (HS.out.blockAt 1 rfl) rfl
      have q1 := cell_of_block (k := 1) (HS.out.blockAt 1 rfl) rfl
      have q2 := cell_of_block (k := 2) (HS.out.blockAt 1 rfl) rfl
      have r0 := cell_of_block (k := 0) (HS.out.blockAt 0 rfl) rfl
      have r1 := cell_of_block (k := 1) (HS.out.blockAt 0 rfl) rfl
      have r2 := cell_of_block (k := 2) (HS.out.blockAt 0 rfl) rfl
      gi_wp2
      go_wp2_with fail
      clear p0 p1 p2 q0 q1 q2 r0 r1 r2
      refine (H1.out _).mono ?_
      rintro e w4a ⟨rfl, hb_⟩
      have HS := Lib.hid (HS.out.below hb_)
      clear hb_
      cases l2
      case' false =>
        have p0 := cell_of_block (k := 0) (HS.out.blockAt 2 rfl) rfl
        have p1 := cell_of_block (k := 1) (HS.out.blockAt 2 rfl) rfl
        have p2 := cell_of_block (k := 2) (HS.out.blockAt 2 rfl) rfl
        have q0 := cell_of_block (k := 0) (HS.out.blockAt 1 rfl) rfl
        have q1 := cell_of_block (k := 1) (HS.out.blockAt 1 rfl) rfl
        have q2 := cell_of_block (k := 2) (HS.out.blockAt 1 rfl) rfl
        have r0 := cell_of_block (k := 0) (HS.out.blockAt 0 rfl) rfl
        have r1 := cell_of_block (k := 1) (HS.out.blockAt 0 rfl) rfl
        have r2 := cell_of_block (k := 2) (HS.out.blockAt 0 rfl) rfl
        go_wp2_with fail
        clear p0 p1 p2 q0 q1 q2 r0 r1 r2
        refine (H2.out _).mono ?_
        rintro e w4 ⟨rfl, hb_⟩
        have HS := Lib.hid (HS.out.below hb_)
        clear hb_
        repeat ((fail_if_success (with_reducible refine stop_at (id := 7) ?_)); (first | go_values | go_skip | go_guarded | go_step | go_upon | go_back | (simp only [Int.not_lt, Int.not_le] at *; go_simp) | (go_values <;> (try go_simp)) | (go_ite <;> go_prune <;> (try go_simp)) | (split <;> (first | (rename_i hx; exact (hx _ rfl).elim) | go_prune))))
      case' true =>
        obtain rfl : l3 = true := by simpa using hlt
        have p0 := cell_of_block (k := 0) (HS.out.blockAt 2 rfl) rfl
        have p1 := cell_of_block (k := 1) (HS.out.blockAt 2 rfl) rfl
        have p2 := cell_of_block (k := 2) (HS.out.blockAt 2 rfl) rfl
        have q0 := cell_of_block (k := 0) (HS.out.blockAt 1 rfl) rfl
        have q1 := cell_of_block (k := 1) (HS.out.blockAt 1 rfl) rfl
        have q2 := cell_of_block (k := 2) (HS.out.blockAt 1 rfl) rfl
        have r0 := cell_of_block (k := 0) (HS.out.blockAt 0 rfl) rfl
        have r1 := cell_of_block (k := 1) (HS.out.blockAt 0 rfl) rfl
        have r2 := cell_of_block (k := 2) (HS.out.blockAt 0 rfl) rfl
        go_wp2_with fail
        clear p0 p1 p2 q0 q1 q2 r0 r1 r2
        refine (H2.out _).mono ?_
        rintro e w4b ⟨rfl, hb_⟩
        have HS := Lib.hid (HS.out.below hb_)
        clear hb_
        have p0 := cell_of_block (k := 0) (HS.out.blockAt 2 rfl) rfl
        have p1 := cell_of_block (k := 1) (HS.out.blockAt 2 rfl) rfl
        have p2 := cell_of_block (k := 2) (HS.out.blockAt 2 rfl) rfl
        have q0 := cell_of_block (k := 0) (HS.out.blockAt 1 rfl) rfl
        have q1 := cell_of_block (k := 1) (HS.out.blockAt 1 rfl) rfl
        have q2 := cell_of_block (k := 2) (HS.out.blockAt 1 rfl) rfl
        have r0 := cell_of_block (k := 0) (HS.out.blockAt 0 rfl) rfl
        have r1 := cell_of_block (k := 1) (HS.out.blockAt 0 rfl) rfl
        have r2 := cell_of_block (k := 2) (HS.out.blockAt 0 rfl) rfl
        go_wp2_with fail
        clear p0 p1 p2 q0 q1 q2 r0 r1 r2
        refine (H3.out _).mono ?_
        rintro e w4 ⟨rfl, hb_⟩
        have HS := Lib.hid (HS.out.below hb_)
        clear hb_
        repeat ((fail_if_success (with_reducible refine stop_at (id := 7) ?_)); (first | go_values | go_skip | go_guarded | go_step | go_upon | go_back | (simp only [Int.not_lt, Int.not_le] at *; go_simp) | (go_values <;> (try go_simp)) | (go_ite <;> go_prune <;> (try go_simp)) | (split <;> (first | (rename_i hx; exact (hx _ rfl).elim) | go_prune))))
    all_goals
      have p0 := cell_of_block (k := 0) (HS.out.blockAt 2 rfl) rfl
      have p1 := cell_of_block (k := 1) (HS.out.blockAt 2 rfl) rfl
      have p2 := cell_of_block (k := 2) (HS.out.blockAt 2 rfl) rfl
      have q0 := cell_of_block (k := 0) (HS.out.blockAt 1 rfl) rfl
      have q1 := cell_of_block (k := 1) (HS.out.blockAt 1 rfl) rfl
      have q2 := cell_of_block (k := 2) (HS.out.blockAt 1 rfl) rfl
      have r0 := cell_of_block (k := 0) (HS.out.blockAt 0 rfl) rfl
      have r1 := cell_of_block (k := 1) (HS.out.blockAt 0 rfl) rfl
      have r2 := cell_of_block (k := 2) (HS.out.blockAt 0 rfl) rfl
      go_wp2_with fail
      clear p0 p1 p2 q0 q1 q2 r0 r1 r2
      have hs_ := (HS.out.alloc (.cells #[.int .u64 a1, .int .i64 a2, .int .u64 a3, .int .u64 b1, .int .i64 b2, .int .u64 b3, .int .u64 c1, .int .i64 c2, .int .u64 c3] 27))
      obtain ⟨w5, hw_⟩ : ∃ w5 : World, (w4.alloc (.cells #[.int .u64 a1, .int .i64 a2, .int .u64 a3, .int .u64 b1, .int .i64 b2, .int .u64 b3, .int .u64 c1, .int .i64 c2, .int .u64 c3] 27)) = w5 := ⟨_, rfl⟩
      rw [hw_] at hs_
      try simp only [World.size_alloc] at hs_
      have HS := Lib.hid hs_
      rw [hw_]
      clear hw_ hs_
      refine (sorted_any _ [⟨a1, a2, a3⟩, ⟨b1, b2, b3⟩, ⟨c1, c2, c3⟩] _ (ids3 (HS.out.blockAt 0 rfl)) (by simp)).mono ?_
      rintro e w6 ⟨sv, rfl, hrow, hb_⟩
      rw [HSO.out] at hrow
      have hel : Elems w6 sv 3 3 (rowC encId [⟨x1, x2, x3⟩, ⟨y1, y2, y3⟩, ⟨z1, z2, z3⟩]) := ownsRow_rows encId_len hrow
      have HS := Lib.hid (HS.out.below hb_)
      clear hb_ hrow
      obtain ⟨bb, off, cap, rfl⟩ : ∃ bb off cap, sv = .slice (some ⟨bb, off, none⟩) 3 cap := by
        rcases hel with ⟨_, h⟩ | ⟨bb, off, cap, e, _⟩
        · cases h
        · exact ⟨bb, off, cap, e⟩
      have HR := Lib.hid hel
      clear hel
      repeat ((fail_if_success (with_reducible refine stop_at (id := 8) ?_)); (first | go_values | go_skip | go_guarded | go_step | go_upon | go_back | (simp only [Int.not_lt, Int.not_le] at *; go_simp) | (go_values <;> (try go_simp)) | (go_ite <;> go_prune <;> (try go_simp)) | (split <;> (first | (rename_i hx; exact (hx _ rfl).elim) | go_prune))))
      cases e1
      · cases e2
        · refine (wpIn_wide (n := 0)).1 ?_
          apply wp_region_vals 42 (Rl := [(eqv _), (eqv _), (eqv _), (eqv _), (eqv _), (eqv _), (eqv _), (eqv _), (eqv _), (eqv _), (eqv _), (eqv _), (eqv _), (eqv _), (eqv _), (eqv _), (eqv _), (eqv _), (eqv _), (eqv _), (eqv _), (eqv _), (eqv _), (eqv _), (eqv _), (eqv _), (eqv _), (eqv _), (eqv _), (eqv _), (eqv _), (eqv _), (eqv _), (eqv _), (eqv _), (eqv _), (eqv _), (eqv _), (eqv _), (eqv _), (eqv _), (eqv _)]) (C := (fun x y => Below x.heap.size x y))
          case hm => kernel_rfl
          case hk => rfl
          case hCr => exact (fun _ => Below.refl _ _)
          case hCt => intro _ _ _; exact (fun h k => grows_trans h k)
          case hst => exact ⟨fun _ _ _ _ h => h, fun _ _ _ _ h => h, fun _ _ _ _ h => h, fun _ _ _ _ h => h, fun _ _ _ _ h => h, fun _ _ _ _ h => h, fun _ _ _ _ h => h, fun _ _ _ _ h => h, fun _ _ _ _ h => h, fun _ _ _ _ h => h, fun _ _ _ _ h => h, fun _ _ _ _ h => h, fun _ _ _ _ h => h, fun _ _ _ _ h => h, fun _ _ _ _ h => h, fun _ _ _ _ h => h, fun _ _ _ _ h => h, fun _ _ _ _ h => h, fun _ _ _ _ h => h, fun _ _ _ _ h => h, fun _ _ _ _ h => h, fun _ _ _ _ h => h, fun _ _ _ _ h => h, fun _ _ _ _ h => h, fun _ _ _ _ h => h, fun _ _ _ _ h => h, fun _ _ _ _ h => h, fun _ _ _ _ h => h, fun _ _ _ _ h => h, fun _ _ _ _ h => h, fun _ _ _ _ h => h, fun _ _ _ _ h => h, fun _ _ _ _ h => h, fun _ _ _ _ h => h, fun _ _ _ _ h => h, fun _ _ _ _ h => h, fun _ _ _ _ h => h, fun _ _ _ _ h => h, fun _ _ _ _ h => h, fun _ _ _ _ h => h, fun _ _ _ _ h => h, fun _ _ _ _ h => h, trivial⟩
          case hfo => kernel_rfl
          case ht => kernel_rfl
          case hC0 => exact (grows_drew _)
          case hsteps =>
            refine ⟨?_, ?_, ?_, ?_, ?_, ?_, ?_, ?_, ?_, ?_, ?_, ?_, ?_, ?_, ?_, ?_, ?_, ?_, ?_, ?_, ?_, ?_, ?_, ?_, ?_, ?_, ?_, ?_, ?_, ?_, ?_, ?_, ?_, ?_, ?_, ?_, ?_, ?_, ?_, ?_, ?_, ?_, trivial⟩
            · -- 0
              intro a' w' hA hC hD
              have s7 : a'.tmps[7]? = some _ := (hA.at 7 (by kernel_rfl)).trans rfl
              clear hA hD
              refine stepOk_plain rfl ?_
              intro K hK
              gi_wp2
              exact hK _ _ rfl ((fun _ => Below.refl _ _) _)
            · -- 1
              intro a' w' hA hC hD
              obtain ⟨u47, s47, r47⟩ := hD ⟨0, .data⟩ (by simp) rfl _ rfl
              replace r47 : u47 = _ := r47
              subst r47
              clear hA hD
              refine stepOk_plain rfl ?_
              intro K hK
              gi_wp2
              exact hK _ _ rfl ((fun _ => Below.refl _ _) _)
            · -- 2
              intro a' w' hA hC hD
              obtain ⟨u48, s48, r48⟩ := hD ⟨1, .data⟩ (by simp) rfl _ rfl
              replace r48 : u48 = _ := r48
              subst r48
              clear hA hD
              refine stepOk_plain rfl ?_
              intro K hK
              gi_wp2
              exact hK _ _ rfl ((fun _ => Below.refl _ _) _)
            · -- 3
              intro a' w' hA hC hD
              obtain ⟨u49, s49, r49⟩ := hD ⟨2, .data⟩ (by simp) rfl _ rfl
              replace r49 : u49 = _ := r49
              subst r49
              clear hA hD
              refine stepOk_plain rfl ?_
              intro K hK
              gi_wp2
              exact hK _ _ rfl ((fun _ => Below.refl _ _) _)
            · -- 4
              intro a' w' hA hC hD
              have s7 : a'.tmps[7]? = some _ := (hA.at 7 (by kernel_rfl)).trans rfl
              obtain ⟨u50, s50, r50⟩ := hD ⟨3, .guard⟩ (by simp) rfl _ rfl
              replace r50 : u50 = _ := r50
              subst r50
              clear hA hD
              refine stepOk_want rfl rfl s50 ?_
              intro K hK
              gi_wp2
              exact hK _ _ rfl ((fun _ => Below.refl _ _) _)
            · -- 5
              intro a' w' hA hC hD
              obtain ⟨u51, s51, r51⟩ := hD ⟨4, .data⟩ (by simp) rfl _ rfl
              replace r51 : u51 = _ := r51
              subst r51
              obtain ⟨u50, s50, r50⟩ := hD ⟨3, .guard⟩ (by simp) rfl _ rfl
              replace r50 : u50 = _ := r50
              subst r50
              clear hA hD
              refine stepOk_want rfl rfl s50 ?_
              intro K hK
              gi_wp2
              exact hK _ _ rfl ((fun _ => Below.refl _ _) _)
            · -- 6
              intro a' w' hA hC hD
              obtain ⟨u52, s52, r52⟩ := hD ⟨5, .data⟩ (by simp) rfl _ rfl
              replace r52 : u52 = _ := r52
              subst r52
              obtain ⟨u50, s50, r50⟩ := hD ⟨3, .guard⟩ (by simp) rfl _ rfl
              replace r50 : u50 = _ := r50
              subst r50
              obtain ⟨c0, c1, c2⟩ := rowCells (ids := [⟨x1, x2, x3⟩, ⟨y1, y2, y3⟩, ⟨z1, z2, z3⟩]) (HR.out.below hC) 1 _ rfl
              clear hA hD
              refine stepOk_want rfl rfl s50 ?_
              intro K hK
              gi_wp2
              exact hK _ _ rfl ((fun _ => Below.refl _ _) _)
            · -- 7
              intro a' w' hA hC hD
              have s7 : a'.tmps[7]? = some _ := (hA.at 7 (by kernel_rfl)).trans rfl
              obtain ⟨u50, s50, r50⟩ := hD ⟨3, .guard⟩ (by simp) rfl _ rfl
              replace r50 : u50 = _ := r50
              subst r50
              clear hA hD
              refine stepOk_want rfl rfl s50 ?_
              intro K hK
              gi_wp2
              exact hK _ _ rfl ((fun _ => Below.refl _ _) _)
            · -- 8
              intro a' w' hA hC hD
              obtain ⟨u54, s54, r54⟩ := hD ⟨7, .data⟩ (by simp) rfl _ rfl
              replace r54 : u54 = _ := r54
              subst r54
              obtain ⟨u50, s50, r50⟩ := hD ⟨3, .guard⟩ (by simp) rfl _ rfl
              replace r50 : u50 = _ := r50
              subst r50
              clear hA hD
              refine stepOk_want rfl rfl s50 ?_
              intro K hK
              gi_wp2
              exact hK _ _ rfl ((fun _ => Below.refl _ _) _)
            · -- 9
              intro a' w' hA hC hD
              obtain ⟨u55, s55, r55⟩ := hD ⟨8, .data⟩ (by simp) rfl _ rfl
              replace r55 : u55 = _ := r55
              subst r55
              obtain ⟨u50, s50, r50⟩ := hD ⟨3, .guard⟩ (by simp) rfl _ rfl
              replace r50 : u50 = _ := r50
              subst r50
              have h_ := rowCells (ids := [⟨x1, x2, x3⟩, ⟨y1, y2, y3⟩, ⟨z1, z2, z3⟩]) (HR.out.below hC) 0 _ rfl; simp only [Nat.zero_mul, Nat.add_zero] at h_; obtain ⟨c0, c1, c2⟩ := h_
              clear hA hD
              refine stepOk_want rfl rfl s50 ?_
              intro K hK
              gi_wp2
              exact hK _ _ rfl ((fun _ => Below.refl _ _) _)
            · -- 10
              intro a' w' hA hC hD
              obtain ⟨u53, s53, r53⟩ := hD ⟨6, .data⟩ (by simp) rfl _ rfl
              replace r53 : u53 = _ := r53
              subst r53
              obtain ⟨u56, s56, r56⟩ := hD ⟨9, .data⟩ (by simp) rfl _ rfl
              replace r56 : u56 = _ := r56
              subst r56
              obtain ⟨u50, s50, r50⟩ := hD ⟨3, .chain⟩ (by simp) rfl _ rfl
              replace r50 : u50 = _ := r50
              subst r50
              clear hA hD
              refine stepOk_want rfl rfl s50 ?_
              intro K hK
              gi_wp2_with fail; refine (callsIn_wide.2 (identLess_any ⟨y1, y2, y3⟩ ⟨x1, x2, x3⟩ _)).mono ?_; rintro e w2 ⟨rfl, hb⟩; rw [HL1.out]
              exact hK _ _ rfl hb
            · -- 11
              intro a' w' hA hC hD
              obtain ⟨u57, s57, r57⟩ := hD ⟨10, .data⟩ (by simp) rfl _ rfl
              replace r57 : u57 = _ := r57
              subst r57
              obtain ⟨u50, s50, r50⟩ := hD ⟨3, .guard⟩ (by simp) rfl _ rfl
              replace r50 : u50 = _ := r50
              subst r50
              clear hA hD
              refine stepOk_want rfl rfl s50 ?_
              intro K hK
              gi_wp2
              exact hK _ _ rfl ((fun _ => Below.refl _ _) _)
            · -- 12
              intro a' w' hA hC hD
              obtain ⟨u50, s50, r50⟩ := hD ⟨3, .data⟩ (by simp) rfl _ rfl
              replace r50 : u50 = _ := r50
              subst r50
              obtain ⟨u58, s58, r58⟩ := hD ⟨11, .data⟩ (by simp) rfl _ rfl
              replace r58 : u58 = _ := r58
              subst r58
              clear hA hD
              refine stepOk_plain rfl ?_
              intro K hK
              gi_wp2
              exact hK _ _ rfl ((fun _ => Below.refl _ _) _)
            · -- 13
              intro a' w' hA hC hD
              obtain ⟨u59, s59, r59⟩ := hD ⟨12, .data⟩ (by simp) rfl _ rfl
              replace r59 : u59 = _ := r59
              subst r59
              clear hA hD
              refine stepOk_plain rfl ?_
              intro K hK
              gi_wp2
              exact hK _ _ rfl ((fun _ => Below.refl _ _) _)
            · -- 14
              intro a' w' hA hC hD
              have s7 : a'.tmps[7]? = some _ := (hA.at 7 (by kernel_rfl)).trans rfl
              obtain ⟨u60, s60, r60⟩ := hD ⟨13, .guard⟩ (by simp) rfl _ rfl
              replace r60 : u60 = _ := r60
              subst r60
              clear hA hD
              refine stepOk_want rfl rfl s60 ?_
              intro K hK
              gi_wp2
              exact hK _ _ rfl ((fun _ => Below.refl _ _) _)
            · -- 15
              intro a' w' hA hC hD
              obtain ⟨u61, s61, r61⟩ := hD ⟨14, .data⟩ (by simp) rfl _ rfl
              replace r61 : u61 = _ := r61
              subst r61
              obtain ⟨u60, s60, r60⟩ := hD ⟨13, .guard⟩ (by simp) rfl _ rfl
              replace r60 : u60 = _ := r60
              subst r60
              clear hA hD
              refine stepOk_want rfl rfl s60 ?_
              intro K hK
              gi_wp2
              exact hK _ _ rfl ((fun _ => Below.refl _ _) _)
            · -- 16
              intro a' w' hA hC hD
              obtain ⟨u62, s62, r62⟩ := hD ⟨15, .data⟩ (by simp) rfl _ rfl
              replace r62 : u62 = _ := r62
              subst r62
              obtain ⟨u60, s60, r60⟩ := hD ⟨13, .guard⟩ (by simp) rfl _ rfl
              replace r60 : u60 = _ := r60
              subst r60
              obtain ⟨c0, c1, c2⟩ := rowCells (ids := [⟨x1, x2, x3⟩, ⟨y1, y2, y3⟩, ⟨z1, z2, z3⟩]) (HR.out.below hC) 2 _ rfl
              clear hA hD
              refine stepOk_want rfl rfl s60 ?_
              intro K hK
              gi_wp2
              exact hK _ _ rfl ((fun _ => Below.refl _ _) _)
            · -- 17
              intro a' w' hA hC hD
              have s7 : a'.tmps[7]? = some _ := (hA.at 7 (by kernel_rfl)).trans rfl
              obtain ⟨u60, s60, r60⟩ := hD ⟨13, .guard⟩ (by simp) rfl _ rfl
              replace r60 : u60 = _ := r60
              subst r60
              clear hA hD
              refine stepOk_want rfl rfl s60 ?_
              intro K hK
              gi_wp2
              exact hK _ _ rfl ((fun _ => Below.refl _ _) _)
            · -- 18
              intro a' w' hA hC hD
              obtain ⟨u64, s64, r64⟩ := hD ⟨17, .data⟩ (by simp) rfl _ rfl
              replace r64 : u64 = _ := r64
              subst r64
              obtain ⟨u60, s60, r60⟩ := hD ⟨13, .guard⟩ (by simp) rfl _ rfl
              replace r60 : u60 = _ := r60
              subst r60
              clear hA hD
              refine stepOk_want rfl rfl s60 ?_
              intro K hK
              gi_wp2
              exact hK _ _ rfl ((fun _ => Below.refl _ _) _)
            · -- 19
              intro a' w' hA hC hD
              obtain ⟨u65, s65, r65⟩ := hD ⟨18, .data⟩ (by simp) rfl _ rfl
              replace r65 : u65 = _ := r65
              subst r65
              obtain ⟨u60, s60, r60⟩ := hD ⟨13, .guard⟩ (by simp) rfl _ rfl
              replace r60 : u60 = _ := r60
              subst r60
              obtain ⟨c0, c1, c2⟩ := rowCells (ids := [⟨x1, x2, x3⟩, ⟨y1, y2, y3⟩, ⟨z1, z2, z3⟩]) (HR.out.below hC) 1 _ rfl
              clear hA hD
              refine stepOk_want rfl rfl s60 ?_
              intro K hK
              gi_wp2
              exact hK _ _ rfl ((fun _ => Below.refl _ _) _)
            · -- 20
              intro a' w' hA hC hD
              obtain ⟨u63, s63, r63⟩ := hD ⟨16, .data⟩ (by simp) rfl _ rfl
              replace r63 : u63 = _ := r63
              subst r63
              obtain ⟨u66, s66, r66⟩ := hD ⟨19, .data⟩ (by simp) rfl _ rfl
              replace r66 : u66 = _ := r66
              subst r66
              obtain ⟨u60, s60, r60⟩ := hD ⟨13, .chain⟩ (by simp) rfl _ rfl
              replace r60 : u60 = _ := r60
              subst r60
              clear hA hD
              refine stepOk_want rfl rfl s60 ?_
              intro K hK
              gi_wp2_with fail; refine (callsIn_wide.2 (identLess_any ⟨z1, z2, z3⟩ ⟨y1, y2, y3⟩ _)).mono ?_; rintro e w2 ⟨rfl, hb⟩; rw [HL2.out]
              exact hK _ _ rfl hb
            · -- 21
              intro a' w' hA hC hD
              obtain ⟨u67, s67, r67⟩ := hD ⟨20, .data⟩ (by simp) rfl _ rfl
              replace r67 : u67 = _ := r67
              subst r67
              obtain ⟨u60, s60, r60⟩ := hD ⟨13, .guard⟩ (by simp) rfl _ rfl
              replace r60 : u60 = _ := r60
              subst r60
              clear hA hD
              refine stepOk_want rfl rfl s60 ?_
              intro K hK
              gi_wp2
              exact hK _ _ rfl ((fun _ => Below.refl _ _) _)
            · -- 22
              intro a' w' hA hC hD
              obtain ⟨u60, s60, r60⟩ := hD ⟨13, .data⟩ (by simp) rfl _ rfl
              replace r60 : u60 = _ := r60
              subst r60
              obtain ⟨u68, s68, r68⟩ := hD ⟨21, .data⟩ (by simp) rfl _ rfl
              replace r68 : u68 = _ := r68
              subst r68
              clear hA hD
              refine stepOk_plain rfl ?_
              intro K hK
              gi_wp2
              exact hK _ _ rfl ((fun _ => Below.refl _ _) _)
            · -- 23
              intro a' w' hA hC hD
              obtain ⟨u69, s69, r69⟩ := hD ⟨22, .data⟩ (by simp) rfl _ rfl
              replace r69 : u69 = _ := r69
              subst r69
              clear hA hD
              refine stepOk_plain rfl ?_
              intro K hK
              gi_wp2
              exact hK _ _ rfl ((fun _ => Below.refl _ _) _)
            · -- 24
              intro a' w' hA hC hD
              have s7 : a'.tmps[7]? = some _ := (hA.at 7 (by kernel_rfl)).trans rfl
              obtain ⟨u70, s70, r70⟩ := hD ⟨23, .guard⟩ (by simp) rfl _ rfl
              replace r70 : u70 = _ := r70
              subst r70
              clear hA hD
              refine stepOk_want rfl rfl s70 ?_
              intro K hK
              gi_wp2
              exact hK _ _ rfl ((fun _ => Below.refl _ _) _)
            · -- 25
              intro a' w' hA hC hD
              obtain ⟨u71, s71, r71⟩ := hD ⟨24, .data⟩ (by simp) rfl _ rfl
              replace r71 : u71 = _ := r71
              subst r71
              obtain ⟨u70, s70, r70⟩ := hD ⟨23, .chain⟩ (by simp) rfl _ rfl
              replace r70 : u70 = _ := r70
              subst r70
              clear hA hD
              refine stepOk_want rfl rfl s70 ?_
              intro K hK
              gi_wp2_with fail; refine (callsIn_wide.2 (rising_any _ [⟨x1, x2, x3⟩, ⟨y1, y2, y3⟩, ⟨z1, z2, z3⟩] (by simp) _ (HR.out.below hC))).mono ?_; rintro e w2 ⟨rfl, hb⟩; rw [HRB.out]
              exact hK _ _ rfl hb
            · -- 26
              intro a' w' hA hC hD
              have s3 : a'.tmps[3]? = some _ := (hA.at 3 (by kernel_rfl)).trans rfl
              obtain ⟨u70, s70, r70⟩ := hD ⟨23, .guard⟩ (by simp) rfl _ rfl
              replace r70 : u70 = _ := r70
              subst r70
              have h1_ := (HS.out.below hC).blockAt 3 rfl; have c1_0 := cell_of_block (k := 0) h1_ rfl; have c1_1 := cell_of_block (k := 1) h1_ rfl; have c1_2 := cell_of_block (k := 2) h1_ rfl; clear h1_
              clear hA hD
              refine stepOk_want rfl rfl s70 ?_
              intro K hK
              gi_wp2
              exact hK _ _ rfl ((fun _ => Below.refl _ _) _)
            · -- 27
              intro a' w' hA hC hD
              have s4 : a'.tmps[4]? = some _ := (hA.at 4 (by kernel_rfl)).trans rfl
              obtain ⟨u70, s70, r70⟩ := hD ⟨23, .guard⟩ (by simp) rfl _ rfl
              replace r70 : u70 = _ := r70
              subst r70
              have h1_ := (HS.out.below hC).blockAt 2 rfl; have c1_0 := cell_of_block (k := 0) h1_ rfl; have c1_1 := cell_of_block (k := 1) h1_ rfl; have c1_2 := cell_of_block (k := 2) h1_ rfl; clear h1_
              clear hA hD
              refine stepOk_want rfl rfl s70 ?_
              intro K hK
              gi_wp2
              exact hK _ _ rfl ((fun _ => Below.refl _ _) _)
            · -- 28
              intro a' w' hA hC hD
              obtain ⟨u73, s73, r73⟩ := hD ⟨26, .data⟩ (by simp) rfl _ rfl
              replace r73 : u73 = _ := r73
              subst r73
              obtain ⟨u74, s74, r74⟩ := hD ⟨27, .data⟩ (by simp) rfl _ rfl
              replace r74 : u74 = _ := r74
              subst r74
              obtain ⟨u70, s70, r70⟩ := hD ⟨23, .guard⟩ (by simp) rfl _ rfl
              replace r70 : u70 = _ := r70
              subst r70
              have hr := HN1.out
              clear hA hD
              refine stepOk_want rfl rfl s70 ?_
              intro K hK
              gi_wp2
              exact hK _ _ rfl ((fun _ => Below.refl _ _) _)
            · -- 29
              intro a' w' hA hC hD
              obtain ⟨u75, s75, r75⟩ := hD ⟨28, .data⟩ (by simp) rfl _ rfl
              replace r75 : u75 = _ := r75
              subst r75
              obtain ⟨u70, s70, r70⟩ := hD ⟨23, .guard⟩ (by simp) rfl _ rfl
              replace r70 : u70 = _ := r70
              subst r70
              clear hA hD
              refine stepOk_want rfl rfl s70 ?_
              intro K hK
              gi_wp2
              exact hK _ _ rfl ((fun _ => Below.refl _ _) _)
            · -- 30
              intro a' w' hA hC hD
              have s4 : a'.tmps[4]? = some _ := (hA.at 4 (by kernel_rfl)).trans rfl
              obtain ⟨u76, s76, r76⟩ := hD ⟨29, .guard⟩ (by simp) rfl _ rfl
              replace r76 : u76 = _ := r76
              subst r76
              have h1_ := (HS.out.below hC).blockAt 2 rfl; have c1_0 := cell_of_block (k := 0) h1_ rfl; have c1_1 := cell_of_block (k := 1) h1_ rfl; have c1_2 := cell_of_block (k := 2) h1_ rfl; clear h1_
              clear hA hD
              refine stepOk_want rfl rfl s76 ?_
              intro K hK
              gi_wp2
              exact hK _ _ rfl ((fun _ => Below.refl _ _) _)
            · -- 31
              intro a' w' hA hC hD
              have s5 : a'.tmps[5]? = some _ := (hA.at 5 (by kernel_rfl)).trans rfl
              obtain ⟨u76, s76, r76⟩ := hD ⟨29, .guard⟩ (by simp) rfl _ rfl
              replace r76 : u76 = _ := r76
              subst r76
              have h1_ := (HS.out.below hC).blockAt 1 rfl; have c1_0 := cell_of_block (k := 0) h1_ rfl; have c1_1 := cell_of_block (k := 1) h1_ rfl; have c1_2 := cell_of_block (k := 2) h1_ rfl; clear h1_
              clear hA hD
              refine stepOk_want rfl rfl s76 ?_
              intro K hK
              gi_wp2
              exact hK _ _ rfl ((fun _ => Below.refl _ _) _)
            · -- 32
              intro a' w' hA hC hD
              obtain ⟨u77, s77, r77⟩ := hD ⟨30, .data⟩ (by simp) rfl _ rfl
              replace r77 : u77 = _ := r77
              subst r77
              obtain ⟨u78, s78, r78⟩ := hD ⟨31, .data⟩ (by simp) rfl _ rfl
              replace r78 : u78 = _ := r78
              subst r78
              obtain ⟨u76, s76, r76⟩ := hD ⟨29, .guard⟩ (by simp) rfl _ rfl
              replace r76 : u76 = _ := r76
              subst r76
              have hr := HN2.out
              clear hA hD
              refine stepOk_want rfl rfl s76 ?_
              intro K hK
              gi_wp2
              exact hK _ _ rfl ((fun _ => Below.refl _ _) _)
            · -- 33
              intro a' w' hA hC hD
              obtain ⟨u76, s76, r76⟩ := hD ⟨29, .data⟩ (by simp) rfl _ rfl
              replace r76 : u76 = _ := r76
              subst r76
              obtain ⟨u79, s79, r79⟩ := hD ⟨32, .data⟩ (by simp) rfl _ rfl
              replace r79 : u79 = _ := r79
              subst r79
              obtain ⟨u70, s70, r70⟩ := hD ⟨23, .guard⟩ (by simp) rfl _ rfl
              replace r70 : u70 = _ := r70
              subst r70
              clear hA hD
              refine stepOk_want rfl rfl s70 ?_
              intro K hK
              gi_wp2
              exact hK _ _ rfl ((fun _ => Below.refl _ _) _)
            · -- 34
              intro a' w' hA hC hD
              obtain ⟨u80, s80, r80⟩ := hD ⟨33, .data⟩ (by simp) rfl _ rfl
              replace r80 : u80 = _ := r80
              subst r80
              obtain ⟨u70, s70, r70⟩ := hD ⟨23, .guard⟩ (by simp) rfl _ rfl
              replace r70 : u70 = _ := r70
              subst r70
              clear hA hD
              refine stepOk_want rfl rfl s70 ?_
              intro K hK
              gi_wp2
              exact hK _ _ rfl ((fun _ => Below.refl _ _) _)
            · -- 35
              intro a' w' hA hC hD
              have s3 : a'.tmps[3]? = some _ := (hA.at 3 (by kernel_rfl)).trans rfl
              obtain ⟨u81, s81, r81⟩ := hD ⟨34, .guard⟩ (by simp) rfl _ rfl
              replace r81 : u81 = _ := r81
              subst r81
              have h1_ := (HS.out.below hC).blockAt 3 rfl; have c1_0 := cell_of_block (k := 0) h1_ rfl; have c1_1 := cell_of_block (k := 1) h1_ rfl; have c1_2 := cell_of_block (k := 2) h1_ rfl; clear h1_
              clear hA hD
              refine stepOk_want rfl rfl s81 ?_
              intro K hK
              gi_wp2
              exact hK _ _ rfl ((fun _ => Below.refl _ _) _)
            · -- 36
              intro a' w' hA hC hD
              have s5 : a'.tmps[5]? = some _ := (hA.at 5 (by kernel_rfl)).trans rfl
              obtain ⟨u81, s81, r81⟩ := hD ⟨34, .guard⟩ (by simp) rfl _ rfl
              replace r81 : u81 = _ := r81
              subst r81
              have h1_ := (HS.out.below hC).blockAt 1 rfl; have c1_0 := cell_of_block (k := 0) h1_ rfl; have c1_1 := cell_of_block (k := 1) h1_ rfl; have c1_2 := cell_of_block (k := 2) h1_ rfl; clear h1_
              clear hA hD
              refine stepOk_want rfl rfl s81 ?_
              intro K hK
              gi_wp2
              exact hK _ _ rfl ((fun _ => Below.refl _ _) _)
            · -- 37
              intro a' w' hA hC hD
              obtain ⟨u82, s82, r82⟩ := hD ⟨35, .data⟩ (by simp) rfl _ rfl
              replace r82 : u82 = _ := r82
              subst r82
              obtain ⟨u83, s83, r83⟩ := hD ⟨36, .data⟩ (by simp) rfl _ rfl
              replace r83 : u83 = _ := r83
              subst r83
              obtain ⟨u81, s81, r81⟩ := hD ⟨34, .guard⟩ (by simp) rfl _ rfl
              replace r81 : u81 = _ := r81
              subst r81
              have hr := HN3.out
              clear hA hD
              refine stepOk_want rfl rfl s81 ?_
              intro K hK
              gi_wp2
              exact hK _ _ rfl ((fun _ => Below.refl _ _) _)
            · -- 38
              intro a' w' hA hC hD
              obtain ⟨u81, s81, r81⟩ := hD ⟨34, .data⟩ (by simp) rfl _ rfl
              replace r81 : u81 = _ := r81
              subst r81
              obtain ⟨u84, s84, r84⟩ := hD ⟨37, .data⟩ (by simp) rfl _ rfl
              replace r84 : u84 = _ := r84
              subst r84
              obtain ⟨u70, s70, r70⟩ := hD ⟨23, .guard⟩ (by simp) rfl _ rfl
              replace r70 : u70 = _ := r70
              subst r70
              clear hA hD
              refine stepOk_want rfl rfl s70 ?_
              intro K hK
              gi_wp2
              exact hK _ _ rfl ((fun _ => Below.refl _ _) _)
            · -- 39
              intro a' w' hA hC hD
              obtain ⟨u72, s72, r72⟩ := hD ⟨25, .data⟩ (by simp) rfl _ rfl
              replace r72 : u72 = _ := r72
              subst r72
              obtain ⟨u85, s85, r85⟩ := hD ⟨38, .data⟩ (by simp) rfl _ rfl
              replace r85 : u85 = _ := r85
              subst r85
              obtain ⟨u70, s70, r70⟩ := hD ⟨23, .guard⟩ (by simp) rfl _ rfl
              replace r70 : u70 = _ := r70
              subst r70
              clear hA hD
              refine stepOk_want rfl rfl s70 ?_
              intro K hK
              gi_wp2
              exact hK _ _ rfl ((fun _ => Below.refl _ _) _)
            · -- 40
              intro a' w' hA hC hD
              obtain ⟨u70, s70, r70⟩ := hD ⟨23, .data⟩ (by simp) rfl _ rfl
              replace r70 : u70 = _ := r70
              subst r70
              obtain ⟨u86, s86, r86⟩ := hD ⟨39, .data⟩ (by simp) rfl _ rfl
              replace r86 : u86 = _ := r86
              subst r86
              clear hA hD
              refine stepOk_plain rfl ?_
              intro K hK
              gi_wp2
              exact hK _ _ rfl ((fun _ => Below.refl _ _) _)
            · -- 41
              intro a' w' hA hC hD
              obtain ⟨u87, s87, r87⟩ := hD ⟨40, .data⟩ (by simp) rfl _ rfl
              replace r87 : u87 = _ := r87
              subst r87
              clear hA hD
              refine stepOk_plain rfl ?_
              intro K hK
              gi_wp2
              exact hK _ _ rfl ((fun _ => Below.refl _ _) _)
          case hend =>
            intro w9 hC
            simp only [EndFrom, eqv, forall_eq, Act.put, List.length_cons, List.length_nil, List.drop_succ_cons, List.drop_zero, Nat.reduceAdd, List.setIfInBounds_toArray, List.set_cons_succ, List.set_cons_zero]
            have HC := Lib.hid (HS.out.low.trans (hC.mono HS.out.size))
            clear hC
            gi_wp2
            go_wp2_with fail
            go_ret
            exact ⟨rfl, HC.out⟩
        · refine (wpIn_wide (n := 0)).1 ?_
          apply wp_region_vals 42 (Rl := [(eqv _), (eqv _), (eqv _), (eqv _), (eqv _), (eqv _), (eqv _), (eqv _), (eqv _), (eqv _), (eqv _), (eqv _), (eqv _), (eqv _), (eqv _), (eqv _), (eqv _), (eqv _), (eqv _), (eqv _), (eqv _), (eqv _), (eqv _), (eqv _), (eqv _), (eqv _), (eqv _), (eqv _), (eqv _), (eqv _), (eqv _), (eqv _), (eqv _), (eqv _), (eqv _), (fun v_ _ => v_ = (undef : Value)), (fun v_ _ => v_ = (undef : Value)), (fun v_ _ => v_ = (undef : Value)), (eqv _), (eqv _), (eqv _), (eqv _)]) (C := (fun x y => Below x.heap.size x y))
          case hm => kernel_rfl
          case hk => rfl
          case hCr => exact (fun _ => Below.refl _ _)
          case hCt => intro _ _ _; exact (fun h k => grows_trans h k)
          case hst => exact ⟨fun _ _ _ _ h => h, fun _ _ _ _ h => h, fun _ _ _ _ h => h, fun _ _ _ _ h => h, fun _ _ _ _ h => h, fun _ _ _ _ h => h, fun _ _ _ _ h => h, fun _ _ _ _ h => h, fun _ _ _ _ h => h, fun _ _ _ _ h => h, fun _ _ _ _ h => h, fun _ _ _ _ h => h, fun _ _ _ _ h => h, fun _ _ _ _ h => h, fun _ _ _ _ h => h, fun _ _ _ _ h => h, fun _ _ _ _ h => h, fun _ _ _ _ h => h, fun _ _ _ _ h => h, fun _ _ _ _ h => h, fun _ _ _ _ h => h, fun _ _ _ _ h => h, fun _ _ _ _ h => h, fun _ _ _ _ h => h, fun _ _ _ _ h => h, fun _ _ _ _ h => h, fun _ _ _ _ h => h, fun _ _ _ _ h => h, fun _ _ _ _ h => h, fun _ _ _ _ h => h, fun _ _ _ _ h => h, fun _ _ _ _ h => h, fun _ _ _ _ h => h, fun _ _ _ _ h => h, fun _ _ _ _ h => h, fun _ _ _ _ h => h, fun _ _ _ _ h => h, fun _ _ _ _ h => h, fun _ _ _ _ h => h, fun _ _ _ _ h => h, fun _ _ _ _ h => h, fun _ _ _ _ h => h, trivial⟩
          case hfo => kernel_rfl
          case ht => kernel_rfl
          case hC0 => exact (grows_drew _)
          case hsteps =>
            refine ⟨?_, ?_, ?_, ?_, ?_, ?_, ?_, ?_, ?_, ?_, ?_, ?_, ?_, ?_, ?_, ?_, ?_, ?_, ?_, ?_, ?_, ?_, ?_, ?_, ?_, ?_, ?_, ?_, ?_, ?_, ?_, ?_, ?_, ?_, ?_, ?_, ?_, ?_, ?_, ?_, ?_, ?_, trivial⟩
            · -- 0
              intro a' w' hA hC hD
              have s7 : a'.tmps[7]? = some _ := (hA.at 7 (by kernel_rfl)).trans rfl
              clear hA hD
              refine stepOk_plain rfl ?_
              intro K hK
              gi_wp2
              exact hK _ _ rfl ((fun _ => Below.refl _ _) _)
            · -- 1
              intro a' w' hA hC hD
              obtain ⟨u47, s47, r47⟩ := hD ⟨0, .data⟩ (by simp) rfl _ rfl
              replace r47 : u47 = _ := r47
              subst r47
              clear hA hD
              refine stepOk_plain rfl ?_
              intro K hK
              gi_wp2
              exact hK _ _ rfl ((fun _ => Below.refl _ _) _)
            · -- 2
              intro a' w' hA hC hD
              obtain ⟨u48, s48, r48⟩ := hD ⟨1, .data⟩ (by simp) rfl _ rfl
              replace r48 : u48 = _ := r48
              subst r48
              clear hA hD
              refine stepOk_plain rfl ?_
              intro K hK
              gi_wp2
              exact hK _ _ rfl ((fun _ => Below.refl _ _) _)
            · -- 3
              intro a' w' hA hC hD
              obtain ⟨u49, s49, r49⟩ := hD ⟨2, .data⟩ (by simp) rfl _ rfl
              replace r49 : u49 = _ := r49
              subst r49
              clear hA hD
              refine stepOk_plain rfl ?_
              intro K hK
              gi_wp2
              exact hK _ _ rfl ((fun _ => Below.refl _ _) _)
            · -- 4
              intro a' w' hA hC hD
              have s7 : a'.tmps[7]? = some _ := (hA.at 7 (by kernel_rfl)).trans rfl
              obtain ⟨u50, s50, r50⟩ := hD ⟨3, .guard⟩ (by simp) rfl _ rfl
              replace r50 : u50 = _ := r50
              subst r50
              clear hA hD
              refine stepOk_want rfl rfl s50 ?_
              intro K hK
              gi_wp2
              exact hK _ _ rfl ((fun _ => Below.refl _ _) _)
            · -- 5
              intro a' w' hA hC hD
              obtain ⟨u51, s51, r51⟩ := hD ⟨4, .data⟩ (by simp) rfl _ rfl
              replace r51 : u51 = _ := r51
              subst r51
              obtain ⟨u50, s50, r50⟩ := hD ⟨3, .guard⟩ (by simp) rfl _ rfl
              replace r50 : u50 = _ := r50
              subst r50
              clear hA hD
              refine stepOk_want rfl rfl s50 ?_
              intro K hK
              gi_wp2
              exact hK _ _ rfl ((fun _ => Below.refl _ _) _)
            · -- 6
              intro a' w' hA hC hD
              obtain ⟨u52, s52, r52⟩ := hD ⟨5, .data⟩ (by simp) rfl _ rfl
              replace r52 : u52 = _ := r52
              subst r52
              obtain ⟨u50, s50, r50⟩ := hD ⟨3, .guard⟩ (by simp) rfl _ rfl
              replace r50 : u50 = _ := r50
              subst r50
              obtain ⟨c0, c1, c2⟩ := rowCells (ids := [⟨x1, x2, x3⟩, ⟨y1, y2, y3⟩, ⟨z1, z2, z3⟩]) (HR.out.below hC) 1 _ rfl
              clear hA hD
              refine stepOk_want rfl rfl s50 ?_
              intro K hK
              gi_wp2
              exact hK _ _ rfl ((fun _ => Below.refl _ _) _)
            · -- 7
              intro a' w' hA hC hD
              have s7 : a'.tmps[7]? = some _ := (hA.at 7 (by kernel_rfl)).trans rfl
              obtain ⟨u50, s50, r50⟩ := hD ⟨3, .guard⟩ (by simp) rfl _ rfl
              replace r50 : u50 = _ := r50
              subst r50
              clear hA hD
              refine stepOk_want rfl rfl s50 ?_
              intro K hK
              gi_wp2
              exact hK _ _ rfl ((fun _ => Below.refl _ _) _)
            · -- 8
              intro a' w' hA hC hD
              obtain ⟨u54, s54, r54⟩ := hD ⟨7, .data⟩ (by simp) rfl _ rfl
              replace r54 : u54 = _ := r54
              subst r54
              obtain ⟨u50, s50, r50⟩ := hD ⟨3, .guard⟩ (by simp) rfl _ rfl
              replace r50 : u50 = _ := r50
              subst r50
              clear hA hD
              refine stepOk_want rfl rfl s50 ?_
              intro K hK
              gi_wp2
              exact hK _ _ rfl ((fun _ => Below.refl _ _) _)
            · -- 9
              intro a' w' hA hC hD
              obtain ⟨u55, s55, r55⟩ := hD ⟨8, .data⟩ (by simp) rfl _ rfl
              replace r55 : u55 = _ := r55
              subst r55
              obtain ⟨u50, s50, r50⟩ := hD ⟨3, .guard⟩ (by simp) rfl _ rfl
              replace r50 : u50 = _ := r50
              subst r50
              have h_ := rowCells (ids := [⟨x1, x2, x3⟩, ⟨y1, y2, y3⟩, ⟨z1, z2, z3⟩]) (HR.out.below hC) 0 _ rfl; simp only [Nat.zero_mul, Nat.add_zero] at h_; obtain ⟨c0, c1, c2⟩ := h_
              clear hA hD
              refine stepOk_want rfl rfl s50 ?_
              intro K hK
              gi_wp2
              exact hK _ _ rfl ((fun _ => Below.refl _ _) _)
            · -- 10
              intro a' w' hA hC hD
              obtain ⟨u53, s53, r53⟩ := hD ⟨6, .data⟩ (by simp) rfl _ rfl
              replace r53 : u53 = _ := r53
              subst r53
              obtain ⟨u56, s56, r56⟩ := hD ⟨9, .data⟩ (by simp) rfl _ rfl
              replace r56 : u56 = _ := r56
              subst r56
              obtain ⟨u50, s50, r50⟩ := hD ⟨3, .chain⟩ (by simp) rfl _ rfl
              replace r50 : u50 = _ := r50
              subst r50
              clear hA hD
              refine stepOk_want rfl rfl s50 ?_
              intro K hK
              gi_wp2_with fail; refine (callsIn_wide.2 (identLess_any ⟨y1, y2, y3⟩ ⟨x1, x2, x3⟩ _)).mono ?_; rintro e w2 ⟨rfl, hb⟩; rw [HL1.out]
              exact hK _ _ rfl hb
            · -- 11
              intro a' w' hA hC hD
              obtain ⟨u57, s57, r57⟩ := hD ⟨10, .data⟩ (by simp) rfl _ rfl
              replace r57 : u57 = _ := r57
              subst r57
              obtain ⟨u50, s50, r50⟩ := hD ⟨3, .guard⟩ (by simp) rfl _ rfl
              replace r50 : u50 = _ := r50
              subst r50
              clear hA hD
              refine stepOk_want rfl rfl s50 ?_
              intro K hK
              gi_wp2
              exact hK _ _ rfl ((fun _ => Below.refl _ _) _)
            · -- 12
              intro a' w' hA hC hD
              obtain ⟨u50, s50, r50⟩ := hD ⟨3, .data⟩ (by simp) rfl _ rfl
              replace r50 : u50 = _ := r50
              subst r50
              obtain ⟨u58, s58, r58⟩ := hD ⟨11, .data⟩ (by simp) rfl _ rfl
              replace r58 : u58 = _ := r58
              subst r58
              clear hA hD
              refine stepOk_plain rfl ?_
              intro K hK
              gi_wp2
              exact hK _ _ rfl ((fun _ => Below.refl _ _) _)
            · -- 13
              intro a' w' hA hC hD
              obtain ⟨u59, s59, r59⟩ := hD ⟨12, .data⟩ (by simp) rfl _ rfl
              replace r59 : u59 = _ := r59
              subst r59
              clear hA hD
              refine stepOk_plain rfl ?_
              intro K hK
              gi_wp2
              exact hK _ _ rfl ((fun _ => Below.refl _ _) _)
            · -- 14
              intro a' w' hA hC hD
              have s7 : a'.tmps[7]? = some _ := (hA.at 7 (by kernel_rfl)).trans rfl
              obtain ⟨u60, s60, r60⟩ := hD ⟨13, .guard⟩ (by simp) rfl _ rfl
              replace r60 : u60 = _ := r60
              subst r60
              clear hA hD
              refine stepOk_want rfl rfl s60 ?_
              intro K hK
              gi_wp2
              exact hK _ _ rfl ((fun _ => Below.refl _ _) _)
            · -- 15
              intro a' w' hA hC hD
              obtain ⟨u61, s61, r61⟩ := hD ⟨14, .data⟩ (by simp) rfl _ rfl
              replace r61 : u61 = _ := r61
              subst r61
              obtain ⟨u60, s60, r60⟩ := hD ⟨13, .guard⟩ (by simp) rfl _ rfl
              replace r60 : u60 = _ := r60
              subst r60
              clear hA hD
              refine stepOk_want rfl rfl s60 ?_
              intro K hK
              gi_wp2
              exact hK _ _ rfl ((fun _ => Below.refl _ _) _)
            · -- 16
              intro a' w' hA hC hD
              obtain ⟨u62, s62, r62⟩ := hD ⟨15, .data⟩ (by simp) rfl _ rfl
              replace r62 : u62 = _ := r62
              subst r62
              obtain ⟨u60, s60, r60⟩ := hD ⟨13, .guard⟩ (by simp) rfl _ rfl
              replace r60 : u60 = _ := r60
              subst r60
              obtain ⟨c0, c1, c2⟩ := rowCells (ids := [⟨x1, x2, x3⟩, ⟨y1, y2, y3⟩, ⟨z1, z2, z3⟩]) (HR.out.below hC) 2 _ rfl
              clear hA hD
              refine stepOk_want rfl rfl s60 ?_
              intro K hK
              gi_wp2
              exact hK _ _ rfl ((fun _ => Below.refl _ _) _)
            · -- 17
              intro a' w' hA hC hD
              have s7 : a'.tmps[7]? = some _ := (hA.at 7 (by kernel_rfl)).trans rfl
              obtain ⟨u60, s60, r60⟩ := hD ⟨13, .guard⟩ (by simp) rfl _ rfl
              replace r60 : u60 = _ := r60
              subst r60
              clear hA hD
              refine stepOk_want rfl rfl s60 ?_
              intro K hK
              gi_wp2
              exact hK _ _ rfl ((fun _ => Below.refl _ _) _)
            · -- 18
              intro a' w' hA hC hD
              obtain ⟨u64, s64, r64⟩ := hD ⟨17, .data⟩ (by simp) rfl _ rfl
              replace r64 : u64 = _ := r64
              subst r64
              obtain ⟨u60, s60, r60⟩ := hD ⟨13, .guard⟩ (by simp) rfl _ rfl
              replace r60 : u60 = _ := r60
              subst r60
              clear hA hD
              refine stepOk_want rfl rfl s60 ?_
              intro K hK
              gi_wp2
              exact hK _ _ rfl ((fun _ => Below.refl _ _) _)
            · -- 19
              intro a' w' hA hC hD
              obtain ⟨u65, s65, r65⟩ := hD ⟨18, .data⟩ (by simp) rfl _ rfl
              replace r65 : u65 = _ := r65
              subst r65
              obtain ⟨u60, s60, r60⟩ := hD ⟨13, .guard⟩ (by simp) rfl _ rfl
              replace r60 : u60 = _ := r60
              subst r60
              obtain ⟨c0, c1, c2⟩ := rowCells (ids := [⟨x1, x2, x3⟩, ⟨y1, y2, y3⟩, ⟨z1, z2, z3⟩]) (HR.out.below hC) 1 _ rfl
              clear hA hD
              refine stepOk_want rfl rfl s60 ?_
              intro K hK
              gi_wp2
              exact hK _ _ rfl ((fun _ => Below.refl _ _) _)
            · -- 20
              intro a' w' hA hC hD
              obtain ⟨u63, s63, r63⟩ := hD ⟨16, .data⟩ (by simp) rfl _ rfl
              replace r63 : u63 = _ := r63
              subst r63
              obtain ⟨u66, s66, r66⟩ := hD ⟨19, .data⟩ (by simp) rfl _ rfl
              replace r66 : u66 = _ := r66
              subst r66
              obtain ⟨u60, s60, r60⟩ := hD ⟨13, .chain⟩ (by simp) rfl _ rfl
              replace r60 : u60 = _ := r60
              subst r60
              clear hA hD
              refine stepOk_want rfl rfl s60 ?_
              intro K hK
              gi_wp2_with fail; refine (callsIn_wide.2 (identLess_any ⟨z1, z2, z3⟩ ⟨y1, y2, y3⟩ _)).mono ?_; rintro e w2 ⟨rfl, hb⟩; rw [HL2.out]
              exact hK _ _ rfl hb
            · -- 21
              intro a' w' hA hC hD
              obtain ⟨u67, s67, r67⟩ := hD ⟨20, .data⟩ (by simp) rfl _ rfl
              replace r67 : u67 = _ := r67
              subst r67
              obtain ⟨u60, s60, r60⟩ := hD ⟨13, .guard⟩ (by simp) rfl _ rfl
              replace r60 : u60 = _ := r60
              subst r60
              clear hA hD
              refine stepOk_want rfl rfl s60 ?_
              intro K hK
              gi_wp2
              exact hK _ _ rfl ((fun _ => Below.refl _ _) _)
            · -- 22
              intro a' w' hA hC hD
              obtain ⟨u60, s60, r60⟩ := hD ⟨13, .data⟩ (by simp) rfl _ rfl
              replace r60 : u60 = _ := r60
              subst r60
              obtain ⟨u68, s68, r68⟩ := hD ⟨21, .data⟩ (by simp) rfl _ rfl
              replace r68 : u68 = _ := r68
              subst r68
              clear hA hD
              refine stepOk_plain rfl ?_
              intro K hK
              gi_wp2
              exact hK _ _ rfl ((fun _ => Below.refl _ _) _)
            · -- 23
              intro a' w' hA hC hD
              obtain ⟨u69, s69, r69⟩ := hD ⟨22, .data⟩ (by simp) rfl _ rfl
              replace r69 : u69 = _ := r69
              subst r69
              clear hA hD
              refine stepOk_plain rfl ?_
              intro K hK
              gi_wp2
              exact hK _ _ rfl ((fun _ => Below.refl _ _) _)
            · -- 24
              intro a' w' hA hC hD
              have s7 : a'.tmps[7]? = some _ := (hA.at 7 (by kernel_rfl)).trans rfl
              obtain ⟨u70, s70, r70⟩ := hD ⟨23, .guard⟩ (by simp) rfl _ rfl
              replace r70 : u70 = _ := r70
              subst r70
              clear hA hD
              refine stepOk_want rfl rfl s70 ?_
              intro K hK
              gi_wp2
              exact hK _ _ rfl ((fun _ => Below.refl _ _) _)
            · -- 25
              intro a' w' hA hC hD
              obtain ⟨u71, s71, r71⟩ := hD ⟨24, .data⟩ (by simp) rfl _ rfl
              replace r71 : u71 = _ := r71
              subst r71
              obtain ⟨u70, s70, r70⟩ := hD ⟨23, .chain⟩ (by simp) rfl _ rfl
              replace r70 : u70 = _ := r70
              subst r70
              clear hA hD
              refine stepOk_want rfl rfl s70 ?_
              intro K hK
              gi_wp2_with fail; refine (callsIn_wide.2 (rising_any _ [⟨x1, x2, x3⟩, ⟨y1, y2, y3⟩, ⟨z1, z2, z3⟩] (by simp) _ (HR.out.below hC))).mono ?_; rintro e w2 ⟨rfl, hb⟩; rw [HRB.out]
              exact hK _ _ rfl hb
            · -- 26
              intro a' w' hA hC hD
              have s3 : a'.tmps[3]? = some _ := (hA.at 3 (by kernel_rfl)).trans rfl
              obtain ⟨u70, s70, r70⟩ := hD ⟨23, .guard⟩ (by simp) rfl _ rfl
              replace r70 : u70 = _ := r70
              subst r70
              have h1_ := (HS.out.below hC).blockAt 3 rfl; have c1_0 := cell_of_block (k := 0) h1_ rfl; have c1_1 := cell_of_block (k := 1) h1_ rfl; have c1_2 := cell_of_block (k := 2) h1_ rfl; clear h1_
              clear hA hD
              refine stepOk_want rfl rfl s70 ?_
              intro K hK
              gi_wp2
              exact hK _ _ rfl ((fun _ => Below.refl _ _) _)
            · -- 27
              intro a' w' hA hC hD
              have s4 : a'.tmps[4]? = some _ := (hA.at 4 (by kernel_rfl)).trans rfl
              obtain ⟨u70, s70, r70⟩ := hD ⟨23, .guard⟩ (by simp) rfl _ rfl
              replace r70 : u70 = _ := r70
              subst r70
              have h1_ := (HS.out.below hC).blockAt 2 rfl; have c1_0 := cell_of_block (k := 0) h1_ rfl; have c1_1 := cell_of_block (k := 1) h1_ rfl; have c1_2 := cell_of_block (k := 2) h1_ rfl; clear h1_
              clear hA hD
              refine stepOk_want rfl rfl s70 ?_
              intro K hK
              gi_wp2
              exact hK _ _ rfl ((fun _ => Below.refl _ _) _)
            · -- 28
              intro a' w' hA hC hD
              obtain ⟨u73, s73, r73⟩ := hD ⟨26, .data⟩ (by simp) rfl _ rfl
              replace r73 : u73 = _ := r73
              subst r73
              obtain ⟨u74, s74, r74⟩ := hD ⟨27, .data⟩ (by simp) rfl _ rfl
              replace r74 : u74 = _ := r74
              subst r74
              obtain ⟨u70, s70, r70⟩ := hD ⟨23, .guard⟩ (by simp) rfl _ rfl
              replace r70 : u70 = _ := r70
              subst r70
              have hr := HN1.out
              clear hA hD
              refine stepOk_want rfl rfl s70 ?_
              intro K hK
              gi_wp2
              exact hK _ _ rfl ((fun _ => Below.refl _ _) _)
            · -- 29
              intro a' w' hA hC hD
              obtain ⟨u75, s75, r75⟩ := hD ⟨28, .data⟩ (by simp) rfl _ rfl
              replace r75 : u75 = _ := r75
              subst r75
              obtain ⟨u70, s70, r70⟩ := hD ⟨23, .guard⟩ (by simp) rfl _ rfl
              replace r70 : u70 = _ := r70
              subst r70
              clear hA hD
              refine stepOk_want rfl rfl s70 ?_
              intro K hK
              gi_wp2
              exact hK _ _ rfl ((fun _ => Below.refl _ _) _)
            · -- 30
              intro a' w' hA hC hD
              have s4 : a'.tmps[4]? = some _ := (hA.at 4 (by kernel_rfl)).trans rfl
              obtain ⟨u76, s76, r76⟩ := hD ⟨29, .guard⟩ (by simp) rfl _ rfl
              replace r76 : u76 = _ := r76
              subst r76
              have h1_ := (HS.out.below hC).blockAt 2 rfl; have c1_0 := cell_of_block (k := 0) h1_ rfl; have c1_1 := cell_of_block (k := 1) h1_ rfl; have c1_2 := cell_of_block (k := 2) h1_ rfl; clear h1_
              clear hA hD
              refine stepOk_want rfl rfl s76 ?_
              intro K hK
              gi_wp2
              exact hK _ _ rfl ((fun _ => Below.refl _ _) _)
            · -- 31
              intro a' w' hA hC hD
              have s5 : a'.tmps[5]? = some _ := (hA.at 5 (by kernel_rfl)).trans rfl
              obtain ⟨u76, s76, r76⟩ := hD ⟨29, .guard⟩ (by simp) rfl _ rfl
              replace r76 : u76 = _ := r76
              subst r76
              have h1_ := (HS.out.below hC).blockAt 1 rfl; have c1_0 := cell_of_block (k := 0) h1_ rfl; have c1_1 := cell_of_block (k := 1) h1_ rfl; have c1_2 := cell_of_block (k := 2) h1_ rfl; clear h1_
              clear hA hD
              refine stepOk_want rfl rfl s76 ?_
              intro K hK
              gi_wp2
              exact hK _ _ rfl ((fun _ => Below.refl _ _) _)
            · -- 32
              intro a' w' hA hC hD
              obtain ⟨u77, s77, r77⟩ := hD ⟨30, .data⟩ (by simp) rfl _ rfl
              replace r77 : u77 = _ := r77
              subst r77
              obtain ⟨u78, s78, r78⟩ := hD ⟨31, .data⟩ (by simp) rfl _ rfl
              replace r78 : u78 = _ := r78
              subst r78
              obtain ⟨u76, s76, r76⟩ := hD ⟨29, .guard⟩ (by simp) rfl _ rfl
              replace r76 : u76 = _ := r76
              subst r76
              have hr := HN2.out
              clear hA hD
              refine stepOk_want rfl rfl s76 ?_
              intro K hK
              gi_wp2
              exact hK _ _ rfl ((fun _ => Below.refl _ _) _)
            · -- 33
              intro a' w' hA hC hD
              obtain ⟨u76, s76, r76⟩ := hD ⟨29, .data⟩ (by simp) rfl _ rfl
              replace r76 : u76 = _ := r76
              subst r76
              obtain ⟨u79, s79, r79⟩ := hD ⟨32, .data⟩ (by simp) rfl _ rfl
              replace r79 : u79 = _ := r79
              subst r79
              obtain ⟨u70, s70, r70⟩ := hD ⟨23, .guard⟩ (by simp) rfl _ rfl
              replace r70 : u70 = _ := r70
              subst r70
              clear hA hD
              refine stepOk_want rfl rfl s70 ?_
              intro K hK
              gi_wp2
              exact hK _ _ rfl ((fun _ => Below.refl _ _) _)
            · -- 34
              intro a' w' hA hC hD
              obtain ⟨u80, s80, r80⟩ := hD ⟨33, .data⟩ (by simp) rfl _ rfl
              replace r80 : u80 = _ := r80
              subst r80
              obtain ⟨u70, s70, r70⟩ := hD ⟨23, .guard⟩ (by simp) rfl _ rfl
              replace r70 : u70 = _ := r70
              subst r70
              clear hA hD
              refine stepOk_want rfl rfl s70 ?_
              intro K hK
              gi_wp2
              exact hK _ _ rfl ((fun _ => Below.refl _ _) _)
            · -- 35
              intro a' w' hA hC hD
              have s3 : a'.tmps[3]? = some _ := (hA.at 3 (by kernel_rfl)).trans rfl
              obtain ⟨u81, s81, r81⟩ := hD ⟨34, .guard⟩ (by simp) rfl _ rfl
              replace r81 : u81 = _ := r81
              subst r81
              clear hA hD
              exact stepOk_skip rfl rfl s81 rfl
            · -- 36
              intro a' w' hA hC hD
              have s5 : a'.tmps[5]? = some _ := (hA.at 5 (by kernel_rfl)).trans rfl
              obtain ⟨u81, s81, r81⟩ := hD ⟨34, .guard⟩ (by simp) rfl _ rfl
              replace r81 : u81 = _ := r81
              subst r81
              clear hA hD
              exact stepOk_skip rfl rfl s81 rfl
            · -- 37
              intro a' w' hA hC hD
              obtain ⟨u82, s82, r82⟩ := hD ⟨35, .data⟩ (by simp) rfl _ rfl
              replace r82 : u82 = undef := r82
              subst r82
              obtain ⟨u83, s83, r83⟩ := hD ⟨36, .data⟩ (by simp) rfl _ rfl
              replace r83 : u83 = undef := r83
              subst r83
              obtain ⟨u81, s81, r81⟩ := hD ⟨34, .guard⟩ (by simp) rfl _ rfl
              replace r81 : u81 = _ := r81
              subst r81
              clear hA hD
              exact stepOk_skip rfl rfl s81 rfl
            · -- 38
              intro a' w' hA hC hD
              obtain ⟨u81, s81, r81⟩ := hD ⟨34, .data⟩ (by simp) rfl _ rfl
              replace r81 : u81 = _ := r81
              subst r81
              obtain ⟨u84, s84, r84⟩ := hD ⟨37, .data⟩ (by simp) rfl _ rfl
              replace r84 : u84 = undef := r84
              subst r84
              obtain ⟨u70, s70, r70⟩ := hD ⟨23, .guard⟩ (by simp) rfl _ rfl
              replace r70 : u70 = _ := r70
              subst r70
              clear hA hD
              refine stepOk_want rfl rfl s70 ?_
              intro K hK
              gi_wp2
              exact hK _ _ rfl ((fun _ => Below.refl _ _) _)
            · -- 39
              intro a' w' hA hC hD
              obtain ⟨u72, s72, r72⟩ := hD ⟨25, .data⟩ (by simp) rfl _ rfl
              replace r72 : u72 = _ := r72
              subst r72
              obtain ⟨u85, s85, r85⟩ := hD ⟨38, .data⟩ (by simp) rfl _ rfl
              replace r85 : u85 = _ := r85
              subst r85
              obtain ⟨u70, s70, r70⟩ := hD ⟨23, .guard⟩ (by simp) rfl _ rfl
              replace r70 : u70 = _ := r70
              subst r70
              clear hA hD
              refine stepOk_want rfl rfl s70 ?_
              intro K hK
              gi_wp2
              exact hK _ _ rfl ((fun _ => Below.refl _ _) _)
            · -- 40
              intro a' w' hA hC hD
              obtain ⟨u70, s70, r70⟩ := hD ⟨23, .data⟩ (by simp) rfl _ rfl
              replace r70 : u70 = _ := r70
              subst r70
              obtain ⟨u86, s86, r86⟩ := hD ⟨39, .data⟩ (by simp) rfl _ rfl
              replace r86 : u86 = _ := r86
              subst r86
              clear hA hD
              refine stepOk_plain rfl ?_
              intro K hK
              gi_wp2
              exact hK _ _ rfl ((fun _ => Below.refl _ _) _)
            · -- 41
              intro a' w' hA hC hD
              obtain ⟨u87, s87, r87⟩ := hD ⟨40, .data⟩ (by simp) rfl _ rfl
              replace r87 : u87 = _ := r87
              subst r87
              clear hA hD
              refine stepOk_plain rfl ?_
              intro K hK
              gi_wp2
              exact hK _ _ rfl ((fun _ => Below.refl _ _) _)
          case hend =>
            intro w9 hC
            simp only [EndFrom, eqv, forall_eq, Act.put, List.length_cons, List.length_nil, List.drop_succ_cons, List.drop_zero, Nat.reduceAdd, List.setIfInBounds_toArray, List.set_cons_succ, List.set_cons_zero]
            have HC := Lib.hid (HS.out.low.trans (hC.mono HS.out.size))
            clear hC
            gi_wp2
            go_wp2_with fail
            go_ret
            exact ⟨rfl, HC.out⟩
      · refine (wpIn_wide (n := 0)).1 ?_
        apply wp_region_vals 42 (Rl := [(eqv _), (eqv _), (eqv _), (eqv _), (eqv _), (eqv _), (eqv _), (eqv _), (eqv _), (eqv _), (eqv _), (eqv _), (eqv _), (eqv _), (eqv _), (eqv _), (eqv _), (eqv _), (eqv _), (eqv _), (eqv _), (eqv _), (eqv _), (eqv _), (eqv _), (eqv _), (eqv _), (eqv _), (eqv _), (eqv _), (fun v_ _ => v_ = (undef : Value)), (fun v_ _ => v_ = (undef : Value)), (fun v_ _ => v_ = (undef : Value)), (eqv _), (eqv _), (fun v_ _ => v_ = (undef : Value)), (fun v_ _ => v_ = (undef : Value)), (fun v_ _ => v_ = (undef : Value)), (eqv _), (eqv _), (eqv _), (eqv _)]) (C := (fun x y => Below x.heap.size x y))
        case hm => kernel_rfl
        case hk => rfl
        case hCr => exact (fun _ => Below.refl _ _)
        case hCt => intro _ _ _; exact (fun h k => grows_trans h k)
        case hst => exact ⟨fun _ _ _ _ h => h, fun _ _ _ _ h => h, fun _ _ _ _ h => h, fun _ _ _ _ h => h, fun _ _ _ _ h => h, fun _ _ _ _ h => h, fun _ _ _ _ h => h, fun _ _ _ _ h => h, fun _ _ _ _ h => h, fun _ _ _ _ h => h, fun _ _ _ _ h => h, fun _ _ _ _ h => h, fun _ _ _ _ h => h, fun _ _ _ _ h => h, fun _ _ _ _ h => h, fun _ _ _ _ h => h, fun _ _ _ _ h => h, fun _ _ _ _ h => h, fun _ _ _ _ h => h, fun _ _ _ _ h => h, fun _ _ _ _ h => h, fun _ _ _ _ h => h, fun _ _ _ _ h => h, fun _ _ _ _ h => h, fun _ _ _ _ h => h, fun _ _ _ _ h => h, fun _ _ _ _ h => h, fun _ _ _ _ h => h, fun _ _ _ _ h => h, fun _ _ _ _ h => h, fun _ _ _ _ h => h, fun _ _ _ _ h => h, fun _ _ _ _ h => h, fun _ _ _ _ h => h, fun _ _ _ _ h => h, fun _ _ _ _ h => h, fun _ _ _ _ h => h, fun _ _ _ _ h => h, fun _ _ _ _ h => h, fun _ _ _ _ h => h, fun _ _ _ _ h => h, fun _ _ _ _ h => h, trivial⟩
        case hfo => kernel_rfl
        case ht => kernel_rfl
        case hC0 => exact (grows_drew _)
        case hsteps =>
          refine ⟨?_, ?_, ?_, ?_, ?_, ?_, ?_, ?_, ?_, ?_, ?_, ?_, ?_, ?_, ?_, ?_, ?_, ?_, ?_, ?_, ?_, ?_, ?_, ?_, ?_, ?_, ?_, ?_, ?_, ?_, ?_, ?_, ?_, ?_, ?_, ?_, ?_, ?_, ?_, ?_, ?_, ?_, trivial⟩
          · -- 0
            intro a' w' hA hC hD
            have s7 : a'.tmps[7]? = some _ := (hA.at 7 (by kernel_rfl)).trans rfl
            clear hA hD
            refine stepOk_plain rfl ?_
            intro K hK
            gi_wp2
            exact hK _ _ rfl ((fun _ => Below.refl _ _) _)
          · -- 1
            intro a' w' hA hC hD
            obtain ⟨u47, s47, r47⟩ := hD ⟨0, .data⟩ (by simp) rfl _ rfl
            replace r47 : u47 = _ := r47
            subst r47
            clear hA hD
            refine stepOk_plain rfl ?_
            intro K hK
            gi_wp2
            exact hK _ _ rfl ((fun _ => Below.refl _ _) _)
          · -- 2
            intro a' w' hA hC hD
            obtain ⟨u48, s48, r48⟩ := hD ⟨1, .data⟩ (by simp) rfl _ rfl
            replace r48 : u48 = _ := r48
            subst r48
            clear hA hD
            refine stepOk_plain rfl ?_
            intro K hK
            gi_wp2
            exact hK _ _ rfl ((fun _ => Below.refl _ _) _)
          · -- 3
            intro a' w' hA hC hD
            obtain ⟨u49, s49, r49⟩ := hD ⟨2, .data⟩ (by simp) rfl _ rfl
            replace r49 : u49 = _ := r49
            subst r49
            clear hA hD
            refine stepOk_plain rfl ?_
            intro K hK
            gi_wp2
            exact hK _ _ rfl ((fun _ => Below.refl _ _) _)
          · -- 4
            intro a' w' hA hC hD
            have s7 : a'.tmps[7]? = some _ := (hA.at 7 (by kernel_rfl)).trans rfl
            obtain ⟨u50, s50, r50⟩ := hD ⟨3, .guard⟩ (by simp) rfl _ rfl
            replace r50 : u50 = _ := r50
            subst r50
            clear hA hD
            refine stepOk_want rfl rfl s50 ?_
            intro K hK
            gi_wp2
            exact hK _ _ rfl ((fun _ => Below.refl _ _) _)
          · -- 5
            intro a' w' hA hC hD
            obtain ⟨u51, s51, r51⟩ := hD ⟨4, .data⟩ (by simp) rfl _ rfl
            replace r51 : u51 = _ := r51
            subst r51
            obtain ⟨u50, s50, r50⟩ := hD ⟨3, .guard⟩ (by simp) rfl _ rfl
            replace r50 : u50 = _ := r50
            subst r50
            clear hA hD
            refine stepOk_want rfl rfl s50 ?_
            intro K hK
            gi_wp2
            exact hK _ _ rfl ((fun _ => Below.refl _ _) _)
          · -- 6
            intro a' w' hA hC hD
            obtain ⟨u52, s52, r52⟩ := hD ⟨5, .data⟩ (by simp) rfl _ rfl
            replace r52 : u52 = _ := r52
            subst r52
            obtain ⟨u50, s50, r50⟩ := hD ⟨3, .guard⟩ (by simp) rfl _ rfl
            replace r50 : u50 = _ := r50
            subst r50
            obtain ⟨c0, c1, c2⟩ := rowCells (ids := [⟨x1, x2, x3⟩, ⟨y1, y2, y3⟩, ⟨z1, z2, z3⟩]) (HR.out.below hC) 1 _ rfl
            clear hA hD
            refine stepOk_want rfl rfl s50 ?_
            intro K hK
            gi_wp2
            exact hK _ _ rfl ((fun _ => Below.refl _ _) _)
          · -- 7
            intro a' w' hA hC hD
            have s7 : a'.tmps[7]? = some _ := (hA.at 7 (by kernel_rfl)).trans rfl
            obtain ⟨u50, s50, r50⟩ := hD ⟨3, .guard⟩ (by simp) rfl _ rfl
            replace r50 : u50 = _ := r50
            subst r50
            clear hA hD
            refine stepOk_want rfl rfl s50 ?_
            intro K hK
            gi_wp2
            exact hK _ _ rfl ((fun _ => Below.refl _ _) _)
          · -- 8
            intro a' w' hA hC hD
            obtain ⟨u54, s54, r54⟩ := hD ⟨7, .data⟩ (by simp) rfl _ rfl
            replace r54 : u54 = _ := r54
            subst r54
            obtain ⟨u50, s50, r50⟩ := hD ⟨3, .guard⟩ (by simp) rfl _ rfl
            replace r50 : u50 = _ := r50
            subst r50
            clear hA hD
            refine stepOk_want rfl rfl s50 ?_
            intro K hK
            gi_wp2
            exact hK _ _ rfl ((fun _ => Below.refl _ _) _)
          · -- 9
            intro a' w' hA hC hD
            obtain ⟨u55, s55, r55⟩ := hD ⟨8, .data⟩ (by simp) rfl _ rfl
            replace r55 : u55 = _ := r55
            subst r55
            obtain ⟨u50, s50, r50⟩ := hD ⟨3, .guard⟩ (by simp) rfl _ rfl
            replace r50 : u50 = _ := r50
            subst r50
            have h_ := rowCells (ids := [⟨x1, x2, x3⟩, ⟨y1, y2, y3⟩, ⟨z1, z2, z3⟩]) (HR.out.below hC) 0 _ rfl; simp only [Nat.zero_mul, Nat.add_zero] at h_; obtain ⟨c0, c1, c2⟩ := h_
            clear hA hD
            refine stepOk_want rfl rfl s50 ?_
            intro K hK
            gi_wp2
            exact hK _ _ rfl ((fun _ => Below.refl _ _) _)
          · -- 10
            intro a' w' hA hC hD
            obtain ⟨u53, s53, r53⟩ := hD ⟨6, .data⟩ (by simp) rfl _ rfl
            replace r53 : u53 = _ := r53
            subst r53
            obtain ⟨u56, s56, r56⟩ := hD ⟨9, .data⟩ (by simp) rfl _ rfl
            replace r56 : u56 = _ := r56
            subst r56
            obtain ⟨u50, s50, r50⟩ := hD ⟨3, .chain⟩ (by simp) rfl _ rfl
            replace r50 : u50 = _ := r50
            subst r50
            clear hA hD
            refine stepOk_want rfl rfl s50 ?_
            intro K hK
            gi_wp2_with fail; refine (callsIn_wide.2 (identLess_any ⟨y1, y2, y3⟩ ⟨x1, x2, x3⟩ _)).mono ?_; rintro e w2 ⟨rfl, hb⟩; rw [HL1.out]
            exact hK _ _ rfl hb
          · -- 11
            intro a' w' hA hC hD
            obtain ⟨u57, s57, r57⟩ := hD ⟨10, .data⟩ (by simp) rfl _ rfl
            replace r57 : u57 = _ := r57
            subst r57
            obtain ⟨u50, s50, r50⟩ := hD ⟨3, .guard⟩ (by simp) rfl _ rfl
            replace r50 : u50 = _ := r50
            subst r50
            clear hA hD
            refine stepOk_want rfl rfl s50 ?_
            intro K hK
            gi_wp2
            exact hK _ _ rfl ((fun _ => Below.refl _ _) _)
          · -- 12
            intro a' w' hA hC hD
            obtain ⟨u50, s50, r50⟩ := hD ⟨3, .data⟩ (by simp) rfl _ rfl
            replace r50 : u50 = _ := r50
            subst r50
            obtain ⟨u58, s58, r58⟩ := hD ⟨11, .data⟩ (by simp) rfl _ rfl
            replace r58 : u58 = _ := r58
            subst r58
            clear hA hD
            refine stepOk_plain rfl ?_
            intro K hK
            gi_wp2
            exact hK _ _ rfl ((fun _ => Below.refl _ _) _)
          · -- 13
            intro a' w' hA hC hD
            obtain ⟨u59, s59, r59⟩ := hD ⟨12, .data⟩ (by simp) rfl _ rfl
            replace r59 : u59 = _ := r59
            subst r59
            clear hA hD
            refine stepOk_plain rfl ?_
            intro K hK
            gi_wp2
            exact hK _ _ rfl ((fun _ => Below.refl _ _) _)
          · -- 14
            intro a' w' hA hC hD
            have s7 : a'.tmps[7]? = some _ := (hA.at 7 (by kernel_rfl)).trans rfl
            obtain ⟨u60, s60, r60⟩ := hD ⟨13, .guard⟩ (by simp) rfl _ rfl
            replace r60 : u60 = _ := r60
            subst r60
            clear hA hD
            refine stepOk_want rfl rfl s60 ?_
            intro K hK
            gi_wp2
            exact hK _ _ rfl ((fun _ => Below.refl _ _) _)
          · -- 15
            intro a' w' hA hC hD
            obtain ⟨u61, s61, r61⟩ := hD ⟨14, .data⟩ (by simp) rfl _ rfl
            replace r61 : u61 = _ := r61
            subst r61
            obtain ⟨u60, s60, r60⟩ := hD ⟨13, .guard⟩ (by simp) rfl _ rfl
            replace r60 : u60 = _ := r60
            subst r60
            clear hA hD
            refine stepOk_want rfl rfl s60 ?_
            intro K hK
            gi_wp2
            exact hK _ _ rfl ((fun _ => Below.refl _ _) _)
          · -- 16
            intro a' w' hA hC hD
            obtain ⟨u62, s62, r62⟩ := hD ⟨15, .data⟩ (by simp) rfl _ rfl
            replace r62 : u62 = _ := r62
            subst r62
            obtain ⟨u60, s60, r60⟩ := hD ⟨13, .guard⟩ (by simp) rfl _ rfl
            replace r60 : u60 = _ := r60
            subst r60
            obtain ⟨c0, c1, c2⟩ := rowCells (ids := [⟨x1, x2, x3⟩, ⟨y1, y2, y3⟩, ⟨z1, z2, z3⟩]) (HR.out.below hC) 2 _ rfl
            clear hA hD
            refine stepOk_want rfl rfl s60 ?_
            intro K hK
            gi_wp2
            exact hK _ _ rfl ((fun _ => Below.refl _ _) _)
          · -- 17
            intro a' w' hA hC hD
            have s7 : a'.tmps[7]? = some _ := (hA.at 7 (by kernel_rfl)).trans rfl
            obtain ⟨u60, s60, r60⟩ := hD ⟨13, .guard⟩ (by simp) rfl _ rfl
            replace r60 : u60 = _ := r60
            subst r60
            clear hA hD
            refine stepOk_want rfl rfl s60 ?_
            intro K hK
            gi_wp2
            exact hK _ _ rfl ((fun _ => Below.refl _ _) _)
          · -- 18
            intro a' w' hA hC hD
            obtain ⟨u64, s64, r64⟩ := hD ⟨17, .data⟩ (by simp) rfl _ rfl
            replace r64 : u64 = _ := r64
            subst r64
            obtain ⟨u60, s60, r60⟩ := hD ⟨13, .guard⟩ (by simp) rfl _ rfl
            replace r60 : u60 = _ := r60
            subst r60
            clear hA hD
            refine stepOk_want rfl rfl s60 ?_
            intro K hK
            gi_wp2
            exact hK _ _ rfl ((fun _ => Below.refl _ _) _)
          · -- 19
            intro a' w' hA hC hD
            obtain ⟨u65, s65, r65⟩ := hD ⟨18, .data⟩ (by simp) rfl _ rfl
            replace r65 : u65 = _ := r65
            subst r65
            obtain ⟨u60, s60, r60⟩ := hD ⟨13, .guard⟩ (by simp) rfl _ rfl
            replace r60 : u60 = _ := r60
            subst r60
            obtain ⟨c0, c1, c2⟩ := rowCells (ids := [⟨x1, x2, x3⟩, ⟨y1, y2, y3⟩, ⟨z1, z2, z3⟩]) (HR.out.below hC) 1 _ rfl
            clear hA hD
            refine stepOk_want rfl rfl s60 ?_
            intro K hK
            gi_wp2
            exact hK _ _ rfl ((fun _ => Below.refl _ _) _)
          · -- 20
            intro a' w' hA hC hD
            obtain ⟨u63, s63, r63⟩ := hD ⟨16, .data⟩ (by simp) rfl _ rfl
            replace r63 : u63 = _ := r63
            subst r63
            obtain ⟨u66, s66, r66⟩ := hD ⟨19, .data⟩ (by simp) rfl _ rfl
            replace r66 : u66 = _ := r66
            subst r66
            obtain ⟨u60, s60, r60⟩ := hD ⟨13, .chain⟩ (by simp) rfl _ rfl
            replace r60 : u60 = _ := r60
            subst r60
            clear hA hD
            refine stepOk_want rfl rfl s60 ?_
            intro K hK
            gi_wp2_with fail; refine (callsIn_wide.2 (identLess_any ⟨z1, z2, z3⟩ ⟨y1, y2, y3⟩ _)).mono ?_; rintro e w2 ⟨rfl, hb⟩; rw [HL2.out]
            exact hK _ _ rfl hb
          · -- 21
            intro a' w' hA hC hD
            obtain ⟨u67, s67, r67⟩ := hD ⟨20, .data⟩ (by simp) rfl _ rfl
            replace r67 : u67 = _ := r67
            subst r67
            obtain ⟨u60, s60, r60⟩ := hD ⟨13, .guard⟩ (by simp) rfl _ rfl
            replace r60 : u60 = _ := r60
            subst r60
            clear hA hD
            refine stepOk_want rfl rfl s60 ?_
            intro K hK
            gi_wp2
            exact hK _ _ rfl ((fun _ => Below.refl _ _) _)
          · -- 22
            intro a' w' hA hC hD
            obtain ⟨u60, s60, r60⟩ := hD ⟨13, .data⟩ (by simp) rfl _ rfl
            replace r60 : u60 = _ := r60
            subst r60
            obtain ⟨u68, s68, r68⟩ := hD ⟨21, .data⟩ (by simp) rfl _ rfl
            replace r68 : u68 = _ := r68
            subst r68
            clear hA hD
            refine stepOk_plain rfl ?_
            intro K hK
            gi_wp2
            exact hK _ _ rfl ((fun _ => Below.refl _ _) _)
          · -- 23
            intro a' w' hA hC hD
            obtain ⟨u69, s69, r69⟩ := hD ⟨22, .data⟩ (by simp) rfl _ rfl
            replace r69 : u69 = _ := r69
            subst r69
            clear hA hD
            refine stepOk_plain rfl ?_
            intro K hK
            gi_wp2
            exact hK _ _ rfl ((fun _ => Below.refl _ _) _)
          · -- 24
            intro a' w' hA hC hD
            have s7 : a'.tmps[7]? = some _ := (hA.at 7 (by kernel_rfl)).trans rfl
            obtain ⟨u70, s70, r70⟩ := hD ⟨23, .guard⟩ (by simp) rfl _ rfl
            replace r70 : u70 = _ := r70
            subst r70
            clear hA hD
            refine stepOk_want rfl rfl s70 ?_
            intro K hK
            gi_wp2
            exact hK _ _ rfl ((fun _ => Below.refl _ _) _)
          · -- 25
            intro a' w' hA hC hD
            obtain ⟨u71, s71, r71⟩ := hD ⟨24, .data⟩ (by simp) rfl _ rfl
            replace r71 : u71 = _ := r71
            subst r71
            obtain ⟨u70, s70, r70⟩ := hD ⟨23, .chain⟩ (by simp) rfl _ rfl
            replace r70 : u70 = _ := r70
            subst r70
            clear hA hD
            refine stepOk_want rfl rfl s70 ?_
            intro K hK
            gi_wp2_with fail; refine (callsIn_wide.2 (rising_any _ [⟨x1, x2, x3⟩, ⟨y1, y2, y3⟩, ⟨z1, z2, z3⟩] (by simp) _ (HR.out.below hC))).mono ?_; rintro e w2 ⟨rfl, hb⟩; rw [HRB.out]
            exact hK _ _ rfl hb
          · -- 26
            intro a' w' hA hC hD
            have s3 : a'.tmps[3]? = some _ := (hA.at 3 (by kernel_rfl)).trans rfl
            obtain ⟨u70, s70, r70⟩ := hD ⟨23, .guard⟩ (by simp) rfl _ rfl
            replace r70 : u70 = _ := r70
            subst r70
            have h1_ := (HS.out.below hC).blockAt 3 rfl; have c1_0 := cell_of_block (k := 0) h1_ rfl; have c1_1 := cell_of_block (k := 1) h1_ rfl; have c1_2 := cell_of_block (k := 2) h1_ rfl; clear h1_
            clear hA hD
            refine stepOk_want rfl rfl s70 ?_
            intro K hK
            gi_wp2
            exact hK _ _ rfl ((fun _ => Below.refl _ _) _)
          · -- 27
            intro a' w' hA hC hD
            have s4 : a'.tmps[4]? = some _ := (hA.at 4 (by kernel_rfl)).trans rfl
            obtain ⟨u70, s70, r70⟩ := hD ⟨23, .guard⟩ (by simp) rfl _ rfl
            replace r70 : u70 = _ := r70
            subst r70
            have h1_ := (HS.out.below hC).blockAt 2 rfl; have c1_0 := cell_of_block (k := 0) h1_ rfl; have c1_1 := cell_of_block (k := 1) h1_ rfl; have c1_2 := cell_of_block (k := 2) h1_ rfl; clear h1_
            clear hA hD
            refine stepOk_want rfl rfl s70 ?_
            intro K hK
            gi_wp2
            exact hK _ _ rfl ((fun _ => Below.refl _ _) _)
          · -- 28
            intro a' w' hA hC hD
            obtain ⟨u73, s73, r73⟩ := hD ⟨26, .data⟩ (by simp) rfl _ rfl
            replace r73 : u73 = _ := r73
            subst r73
            obtain ⟨u74, s74, r74⟩ := hD ⟨27, .data⟩ (by simp) rfl _ rfl
            replace r74 : u74 = _ := r74
            subst r74
            obtain ⟨u70, s70, r70⟩ := hD ⟨23, .guard⟩ (by simp) rfl _ rfl
            replace r70 : u70 = _ := r70
            subst r70
            have hr := HN1.out
            clear hA hD
            refine stepOk_want rfl rfl s70 ?_
            intro K hK
            gi_wp2
            exact hK _ _ rfl ((fun _ => Below.refl _ _) _)
          · -- 29
            intro a' w' hA hC hD
            obtain ⟨u75, s75, r75⟩ := hD ⟨28, .data⟩ (by simp) rfl _ rfl
            replace r75 : u75 = _ := r75
            subst r75
            obtain ⟨u70, s70, r70⟩ := hD ⟨23, .guard⟩ (by simp) rfl _ rfl
            replace r70 : u70 = _ := r70
            subst r70
            clear hA hD
            refine stepOk_want rfl rfl s70 ?_
            intro K hK
            gi_wp2
            exact hK _ _ rfl ((fun _ => Below.refl _ _) _)
          · -- 30
            intro a' w' hA hC hD
            have s4 : a'.tmps[4]? = some _ := (hA.at 4 (by kernel_rfl)).trans rfl
            obtain ⟨u76, s76, r76⟩ := hD ⟨29, .guard⟩ (by simp) rfl _ rfl
            replace r76 : u76 = _ := r76
            subst r76
            clear hA hD
            exact stepOk_skip rfl rfl s76 rfl
          · -- 31
            intro a' w' hA hC hD
            have s5 : a'.tmps[5]? = some _ := (hA.at 5 (by kernel_rfl)).trans rfl
            obtain ⟨u76, s76, r76⟩ := hD ⟨29, .guard⟩ (by simp) rfl _ rfl
            replace r76 : u76 = _ := r76
            subst r76
            clear hA hD
            exact stepOk_skip rfl rfl s76 rfl
          · -- 32
            intro a' w' hA hC hD
            obtain ⟨u77, s77, r77⟩ := hD ⟨30, .data⟩ (by simp) rfl _ rfl
            replace r77 : u77 = undef := r77
            subst r77
            obtain ⟨u78, s78, r78⟩ := hD ⟨31, .data⟩ (by simp) rfl _ rfl
            replace r78 : u78 = undef := r78
            subst r78
            obtain ⟨u76, s76, r76⟩ := hD ⟨29, .guard⟩ (by simp) rfl _ rfl
            replace r76 : u76 = _ := r76
            subst r76
            clear hA hD
            exact stepOk_skip rfl rfl s76 rfl
          · -- 33
            intro a' w' hA hC hD
            obtain ⟨u76, s76, r76⟩ := hD ⟨29, .data⟩ (by simp) rfl _ rfl
            replace r76 : u76 = _ := r76
            subst r76
            obtain ⟨u79, s79, r79⟩ := hD ⟨32, .data⟩ (by simp) rfl _ rfl
            replace r79 : u79 = undef := r79
            subst r79
            obtain ⟨u70, s70, r70⟩ := hD ⟨23, .guard⟩ (by simp) rfl _ rfl
            replace r70 : u70 = _ := r70
            subst r70
            clear hA hD
            refine stepOk_want rfl rfl s70 ?_
            intro K hK
            gi_wp2
            exact hK _ _ rfl ((fun _ => Below.refl _ _) _)
          · -- 34
            intro a' w' hA hC hD
            obtain ⟨u80, s80, r80⟩ := hD ⟨33, .data⟩ (by simp) rfl _ rfl
            replace r80 : u80 = _ := r80
            subst r80
            obtain ⟨u70, s70, r70⟩ := hD ⟨23, .guard⟩ (by simp) rfl _ rfl
            replace r70 : u70 = _ := r70
            subst r70
            clear hA hD
            refine stepOk_want rfl rfl s70 ?_
            intro K hK
            gi_wp2
            exact hK _ _ rfl ((fun _ => Below.refl _ _) _)
          · -- 35
            intro a' w' hA hC hD
            have s3 : a'.tmps[3]? = some _ := (hA.at 3 (by kernel_rfl)).trans rfl
            obtain ⟨u81, s81, r81⟩ := hD ⟨34, .guard⟩ (by simp) rfl _ rfl
            replace r81 : u81 = _ := r81
            subst r81
            clear hA hD
            exact stepOk_skip rfl rfl s81 rfl
          · -- 36
            intro a' w' hA hC hD
            have s5 : a'.tmps[5]? = some _ := (hA.at 5 (by kernel_rfl)).trans rfl
            obtain ⟨u81, s81, r81⟩ := hD ⟨34, .guard⟩ (by simp) rfl _ rfl
            replace r81 : u81 = _ := r81
            subst r81
            clear hA hD
            exact stepOk_skip rfl rfl s81 rfl
          · -- 37
            intro a' w' hA hC hD
            obtain ⟨u82, s82, r82⟩ := hD ⟨35, .data⟩ (by simp) rfl _ rfl
            replace r82 : u82 = undef := r82
            subst r82
            obtain ⟨u83, s83, r83⟩ := hD ⟨36, .data⟩ (by simp) rfl _ rfl
            replace r83 : u83 = undef := r83
            subst r83
            obtain ⟨u81, s81, r81⟩ := hD ⟨34, .guard⟩ (by simp) rfl _ rfl
            replace r81 : u81 = _ := r81
            subst r81
            clear hA hD
            exact stepOk_skip rfl rfl s81 rfl
          · -- 38
            intro a' w' hA hC hD
            obtain ⟨u81, s81, r81⟩ := hD ⟨34, .data⟩ (by simp) rfl _ rfl
            replace r81 : u81 = _ := r81
            subst r81
            obtain ⟨u84, s84, r84⟩ := hD ⟨37, .data⟩ (by simp) rfl _ rfl
            replace r84 : u84 = undef := r84
            subst r84
            obtain ⟨u70, s70, r70⟩ := hD ⟨23, .guard⟩ (by simp) rfl _ rfl
            replace r70 : u70 = _ := r70
            subst r70
            clear hA hD
            refine stepOk_want rfl rfl s70 ?_
            intro K hK
            gi_wp2
            exact hK _ _ rfl ((fun _ => Below.refl _ _) _)
          · -- 39
            intro a' w' hA hC hD
            obtain ⟨u72, s72, r72⟩ := hD ⟨25, .data⟩ (by simp) rfl _ rfl
            replace r72 : u72 = _ := r72
            subst r72
            obtain ⟨u85, s85, r85⟩ := hD ⟨38, .data⟩ (by simp) rfl _ rfl
            replace r85 : u85 = _ := r85
            subst r85
            obtain ⟨u70, s70, r70⟩ := hD ⟨23, .guard⟩ (by simp) rfl _ rfl
            replace r70 : u70 = _ := r70
            subst r70
            clear hA hD
            refine stepOk_want rfl rfl s70 ?_
            intro K hK
            gi_wp2
            exact hK _ _ rfl ((fun _ => Below.refl _ _) _)
          · -- 40
            intro a' w' hA hC hD
            obtain ⟨u70, s70, r70⟩ := hD ⟨23, .data⟩ (by simp) rfl _ rfl
            replace r70 : u70 = _ := r70
            subst r70
            obtain ⟨u86, s86, r86⟩ := hD ⟨39, .data⟩ (by simp) rfl _ rfl
            replace r86 : u86 = _ := r86
            subst r86
            clear hA hD
            refine stepOk_plain rfl ?_
            intro K hK
            gi_wp2
            exact hK _ _ rfl ((fun _ => Below.refl _ _) _)
          · -- 41
            intro a' w' hA hC hD
            obtain ⟨u87, s87, r87⟩ := hD ⟨40, .data⟩ (by simp) rfl _ rfl
            replace r87 : u87 = _ := r87
            subst r87
            clear hA hD
            refine stepOk_plain rfl ?_
            intro K hK
            gi_wp2
            exact hK _ _ rfl ((fun _ => Below.refl _ _) _)
        case hend =>
          intro w9 hC
          simp only [EndFrom, eqv, forall_eq, Act.put, List.length_cons, List.length_nil, List.drop_succ_cons, List.drop_zero, Nat.reduceAdd, List.setIfInBounds_toArray, List.set_cons_succ, List.set_cons_zero]
          have HC := Lib.hid (HS.out.low.trans (hC.mono HS.out.size))
          clear hC
          gi_wp2
          go_wp2_with fail
          go_ret
          exact ⟨rfl, HC.out⟩
end Go.Proofs.YtppaheekpmgifaaDoor
