/- Merged texts: FlGr. -/
import Derived.Test.YtlnjgdnnpkloeaaM22
/- Layer 8: FloodGrows. -/
namespace Go.Proofs.Ytlnjgdnnpkloeaa
set_option linter.unusedSimpArgs false
set_option linter.unusedVariables false
open Go.RowKit Go.Shelf
attribute [local go_sem] Oper.semAt_some
/-- A region, or why there is none. -/
def GotReg (C : CanT) (p : PtT) (t : Int) (w : World) (e : Ending) (w' : World) : Prop :=
  ∃ (er : Int) (n : Nat) (a : Option Addr) (cap : Nat), e = .returned (.tuple #[.slice a n cap, .int .i64 er]) ∧ Below w.heap.size w w' ∧ Elems w' (.slice a n cap) n 3 (rowC encS (if begB C p t = true then regL (placesL C p t) else [])) ∧
    ((begB C p t = true ∧ er = 0 ∧ (regL (placesL C p t)).length = n) ∨ (begB C p t = false ∧ er ≠ 0 ∧ n = 0))
theorem region_any (C : CanT) (c : Nat) (p : PtT) (t : Int) (w : World) (hC : CanAt w c C) : Calls Try.prog 23 #[.pointer (some ⟨c, 0, none⟩), p.val, .int .i64 t] w (GotReg C p t w) := by
  cases hb : begB C p t with
  | true =>
    refine (region_good C c p t w hC hb).mono fun e w' h => ?_
    obtain ⟨hl, a, cap, rfl, he, hlo⟩ := h.got encS_len
    exact ⟨0, _, a, cap, rfl, hlo, by rw [if_pos hb]; exact he, .inl ⟨hb, rfl, rfl⟩⟩
  | false =>
    refine (region_bad C c p t w hC hb).mono fun e w' h => ?_
    obtain ⟨rfl, hlo⟩ := h
    refine ⟨_, 0, none, 0, rfl, hlo, by rw [if_neg (by rw [hb]; decide)]; exact elems_nil _, .inr ⟨hb, ?_, rfl⟩⟩
    rcases begE_ne hb with e | e <;> rw [e] <;> decide
theorem union_reg {C : CanT} {p : PtT} {lo hi : Int} (hC : okCan C) (h1 : begB C p lo = true) (hlo : lo ≤ hi) : SetRow (fun q => hasB [regL (placesL C p lo), regL (placesL C p hi)].flatten q = true) (regL (placesL C p hi)) :=
  ⟨(region_rowOf C p hi).row, fun q => by
    simp only [List.flatten_cons, List.flatten_nil, List.append_nil, hasB_append, Bool.or_eq_true]
    rw [region_has, region_has]
    exact ⟨fun h => .inr h, fun h => h.elim (fun h => InReg.mono hC (begB_on h1).1 (begB_on h1).2.1 hlo h) id⟩⟩
theorem union_regs (C : CanT) (p : PtT) (lo hi : Int) (hC : okCan C) (h1 : begB C p lo = true) (hlo : lo ≤ hi) (n : Nat) (hn : (regL (placesL C p hi)).length = n) (a : Option Addr) (cap : Nat) (w : World) (h : RowsR w a [regL (placesL C p lo), regL (placesL C p hi)]) :
    Calls Try.prog 33 #[.slice a 2 cap] w (Got 3 encS (regL (placesL C p hi)) n 0 w) := by
  have l1 := regL_len (placesL C p lo)
  have l2 := regL_len (placesL C p hi)
  have m1 := placesL_len hC p lo
  have m2 := placesL_len hC p hi
  refine (shUnion_any a 2 cap [regL (placesL C p lo), regL (placesL C p hi)] rfl (by decide) (by simp only [List.flatten_cons, List.flatten_nil, List.append_nil, List.length_append]; omega) w h).mono fun _ _ h => h.known (by simp [region_right hC]) (union_reg hC h1 hlo) n hn
theorem at_onP (C : CanT) (c : Nat) (p : PtT) (h : onC C p = true) (w : World) (hC : CanAt w c C) :
    Calls Try.prog 34 #[.pointer (some ⟨c, 0, none⟩), .int .i64 p.x, .int .i64 p.y] w (Gives (.tuple #[(colP C p).val, .bool true]) w) := by
  unfold onC at h
  have h1 := onB_iff.1 h
  obtain ⟨px, py⟩ := p
  simp only at h1
  obtain ⟨x, rfl⟩ : ∃ x : Nat, px = x := ⟨px.toNat, by omega⟩
  obtain ⟨y, rfl⟩ : ∃ y : Nat, py = y := ⟨py.toNat, by omega⟩
  exact at_on C c x y (by omega) (by omega) w hC
theorem region_same {C : CanT} {p q : PtT} (hC : okCan C) (hp : onC C p = true) (h : InReg C p 0 q) : regL (placesL C q 0) = regL (placesL C p 0) := by
  have h1 : SetRow (InReg C p 0) (regL (placesL C p 0)) := ⟨(region_rowOf C p 0).row, fun r => region_has C p 0 r⟩
  have h2 : SetRow (InReg C p 0) (regL (placesL C q 0)) := ⟨(region_rowOf C q 0).row, fun r => (region_has C q 0 r).trans (h.same0 hC hp r)⟩
  exact h2.unique h1
theorem at_is {C : CanT} {c : Nat} {p : PtT} {r g b a : Int} (h : onC C p = true) (hc : colP C p = ⟨r, g, b, a⟩) (w : World) (hC : CanAt w c C) :
    Calls Try.prog 34 #[.pointer (some ⟨c, 0, none⟩), .int .i64 p.x, .int .i64 p.y] w (Gives (.tuple #[.agg #[.int .u8 r, .int .u8 g, .int .u8 b, .int .u8 a], .bool true]) w) := by
  have := at_onP C c p h w hC
  rw [hc] at this
  exact this
theorem regZero_is {C : CanT} {c : Nat} {p : PtT} {t : Int} {L : List SpT} {n : Nat} (hb : begB C p t = true) (hr : regL (placesL C p t) = L) (hn : L.length = n) (w : World) (hC : CanAt w c C) :
    Calls Try.prog 23 #[.pointer (some ⟨c, 0, none⟩), p.val, .int .i64 t] w fun e w' => ∃ (a : Option Addr) (cap : Nat), e = .returned (.tuple #[.slice a n cap, .int .i64 0]) ∧ Elems w' (.slice a n cap) n 3 (rowC encS L) ∧ Below w.heap.size w w' := by
  refine (region_good C c p t w hC hb).mono fun e w' h => ?_
  obtain ⟨hl, a, cap, rfl, he, hlo⟩ := h.got encS_len
  subst hn
  rw [hr] at he
  exact ⟨a, cap, by rw [hr], he, hlo⟩
/-- The result's cell written, whatever else is held. -/
theorem ret_store {w0 x : World} {its : List It} (h : St w0 its x) {b : Nat} {c0 : Value} {t : TypeId} {f : Nat × Nat} (hb : x.heap[b]? = some (.cells #[c0] t f)) (hl : w0.heap.size ≤ b) (v : Value) :
    (x.setCell ⟨b, 0, none⟩ v).cell? ⟨b, 0, none⟩ = some v ∧ Below w0.heap.size w0 (x.setCell ⟨b, 0, none⟩ v) :=
  ⟨cell_of_block (k := 0) (heap_set_same hb v) rfl, h.low.setCell (p := ⟨b, 0, none⟩) hl v⟩

set_option maxRecDepth 100000 in
set_option maxHeartbeats 4000000 in
theorem floodGrows_any (wide high : Int) (a : Option Addr) (n cap : Nat) (ts : List TileT) (hl : ts.length = n) (hc : n ≤ cap) (hc2 : cap ≤ 9223372036854775807) (hcol : ∀ t ∈ ts, ∀ c ∈ t.1, okC c) (px py u0 u1 : Int) (w : World) (he : Elems w (.slice a n cap) n 256 (rowC encT ts)) :
    Calls Try.prog 7 #[.agg #[.int .i64 wide, .int .i64 high, .slice a n cap], .agg #[.int .i64 px, .int .i64 py], .agg #[.int .i64 u0, .int .i64 u1]] w (Gives (.bool true) w) := by
  have HS := Lib.hid (St.start w)
  have HOF := Lib.hid (fun w' (hb : Below w.heap.size w w') => lawOf_any wide high a n cap ts hl hc hc2 hcol w' (he.below hb))
  obtain ⟨ok, hok⟩ : ∃ ok, okE wide high (ts.take 17).length = ok := ⟨_, rfl⟩
  obtain ⟨C, hC⟩ : ∃ C : CanT, (⟨wide.toNat, high.toNat, ts.take 17⟩ : CanT) = C := ⟨_, rfl⟩
  obtain ⟨us, hus⟩ : ∃ us, ts.take 17 = us := ⟨_, rfl⟩
  rw [hok, hC, hus] at HOF
  clear hl hc hc2 hcol he hok hC hus
  refine (callsIn_wide (n := 10)).1 ?_
  refine callsIn_of_wp_marks Try.func7 rfl trivial ?_ rfl
  simp only [Try.ntmps7, List.size_toArray, List.length_cons, List.length_nil, Nat.reduceAdd, Nat.reduceSub, Array.replicate_succ, Array.replicate_zero, List.push_toArray, List.append_toArray, List.nil_append, List.cons_append]
  repeat ((fail_if_success (with_reducible refine stop_atI (id := 1) ?_)); (first | go_values | gi_guarded | gi_step | gi_upon | gi_back | (simp only [Int.not_lt, Int.not_le] at *; go_simp) | (go_values <;> (try go_simp)) | (go_ite <;> go_prune <;> (try go_simp)) | (split <;> (first | (rename_i hx; exact (hx _ rfl).elim) | go_prune))))
  have hs_ := ((((HS.out.alloc (.cells #[.int .i64 wide, .int .i64 high, .slice a n cap] 24)).alloc (.cells #[.int .i64 px, .int .i64 py] 49)).alloc (.cells #[.int .i64 u0, .int .i64 u1] 78)).alloc (.cells #[.bool false] 4))
  obtain ⟨w1, hw_⟩ : ∃ w1 : World, ((((w.alloc (.cells #[.int .i64 wide, .int .i64 high, .slice a n cap] 24)).alloc (.cells #[.int .i64 px, .int .i64 py] 49)).alloc (.cells #[.int .i64 u0, .int .i64 u1] 78)).alloc (.cells #[.bool false] 4)) = w1 := ⟨_, rfl⟩
  rw [hw_] at hs_
  try simp only [World.size_alloc] at hs_
  have HS := Lib.hid hs_
  rw [hw_]
  clear hw_ hs_
  gi_wp2_with fail
  refine (callsIn_wide.2 (flWakes_any _)).mono ?_
  rintro e w2 ⟨rfl, hb_⟩
  have HS := Lib.hid (HS.out.below hb_)
  clear hb_
  have k0 := cell_of_block (k := 0) (HS.out.blockAt 3 rfl) rfl
  have k1 := cell_of_block (k := 1) (HS.out.blockAt 3 rfl) rfl
  have k2 := cell_of_block (k := 2) (HS.out.blockAt 3 rfl) rfl
  gi_wp2_with fail
  clear k0 k1 k2
  refine (callsIn_wide.2 (HOF.out _ HS.out.low)).mono ?_
  rintro e w3 ⟨v, y, rfl, hb, ⟨a3, c3, rfl, hc3, he3⟩, hv1, hv2⟩
  have HS := Lib.hid (HS.out.below hb)
  have HV := Lib.hid (show OfV ok C v w3 from ⟨hv1, hv2⟩)
  clear hb hc3 he3 hv1 hv2 HOF
  cases ok with
  | false =>
    obtain rfl := HV.out.2 rfl
    clear HV
    repeat ((fail_if_success (with_reducible refine stop_atI (id := 4) ?_)); (first | go_values | gi_guarded | gi_step | gi_upon | gi_back | (simp only [Int.not_lt, Int.not_le] at *; go_simp) | (go_values <;> (try go_simp)) | (go_ite <;> go_prune <;> (try go_simp)) | (split <;> (first | (rename_i hx; exact (hx _ rfl).elim) | go_prune))))
    have hs_ := ((HS.out.alloc (.cells #[.pointer none] 27)).alloc (.cells #[.int .i64 wide, .int .i64 high, .slice a3 us.length c3] 24))
    obtain ⟨w4, hw_⟩ : ∃ w4 : World, ((w3.alloc (.cells #[.pointer none] 27)).alloc (.cells #[.int .i64 wide, .int .i64 high, .slice a3 us.length c3] 24)) = w4 := ⟨_, rfl⟩
    rw [hw_] at hs_
    try simp only [World.size_alloc] at hs_
    have HS := Lib.hid hs_
    rw [hw_]
    clear hw_ hs_
    have f2 := free_of_block (HS.out.blockAt 2 rfl)
    have k2 := cell_of_block (k := 0) (HS.out.blockAt 2 rfl) rfl
    obtain ⟨c1, b1⟩ := ret_store HS.out (HS.out.blockAt 2 rfl) (by omega) (.bool true)
    gi_wp2_with fail
    refine ⟨.bool true, by simp [results, Try.results7, go_sem, c1], rfl, b1⟩
  | true =>
    obtain ⟨p, rfl, hcp⟩ := HV.out.1 rfl
    have HC := Lib.hid hcp
    clear hcp HV
    repeat ((fail_if_success (with_reducible refine stop_atI (id := 4) ?_)); (first | go_values | gi_guarded | gi_step | gi_upon | gi_back | (simp only [Int.not_lt, Int.not_le] at *; go_simp) | (go_values <;> (try go_simp)) | (go_ite <;> go_prune <;> (try go_simp)) | (split <;> (first | (rename_i hx; exact (hx _ rfl).elim) | go_prune))))
    have hs_ := HS.out.alloc (.cells #[.pointer (some ⟨p, 0, none⟩)] 27)
    have hk_HC := HC.out.below ((Below.refl _ _).alloc (Nat.le_refl _) (.cells #[.pointer (some ⟨p, 0, none⟩)] 27))
    obtain ⟨w40, hw_⟩ : ∃ w40 : World, w3.alloc (.cells #[.pointer (some ⟨p, 0, none⟩)] 27) = w40 := ⟨_, rfl⟩
    rw [hw_] at hs_ hk_HC
    have HS := Lib.hid hs_
    have HC := Lib.hid hk_HC
    rw [hw_]
    clear hw_ hs_ hk_HC
    have hs_ := HS.out.alloc (.cells #[.int .i64 wide, .int .i64 high, .slice a3 us.length c3] 24)
    have hk_HC := HC.out.below ((Below.refl _ _).alloc (Nat.le_refl _) (.cells #[.int .i64 wide, .int .i64 high, .slice a3 us.length c3] 24))
    obtain ⟨w4, hw_⟩ : ∃ w4 : World, w40.alloc (.cells #[.int .i64 wide, .int .i64 high, .slice a3 us.length c3] 24) = w4 := ⟨_, rfl⟩
    rw [hw_] at hs_ hk_HC
    have HS := Lib.hid hs_
    have HC := Lib.hid hk_HC
    rw [hw_]
    clear hw_ hs_ hk_HC
    repeat ((fail_if_success (with_reducible refine stop_atI (id := 6) ?_)); (first | go_values | gi_guarded | gi_step | gi_upon | gi_back | (simp only [Int.not_lt, Int.not_le] at *; go_simp) | (go_values <;> (try go_simp)) | (go_ite <;> go_prune <;> (try go_simp)) | (split <;> (first | (rename_i hx; exact (hx _ rfl).elim) | go_prune))))
    apply wp_region_vals 12 (Rl := [(eqv _), (eqv _), (eqv _), (eqv _), (eqv _), (eqv _), (eqv _), (eqv _), (eqv _), (eqv _), (eqv _), (eqv _)]) (C := (fun x y => Below x.heap.size x y))
    case hm => kernel_rfl
    case hk => rfl
    case hCr => exact (fun _ => Below.refl _ _)
    case hCt => intro _ _ _; exact (fun h k => grows_trans h k)
    case hst => exact ⟨fun _ _ _ _ h => h, fun _ _ _ _ h => h, fun _ _ _ _ h => h, fun _ _ _ _ h => h, fun _ _ _ _ h => h, fun _ _ _ _ h => h, fun _ _ _ _ h => h, fun _ _ _ _ h => h, fun _ _ _ _ h => h, fun _ _ _ _ h => h, fun _ _ _ _ h => h, fun _ _ _ _ h => h, trivial⟩
    case hfo => kernel_rfl
    case ht => kernel_rfl
    case hC0 => exact (grows_drew _)
    case hsteps =>
      refine ⟨?_, ?_, ?_, ?_, ?_, ?_, ?_, ?_, ?_, ?_, ?_, ?_, trivial⟩
      · -- 0
        intro a' w' hA hC hD
        have s5 : a'.tmps[5]? = some _ := (hA.at 5 (by kernel_rfl)).trans rfl
        clear hA hD
        refine stepOk_plain rfl ?_
        intro K hK
        gi_wp2
        exact hK _ _ rfl ((fun _ => Below.refl _ _) _)
      · -- 1
        intro a' w' hA hC hD
        obtain ⟨u42, s42, r42⟩ := hD ⟨0, .data⟩ (by simp) rfl _ rfl
        replace r42 : u42 = _ := r42
        subst r42
        have h1_ := (HS.out.below hC).blockAt 3 rfl; have c1_0 := cell_of_block (k := 0) h1_ rfl; clear h1_
        clear hA hD
        refine stepOk_plain rfl ?_
        intro K hK
        gi_wp2
        exact hK _ _ rfl ((fun _ => Below.refl _ _) _)
      · -- 2
        intro a' w' hA hC hD
        have s5 : a'.tmps[5]? = some _ := (hA.at 5 (by kernel_rfl)).trans rfl
        clear hA hD
        refine stepOk_plain rfl ?_
        intro K hK
        gi_wp2
        exact hK _ _ rfl ((fun _ => Below.refl _ _) _)
      · -- 3
        intro a' w' hA hC hD
        obtain ⟨u44, s44, r44⟩ := hD ⟨2, .data⟩ (by simp) rfl _ rfl
        replace r44 : u44 = _ := r44
        subst r44
        have h1_ := (HS.out.below hC).blockAt 3 rfl; have c1_0 := cell_of_block (k := 0) h1_ rfl; have c1_1 := cell_of_block (k := 1) h1_ rfl; clear h1_
        clear hA hD
        refine stepOk_plain rfl ?_
        intro K hK
        gi_wp2
        exact hK _ _ rfl ((fun _ => Below.refl _ _) _)
      · -- 4
        intro a' w' hA hC hD
        obtain ⟨u43, s43, r43⟩ := hD ⟨1, .data⟩ (by simp) rfl _ rfl
        replace r43 : u43 = _ := r43
        subst r43
        obtain ⟨u45, s45, r45⟩ := hD ⟨3, .data⟩ (by simp) rfl _ rfl
        replace r45 : u45 = _ := r45
        subst r45
        clear hA hD
        refine stepOk_plain rfl ?_
        intro K hK
        gi_wp2
        exact hK _ _ rfl ((fun _ => Below.refl _ _) _)
      · -- 5
        intro a' w' hA hC hD
        have s5 : a'.tmps[5]? = some _ := (hA.at 5 (by kernel_rfl)).trans rfl
        clear hA hD
        refine stepOk_plain rfl ?_
        intro K hK
        gi_wp2
        exact hK _ _ rfl ((fun _ => Below.refl _ _) _)
      · -- 6
        intro a' w' hA hC hD
        obtain ⟨u47, s47, r47⟩ := hD ⟨5, .data⟩ (by simp) rfl _ rfl
        replace r47 : u47 = _ := r47
        subst r47
        have h1_ := (HS.out.below hC).blockAt 3 rfl; have c1_0 := cell_of_block (k := 0) h1_ rfl; clear h1_
        clear hA hD
        refine stepOk_plain rfl ?_
        intro K hK
        gi_wp2
        exact hK _ _ rfl ((fun _ => Below.refl _ _) _)
      · -- 7
        intro a' w' hA hC hD
        have s5 : a'.tmps[5]? = some _ := (hA.at 5 (by kernel_rfl)).trans rfl
        clear hA hD
        refine stepOk_plain rfl ?_
        intro K hK
        gi_wp2
        exact hK _ _ rfl ((fun _ => Below.refl _ _) _)
      · -- 8
        intro a' w' hA hC hD
        obtain ⟨u49, s49, r49⟩ := hD ⟨7, .data⟩ (by simp) rfl _ rfl
        replace r49 : u49 = _ := r49
        subst r49
        have h1_ := (HS.out.below hC).blockAt 3 rfl; have c1_0 := cell_of_block (k := 0) h1_ rfl; have c1_1 := cell_of_block (k := 1) h1_ rfl; clear h1_
        clear hA hD
        refine stepOk_plain rfl ?_
        intro K hK
        gi_wp2
        exact hK _ _ rfl ((fun _ => Below.refl _ _) _)
      · -- 9
        intro a' w' hA hC hD
        obtain ⟨u48, s48, r48⟩ := hD ⟨6, .data⟩ (by simp) rfl _ rfl
        replace r48 : u48 = _ := r48
        subst r48
        obtain ⟨u50, s50, r50⟩ := hD ⟨8, .data⟩ (by simp) rfl _ rfl
        replace r50 : u50 = _ := r50
        subst r50
        clear hA hD
        refine stepOk_plain rfl ?_
        intro K hK
        gi_wp2
        exact hK _ _ rfl ((fun _ => Below.refl _ _) _)
      · -- 10
        intro a' w' hA hC hD
        obtain ⟨u46, s46, r46⟩ := hD ⟨4, .data⟩ (by simp) rfl _ rfl
        replace r46 : u46 = _ := r46
        subst r46
        clear hA hD
        refine stepOk_plain rfl ?_
        intro K hK
        gi_wp2
        exact hK _ _ rfl ((fun _ => Below.refl _ _) _)
      · -- 11
        intro a' w' hA hC hD
        obtain ⟨u51, s51, r51⟩ := hD ⟨9, .data⟩ (by simp) rfl _ rfl
        replace r51 : u51 = _ := r51
        subst r51
        clear hA hD
        refine stepOk_plain rfl ?_
        intro K hK
        gi_wp2
        exact hK _ _ rfl ((fun _ => Below.refl _ _) _)
    case hend =>
      intro w5 hC
      simp only [EndFrom, eqv, forall_eq, Act.put, List.length_cons, List.length_nil, List.drop_succ_cons, List.drop_zero, Nat.reduceAdd, List.setIfInBounds_toArray, List.set_cons_succ, List.set_cons_zero]
      have HS := Lib.hid (HS.out.below hC)
      have HC := Lib.hid (HC.out.below hC)
      clear hC
      have t0 := cell_of_block (k := 0) (HS.out.blockAt 3 rfl) rfl
      have t1 := cell_of_block (k := 1) (HS.out.blockAt 3 rfl) rfl
      repeat ((fail_if_success (with_reducible refine stop_atI (id := 7) ?_)); (first | go_values | gi_guarded | gi_step | gi_upon | gi_back | (simp only [Int.not_lt, Int.not_le] at *; go_simp) | (go_values <;> (try go_simp)) | (go_ite <;> go_prune <;> (try go_simp)) | (split <;> (first | (rename_i hx; exact (hx _ rfl).elim) | go_prune))))
      clear t0 t1
      obtain ⟨lo, hlo⟩ : ∃ lo, min u0 u1 = lo := ⟨_, rfl⟩
      obtain ⟨hi, hhi⟩ : ∃ hi, max u0 u1 = hi := ⟨_, rfl⟩
      rw [hlo, hhi]
      have HLH := Lib.hid (show lo ≤ hi by omega)
      clear hlo hhi
      have p0 := cell_of_block (k := 0) (HS.out.blockAt 1 rfl) rfl
      have q0 := cell_of_block (k := 0) (HS.out.blockAt 4 rfl) rfl
      have q1 := cell_of_block (k := 1) (HS.out.blockAt 4 rfl) rfl
      gi_wp2_with fail
      clear p0 q0 q1
      refine (callsIn_wide.2 (region_any C p ⟨px, py⟩ lo _ HC.out)).mono ?_
      rintro e w11 ⟨er1, n1, a1, c1, rfl, hb_, he_, hd_⟩
      have HS := Lib.hid ((HS.out.below hb_).addRow he_)
      have HC := Lib.hid (HC.out.below hb_)
      have HD1 := Lib.hid hd_
      have HA1 := Lib.hid (aBlk_lt he_)
      clear hb_ he_ hd_
      have p0 := cell_of_block (k := 0) (HS.out.blockAt 2 rfl) rfl
      have q0 := cell_of_block (k := 0) (HS.out.blockAt 5 rfl) rfl
      have q1 := cell_of_block (k := 1) (HS.out.blockAt 5 rfl) rfl
      gi_wp2_with fail
      clear p0 q0 q1
      refine (callsIn_wide.2 (region_any C p ⟨px, py⟩ hi _ HC.out)).mono ?_
      rintro e w12 ⟨er2, n2, a2, c2, rfl, hb_, he_, hd_⟩
      have HS := Lib.hid ((HS.out.below hb_).addRow he_)
      have HC := Lib.hid (HC.out.below hb_)
      have HD2 := Lib.hid hd_
      have HA2 := Lib.hid (aBlk_lt he_)
      clear hb_ he_ hd_
      have p0 := cell_of_block (k := 0) (HS.out.blockAt 3 rfl) rfl
      have q0 := cell_of_block (k := 0) (HS.out.blockAt 6 rfl) rfl
      have q1 := cell_of_block (k := 1) (HS.out.blockAt 6 rfl) rfl
      gi_wp2_with fail
      clear p0 q0 q1
      refine (callsIn_wide.2 (region_any C p ⟨px, py⟩ 1020 _ HC.out)).mono ?_
      rintro e w13 ⟨er3, n3, a3, c3, rfl, hb_, he_, hd_⟩
      have HS := Lib.hid ((HS.out.below hb_).addRow he_)
      have HC := Lib.hid (HC.out.below hb_)
      have HD3 := Lib.hid hd_
      have HA3 := Lib.hid (aBlk_lt he_)
      clear hb_ he_ hd_
      have p0 := cell_of_block (k := 0) (HS.out.blockAt 4 rfl) rfl
      have q0 := cell_of_block (k := 0) (HS.out.blockAt 7 rfl) rfl
      have q1 := cell_of_block (k := 1) (HS.out.blockAt 7 rfl) rfl
      gi_wp2_with fail
      clear p0 q0 q1
      refine (callsIn_wide.2 (region_any C p ⟨px, py⟩ 0 _ HC.out)).mono ?_
      rintro e w14 ⟨er4, n4, a4, c4, rfl, hb_, he_, hd_⟩
      have HS := Lib.hid ((HS.out.below hb_).addRow he_)
      have HC := Lib.hid (HC.out.below hb_)
      have HD4 := Lib.hid hd_
      have HA4 := Lib.hid (aBlk_lt he_)
      clear hb_ he_ hd_
      repeat ((fail_if_success (with_reducible refine stop_atI (id := 11) ?_)); (first | go_values | gi_guarded | gi_step | gi_upon | gi_back | (simp only [Int.not_lt, Int.not_le] at *; go_simp) | (go_values <;> (try go_simp)) | (go_ite <;> go_prune <;> (try go_simp)) | (split <;> (first | (rename_i hx; exact (hx _ rfl).elim) | go_prune))))
      have hs_ := HS.out.alloc (.cells #[.slice a4 n4 c4] 38)
      have hk_HC := HC.out.below ((Below.refl _ _).alloc (Nat.le_refl _) (.cells #[.slice a4 n4 c4] 38))
      obtain ⟨w15, hw_⟩ : ∃ w15 : World, w14.alloc (.cells #[.slice a4 n4 c4] 38) = w15 := ⟨_, rfl⟩
      rw [hw_] at hs_ hk_HC
      have HS := Lib.hid hs_
      have HC := Lib.hid hk_HC
      rw [hw_]
      clear hw_ hs_ hk_HC
      rcases HD1.out with ⟨hb1, rfl, hl1⟩ | ⟨hb1, hne1, rfl⟩
      · rcases HD2.out with ⟨hb2, rfl, hl2⟩ | ⟨hb2, hne2, rfl⟩
        · have hon := (begB_on hb1).1
          have hb3 : begB C ⟨px, py⟩ 1020 = true := by unfold begB; rw [hon]; decide
          have hb4 : begB C ⟨px, py⟩ 0 = true := by unfold begB; rw [hon]; decide
          obtain ⟨rfl, hl3⟩ : er3 = 0 ∧ (regL (placesL C ⟨px, py⟩ 1020)).length = n3 := by
            rcases HD3.out with ⟨_, h1, h2⟩ | ⟨h, _⟩
            · exact ⟨h1, h2⟩
            · rw [hb3] at h
              cases h
          obtain ⟨rfl, hl4⟩ : er4 = 0 ∧ (regL (placesL C ⟨px, py⟩ 0)).length = n4 := by
            rcases HD4.out with ⟨_, h1, h2⟩ | ⟨h, _⟩
            · exact ⟨h1, h2⟩
            · rw [hb4] at h
              cases h
          have hs := HS.out
          rw [if_pos hb1, if_pos hb2, if_pos hb3, if_pos hb4] at hs
          have HS := Lib.hid hs
          have HB := Lib.hid (And.intro hb1 (And.intro hb2 (And.intro hb3 hb4)))
          have HL := Lib.hid (And.intro hl1 (And.intro hl2 (And.intro hl3 hl4)))
          have HON := Lib.hid hon
          have HCK := Lib.hid HC.out.ok
          clear hs hb1 hb2 hb3 hb4 hl1 hl2 hl3 hl4 hon HD1 HD2 HD3 HD4
          have p0 := cell_of_block (k := 0) (HS.out.blockAt 6 rfl) rfl
          gi_wp2_with fail
          clear p0
          refine (callsIn_wide.2 (size_any C p _ HC.out)).mono ?_
          rintro e w16 ⟨rfl, hb_⟩
          have HS := Lib.hid (HS.out.below hb_)
          have HC := Lib.hid (HC.out.below hb_)
          clear hb_
          repeat ((fail_if_success (with_reducible refine stop_atI (id := 14) ?_)); (first | go_values | gi_guarded | gi_step | gi_upon | gi_back | (simp only [Int.not_lt, Int.not_le] at *; go_simp) | (go_values <;> (try go_simp)) | (go_ite <;> go_prune <;> (try go_simp)) | (split <;> (first | (rename_i hx; exact (hx _ rfl).elim) | go_prune))))
          gi_wp2_with fail
          have hs_ := HS.out.alloc (.cells #[.slice a1 n1 c1, .slice a2 n2 c2] 38)
          have hk_HC := HC.out.below ((Below.refl _ _).alloc (Nat.le_refl _) (.cells #[.slice a1 n1 c1, .slice a2 n2 c2] 38))
          obtain ⟨w17, hw_⟩ : ∃ w17 : World, w16.alloc (.cells #[.slice a1 n1 c1, .slice a2 n2 c2] 38) = w17 := ⟨_, rfl⟩
          rw [hw_] at hs_ hk_HC
          have HS := Lib.hid hs_
          have HC := Lib.hid hk_HC
          rw [hw_]
          clear hw_ hs_ hk_HC
          have hrr : RowsR w17 (some ⟨w16.heap.size, 0, none⟩) [regL (placesL C ⟨px, py⟩ lo), regL (placesL C ⟨px, py⟩ hi)] := by
            intro k l hk
            rcases k with _ | _ | k
            · simp only [List.getElem?_cons_zero, Option.some.injEq] at hk
              subst hk
              rw [HL.out.1]
              exact ⟨_, 0, _, _, rfl, HS.out.lt 0 rfl, cell_of_block (HS.out.blockAt 0 rfl) rfl, HS.out.elems 5 rfl⟩
            · simp only [List.getElem?_cons_succ, List.getElem?_cons_zero, Option.some.injEq] at hk
              subst hk
              rw [HL.out.2.1]
              exact ⟨_, 0, _, _, rfl, HS.out.lt 0 rfl, cell_of_block (HS.out.blockAt 0 rfl) rfl, HS.out.elems 4 rfl⟩
            · simp at hk
          refine (callsIn_wide.2 (union_regs C ⟨px, py⟩ lo hi HCK.out HB.out.1 HLH.out n2 HL.out.2.1 _ _ _ hrr)).mono ?_
          rintro e w18 ⟨-, a18, c18, rfl, he_, hb_⟩
          have HS := Lib.hid ((HS.out.below hb_).addRow he_)
          have HC := Lib.hid (HC.out.below hb_)
          clear hb_ he_
          clear hrr
          gi_wp2_with fail
          have hn2 : n2 ≤ 1000000000 := by
            have := regL_len (placesL C ⟨px, py⟩ hi)
            have := placesL_len HCK.out ⟨px, py⟩ hi
            have := HL.out.2.1
            omega
          refine (callsIn_wide.2 (eqS_same _ _ _ n2 HL.out.2.1 _ (HS.out.elems 0 rfl) (HS.out.elems 5 rfl) hn2)).mono ?_
          rintro e w19 ⟨rfl, hb_⟩
          have HS := Lib.hid (HS.out.below hb_)
          have HC := Lib.hid (HC.out.below hb_)
          clear hb_
          clear hn2
          gi_wp2_with fail
          have hal : (allL (regL (placesL C ⟨px, py⟩ 1020))).length = 8 * C.high * (8 * C.wide) := by
            rw [region_allL HCK.out]
            exact places_all HCK.out HON.out
          have hn3 : n3 ≤ 1000000000 := by
            have := regL_len (placesL C ⟨px, py⟩ 1020)
            have := placesL_len HCK.out ⟨px, py⟩ 1020
            have := HL.out.2.2.1
            omega
          have hwd : 0 ≤ (C.wide : Int) ∧ (C.wide : Int) ≤ 4 ∧ 0 ≤ (C.high : Int) ∧ (C.high : Int) ≤ 4 := by
            have := HCK.out.wide
            have := HCK.out.high
            omega
          have hal2 : ((allL (regL (placesL C ⟨px, py⟩ 1020))).length : Int) = 8 * (C.wide : Int) * (8 * (C.high : Int)) := by
            rw [hal]
            push_cast
            rw [Int.mul_comm]
          have hmul : wrap64 (8 * (C.wide : Int) * (8 * (C.high : Int))) = 8 * (C.wide : Int) * (8 * (C.high : Int)) := by
            rw [← hal2, region_allL HCK.out]
            have := placesL_len HCK.out ⟨px, py⟩ 1020
            unfold wrap64
            omega
          have HCNT := Lib.hid (fun a' c' w' h => count_any a' n3 c' _ HL.out.2.2.1 hn3 w' h (by rw [region_allL HCK.out]; have := placesL_len HCK.out ⟨px, py⟩ 1020; omega))
          rw [hal2] at HCNT
          clear hal hn3 hal2 hwd
          refine (callsIn_wide.2 (HCNT.out _ _ _ (HS.out.elems 4 rfl))).mono ?_
          rintro e w20 ⟨rfl, hb_⟩
          have HS := Lib.hid (HS.out.below hb_)
          have HC := Lib.hid (HC.out.below hb_)
          clear hb_
          repeat ((fail_if_success (with_reducible refine stop_atI (id := 17) ?_)); (first | go_values | gi_guarded | gi_step | gi_upon | gi_back | (simp only [Int.not_lt, Int.not_le] at *; go_simp) | (go_values <;> (try go_simp)) | (go_ite <;> go_prune <;> (try go_simp)) | (split <;> (first | (rename_i hx; exact (hx _ rfl).elim) | go_prune))))
          have p0 := cell_of_block (k := 0) (HS.out.blockAt 8 rfl) rfl
          have q0 := cell_of_block (k := 0) (HS.out.blockAt 11 rfl) rfl
          have q1 := cell_of_block (k := 1) (HS.out.blockAt 11 rfl) rfl
          gi_wp2_with fail
          clear p0 q0 q1
          refine (callsIn_wide.2 (at_onP C p ⟨px, py⟩ HON.out _ HC.out)).mono ?_
          rintro e w21 ⟨rfl, hb_⟩
          have HS := Lib.hid (HS.out.below hb_)
          have HC := Lib.hid (HC.out.below hb_)
          clear hb_
          obtain ⟨cl, hcl⟩ : ∃ cl, colP C ⟨px, py⟩ = cl := ⟨_, rfl⟩
          rw [hcl]
          have HCL := Lib.hid hcl
          clear hcl
          obtain ⟨cr, cg, cb, ca⟩ := cl
          unfold ColT.val
          simp only
          have HK := Lib.hid (show Kp w21 w21 from Below.refl _ _)
          have HC21 := HC
          repeat ((fail_if_success (with_reducible refine stop_atI (id := 18) ?_)); (first | go_values | gi_guarded | gi_step | gi_upon | gi_back | (simp only [Int.not_lt, Int.not_le] at *; go_simp) | (go_values <;> (try go_simp)) | (go_ite <;> go_prune <;> (try go_simp)) | (split <;> (first | (rename_i hx; exact (hx _ rfl).elim) | go_prune))))
          have hs_ := HS.out.alloc (.cells #[.int .u8 cr, .int .u8 cg, .int .u8 cb, .int .u8 ca] 62)
          have hk_HC := HC.out.below ((Below.refl _ _).alloc (Nat.le_refl _) (.cells #[.int .u8 cr, .int .u8 cg, .int .u8 cb, .int .u8 ca] 62))
          have hk_HK := HK.out.below ((Below.refl _ _).alloc (Nat.le_refl _) (.cells #[.int .u8 cr, .int .u8 cg, .int .u8 cb, .int .u8 ca] 62))
          obtain ⟨w22, hw_⟩ : ∃ w22 : World, w21.alloc (.cells #[.int .u8 cr, .int .u8 cg, .int .u8 cb, .int .u8 ca] 62) = w22 := ⟨_, rfl⟩
          rw [hw_] at hs_ hk_HC hk_HK
          have HS := Lib.hid hs_
          have HC := Lib.hid hk_HC
          have HK := Lib.hid hk_HK
          rw [hw_]
          clear hw_ hs_ hk_HC hk_HK
          repeat ((fail_if_success (with_reducible refine stop_atI (id := 19) ?_)); (first | go_values | gi_guarded | gi_step | gi_upon | gi_back | (simp only [Int.not_lt, Int.not_le] at *; go_simp) | (go_values <;> (try go_simp)) | (go_ite <;> go_prune <;> (try go_simp)) | (split <;> (first | (rename_i hx; exact (hx _ rfl).elim) | go_prune))))
          have hs_ := HS.out.alloc (.cells #[.int .i64 0] 3)
          have hk_HC := HC.out.below ((Below.refl _ _).alloc (Nat.le_refl _) (.cells #[.int .i64 0] 3))
          have hk_HK := HK.out.below ((Below.refl _ _).alloc (Nat.le_refl _) (.cells #[.int .i64 0] 3))
          obtain ⟨w23, hw_⟩ : ∃ w23 : World, w22.alloc (.cells #[.int .i64 0] 3) = w23 := ⟨_, rfl⟩
          rw [hw_] at hs_ hk_HC hk_HK
          have HS := Lib.hid hs_
          have HC := Lib.hid hk_HC
          have HK := Lib.hid hk_HK
          rw [hw_]
          clear hw_ hs_ hk_HC hk_HK
          have s0 := cell_of_block (k := 0) (HS.out.blockAt 4 rfl) rfl
          gi_wp2_with fail
          clear s0
          refine (callsIn_wide.2 (all_any a4 n4 c4 w23)).mono ?_
          rintro e w' ⟨rfl, rfl⟩
          have hs_ := HS.out.alloc (.cells #[.slice a4 n4 c4] 38)
          have hk_HC := HC.out.below ((Below.refl _ _).alloc (Nat.le_refl _) (.cells #[.slice a4 n4 c4] 38))
          have hk_HK := HK.out.below ((Below.refl _ _).alloc (Nat.le_refl _) (.cells #[.slice a4 n4 c4] 38))
          obtain ⟨w24, hw_⟩ : ∃ w24 : World, w23.alloc (.cells #[.slice a4 n4 c4] 38) = w24 := ⟨_, rfl⟩
          rw [hw_] at hs_ hk_HC hk_HK
          have HS := Lib.hid hs_
          have HC := Lib.hid hk_HC
          have HK := Lib.hid hk_HK
          rw [hw_]
          clear hw_ hs_ hk_HC hk_HK
          have hz24 : w23.heap.size < w24.heap.size := HS.out.lt 0 rfl
          gi_wp2_with fail
          have hord := HS.out.ord
          simp only [ItOrd, It.top, List.mem_cons, forall_eq_or_imp, List.not_mem_nil, false_implies, implies_true, and_true] at hord
          have hz14 : w14.heap.size < w22.heap.size ∧ w22.heap.size < w23.heap.size ∧ w14.heap.size < w24.heap.size ∧ w21.heap.size < w22.heap.size ∧ w.heap.size + 1 + 1 + 1 < w14.heap.size := by omega
          have hww : w.heap.size ≤ w24.heap.size := HS.out.size
          clear hord
          have hbs : ∀ c ∈ w23.heap.size :: aBlk a4, c < w24.heap.size := by
            intro c hc
            rcases List.mem_cons.1 hc with rfl | hc
            · exact hz24
            · have := HA4.out c hc
              omega
          have hnb : w22.heap.size ∉ w23.heap.size :: aBlk a4 := by
            intro hc
            rcases List.mem_cons.1 hc with e | hc
            · omega
            · have := HA4.out _ hc
              omega
          obtain ⟨A, hA⟩ : ∃ A, allL (regL (placesL C ⟨px, py⟩ 0)) = A := ⟨_, rfl⟩
          have hn4 : n4 ≤ 1000000 := by
            have := regL_len (placesL C ⟨px, py⟩ 0)
            have := placesL_len HCK.out ⟨px, py⟩ 0
            have := HL.out.2.2.2
            omega
          have hAin : ∀ i (h : i < A.length), InReg C ⟨px, py⟩ 0 A[i] := fun i h => (region_has C ⟨px, py⟩ 0 A[i]).1 (mem_ptsL.1 (by rw [← allL_right (region_right HCK.out ⟨px, py⟩ 0), hA]; exact List.getElem_mem _))
          have hAle : A.length ≤ 1024 := by
            rw [← hA, region_allL HCK.out]
            exact placesL_len HCK.out _ _
          have HAI := Lib.hid hAin
          have HAL := Lib.hid hAle
          have hit := all_iter (fun _ _ => False) w24 (ownSt_none _) (fun _ h => h.elim) w23.heap.size (w23.heap.size :: aBlk a4) a4 n4 c4 _ HL.out.2.2.2 (by omega) A hA hbs (by simp) (fun b off e => List.mem_cons_of_mem _ (aBlk_mem e)) (cell_of_block (HS.out.blockAt 0 rfl) rfl) (HS.out.elems 6 rfl)
          have HN4 := Lib.hid hn4
          clear hAin hAle hA hn4
          have hst := HS.out.sub (its' := [.blk w23.heap.size (.cells #[.slice a4 n4 c4] 38 (0, 0)), .blk w22.heap.size (.cells #[.int .i64 0] 3 (0, 0)), .blk w21.heap.size (.cells #[.int .u8 cr, .int .u8 cg, .int .u8 cb, .int .u8 ca] 62 (0, 0)), .blk w14.heap.size (.cells #[.slice a4 n4 c4] 38 (0, 0)), .row (.slice a4 n4 c4) n4 3 (rowC encS (regL (placesL C ⟨px, py⟩ 0))) w14.heap.size, .blk w3.heap.size (.cells #[.pointer (some ⟨p, 0, none⟩)] 27 (0, 0)), .blk (w.heap.size + 1 + 1 + 1) (.cells #[.bool false] 4 (0, 0)), .blk (w.heap.size + 1) (.cells #[.int .i64 px, .int .i64 py] 49 (0, 0))]) (.cons_cons _ (.cons_cons _ (.cons_cons _ (.cons _ (.cons _ (.cons_cons _ (.cons_cons _ (.cons _ (.cons _ (.cons _ (.cons _ (.cons_cons _ (.cons_cons _ (.cons _ (.cons_cons _ (List.nil_sublist _))))))))))))))))
          have hst2 := (St.start w21).below HK.out
          have HTOP := Lib.hid (show ∀ (k : Int), ∀ i ∈ ([.blk w23.heap.size (.cells #[.slice a4 n4 c4] 38 (0, 0)), .blk w22.heap.size (.cells #[.int .i64 k] 3 (0, 0)), .blk w21.heap.size (.cells #[.int .u8 cr, .int .u8 cg, .int .u8 cb, .int .u8 ca] 62 (0, 0)), .blk w14.heap.size (.cells #[.slice a4 n4 c4] 38 (0, 0)), .row (.slice a4 n4 c4) n4 3 (rowC encS (regL (placesL C ⟨px, py⟩ 0))) w14.heap.size, .blk w3.heap.size (.cells #[.pointer (some ⟨p, 0, none⟩)] 27 (0, 0)), .blk (w.heap.size + 1 + 1 + 1) (.cells #[.bool false] 4 (0, 0)), .blk (w.heap.size + 1) (.cells #[.int .i64 px, .int .i64 py] 49 (0, 0))] : List It), i.top ≤ w24.heap.size by
            intro k i hi
            have l1 := HS.out.lt 1 rfl
            have l2 := HS.out.lt 2 rfl
            have l11 := HS.out.lt 11 rfl
            have l12 := HS.out.lt 12 rfl
            have l14 := HS.out.lt 14 rfl
            simp only [List.mem_cons, List.not_mem_nil, or_false] at hi
            rcases hi with rfl | rfl | rfl | rfl | rfl | rfl | rfl | rfl <;> (simp only [It.top]; omega))
          have HZ := Lib.hid (And.intro hz14 (And.intro hz24 hww))
          clear HS HC HK
          apply with_actIn
          intro a0 ha0
          refine range_iterO hit (by omega) (ownSt_none _) (by rw [ha0]; rfl) (enters_of Try.func68 (by kernel_rfl) rfl) hbs (fun _ => rfl) (fun x => [(147, (A[x.1]).val)]) (fun _ => by simp)
            (fun pre W => St w [.blk w23.heap.size (.cells #[.slice a4 n4 c4] 38 (0, 0)), .blk w22.heap.size (.cells #[.int .i64 (pre.length : Int)] 3 (0, 0)), .blk w21.heap.size (.cells #[.int .u8 cr, .int .u8 cg, .int .u8 cb, .int .u8 ca] 62 (0, 0)), .blk w14.heap.size (.cells #[.slice a4 n4 c4] 38 (0, 0)), .row (.slice a4 n4 c4) n4 3 (rowC encS (regL (placesL C ⟨px, py⟩ 0))) w14.heap.size, .blk w3.heap.size (.cells #[.pointer (some ⟨p, 0, none⟩)] 27 (0, 0)), .blk (w.heap.size + 1 + 1 + 1) (.cells #[.bool false] 4 (0, 0)), .blk (w.heap.size + 1) (.cells #[.int .i64 px, .int .i64 py] 49 (0, 0))] W ∧ St w21 [] W ∧ w24.heap.size ≤ W.heap.size)
            (fun _ _ _ => False) (OwnFrom.and (ownFrom_St (w0 := w) (fun (pre : List (Fin A.length)) => [.blk w23.heap.size (.cells #[.slice a4 n4 c4] 38 (0, 0)), .blk w22.heap.size (.cells #[.int .i64 (pre.length : Int)] 3 (0, 0)), .blk w21.heap.size (.cells #[.int .u8 cr, .int .u8 cg, .int .u8 cb, .int .u8 ca] 62 (0, 0)), .blk w14.heap.size (.cells #[.slice a4 n4 c4] 38 (0, 0)), .row (.slice a4 n4 c4) n4 3 (rowC encS (regL (placesL C ⟨px, py⟩ 0))) w14.heap.size, .blk w3.heap.size (.cells #[.pointer (some ⟨p, 0, none⟩)] 27 (0, 0)), .blk (w.heap.size + 1 + 1 + 1) (.cells #[.bool false] 4 (0, 0)), .blk (w.heap.size + 1) (.cells #[.int .i64 px, .int .i64 py] 49 (0, 0))]) hww (by intro s b o hb; simp at hb; rcases hb with ⟨_, rfl⟩ | ⟨_, rfl⟩ | ⟨_, rfl⟩ | ⟨_, rfl⟩ | ⟨_, rfl⟩ | ⟨_, rfl⟩ | ⟨_, rfl⟩ <;> rfl)) (OwnFrom.and (ownFrom_St (w0 := w21) (fun (_ : List (Fin A.length)) => []) hst2.size (by simp)) (ownFrom_size _))) (fun _ => ownFrom_pure _ _) ⟨hst, hst2, Nat.le_refl _⟩
            (fun x a' W => ∃ p, a' = loopAct a0 [(147, (A[x.1]).val), (27, .pointer (some ⟨p, 0, none⟩))] ∧ w24.heap.size ≤ p ∧ W.heap[p]? = some (.cells #[.int .i64 (A[x.1]).x, .int .i64 (A[x.1]).y] 49 (0, 0))) ?hAx ?assign ?body ?done ?stop
          case hAx =>
            rintro x a' s X Y row ⟨p, e, hge, hp⟩ hg hr
            exact ⟨p, e, hge, (grownBy_keeps_cells hg (fun r e => (hr r e).2) hp rfl).trans hp⟩
          case assign =>
            rintro ly pre x W K ⟨hI, hI2, hlt5⟩ hK
            have HK := Lib.hid hK
            have HI := Lib.hid hI
            have HI2 := Lib.hid hI2
            clear hK hI hI2
            rw [ha0] at HK ⊢
            unfold loopAct at HK ⊢
            simp only [PtT.val, List.foldl, List.setIfInBounds_toArray, List.set_cons_succ, List.set_cons_zero] at HK ⊢
            gi_wp2
            have hb := (Below.refl W.heap.size W).alloc (Nat.le_refl _) (.cells #[.int .i64 (A[x.1]).x, .int .i64 (A[x.1]).y] 49)
            exact HK.out _ _ (keepsFrom_below hb) (KO.of_below (ownSt_none _) hb hlt5 (fun c hc => Nat.lt_of_lt_of_le (hbs c hc) hlt5)) ⟨HI.out.below hb, HI2.out.below hb, Nat.le_trans hlt5 hb.size⟩ ⟨W.heap.size, rfl, hlt5, World.alloc_heap_new W _⟩
          case body =>
            rintro ly pre x a' W ⟨hI, hI2, hlt5⟩ ⟨p', rfl, hpp, hp⟩ hlen
            rw [ha0]
            unfold loopAct
            have hin := HAI.out x.1 x.2
            obtain ⟨q, hq⟩ : ∃ q, A[x.1] = q := ⟨_, rfl⟩
            rw [hq] at hp hin ⊢
            have hqc := (hin.color0 HCK.out HON.out).trans HCL.out
            have hqr := region_same HCK.out HON.out hin
            have hqb : begB C q 0 = true := by
              unfold begB
              rw [hin.1]
              decide
            have HQ := Lib.hid (And.intro hin.1 (And.intro hqc (And.intro hqr hqb)))
            have hln : (pre ++ [x]).length = pre.length + 1 := by simp
            obtain ⟨cn, hcn⟩ : ∃ cn, pre.length = cn := ⟨_, rfl⟩
            rw [hcn] at hI hlen hln
            have HLN := Lib.hid (And.intro hln (show cn < 1024 by have := HAL.out; omega))
            clear hin hqc hqr hqb hq hln hcn hlen
            obtain ⟨qx, qy⟩ := q
            simp only [PtT.val, List.foldl, List.setIfInBounds_toArray, List.set_cons_succ, List.set_cons_zero] at hp ⊢
            have HS := Lib.hid (hI.addC hp (fun i hi => Nat.le_trans (HTOP.out _ i hi) hpp) (Nat.le_trans HZ.out.2.2 hpp))
            have HC := Lib.hid (HC21.out.below hI2.low)
            have H21 := Lib.hid hI2
            have HK := Lib.hid (show Kp W W from Below.refl _ _)
            clear hI hI2 hp hpp
            have g0 := cell_of_block (k := 0) (HS.out.blockAt 6 rfl) rfl
            have q0 := cell_of_block (k := 0) (HS.out.blockAt 0 rfl) rfl
            have q1 := cell_of_block (k := 1) (HS.out.blockAt 0 rfl) rfl
            gi_wp2_with fail
            clear g0 q0 q1
            refine ((callsIn_wide.2 (at_is (p := ⟨qx, qy⟩) HQ.out.1 HQ.out.2.1 W HC.out)).inRound ly).mono ?_
            rintro e W2 ⟨rfl, hb_⟩
            have HS := Lib.hid (HS.out.below hb_)
            have HC := Lib.hid (HC.out.below hb_)
            have H21 := Lib.hid (H21.out.below hb_)
            have HK := Lib.hid (HK.out.below hb_)
            clear hb_
            repeat ((fail_if_success (with_reducible refine stop_atI (id := 22) ?_)); (first | go_values | gi_guarded | gi_step | gi_upon | gi_back | (simp only [Int.not_lt, Int.not_le] at *; go_simp) | (go_values <;> (try go_simp)) | (go_ite <;> go_prune <;> (try go_simp)) | (split <;> (first | (rename_i hx; exact (hx _ rfl).elim) | go_prune))))
            have hs_ := HS.out.alloc (.cells #[.int .u8 cr, .int .u8 cg, .int .u8 cb, .int .u8 ca] 62)
            have hk_HC := HC.out.below ((Below.refl _ _).alloc (Nat.le_refl _) (.cells #[.int .u8 cr, .int .u8 cg, .int .u8 cb, .int .u8 ca] 62))
            have hk_H21 := H21.out.below ((Below.refl _ _).alloc (Nat.le_refl _) (.cells #[.int .u8 cr, .int .u8 cg, .int .u8 cb, .int .u8 ca] 62))
            have hk_HK := HK.out.below ((Below.refl _ _).alloc (Nat.le_refl _) (.cells #[.int .u8 cr, .int .u8 cg, .int .u8 cb, .int .u8 ca] 62))
            obtain ⟨W3, hw_⟩ : ∃ W3 : World, W2.alloc (.cells #[.int .u8 cr, .int .u8 cg, .int .u8 cb, .int .u8 ca] 62) = W3 := ⟨_, rfl⟩
            rw [hw_] at hs_ hk_HC hk_H21 hk_HK
            have HS := Lib.hid hs_
            have HC := Lib.hid hk_HC
            have H21 := Lib.hid hk_H21
            have HK := Lib.hid hk_HK
            rw [hw_]
            clear hw_ hs_ hk_HC hk_H21 hk_HK
            have d0 := cell_of_block (k := 0) (HS.out.blockAt 0 rfl) rfl
            have d1 := cell_of_block (k := 1) (HS.out.blockAt 0 rfl) rfl
            have d2 := cell_of_block (k := 2) (HS.out.blockAt 0 rfl) rfl
            have d3 := cell_of_block (k := 3) (HS.out.blockAt 0 rfl) rfl
            have e0 := cell_of_block (k := 0) (HS.out.blockAt 4 rfl) rfl
            have e1 := cell_of_block (k := 1) (HS.out.blockAt 4 rfl) rfl
            have e2 := cell_of_block (k := 2) (HS.out.blockAt 4 rfl) rfl
            have e3 := cell_of_block (k := 3) (HS.out.blockAt 4 rfl) rfl
            repeat ((fail_if_success (with_reducible refine stop_atI (id := 24) ?_)); (first | go_values | gi_guarded | gi_step | gi_upon | gi_back | (simp only [Int.not_lt, Int.not_le] at *; go_simp) | (go_values <;> (try go_simp)) | (go_ite <;> go_prune <;> (try go_simp)) | (split <;> (first | (rename_i hx; exact (hx _ rfl).elim) | go_prune))))
            clear d0 d1 d2 d3 e0 e1 e2 e3
            have c2 := cell_of_block (k := 0) (HS.out.blockAt 3 rfl) rfl
            have f2 := free_of_block (HS.out.blockAt 3 rfl) 0
            have wk : wrap64 ((cn : Int) + 1) = ((cn + 1 : Nat) : Int) := by have := HLN.out; unfold wrap64; omega
            repeat ((fail_if_success (with_reducible refine stop_atI (id := 25) ?_)); (first | go_values | gi_guarded | gi_step | gi_upon | gi_back | (simp only [Int.not_lt, Int.not_le] at *; go_simp) | (go_values <;> (try go_simp)) | (go_ite <;> go_prune <;> (try go_simp)) | (split <;> (first | (rename_i hx; exact (hx _ rfl).elim) | go_prune))))
            clear c2 f2 wk
            change Code.wpIn _ _ _ _ _ _ (W3.setCell ⟨w22.heap.size, 0, none⟩ (.int .i64 ((cn + 1 : Nat) : Int)))
            have hput := HS.out.putAt (pre := [_, _, _]) (by intro i hi; simp at hi; rcases hi with rfl | rfl | rfl <;> exact ⟨_, _, rfl⟩) 0 (.int .i64 ((cn + 1 : Nat) : Int)) (show (#[Value.int .i64 (cn : Int)] : Array Value).setIfInBounds 0 (.int .i64 ((cn + 1 : Nat) : Int)) = #[.int .i64 ((cn + 1 : Nat) : Int)] from rfl)
            have h21 := (St.start w21).below (H21.out.low.setCell (p := ⟨w22.heap.size, 0, none⟩) (by have := HZ.out; show w21.heap.size ≤ w22.heap.size; omega) (.int .i64 ((cn + 1 : Nat) : Int)))
            have hko : KO (fun _ _ => False) (w23.heap.size :: aBlk a4) w24.heap.size W (W3.setCell ⟨w22.heap.size, 0, none⟩ (.int .i64 ((cn + 1 : Nat) : Int))) := (KO.of_below (ownSt_none _) HK.out hlt5 (fun c hc => Nat.lt_of_lt_of_le (hbs c hc) hlt5)).trans (KO.setCell W3 _ _ _ (by have := HZ.out; omega) hnb)
            have hkf : KeepsFrom w24.heap.size W (W3.setCell ⟨w22.heap.size, 0, none⟩ (.int .i64 ((cn + 1 : Nat) : Int))) := (keepsFrom_below HK.out).trans ((KeepsOthers.setCell W3 _ _).from _)
            have hsz : w24.heap.size ≤ (W3.setCell ⟨w22.heap.size, 0, none⟩ (.int .i64 ((cn + 1 : Nat) : Int))).heap.size := by rw [World.size_setCell]; exact Nat.le_trans hlt5 HK.out.size
            obtain ⟨W4, hW4⟩ : ∃ W4 : World, W3.setCell ⟨w22.heap.size, 0, none⟩ (.int .i64 ((cn + 1 : Nat) : Int)) = W4 := ⟨_, rfl⟩
            rw [hW4] at hput h21 hko hkf hsz ⊢
            have HS := Lib.hid hput
            have H21 := Lib.hid h21
            have HC := Lib.hid (HC21.out.below h21.low)
            have HKO := Lib.hid (And.intro hko (And.intro hkf hsz))
            have HK := Lib.hid (show Kp W4 W4 from Below.refl _ _)
            clear hput h21 hko hkf hsz hW4
            have c2 := cell_of_block (k := 0) (HS.out.blockAt 3 rfl) rfl
            by_cases h6 : ((cn + 1 : Nat) : Int) < 6
            · repeat ((fail_if_success (with_reducible refine stop_atI (id := 26) ?_)); (first | go_values | gi_guarded | gi_step | gi_upon | gi_back | (simp only [Int.not_lt, Int.not_le] at *; go_simp) | (go_values <;> (try go_simp)) | (go_ite <;> go_prune <;> (try go_simp)) | (split <;> (first | (rename_i hx; exact (hx _ rfl).elim) | go_prune))))
              clear c2
              have g0 := cell_of_block (k := 0) (HS.out.blockAt 7 rfl) rfl
              have q0 := cell_of_block (k := 0) (HS.out.blockAt 1 rfl) rfl
              have q1 := cell_of_block (k := 1) (HS.out.blockAt 1 rfl) rfl
              clear h6
              gi_wp2_with fail
              clear g0 q0 q1
              refine ((callsIn_wide.2 (regZero_is (p := ⟨qx, qy⟩) HQ.out.2.2.2 HQ.out.2.2.1 HL.out.2.2.2 W4 HC.out)).inRound ly).mono ?_
              rintro e W5 ⟨a5, c5, rfl, he_, hb_⟩
              have HS := Lib.hid ((HS.out.below hb_).addRow he_)
              have H21 := Lib.hid (H21.out.below hb_)
              have HK := Lib.hid (HK.out.below hb_)
              clear hb_ he_
              have g0 := cell_of_block (k := 0) (HS.out.blockAt 6 rfl) rfl
              gi_wp2_with fail
              clear g0
              refine ((callsIn_wide.2 (eqS_same _ _ _ n4 HL.out.2.2.2 _ (HS.out.elems 0 rfl) (HS.out.elems 7 rfl) (by have := HN4.out; omega))).inRound ly).mono ?_
              rintro e W6 ⟨rfl, hb_⟩
              have HS := Lib.hid (HS.out.below hb_)
              have H21 := Lib.hid (H21.out.below hb_)
              have HK := Lib.hid (HK.out.below hb_)
              clear hb_
              gi_wp2
              refine ⟨HKO.out.2.1.trans (keepsFrom_below HK.out), HKO.out.1.trans (KO.of_below (ownSt_none _) HK.out HKO.out.2.2 (fun c hc => Nat.lt_of_lt_of_le (hbs c hc) HKO.out.2.2)), ?_, H21.out, Nat.le_trans HKO.out.2.2 HK.out.size⟩
              rw [HLN.out.1]
              exact HS.out.sub (.cons _ (.cons _ (.cons _ (List.Sublist.refl _))))
            · gi_wp2
              refine ⟨HKO.out.2.1, HKO.out.1, ?_, H21.out, HKO.out.2.2⟩
              rw [HLN.out.1]
              exact HS.out.sub (.cons _ (.cons _ (List.Sublist.refl _)))
          case done =>
            rintro D W hD ⟨hI, hI2, -⟩ hK
            rw [ha0]
            dsimp only
            have HS := Lib.hid hI
            have HK := Lib.hid hK
            have HHA := Lib.hid (fun w h => flHas_is (C := C) (p := ⟨px, py⟩) (t := 0) HL.out.2.2.2 HN4.out (q := ⟨px, py⟩) ((regHas_iff HCK.out).2 ⟨HON.out, by rw [metC_self HCK.out HON.out (Int.le_refl 0)]; omega⟩) a4 c4 w h)
            have HDD := Lib.hid hD
            clear hI hI2 hK hD hbs hnb hit hst hst2
            have c3 := cell_of_block (k := 0) (HS.out.blockAt 3 rfl) rfl
            have q0 := cell_of_block (k := 0) (HS.out.blockAt 7 rfl) rfl
            have q1 := cell_of_block (k := 1) (HS.out.blockAt 7 rfl) rfl
            gi_wp2_with fail
            refine (callsIn_wide.2 (HHA.out W (HS.out.elems 4 rfl))).mono ?_
            rintro e w30 ⟨rfl, hC⟩
            have HS2 := Lib.hid (HS.out.below hC)
            have HK2 := Lib.hid ((hC.block D (block_lt HK.out)).trans HK.out)
            clear hC c3 q0 q1
            have cF := cell_of_block (k := 0) (HS2.out.blockAt 6 rfl) rfl
            have fF := free_of_block (HS2.out.blockAt 6 rfl) 0
            gi_wp2
            have hne : D ≠ w.heap.size + 1 + 1 + 1 := by have := HDD.out; have := HZ.out; omega
            have hlow := HS2.out.low
            have hbF := heap_set_same (HS2.out.blockAt 6 rfl) (.bool true) (k := 0)
            have hkD := (Below.heap_setCell w30 ⟨w.heap.size + 1 + 1 + 1, 0, none⟩ (.bool true) D hne).trans HK2.out
            have hcF := cell_of_block (k := 0) (v := .bool true) (((grownBy_putObj' (w30.setCell ⟨w.heap.size + 1 + 1 + 1, 0, none⟩ (.bool true)) D (.deferred none)).block (w.heap.size + 1 + 1 + 1) (block_lt hbF) (fun e => hne (by cases e; rfl))).trans hbF) rfl
            refine ret_marked (v := .bool true) rfl hkD ?_ ⟨rfl, below_putObj (hlow.setCell (p := ⟨w.heap.size + 1 + 1 + 1, 0, none⟩) (by show w.heap.size ≤ w.heap.size + 1 + 1 + 1; omega) _) hkD (by have := HDD.out; have := HZ.out; omega) _⟩
            simp [results, Try.results7, go_sem, hcF]
          case stop =>
            intro D c pre W _ _ h
            exact h.elim
        · have f2 := free_of_block (HS.out.blockAt 7 rfl)
          have k2 := cell_of_block (k := 0) (HS.out.blockAt 7 rfl) rfl
          obtain ⟨c1, b1⟩ := ret_store HS.out (HS.out.blockAt 7 rfl) (by omega) (.bool true)
          gi_wp2_with fail
          refine ⟨.bool true, by simp [results, Try.results7, go_sem, c1], rfl, b1⟩
      · rcases HD2.out with ⟨hb2, rfl, hl2⟩ | ⟨hb2, hne2, rfl⟩
        · have f2 := free_of_block (HS.out.blockAt 7 rfl)
          have k2 := cell_of_block (k := 0) (HS.out.blockAt 7 rfl) rfl
          obtain ⟨c1, b1⟩ := ret_store HS.out (HS.out.blockAt 7 rfl) (by omega) (.bool true)
          gi_wp2_with fail
          refine ⟨.bool true, by simp [results, Try.results7, go_sem, c1], rfl, b1⟩
        · have f2 := free_of_block (HS.out.blockAt 7 rfl)
          have k2 := cell_of_block (k := 0) (HS.out.blockAt 7 rfl) rfl
          obtain ⟨c1, b1⟩ := ret_store HS.out (HS.out.blockAt 7 rfl) (by omega) (.bool true)
          gi_wp2_with fail
          refine ⟨.bool true, by simp [results, Try.results7, go_sem, c1], rfl, b1⟩
end Go.Proofs.Ytlnjgdnnpkloeaa
