/- Merged texts: FlSt. -/
import Derived.Test.YtlnjgdnnpkloeaaM20
/- Layer 8: FloodSteps. -/
namespace Go.Proofs.Ytlnjgdnnpkloeaa
set_option linter.unusedSimpArgs false
set_option linter.unusedVariables false
open Go.RowKit Go.Shelf
attribute [local go_sem] Oper.semAt_some

/-- A canvas, or none. -/
def OfV (ok : Bool) (C : CanT) (v : Value) (w : World) : Prop := (ok = true → ∃ p, v = .pointer (some ⟨p, 0, none⟩) ∧ CanAt w p C) ∧ (ok = false → v = .pointer none)
theorem OfV.below {ok : Bool} {C : CanT} {v : Value} {w w' : World} (h : OfV ok C v w) (hb : Below w.heap.size w w') : OfV ok C v w' :=
  ⟨fun e => by
    obtain ⟨p, h1, h2⟩ := h.1 e
    exact ⟨p, h1, h2.below hb⟩, h.2⟩
theorem flHas_any (C : CanT) (p : PtT) (t : Int) (a : Option Addr) (n cap : Nat) (hn : n ≤ 1000000) (hl : (regL (placesL C p t)).length = n) (q : PtT) (w : World) (h : Elems w (.slice a n cap) n 3 (rowC encS (regL (placesL C p t)))) :
    Calls Try.prog 30 #[.slice a n cap, q.val] w (Gives (.bool (regHas C p t q)) w) := by
  unfold regHas
  exact shHas_any a n cap _ hl (by omega) q w h
theorem steps_is {C : CanT} {c : Nat} {p q : PtT} {t n e : Int} (h : stepsR C p q t = (n, e)) (w : World) (hC : CanAt w c C) : Calls Try.prog 21 #[.pointer (some ⟨c, 0, none⟩), p.val, q.val, .int .i64 t] w (Gives (.tuple #[.int .i64 n, .int .i64 e]) w) := by
  have := steps_any C c p q t w hC
  rw [h] at this
  exact this
theorem region_is {C : CanT} {c : Nat} {p : PtT} {t e : Int} (h : begE C p t = e) (hb : begB C p t = false) (w : World) (hC : CanAt w c C) : Calls Try.prog 23 #[.pointer (some ⟨c, 0, none⟩), p.val, .int .i64 t] w (Gives (.tuple #[.slice none 0 0, .int .i64 e]) w) := by
  have := region_bad C c p t w hC hb
  rw [h] at this
  exact this
theorem region_got (C : CanT) (c : Nat) (p : PtT) (t : Int) (n : Nat) (hn : (regL (placesL C p t)).length = n) (hb : begB C p t = true) (w : World) (hC : CanAt w c C) : Calls Try.prog 23 #[.pointer (some ⟨c, 0, none⟩), p.val, .int .i64 t] w (Got 3 encS (regL (placesL C p t)) n 0 w) := by
  subst hn
  exact (region_good C c p t w hC hb).mono fun _ _ h => h.got encS_len
theorem flHas_is {C : CanT} {p : PtT} {t : Int} {n : Nat} (hl : (regL (placesL C p t)).length = n) (hn : n ≤ 1000000) {q : PtT} {b : Bool} (hb : regHas C p t q = b) (a : Option Addr) (cap : Nat) (w : World) (h : Elems w (.slice a n cap) n 3 (rowC encS (regL (placesL C p t)))) :
    Calls Try.prog 30 #[.slice a n cap, q.val] w (Gives (.bool b) w) := by
  have := flHas_any C p t a n cap hn hl q w h
  rw [hb] at this
  exact this
theorem steps_zeroE {C : CanT} {p q : PtT} {t : Int} (hC : okCan C) (h : begB C p t = true) (hq : InReg C p t q) : ∃ z ez : Int, stepsR C p q 0 = (z, ez) ∧ stepsR C q p 0 = (z, ez) ∧ ((ez = 0 ∧ (metC C p t (ixP q) : Int) - 1 ≤ z) ∨ (ez = 4 ∧ z = 0)) := by
  obtain ⟨h1, h2, h3⟩ := begB_on h
  have e : begB C p 0 = true := by unfold begB; rw [h1]; decide
  have hb := steps_back hC h1 hq.1
  by_cases hr : InReg C p 0 q
  · have hz := steps_zero hC h hq (by rw [stepsR_in e hr])
    have hi := stepsR_in e hr
    rw [hi] at hz
    exact ⟨_, _, hi, hb.symm.trans hi, .inl ⟨rfl, hz⟩⟩
  · have hi := stepsR_out e hr
    exact ⟨_, _, hi, hb.symm.trans hi, .inr ⟨rfl, rfl⟩⟩
theorem four_index (a b c d e f g h : Int) (w : World) : (Instr.index 76 (.agg #[.int .i64 a, .int .i64 b, .int .i64 c, .int .i64 d, .int .i64 e, .int .i64 f, .int .i64 g, .int .i64 h]) (.int .i64 0)).run Try.prog w = .ok (.agg #[.int .i64 a, .int .i64 b]) w ∧ (Instr.index 76 (.agg #[.int .i64 a, .int .i64 b, .int .i64 c, .int .i64 d, .int .i64 e, .int .i64 f, .int .i64 g, .int .i64 h]) (.int .i64 1)).run Try.prog w = .ok (.agg #[.int .i64 c, .int .i64 d]) w ∧ (Instr.index 76 (.agg #[.int .i64 a, .int .i64 b, .int .i64 c, .int .i64 d, .int .i64 e, .int .i64 f, .int .i64 g, .int .i64 h]) (.int .i64 2)).run Try.prog w = .ok (.agg #[.int .i64 e, .int .i64 f]) w ∧ (Instr.index 76 (.agg #[.int .i64 a, .int .i64 b, .int .i64 c, .int .i64 d, .int .i64 e, .int .i64 f, .int .i64 g, .int .i64 h]) (.int .i64 3)).run Try.prog w = .ok (.agg #[.int .i64 g, .int .i64 h]) w := by
  refine ⟨?_, ?_, ?_, ?_⟩ <;> simp [Instr.index, go_sem]
def Kp (w0 w1 : World) : Prop := Below w0.heap.size w0 w1
theorem Kp.below {w0 w1 w2 : World} (h : Kp w0 w1) (hb : Below w1.heap.size w1 w2) : Kp w0 w2 := Below.trans h (hb.mono (Below.size h))

set_option maxRecDepth 100000 in
set_option maxHeartbeats 4000000 in
theorem floodSteps_any (wide high : Int) (a : Option Addr) (n cap : Nat) (ts : List TileT) (hl : ts.length = n) (hc : n ≤ cap) (hc2 : cap ≤ 9223372036854775807) (hcol : ∀ t ∈ ts, ∀ c ∈ t.1, okC c) (px py tol : Int) (tx ty : Int) (w : World) (he : Elems w (.slice a n cap) n 256 (rowC encT ts)) :
    Calls Try.prog 6 #[.agg #[.int .i64 wide, .int .i64 high, .slice a n cap], .agg #[.int .i64 px, .int .i64 py, .int .i64 tol], .agg #[.int .i64 tx, .int .i64 ty]] w (Gives (.bool true) w) := by
  have HS := Lib.hid (St.start w)
  have HOF := Lib.hid (fun w' (hb : Below w.heap.size w w') => lawOf_any wide high a n cap ts hl hc hc2 hcol w' (he.below hb))
  obtain ⟨ok, hok⟩ : ∃ ok, okE wide high (ts.take 17).length = ok := ⟨_, rfl⟩
  obtain ⟨C, hC⟩ : ∃ C : CanT, (⟨wide.toNat, high.toNat, ts.take 17⟩ : CanT) = C := ⟨_, rfl⟩
  obtain ⟨us, hus⟩ : ∃ us, ts.take 17 = us := ⟨_, rfl⟩
  rw [hok, hC, hus] at HOF
  clear hl hc hc2 hcol he hok hC hus
  go_enter Try.func6, Try.ntmps6
  repeat ((fail_if_success (with_reducible refine stop_at (id := 1) ?_)); (first | go_values | go_skip | go_guarded | go_step | go_upon | go_back | (simp only [Int.not_lt, Int.not_le] at *; go_simp) | (go_values <;> (try go_simp)) | (go_ite <;> go_prune <;> (try go_simp)) | (split <;> (first | (rename_i hx; exact (hx _ rfl).elim) | go_prune))))
  have hs_ := (((HS.out.alloc (.cells #[.int .i64 wide, .int .i64 high, .slice a n cap] 24)).alloc (.cells #[.int .i64 px, .int .i64 py, .int .i64 tol] 63)).alloc (.cells #[.int .i64 tx, .int .i64 ty] 49))
  obtain ⟨w1, hw_⟩ : ∃ w1 : World, (((w.alloc (.cells #[.int .i64 wide, .int .i64 high, .slice a n cap] 24)).alloc (.cells #[.int .i64 px, .int .i64 py, .int .i64 tol] 63)).alloc (.cells #[.int .i64 tx, .int .i64 ty] 49)) = w1 := ⟨_, rfl⟩
  rw [hw_] at hs_
  try simp only [World.size_alloc] at hs_
  have HS := Lib.hid hs_
  rw [hw_]
  clear hw_ hs_
  go_wp2_with fail
  refine (flWakes_any _).mono ?_
  rintro e w2 ⟨rfl, hb_⟩
  have HS := Lib.hid (HS.out.below hb_)
  clear hb_
  have k0 := cell_of_block (k := 0) (HS.out.blockAt 2 rfl) rfl
  have k1 := cell_of_block (k := 1) (HS.out.blockAt 2 rfl) rfl
  have k2 := cell_of_block (k := 2) (HS.out.blockAt 2 rfl) rfl
  go_wp2_with fail
  clear k0 k1 k2
  refine (HOF.out _ HS.out.low).mono ?_
  rintro e w3 ⟨v, y, rfl, hb, ⟨a3, c3, rfl, hc3, he3⟩, hv1, hv2⟩
  have HS := Lib.hid (HS.out.below hb)
  have HV := Lib.hid (show OfV ok C v w3 from ⟨hv1, hv2⟩)
  clear hb hc3 he3 hv1 hv2 HOF
  repeat ((fail_if_success (with_reducible refine stop_at (id := 4) ?_)); (first | go_values | go_skip | go_guarded | go_step | go_upon | go_back | (simp only [Int.not_lt, Int.not_le] at *; go_simp) | (go_values <;> (try go_simp)) | (go_ite <;> go_prune <;> (try go_simp)) | (split <;> (first | (rename_i hx; exact (hx _ rfl).elim) | go_prune))))
  have hs_ := HS.out.alloc (.cells #[.int .i64 wide, .int .i64 high, .slice a3 us.length c3] 24)
  have hk_HV := HV.out.below ((Below.refl _ _).alloc (Nat.le_refl _) (.cells #[.int .i64 wide, .int .i64 high, .slice a3 us.length c3] 24))
  obtain ⟨w4, hw_⟩ : ∃ w4 : World, w3.alloc (.cells #[.int .i64 wide, .int .i64 high, .slice a3 us.length c3] 24) = w4 := ⟨_, rfl⟩
  rw [hw_] at hs_ hk_HV
  have HS := Lib.hid hs_
  have HV := Lib.hid hk_HV
  rw [hw_]
  clear hw_ hs_ hk_HV
  refine (wpIn_wide (n := 0)).1 ?_
  refine wp_region_factsE (by kernel_rfl) [(fun v_ _ _ => v_ = (.pointer (some ⟨w.heap.size + 1, 0, none⟩) : Value)), (fun v_ _ _ => v_ = (.int .i64 px : Value)), (fun v_ _ _ => v_ = (.pointer (some ⟨w.heap.size + 1, 1, none⟩) : Value)), (fun v_ _ _ => v_ = (.int .i64 py : Value)), (fun v_ _ _ => v_ = (.agg #[.int .i64 px, .int .i64 py] : Value)), (fun v_ _ _ => v_ = (.pointer (some ⟨w.heap.size + 1, 2, none⟩) : Value)), (fun v_ _ _ => v_ = (.int .i64 tol : Value)), (fun v_ e_ w_ => ∃ q, v_ = .pointer (some ⟨q, 0, none⟩) ∧ w4.heap.size ≤ q ∧ (w_.heap[q]? = some (.cells #[.int .i64 0, .int .i64 0] 49 (0, 0)) ∨ w_.heap[q]? = some (.cells #[.int .i64 px, .int .i64 py] 49 (0, 0)))), (fun v_ e_ w_ => ∀ q, e_ 10 = .pointer (some ⟨q, 0, none⟩) → w_.heap[q]? = some (.cells #[.int .i64 px, .int .i64 py] 49 (0, 0))), (fun v_ _ _ => v_ = (.int .i64 tol : Value))] (fun x y => FillC w4.heap.size (.cells #[.int .i64 0, .int .i64 0] 49 (0, 0)) (.cells #[.int .i64 px, .int .i64 py] 49 (0, 0)) x y) (fun x => FillC.refl _ _ _ x) (fun h k => FillC.trans h k) ⟨fun _ _ _ _ _ h => h, fun _ _ _ _ _ h => h, fun _ _ _ _ _ h => h, fun _ _ _ _ _ h => h, fun _ _ _ _ _ h => h, fun _ _ _ _ _ h => h, fun _ _ _ _ _ h => h, fun _ _ _ _ hC ⟨q, e, h, h2⟩ => ⟨q, e, h, FillC.either hC h2⟩, fun _ _ _ _ hC h q e => FillC.filled hC (h q e), fun _ _ _ _ _ h => h, trivial⟩ (by kernel_rfl) (by kernel_rfl) (FillC.grow (grows_drew _) (Nat.le_refl _)) ⟨fun _ _ _ _ _ h => h, fun _ _ _ _ _ h => h, fun _ _ _ _ _ h => h, fun _ _ _ _ _ h => h, fun _ _ _ _ _ h => h, fun _ _ _ _ _ h => h, fun _ _ _ _ _ h => h, fun _ _ _ _ _ h => h, fun v env env' x he h q e => h q ((he ⟨7, .data⟩ (by simp) rfl _ _ rfl rfl).trans e), fun _ _ _ _ _ h => h, trivial⟩ ?steps ?fin
  case steps =>
    refine ⟨?_, ?_, ?_, ?_, ?_, ?_, ?_, ?_, ?_, ?_, trivial⟩
    · -- 0
      intro a' w' hA hC hD
      have s4 : a'.tmps[4]? = some (.pointer (some ⟨w.heap.size + 1, 0, none⟩)) := (hA.at 4 (by kernel_rfl)).trans rfl
      have hCz := FillC.size hC
      clear hA hD
      refine stepOk_plain rfl ?_
      intro K hK
      gi_wp2
      exact hK (.pointer (some ⟨w.heap.size + 1, 0, none⟩)) _ rfl ((fun x => FillC.refl _ _ _ x) _)
    · -- 1
      intro a' w' hA hC hD
      obtain ⟨u33, s33, r33⟩ := hD ⟨0, .data⟩ (by simp) rfl _ rfl
      replace r33 : u33 = .pointer (some ⟨w.heap.size + 1, 0, none⟩) := r33
      subst r33
      have hCz := FillC.size hC
      have d0 := cell_of_block (k := 0) ((hC.1.block _ (HS.out.lt 2 rfl)).trans (HS.out.blockAt 2 rfl)) rfl
      clear hA hD
      refine stepOk_plain rfl ?_
      intro K hK
      gi_wp2
      exact hK (.int .i64 px) _ rfl ((fun x => FillC.refl _ _ _ x) _)
    · -- 2
      intro a' w' hA hC hD
      have s4 : a'.tmps[4]? = some (.pointer (some ⟨w.heap.size + 1, 0, none⟩)) := (hA.at 4 (by kernel_rfl)).trans rfl
      have hCz := FillC.size hC
      clear hA hD
      refine stepOk_plain rfl ?_
      intro K hK
      gi_wp2
      exact hK (.pointer (some ⟨w.heap.size + 1, 1, none⟩)) _ rfl ((fun x => FillC.refl _ _ _ x) _)
    · -- 3
      intro a' w' hA hC hD
      obtain ⟨u35, s35, r35⟩ := hD ⟨2, .data⟩ (by simp) rfl _ rfl
      replace r35 : u35 = .pointer (some ⟨w.heap.size + 1, 1, none⟩) := r35
      subst r35
      have hCz := FillC.size hC
      have d1 := cell_of_block (k := 1) ((hC.1.block _ (HS.out.lt 2 rfl)).trans (HS.out.blockAt 2 rfl)) rfl
      clear hA hD
      refine stepOk_plain rfl ?_
      intro K hK
      gi_wp2
      exact hK (.int .i64 py) _ rfl ((fun x => FillC.refl _ _ _ x) _)
    · -- 4
      intro a' w' hA hC hD
      obtain ⟨u34, s34, r34⟩ := hD ⟨1, .data⟩ (by simp) rfl _ rfl
      replace r34 : u34 = .int .i64 px := r34
      subst r34
      obtain ⟨u36, s36, r36⟩ := hD ⟨3, .data⟩ (by simp) rfl _ rfl
      replace r36 : u36 = .int .i64 py := r36
      subst r36
      have hCz := FillC.size hC
      clear hA hD
      refine stepOk_plain rfl ?_
      intro K hK
      gi_wp2
      exact hK (.agg #[.int .i64 px, .int .i64 py]) _ rfl ((fun x => FillC.refl _ _ _ x) _)
    · -- 5
      intro a' w' hA hC hD
      have s4 : a'.tmps[4]? = some (.pointer (some ⟨w.heap.size + 1, 0, none⟩)) := (hA.at 4 (by kernel_rfl)).trans rfl
      have hCz := FillC.size hC
      clear hA hD
      refine stepOk_plain rfl ?_
      intro K hK
      gi_wp2
      exact hK (.pointer (some ⟨w.heap.size + 1, 2, none⟩)) _ rfl ((fun x => FillC.refl _ _ _ x) _)
    · -- 6
      intro a' w' hA hC hD
      obtain ⟨u38, s38, r38⟩ := hD ⟨5, .data⟩ (by simp) rfl _ rfl
      replace r38 : u38 = .pointer (some ⟨w.heap.size + 1, 2, none⟩) := r38
      subst r38
      have hCz := FillC.size hC
      have d2 := cell_of_block (k := 2) ((hC.1.block _ (HS.out.lt 2 rfl)).trans (HS.out.blockAt 2 rfl)) rfl
      clear hA hD
      refine stepOk_plain rfl ?_
      intro K hK
      gi_wp2
      exact hK (.int .i64 tol) _ rfl ((fun x => FillC.refl _ _ _ x) _)
    · -- 7
      intro a' w' hA hC hD
      have hCz := FillC.size hC
      clear hA hD
      refine stepOk_plain rfl ?_
      intro K hK
      gi_wp2
      exact hK (.pointer (some ⟨w'.heap.size, 0, none⟩)) _ ⟨w'.heap.size, rfl, hCz, .inl (World.alloc_heap_new _ _)⟩ (FillC.grow ((Below.refl _ _).alloc (Nat.le_refl _) _) hCz)
    · -- 8
      intro a' w' hA hC hD
      obtain ⟨u10, s10, r10⟩ := hD ⟨7, .data⟩ (by simp) rfl _ rfl
      replace r10 : (fun v_ e_ w_ => ∃ q, v_ = .pointer (some ⟨q, 0, none⟩) ∧ w4.heap.size ≤ q ∧ (w_.heap[q]? = some (.cells #[.int .i64 0, .int .i64 0] 49 (0, 0)) ∨ w_.heap[q]? = some (.cells #[.int .i64 px, .int .i64 py] 49 (0, 0)))) u10 (envOf a') w' := r10
      obtain ⟨u37, s37, r37⟩ := hD ⟨4, .data⟩ (by simp) rfl _ rfl
      replace r37 : u37 = .agg #[.int .i64 px, .int .i64 py] := r37
      subst r37
      have hCz := FillC.size hC
      have henv : envOf a' 10 = u10 := by (unfold envOf; rw [s10]; rfl)
      clear hA hD
      refine stepOk_plain rfl ?_
      intro K hK
      obtain ⟨q, rfl, hge, hq⟩ := r10; obtain ⟨y0, y1, hy⟩ := either2 hq; have d0 := cell_of_block (k := 0) (v := y0) hy rfl; have d1 := cell_of_block (k := 1) (v := y1) hy rfl; have fr := free_of_block hy; gi_wp2
      exact hK undef _ (fun q' e => by rw [henv] at e; cases e; exact (fill2 (n₀ := w4.heap.size) hge hq).2) (fill2 (n₀ := w4.heap.size) hge hq).1
    · -- 9
      intro a' w' hA hC hD
      obtain ⟨u39, s39, r39⟩ := hD ⟨6, .data⟩ (by simp) rfl _ rfl
      replace r39 : u39 = .int .i64 tol := r39
      subst r39
      have hCz := FillC.size hC
      clear hA hD
      refine stepOk_plain rfl ?_
      intro K hK
      gi_wp2
      exact hK (.int .i64 tol) _ rfl ((fun x => FillC.refl _ _ _ x) _)
  case fin =>
    intro w5 env hC
    simp only [EndFromE, forall_eq, Option.some.injEq, forall_eq', reduceCtorEq, false_implies, implies_true, forall_const, Act.put, List.length_cons, List.length_nil, List.drop_succ_cons, List.drop_zero, Nat.reduceAdd, List.setIfInBounds_toArray, List.set_cons_succ, List.set_cons_zero]
    rintro _ _ _ _ _ _ _ v10 ⟨q10, rfl, hge, _⟩ he hs _
    have hs5 := (HS.out.below hC.1).addC (hs q10 he) (fun i hi => by
      have l0 := HS.out.lt 0 rfl
      have l1 := HS.out.lt 1 rfl
      have l2 := HS.out.lt 2 rfl
      have l3 := HS.out.lt 3 rfl
      simp only [List.mem_cons, List.not_mem_nil, or_false] at hi
      rcases hi with rfl | rfl | rfl | rfl <;> (simp only [It.top]; omega)) (Nat.le_trans HS.out.size hge)
    have k0 := cell_of_block (k := 0) ((HS.out.below hC.1).blockAt 2 rfl) rfl
    have k1 := cell_of_block (k := 1) ((HS.out.below hC.1).blockAt 2 rfl) rfl
    have k2 := cell_of_block (k := 2) ((HS.out.below hC.1).blockAt 2 rfl) rfl
    have d0 := cell_of_block (k := 0) (hs q10 he) rfl
    have d1 := cell_of_block (k := 1) (hs q10 he) rfl
    have HV := Lib.hid (HV.out.below hC.1)
    have HS := Lib.hid hs5
    clear hs5 hs he hC hge
    gi_wp2
    clear k0 k1 k2 d0 d1
    cases ok with
    | false =>
      obtain rfl := HV.out.2 rfl
      clear HV
      go_wp2_with fail
      go_ret
      exact ⟨rfl, HS.out.low⟩
    | true =>
      obtain ⟨p, rfl, hcp⟩ := HV.out.1 rfl
      have HC := Lib.hid hcp
      clear hcp HV
      have hck := HC.out.ok
      cases hb : begB C ⟨px, py⟩ tol with
      | false =>
        obtain ⟨e0, he0⟩ : ∃ e0, begE C ⟨px, py⟩ tol = e0 := ⟨_, rfl⟩
        have hs1 := stepsR_bad (q := ⟨tx, ty⟩) hb
        have he1 := begE_ne hb
        rw [he0] at hs1 he1
        have HR1 := Lib.hid hs1
        have HBE := Lib.hid he0
        have HBB := Lib.hid hb
        clear hs1 he0 hb hck
        rcases he1 with rfl | rfl
        · have q0 := cell_of_block (k := 0) (HS.out.blockAt 0 rfl) rfl
          have q1 := cell_of_block (k := 1) (HS.out.blockAt 0 rfl) rfl
          have t0 := cell_of_block (k := 0) (HS.out.blockAt 2 rfl) rfl
          have t1 := cell_of_block (k := 1) (HS.out.blockAt 2 rfl) rfl
          go_wp2_with fail
          clear q0 q1 t0 t1
          refine (steps_is HR1.out _ HC.out).mono ?_
          rintro e w6 ⟨rfl, hb_⟩
          have HS := Lib.hid (HS.out.below hb_)
          have HC := Lib.hid (HC.out.below hb_)
          clear hb_
          have q0 := cell_of_block (k := 0) (HS.out.blockAt 0 rfl) rfl
          have q1 := cell_of_block (k := 1) (HS.out.blockAt 0 rfl) rfl
          go_wp2_with fail
          clear q0 q1
          refine (region_is HBE.out HBB.out _ HC.out).mono ?_
          rintro e w7 ⟨rfl, hb_⟩
          have HS := Lib.hid (HS.out.below hb_)
          have HC := Lib.hid (HC.out.below hb_)
          clear hb_
          go_wp2_with fail
          go_ret
          exact ⟨rfl, HS.out.low⟩
        · have q0 := cell_of_block (k := 0) (HS.out.blockAt 0 rfl) rfl
          have q1 := cell_of_block (k := 1) (HS.out.blockAt 0 rfl) rfl
          have t0 := cell_of_block (k := 0) (HS.out.blockAt 2 rfl) rfl
          have t1 := cell_of_block (k := 1) (HS.out.blockAt 2 rfl) rfl
          go_wp2_with fail
          clear q0 q1 t0 t1
          refine (steps_is HR1.out _ HC.out).mono ?_
          rintro e w6 ⟨rfl, hb_⟩
          have HS := Lib.hid (HS.out.below hb_)
          have HC := Lib.hid (HC.out.below hb_)
          clear hb_
          have q0 := cell_of_block (k := 0) (HS.out.blockAt 0 rfl) rfl
          have q1 := cell_of_block (k := 1) (HS.out.blockAt 0 rfl) rfl
          go_wp2_with fail
          clear q0 q1
          refine (region_is HBE.out HBB.out _ HC.out).mono ?_
          rintro e w7 ⟨rfl, hb_⟩
          have HS := Lib.hid (HS.out.below hb_)
          have HC := Lib.hid (HC.out.below hb_)
          clear hb_
          go_wp2_with fail
          go_ret
          exact ⟨rfl, HS.out.low⟩
      | true =>
        obtain ⟨n1, hn1⟩ : ∃ n1, (regL (placesL C ⟨px, py⟩ tol)).length = n1 := ⟨_, rfl⟩
        have hn2 : n1 ≤ 1000000 := by
          have := regL_len (placesL C ⟨px, py⟩ tol)
          have := placesL_len hck ⟨px, py⟩ tol
          omega
        have HN1 := Lib.hid hn1
        have HN2 := Lib.hid hn2
        have HBB := Lib.hid hb
        have HCK := Lib.hid hck
        clear hn1 hn2
        by_cases hq : InReg C ⟨px, py⟩ tol ⟨tx, ty⟩
        · have hh1 := (regHas_iff (p := ⟨px, py⟩) (t := tol) (q := ⟨tx, ty⟩) hck).2 hq
          obtain ⟨hon, ht0, -⟩ := begB_on hb
          have hbd : 0 ≤ tx ∧ tx < 32 ∧ 0 ≤ ty ∧ ty < 32 := by
            have h := hq.1
            unfold onC at h
            have h1 := onB_iff.1 h
            have h2 := hck.wide
            have h3 := hck.high
            simp only at h1
            omega
          have hct := metC_lt_count hck hon ht0 hq.1 hq.2
          rw [← region_allL hck] at hct
          have hcl : (allL (regL (placesL C ⟨px, py⟩ tol))).length ≤ 1024 := by
            rw [region_allL hck]
            exact placesL_len hck _ _
          have hone := metC_one hck hon ht0 hq.1
          have hs1 := stepsR_in hb hq
          obtain ⟨z, ez, hz1, hz2, hz3⟩ := steps_zeroE hck hb hq
          have hall := fun h => leastF_all hck hb hq h
          obtain ⟨m, hm⟩ : ∃ m, metC C ⟨px, py⟩ tol (ixP ⟨tx, ty⟩) = m + 1 := ⟨metC C ⟨px, py⟩ tol (ixP ⟨tx, ty⟩) - 1, by have := hq.2; omega⟩
          obtain ⟨cn, hcn⟩ : ∃ cn, (allL (regL (placesL C ⟨px, py⟩ tol))).length = cn := ⟨_, rfl⟩
          rw [hm] at hs1 hone hz3 hct hall
          rw [hcn] at hct hcl
          have em : ((m + 1 : Nat) : Int) - 1 = (m : Int) := by omega
          rw [em] at hs1 hz3 hall
          have hne : (⟨tx, ty⟩ : PtT) = ⟨px, py⟩ ↔ m = 0 := hone.symm.trans (by omega)
          have HALL := Lib.hid (fun h : m ≠ 0 => hall (by omega))
          have HCT := Lib.hid (fun a' c' w' h => count_any a' n1 c' _ HN1.out (by have := HN2.out; omega) w' h (by rw [hcn]; omega))
          rw [hcn] at HCT
          have HR1 := Lib.hid hs1
          have HH1 := Lib.hid hh1
          have HZ1 := Lib.hid hz1
          have HZ2 := Lib.hid hz2
          have HZ3 := Lib.hid hz3
          have HNB := Lib.hid (fun (nq : PtT) (hn : nq ∈ nbs ⟨tx, ty⟩) (hr : InReg C ⟨px, py⟩ tol nq) => And.intro (stepsR_in hb hr) (steps_near hck hb hq hn hr))
          rw [hm] at HNB
          have HMC := Lib.hid (And.intro hct hcl)
          have HNE := Lib.hid hne
          have HBD := Lib.hid hbd
          clear hall hs1 hh1 hz1 hz2 hz3 hct hcl hne hone hon ht0 hm hcn em hb hck hq hbd
          have q0 := cell_of_block (k := 0) (HS.out.blockAt 0 rfl) rfl
          have q1 := cell_of_block (k := 1) (HS.out.blockAt 0 rfl) rfl
          have t0 := cell_of_block (k := 0) (HS.out.blockAt 2 rfl) rfl
          have t1 := cell_of_block (k := 1) (HS.out.blockAt 2 rfl) rfl
          go_wp2_with fail
          clear q0 q1 t0 t1
          refine (steps_is HR1.out _ HC.out).mono ?_
          rintro e w6 ⟨rfl, hb_⟩
          have HS := Lib.hid (HS.out.below hb_)
          have HC := Lib.hid (HC.out.below hb_)
          clear hb_
          have q0 := cell_of_block (k := 0) (HS.out.blockAt 0 rfl) rfl
          have q1 := cell_of_block (k := 1) (HS.out.blockAt 0 rfl) rfl
          go_wp2_with fail
          clear q0 q1
          refine (region_got C p _ _ n1 HN1.out HBB.out _ HC.out).mono ?_
          rintro e w7 ⟨-, a7, c7, rfl, he_, hb_⟩
          have HS := Lib.hid ((HS.out.below hb_).addRow he_)
          have HC := Lib.hid (HC.out.below hb_)
          clear hb_ he_
          have t0 := cell_of_block (k := 0) (HS.out.blockAt 3 rfl) rfl
          have t1 := cell_of_block (k := 1) (HS.out.blockAt 3 rfl) rfl
          go_wp2_with fail
          clear t0 t1
          refine (flHas_is HN1.out HN2.out HH1.out _ _ _ (HS.out.elems 0 rfl)).mono ?_
          rintro e w8 ⟨rfl, hb_⟩
          have HS := Lib.hid (HS.out.below hb_)
          have HC := Lib.hid (HC.out.below hb_)
          clear hb_
          --SPLIT
          by_cases hm0 : m = 0
          · subst hm0
            obtain ⟨rfl, rfl⟩ : tx = px ∧ ty = py := by
              have h := HNE.out.2 rfl
              injection h with h1 h2
              exact ⟨h1, h2⟩
            clear HNE HALL
            have q0 := cell_of_block (k := 0) (HS.out.blockAt 1 rfl) rfl
            have q1 := cell_of_block (k := 1) (HS.out.blockAt 1 rfl) rfl
            have t0 := cell_of_block (k := 0) (HS.out.blockAt 3 rfl) rfl
            have t1 := cell_of_block (k := 1) (HS.out.blockAt 3 rfl) rfl
            go_wp2_with fail
            clear q0 q1 t0 t1
            refine (HCT.out _ _ _ (HS.out.elems 0 rfl)).mono ?_
            rintro e w9 ⟨rfl, hb_⟩
            have HS := Lib.hid (HS.out.below hb_)
            have HC := Lib.hid (HC.out.below hb_)
            clear hb_
            have hge : ¬ ((cn : Int) ≤ 0) := by have := HMC.out; omega
            have hge2 : 0 < cn := by have := HMC.out; omega
            have hge3 : ¬ cn ≤ 0 := by omega
            have q0 := cell_of_block (k := 0) (HS.out.blockAt 1 rfl) rfl
            have q1 := cell_of_block (k := 1) (HS.out.blockAt 1 rfl) rfl
            have t0 := cell_of_block (k := 0) (HS.out.blockAt 3 rfl) rfl
            have t1 := cell_of_block (k := 1) (HS.out.blockAt 3 rfl) rfl
            go_wp2_with fail
            clear q0 q1 t0 t1 hge hge2 hge3
            refine (steps_is HZ2.out _ HC.out).mono ?_
            rintro e w10 ⟨rfl, hb_⟩
            have HS := Lib.hid (HS.out.below hb_)
            have HC := Lib.hid (HC.out.below hb_)
            clear hb_
            have q0 := cell_of_block (k := 0) (HS.out.blockAt 1 rfl) rfl
            have q1 := cell_of_block (k := 1) (HS.out.blockAt 1 rfl) rfl
            have t0 := cell_of_block (k := 0) (HS.out.blockAt 3 rfl) rfl
            have t1 := cell_of_block (k := 1) (HS.out.blockAt 3 rfl) rfl
            go_wp2_with fail
            clear q0 q1 t0 t1
            refine (steps_is HZ1.out _ HC.out).mono ?_
            rintro e w11 ⟨rfl, hb_⟩
            have HS := Lib.hid (HS.out.below hb_)
            have HC := Lib.hid (HC.out.below hb_)
            clear hb_
            rcases HZ3.out with ⟨rfl, hz⟩ | ⟨rfl, rfl⟩
            · have hz1 : ¬ (z < 0) := by omega
              have hbx := HBD.out
              have t0 := cell_of_block (k := 0) (HS.out.blockAt 3 rfl) rfl
              have t1 := cell_of_block (k := 1) (HS.out.blockAt 3 rfl) rfl
              go_wp2_with fail
              clear hz hz1 t0 t1
              have HK := Lib.hid (show Kp w11 w11 from Below.refl _ _)
              go_loopw [20, 150] (fun l i wr => ∃ k : Nat, k ≤ 4 ∧ i = .int .i64 (k : Int) ∧ l = .int .i64 (leastF C ⟨tx, ty⟩ tol (0 : Int) ((nbs ⟨tx, ty⟩).take k)) ∧ Kp w11 wr) (fun _ i _ => 4 - (intOf i).toNat)
              case atStart => exact ⟨0, by omega, rfl, rfl, HK.out⟩
              case round =>
                obtain ⟨k, hk, rfl, rfl, hb⟩ := hrel
                have HS := Lib.hid (HS.out.below hb)
                have HC := Lib.hid (HC.out.below hb)
                have HK := Lib.hid hb
                clear hb
                obtain ⟨ln, hln⟩ : ∃ ln, leastF C ⟨tx, ty⟩ tol (0 : Int) ((nbs ⟨tx, ty⟩).take k) = ln := ⟨_, rfl⟩
                rw [hln]
                by_cases hlt : k < 4
                · have hk4 : k = 0 ∨ k = 1 ∨ k = 2 ∨ k = 3 := by omega
                  clear hlt hk
                  rcases hk4 with rfl | rfl | rfl | rfl
                  · have hnq : (⟨tx - 1, ty⟩ : PtT) ∈ nbs ⟨tx, ty⟩ := by simp [nbs]
                    have hsn := leastF_snoc (C := C) (p := ⟨tx, ty⟩) (t := tol) (0 : Int) ((nbs ⟨tx, ty⟩).take 0) ⟨tx - 1, ty⟩
                    rw [show (nbs ⟨tx, ty⟩).take 0 ++ [⟨tx - 1, ty⟩] = (nbs ⟨tx, ty⟩).take (0 + 1) from rfl, hln] at hsn
                    have hix := (four_index (tx - 1) ty (tx + 1) ty tx (ty - 1) tx (ty + 1) wr).1
                    repeat ((fail_if_success (with_reducible refine stop_at (id := 21) ?_)); (first | go_values | go_skip | go_guarded | go_step | go_upon | go_back | (simp only [Int.not_lt, Int.not_le] at *; go_simp) | (go_values <;> (try go_simp)) | (go_ite <;> go_prune <;> (try go_simp)) | (split <;> (first | (rename_i hx; exact (hx _ rfl).elim) | go_prune))))
                    clear hix
                    have hs_ := HS.out.alloc (.cells #[.int .i64 (tx - 1), .int .i64 (ty)] 49)
                    have hk_HC := HC.out.below ((Below.refl _ _).alloc (Nat.le_refl _) (.cells #[.int .i64 (tx - 1), .int .i64 (ty)] 49))
                    have hk_HK := HK.out.below ((Below.refl _ _).alloc (Nat.le_refl _) (.cells #[.int .i64 (tx - 1), .int .i64 (ty)] 49))
                    obtain ⟨w12, hw_⟩ : ∃ w12 : World, wr.alloc (.cells #[.int .i64 (tx - 1), .int .i64 (ty)] 49) = w12 := ⟨_, rfl⟩
                    rw [hw_] at hs_ hk_HC hk_HK
                    have HS := Lib.hid hs_
                    have HC := Lib.hid hk_HC
                    have HK := Lib.hid hk_HK
                    rw [hw_]
                    clear hw_ hs_ hk_HC hk_HK
                    have n0 := cell_of_block (k := 0) (HS.out.blockAt 0 rfl) rfl
                    have n1 := cell_of_block (k := 1) (HS.out.blockAt 0 rfl) rfl
                    clear hbx
                    cases hr : regHas C ⟨tx, ty⟩ tol ⟨tx - 1, ty⟩ with
                    | false =>
                      rw [hr, if_neg (by decide)] at hsn
                      have HR := Lib.hid hr
                      have HSN := Lib.hid hsn
                      clear hr hsn hnq
                      go_wp2_with fail
                      clear n0 n1
                      refine (flHas_is HN1.out HN2.out HR.out _ _ _ (HS.out.elems 1 rfl)).mono ?_
                      rintro e w13 ⟨rfl, hb_⟩
                      have HS := Lib.hid (HS.out.below hb_)
                      have HC := Lib.hid (HC.out.below hb_)
                      have HK := Lib.hid (HK.out.below hb_)
                      clear hb_
                      go_wp2_with fail
                      go_roundw
                      case rel => exact ⟨0 + 1, by omega, rfl, by rw [HSN.out], HK.out⟩
                      case measure => simp [intOf]
                    | true =>
                      rw [hr, if_pos rfl] at hsn
                      have hin := (regHas_iff HCK.out).1 hr
                      obtain ⟨hd1, hd2⟩ := HNB.out _ hnq hin
                      have HR := Lib.hid hr
                      obtain ⟨d, hd⟩ : ∃ d : Int, (metC C ⟨tx, ty⟩ tol (ixP ⟨tx - 1, ty⟩) : Int) - 1 = d := ⟨_, rfl⟩
                      rw [hd] at hd1
                      rw [hd1] at hsn
                      have hd3 : d ≤ 1 ∧ -1 ≤ d := by omega
                      have HSN := Lib.hid hsn
                      have HD := Lib.hid hd1
                      have HD3 := Lib.hid hd3
                      clear hr hsn hnq hin hd1 hd2 hd hd3
                      go_wp2_with fail
                      clear n0 n1
                      refine (flHas_is HN1.out HN2.out HR.out _ _ _ (HS.out.elems 1 rfl)).mono ?_
                      rintro e w13 ⟨rfl, hb_⟩
                      have HS := Lib.hid (HS.out.below hb_)
                      have HC := Lib.hid (HC.out.below hb_)
                      have HK := Lib.hid (HK.out.below hb_)
                      clear hb_
                      have f0 := cell_of_block (k := 0) (HS.out.blockAt 2 rfl) rfl
                      have f1 := cell_of_block (k := 1) (HS.out.blockAt 2 rfl) rfl
                      have n0 := cell_of_block (k := 0) (HS.out.blockAt 0 rfl) rfl
                      have n1 := cell_of_block (k := 1) (HS.out.blockAt 0 rfl) rfl
                      go_wp2_with fail
                      clear n0 n1 f0 f1
                      refine (steps_is HD.out _ HC.out).mono ?_
                      rintro e w14 ⟨rfl, hb_⟩
                      have HS := Lib.hid (HS.out.below hb_)
                      have HC := Lib.hid (HC.out.below hb_)
                      have HK := Lib.hid (HK.out.below hb_)
                      clear hb_
                      have hd3 := HD3.out
                      go_wp2_with fail
                      clear hd3
                      go_roundw
                      case rel => exact ⟨0 + 1, by omega, rfl, by rw [HSN.out], HK.out⟩
                      case measure => simp [intOf]
                  · have hnq : (⟨tx + 1, ty⟩ : PtT) ∈ nbs ⟨tx, ty⟩ := by simp [nbs]
                    have hsn := leastF_snoc (C := C) (p := ⟨tx, ty⟩) (t := tol) (0 : Int) ((nbs ⟨tx, ty⟩).take 1) ⟨tx + 1, ty⟩
                    rw [show (nbs ⟨tx, ty⟩).take 1 ++ [⟨tx + 1, ty⟩] = (nbs ⟨tx, ty⟩).take (1 + 1) from rfl, hln] at hsn
                    have hix := (four_index (tx - 1) ty (tx + 1) ty tx (ty - 1) tx (ty + 1) wr).2.1
                    repeat ((fail_if_success (with_reducible refine stop_at (id := 21) ?_)); (first | go_values | go_skip | go_guarded | go_step | go_upon | go_back | (simp only [Int.not_lt, Int.not_le] at *; go_simp) | (go_values <;> (try go_simp)) | (go_ite <;> go_prune <;> (try go_simp)) | (split <;> (first | (rename_i hx; exact (hx _ rfl).elim) | go_prune))))
                    clear hix
                    have hs_ := HS.out.alloc (.cells #[.int .i64 (tx + 1), .int .i64 (ty)] 49)
                    have hk_HC := HC.out.below ((Below.refl _ _).alloc (Nat.le_refl _) (.cells #[.int .i64 (tx + 1), .int .i64 (ty)] 49))
                    have hk_HK := HK.out.below ((Below.refl _ _).alloc (Nat.le_refl _) (.cells #[.int .i64 (tx + 1), .int .i64 (ty)] 49))
                    obtain ⟨w12, hw_⟩ : ∃ w12 : World, wr.alloc (.cells #[.int .i64 (tx + 1), .int .i64 (ty)] 49) = w12 := ⟨_, rfl⟩
                    rw [hw_] at hs_ hk_HC hk_HK
                    have HS := Lib.hid hs_
                    have HC := Lib.hid hk_HC
                    have HK := Lib.hid hk_HK
                    rw [hw_]
                    clear hw_ hs_ hk_HC hk_HK
                    have n0 := cell_of_block (k := 0) (HS.out.blockAt 0 rfl) rfl
                    have n1 := cell_of_block (k := 1) (HS.out.blockAt 0 rfl) rfl
                    clear hbx
                    cases hr : regHas C ⟨tx, ty⟩ tol ⟨tx + 1, ty⟩ with
                    | false =>
                      rw [hr, if_neg (by decide)] at hsn
                      have HR := Lib.hid hr
                      have HSN := Lib.hid hsn
                      clear hr hsn hnq
                      go_wp2_with fail
                      clear n0 n1
                      refine (flHas_is HN1.out HN2.out HR.out _ _ _ (HS.out.elems 1 rfl)).mono ?_
                      rintro e w13 ⟨rfl, hb_⟩
                      have HS := Lib.hid (HS.out.below hb_)
                      have HC := Lib.hid (HC.out.below hb_)
                      have HK := Lib.hid (HK.out.below hb_)
                      clear hb_
                      go_wp2_with fail
                      go_roundw
                      case rel => exact ⟨1 + 1, by omega, rfl, by rw [HSN.out], HK.out⟩
                      case measure => simp [intOf]
                    | true =>
                      rw [hr, if_pos rfl] at hsn
                      have hin := (regHas_iff HCK.out).1 hr
                      obtain ⟨hd1, hd2⟩ := HNB.out _ hnq hin
                      have HR := Lib.hid hr
                      obtain ⟨d, hd⟩ : ∃ d : Int, (metC C ⟨tx, ty⟩ tol (ixP ⟨tx + 1, ty⟩) : Int) - 1 = d := ⟨_, rfl⟩
                      rw [hd] at hd1
                      rw [hd1] at hsn
                      have hd3 : d ≤ 1 ∧ -1 ≤ d := by omega
                      have HSN := Lib.hid hsn
                      have HD := Lib.hid hd1
                      have HD3 := Lib.hid hd3
                      clear hr hsn hnq hin hd1 hd2 hd hd3
                      go_wp2_with fail
                      clear n0 n1
                      refine (flHas_is HN1.out HN2.out HR.out _ _ _ (HS.out.elems 1 rfl)).mono ?_
                      rintro e w13 ⟨rfl, hb_⟩
                      have HS := Lib.hid (HS.out.below hb_)
                      have HC := Lib.hid (HC.out.below hb_)
                      have HK := Lib.hid (HK.out.below hb_)
                      clear hb_
                      have f0 := cell_of_block (k := 0) (HS.out.blockAt 2 rfl) rfl
                      have f1 := cell_of_block (k := 1) (HS.out.blockAt 2 rfl) rfl
                      have n0 := cell_of_block (k := 0) (HS.out.blockAt 0 rfl) rfl
                      have n1 := cell_of_block (k := 1) (HS.out.blockAt 0 rfl) rfl
                      go_wp2_with fail
                      clear n0 n1 f0 f1
                      refine (steps_is HD.out _ HC.out).mono ?_
                      rintro e w14 ⟨rfl, hb_⟩
                      have HS := Lib.hid (HS.out.below hb_)
                      have HC := Lib.hid (HC.out.below hb_)
                      have HK := Lib.hid (HK.out.below hb_)
                      clear hb_
                      have hd3 := HD3.out
                      go_wp2_with fail
                      clear hd3
                      go_roundw
                      case rel => exact ⟨1 + 1, by omega, rfl, by rw [HSN.out], HK.out⟩
                      case measure => simp [intOf]
                  · have hnq : (⟨tx, ty - 1⟩ : PtT) ∈ nbs ⟨tx, ty⟩ := by simp [nbs]
                    have hsn := leastF_snoc (C := C) (p := ⟨tx, ty⟩) (t := tol) (0 : Int) ((nbs ⟨tx, ty⟩).take 2) ⟨tx, ty - 1⟩
                    rw [show (nbs ⟨tx, ty⟩).take 2 ++ [⟨tx, ty - 1⟩] = (nbs ⟨tx, ty⟩).take (2 + 1) from rfl, hln] at hsn
                    have hix := (four_index (tx - 1) ty (tx + 1) ty tx (ty - 1) tx (ty + 1) wr).2.2.1
                    repeat ((fail_if_success (with_reducible refine stop_at (id := 21) ?_)); (first | go_values | go_skip | go_guarded | go_step | go_upon | go_back | (simp only [Int.not_lt, Int.not_le] at *; go_simp) | (go_values <;> (try go_simp)) | (go_ite <;> go_prune <;> (try go_simp)) | (split <;> (first | (rename_i hx; exact (hx _ rfl).elim) | go_prune))))
                    clear hix
                    have hs_ := HS.out.alloc (.cells #[.int .i64 (tx), .int .i64 (ty - 1)] 49)
                    have hk_HC := HC.out.below ((Below.refl _ _).alloc (Nat.le_refl _) (.cells #[.int .i64 (tx), .int .i64 (ty - 1)] 49))
                    have hk_HK := HK.out.below ((Below.refl _ _).alloc (Nat.le_refl _) (.cells #[.int .i64 (tx), .int .i64 (ty - 1)] 49))
                    obtain ⟨w12, hw_⟩ : ∃ w12 : World, wr.alloc (.cells #[.int .i64 (tx), .int .i64 (ty - 1)] 49) = w12 := ⟨_, rfl⟩
                    rw [hw_] at hs_ hk_HC hk_HK
                    have HS := Lib.hid hs_
                    have HC := Lib.hid hk_HC
                    have HK := Lib.hid hk_HK
                    rw [hw_]
                    clear hw_ hs_ hk_HC hk_HK
                    have n0 := cell_of_block (k := 0) (HS.out.blockAt 0 rfl) rfl
                    have n1 := cell_of_block (k := 1) (HS.out.blockAt 0 rfl) rfl
                    clear hbx
                    cases hr : regHas C ⟨tx, ty⟩ tol ⟨tx, ty - 1⟩ with
                    | false =>
                      rw [hr, if_neg (by decide)] at hsn
                      have HR := Lib.hid hr
                      have HSN := Lib.hid hsn
                      clear hr hsn hnq
                      go_wp2_with fail
                      clear n0 n1
                      refine (flHas_is HN1.out HN2.out HR.out _ _ _ (HS.out.elems 1 rfl)).mono ?_
                      rintro e w13 ⟨rfl, hb_⟩
                      have HS := Lib.hid (HS.out.below hb_)
                      have HC := Lib.hid (HC.out.below hb_)
                      have HK := Lib.hid (HK.out.below hb_)
                      clear hb_
                      go_wp2_with fail
                      go_roundw
                      case rel => exact ⟨2 + 1, by omega, rfl, by rw [HSN.out], HK.out⟩
                      case measure => simp [intOf]
                    | true =>
                      rw [hr, if_pos rfl] at hsn
                      have hin := (regHas_iff HCK.out).1 hr
                      obtain ⟨hd1, hd2⟩ := HNB.out _ hnq hin
                      have HR := Lib.hid hr
                      obtain ⟨d, hd⟩ : ∃ d : Int, (metC C ⟨tx, ty⟩ tol (ixP ⟨tx, ty - 1⟩) : Int) - 1 = d := ⟨_, rfl⟩
                      rw [hd] at hd1
                      rw [hd1] at hsn
                      have hd3 : d ≤ 1 ∧ -1 ≤ d := by omega
                      have HSN := Lib.hid hsn
                      have HD := Lib.hid hd1
                      have HD3 := Lib.hid hd3
                      clear hr hsn hnq hin hd1 hd2 hd hd3
                      go_wp2_with fail
                      clear n0 n1
                      refine (flHas_is HN1.out HN2.out HR.out _ _ _ (HS.out.elems 1 rfl)).mono ?_
                      rintro e w13 ⟨rfl, hb_⟩
                      have HS := Lib.hid (HS.out.below hb_)
                      have HC := Lib.hid (HC.out.below hb_)
                      have HK := Lib.hid (HK.out.below hb_)
                      clear hb_
                      have f0 := cell_of_block (k := 0) (HS.out.blockAt 2 rfl) rfl
                      have f1 := cell_of_block (k := 1) (HS.out.blockAt 2 rfl) rfl
                      have n0 := cell_of_block (k := 0) (HS.out.blockAt 0 rfl) rfl
                      have n1 := cell_of_block (k := 1) (HS.out.blockAt 0 rfl) rfl
                      go_wp2_with fail
                      clear n0 n1 f0 f1
                      refine (steps_is HD.out _ HC.out).mono ?_
                      rintro e w14 ⟨rfl, hb_⟩
                      have HS := Lib.hid (HS.out.below hb_)
                      have HC := Lib.hid (HC.out.below hb_)
                      have HK := Lib.hid (HK.out.below hb_)
                      clear hb_
                      have hd3 := HD3.out
                      go_wp2_with fail
                      clear hd3
                      go_roundw
                      case rel => exact ⟨2 + 1, by omega, rfl, by rw [HSN.out], HK.out⟩
                      case measure => simp [intOf]
                  · have hnq : (⟨tx, ty + 1⟩ : PtT) ∈ nbs ⟨tx, ty⟩ := by simp [nbs]
                    have hsn := leastF_snoc (C := C) (p := ⟨tx, ty⟩) (t := tol) (0 : Int) ((nbs ⟨tx, ty⟩).take 3) ⟨tx, ty + 1⟩
                    rw [show (nbs ⟨tx, ty⟩).take 3 ++ [⟨tx, ty + 1⟩] = (nbs ⟨tx, ty⟩).take (3 + 1) from rfl, hln] at hsn
                    have hix := (four_index (tx - 1) ty (tx + 1) ty tx (ty - 1) tx (ty + 1) wr).2.2.2
                    repeat ((fail_if_success (with_reducible refine stop_at (id := 21) ?_)); (first | go_values | go_skip | go_guarded | go_step | go_upon | go_back | (simp only [Int.not_lt, Int.not_le] at *; go_simp) | (go_values <;> (try go_simp)) | (go_ite <;> go_prune <;> (try go_simp)) | (split <;> (first | (rename_i hx; exact (hx _ rfl).elim) | go_prune))))
                    clear hix
                    have hs_ := HS.out.alloc (.cells #[.int .i64 (tx), .int .i64 (ty + 1)] 49)
                    have hk_HC := HC.out.below ((Below.refl _ _).alloc (Nat.le_refl _) (.cells #[.int .i64 (tx), .int .i64 (ty + 1)] 49))
                    have hk_HK := HK.out.below ((Below.refl _ _).alloc (Nat.le_refl _) (.cells #[.int .i64 (tx), .int .i64 (ty + 1)] 49))
                    obtain ⟨w12, hw_⟩ : ∃ w12 : World, wr.alloc (.cells #[.int .i64 (tx), .int .i64 (ty + 1)] 49) = w12 := ⟨_, rfl⟩
                    rw [hw_] at hs_ hk_HC hk_HK
                    have HS := Lib.hid hs_
                    have HC := Lib.hid hk_HC
                    have HK := Lib.hid hk_HK
                    rw [hw_]
                    clear hw_ hs_ hk_HC hk_HK
                    have n0 := cell_of_block (k := 0) (HS.out.blockAt 0 rfl) rfl
                    have n1 := cell_of_block (k := 1) (HS.out.blockAt 0 rfl) rfl
                    clear hbx
                    cases hr : regHas C ⟨tx, ty⟩ tol ⟨tx, ty + 1⟩ with
                    | false =>
                      rw [hr, if_neg (by decide)] at hsn
                      have HR := Lib.hid hr
                      have HSN := Lib.hid hsn
                      clear hr hsn hnq
                      go_wp2_with fail
                      clear n0 n1
                      refine (flHas_is HN1.out HN2.out HR.out _ _ _ (HS.out.elems 1 rfl)).mono ?_
                      rintro e w13 ⟨rfl, hb_⟩
                      have HS := Lib.hid (HS.out.below hb_)
                      have HC := Lib.hid (HC.out.below hb_)
                      have HK := Lib.hid (HK.out.below hb_)
                      clear hb_
                      go_wp2_with fail
                      go_roundw
                      case rel => exact ⟨3 + 1, by omega, rfl, by rw [HSN.out], HK.out⟩
                      case measure => simp [intOf]
                    | true =>
                      rw [hr, if_pos rfl] at hsn
                      have hin := (regHas_iff HCK.out).1 hr
                      obtain ⟨hd1, hd2⟩ := HNB.out _ hnq hin
                      have HR := Lib.hid hr
                      obtain ⟨d, hd⟩ : ∃ d : Int, (metC C ⟨tx, ty⟩ tol (ixP ⟨tx, ty + 1⟩) : Int) - 1 = d := ⟨_, rfl⟩
                      rw [hd] at hd1
                      rw [hd1] at hsn
                      have hd3 : d ≤ 1 ∧ -1 ≤ d := by omega
                      have HSN := Lib.hid hsn
                      have HD := Lib.hid hd1
                      have HD3 := Lib.hid hd3
                      clear hr hsn hnq hin hd1 hd2 hd hd3
                      go_wp2_with fail
                      clear n0 n1
                      refine (flHas_is HN1.out HN2.out HR.out _ _ _ (HS.out.elems 1 rfl)).mono ?_
                      rintro e w13 ⟨rfl, hb_⟩
                      have HS := Lib.hid (HS.out.below hb_)
                      have HC := Lib.hid (HC.out.below hb_)
                      have HK := Lib.hid (HK.out.below hb_)
                      clear hb_
                      have f0 := cell_of_block (k := 0) (HS.out.blockAt 2 rfl) rfl
                      have f1 := cell_of_block (k := 1) (HS.out.blockAt 2 rfl) rfl
                      have n0 := cell_of_block (k := 0) (HS.out.blockAt 0 rfl) rfl
                      have n1 := cell_of_block (k := 1) (HS.out.blockAt 0 rfl) rfl
                      go_wp2_with fail
                      clear n0 n1 f0 f1
                      refine (steps_is HD.out _ HC.out).mono ?_
                      rintro e w14 ⟨rfl, hb_⟩
                      have HS := Lib.hid (HS.out.below hb_)
                      have HC := Lib.hid (HC.out.below hb_)
                      have HK := Lib.hid (HK.out.below hb_)
                      clear hb_
                      have hd3 := HD3.out
                      go_wp2_with fail
                      clear hd3
                      go_roundw
                      case rel => exact ⟨3 + 1, by omega, rfl, by rw [HSN.out], HK.out⟩
                      case measure => simp [intOf]
                · obtain rfl : k = 4 := by omega
                  rw [show (nbs ⟨tx, ty⟩).take 4 = nbs ⟨tx, ty⟩ from rfl] at hln
                  clear hk hlt hbx
                  go_wp2_with fail
                  go_ret
                  exact ⟨rfl, HS.out.low⟩
            · have hbx := HBD.out
              have t0 := cell_of_block (k := 0) (HS.out.blockAt 3 rfl) rfl
              have t1 := cell_of_block (k := 1) (HS.out.blockAt 3 rfl) rfl
              go_wp2_with fail
              clear t0 t1
              have HK := Lib.hid (show Kp w11 w11 from Below.refl _ _)
              go_loopw [20, 150] (fun l i wr => ∃ k : Nat, k ≤ 4 ∧ i = .int .i64 (k : Int) ∧ l = .int .i64 (leastF C ⟨tx, ty⟩ tol (0 : Int) ((nbs ⟨tx, ty⟩).take k)) ∧ Kp w11 wr) (fun _ i _ => 4 - (intOf i).toNat)
              case atStart => exact ⟨0, by omega, rfl, rfl, HK.out⟩
              case round =>
                obtain ⟨k, hk, rfl, rfl, hb⟩ := hrel
                have HS := Lib.hid (HS.out.below hb)
                have HC := Lib.hid (HC.out.below hb)
                have HK := Lib.hid hb
                clear hb
                obtain ⟨ln, hln⟩ : ∃ ln, leastF C ⟨tx, ty⟩ tol (0 : Int) ((nbs ⟨tx, ty⟩).take k) = ln := ⟨_, rfl⟩
                rw [hln]
                by_cases hlt : k < 4
                · have hk4 : k = 0 ∨ k = 1 ∨ k = 2 ∨ k = 3 := by omega
                  clear hlt hk
                  rcases hk4 with rfl | rfl | rfl | rfl
                  · have hnq : (⟨tx - 1, ty⟩ : PtT) ∈ nbs ⟨tx, ty⟩ := by simp [nbs]
                    have hsn := leastF_snoc (C := C) (p := ⟨tx, ty⟩) (t := tol) (0 : Int) ((nbs ⟨tx, ty⟩).take 0) ⟨tx - 1, ty⟩
                    rw [show (nbs ⟨tx, ty⟩).take 0 ++ [⟨tx - 1, ty⟩] = (nbs ⟨tx, ty⟩).take (0 + 1) from rfl, hln] at hsn
                    have hix := (four_index (tx - 1) ty (tx + 1) ty tx (ty - 1) tx (ty + 1) wr).1
                    repeat ((fail_if_success (with_reducible refine stop_at (id := 21) ?_)); (first | go_values | go_skip | go_guarded | go_step | go_upon | go_back | (simp only [Int.not_lt, Int.not_le] at *; go_simp) | (go_values <;> (try go_simp)) | (go_ite <;> go_prune <;> (try go_simp)) | (split <;> (first | (rename_i hx; exact (hx _ rfl).elim) | go_prune))))
                    clear hix
                    have hs_ := HS.out.alloc (.cells #[.int .i64 (tx - 1), .int .i64 (ty)] 49)
                    have hk_HC := HC.out.below ((Below.refl _ _).alloc (Nat.le_refl _) (.cells #[.int .i64 (tx - 1), .int .i64 (ty)] 49))
                    have hk_HK := HK.out.below ((Below.refl _ _).alloc (Nat.le_refl _) (.cells #[.int .i64 (tx - 1), .int .i64 (ty)] 49))
                    obtain ⟨w12, hw_⟩ : ∃ w12 : World, wr.alloc (.cells #[.int .i64 (tx - 1), .int .i64 (ty)] 49) = w12 := ⟨_, rfl⟩
                    rw [hw_] at hs_ hk_HC hk_HK
                    have HS := Lib.hid hs_
                    have HC := Lib.hid hk_HC
                    have HK := Lib.hid hk_HK
                    rw [hw_]
                    clear hw_ hs_ hk_HC hk_HK
                    have n0 := cell_of_block (k := 0) (HS.out.blockAt 0 rfl) rfl
                    have n1 := cell_of_block (k := 1) (HS.out.blockAt 0 rfl) rfl
                    clear hbx
                    cases hr : regHas C ⟨tx, ty⟩ tol ⟨tx - 1, ty⟩ with
                    | false =>
                      rw [hr, if_neg (by decide)] at hsn
                      have HR := Lib.hid hr
                      have HSN := Lib.hid hsn
                      clear hr hsn hnq
                      go_wp2_with fail
                      clear n0 n1
                      refine (flHas_is HN1.out HN2.out HR.out _ _ _ (HS.out.elems 1 rfl)).mono ?_
                      rintro e w13 ⟨rfl, hb_⟩
                      have HS := Lib.hid (HS.out.below hb_)
                      have HC := Lib.hid (HC.out.below hb_)
                      have HK := Lib.hid (HK.out.below hb_)
                      clear hb_
                      go_wp2_with fail
                      go_roundw
                      case rel => exact ⟨0 + 1, by omega, rfl, by rw [HSN.out], HK.out⟩
                      case measure => simp [intOf]
                    | true =>
                      rw [hr, if_pos rfl] at hsn
                      have hin := (regHas_iff HCK.out).1 hr
                      obtain ⟨hd1, hd2⟩ := HNB.out _ hnq hin
                      have HR := Lib.hid hr
                      obtain ⟨d, hd⟩ : ∃ d : Int, (metC C ⟨tx, ty⟩ tol (ixP ⟨tx - 1, ty⟩) : Int) - 1 = d := ⟨_, rfl⟩
                      rw [hd] at hd1
                      rw [hd1] at hsn
                      have hd3 : d ≤ 1 ∧ -1 ≤ d := by omega
                      have HSN := Lib.hid hsn
                      have HD := Lib.hid hd1
                      have HD3 := Lib.hid hd3
                      clear hr hsn hnq hin hd1 hd2 hd hd3
                      go_wp2_with fail
                      clear n0 n1
                      refine (flHas_is HN1.out HN2.out HR.out _ _ _ (HS.out.elems 1 rfl)).mono ?_
                      rintro e w13 ⟨rfl, hb_⟩
                      have HS := Lib.hid (HS.out.below hb_)
                      have HC := Lib.hid (HC.out.below hb_)
                      have HK := Lib.hid (HK.out.below hb_)
                      clear hb_
                      have f0 := cell_of_block (k := 0) (HS.out.blockAt 2 rfl) rfl
                      have f1 := cell_of_block (k := 1) (HS.out.blockAt 2 rfl) rfl
                      have n0 := cell_of_block (k := 0) (HS.out.blockAt 0 rfl) rfl
                      have n1 := cell_of_block (k := 1) (HS.out.blockAt 0 rfl) rfl
                      go_wp2_with fail
                      clear n0 n1 f0 f1
                      refine (steps_is HD.out _ HC.out).mono ?_
                      rintro e w14 ⟨rfl, hb_⟩
                      have HS := Lib.hid (HS.out.below hb_)
                      have HC := Lib.hid (HC.out.below hb_)
                      have HK := Lib.hid (HK.out.below hb_)
                      clear hb_
                      have hd3 := HD3.out
                      go_wp2_with fail
                      clear hd3
                      go_roundw
                      case rel => exact ⟨0 + 1, by omega, rfl, by rw [HSN.out], HK.out⟩
                      case measure => simp [intOf]
                  · have hnq : (⟨tx + 1, ty⟩ : PtT) ∈ nbs ⟨tx, ty⟩ := by simp [nbs]
                    have hsn := leastF_snoc (C := C) (p := ⟨tx, ty⟩) (t := tol) (0 : Int) ((nbs ⟨tx, ty⟩).take 1) ⟨tx + 1, ty⟩
                    rw [show (nbs ⟨tx, ty⟩).take 1 ++ [⟨tx + 1, ty⟩] = (nbs ⟨tx, ty⟩).take (1 + 1) from rfl, hln] at hsn
                    have hix := (four_index (tx - 1) ty (tx + 1) ty tx (ty - 1) tx (ty + 1) wr).2.1
                    repeat ((fail_if_success (with_reducible refine stop_at (id := 21) ?_)); (first | go_values | go_skip | go_guarded | go_step | go_upon | go_back | (simp only [Int.not_lt, Int.not_le] at *; go_simp) | (go_values <;> (try go_simp)) | (go_ite <;> go_prune <;> (try go_simp)) | (split <;> (first | (rename_i hx; exact (hx _ rfl).elim) | go_prune))))
                    clear hix
                    have hs_ := HS.out.alloc (.cells #[.int .i64 (tx + 1), .int .i64 (ty)] 49)
                    have hk_HC := HC.out.below ((Below.refl _ _).alloc (Nat.le_refl _) (.cells #[.int .i64 (tx + 1), .int .i64 (ty)] 49))
                    have hk_HK := HK.out.below ((Below.refl _ _).alloc (Nat.le_refl _) (.cells #[.int .i64 (tx + 1), .int .i64 (ty)] 49))
                    obtain ⟨w12, hw_⟩ : ∃ w12 : World, wr.alloc (.cells #[.int .i64 (tx + 1), .int .i64 (ty)] 49) = w12 := ⟨_, rfl⟩
                    rw [hw_] at hs_ hk_HC hk_HK
                    have HS := Lib.hid hs_
                    have HC := Lib.hid hk_HC
                    have HK := Lib.hid hk_HK
                    rw [hw_]
                    clear hw_ hs_ hk_HC hk_HK
                    have n0 := cell_of_block (k := 0) (HS.out.blockAt 0 rfl) rfl
                    have n1 := cell_of_block (k := 1) (HS.out.blockAt 0 rfl) rfl
                    clear hbx
                    cases hr : regHas C ⟨tx, ty⟩ tol ⟨tx + 1, ty⟩ with
                    | false =>
                      rw [hr, if_neg (by decide)] at hsn
                      have HR := Lib.hid hr
                      have HSN := Lib.hid hsn
                      clear hr hsn hnq
                      go_wp2_with fail
                      clear n0 n1
                      refine (flHas_is HN1.out HN2.out HR.out _ _ _ (HS.out.elems 1 rfl)).mono ?_
                      rintro e w13 ⟨rfl, hb_⟩
                      have HS := Lib.hid (HS.out.below hb_)
                      have HC := Lib.hid (HC.out.below hb_)
                      have HK := Lib.hid (HK.out.below hb_)
                      clear hb_
                      go_wp2_with fail
                      go_roundw
                      case rel => exact ⟨1 + 1, by omega, rfl, by rw [HSN.out], HK.out⟩
                      case measure => simp [intOf]
                    | true =>
                      rw [hr, if_pos rfl] at hsn
                      have hin := (regHas_iff HCK.out).1 hr
                      obtain ⟨hd1, hd2⟩ := HNB.out _ hnq hin
                      have HR := Lib.hid hr
                      obtain ⟨d, hd⟩ : ∃ d : Int, (metC C ⟨tx, ty⟩ tol (ixP ⟨tx + 1, ty⟩) : Int) - 1 = d := ⟨_, rfl⟩
                      rw [hd] at hd1
                      rw [hd1] at hsn
                      have hd3 : d ≤ 1 ∧ -1 ≤ d := by omega
                      have HSN := Lib.hid hsn
                      have HD := Lib.hid hd1
                      have HD3 := Lib.hid hd3
                      clear hr hsn hnq hin hd1 hd2 hd hd3
                      go_wp2_with fail
                      clear n0 n1
                      refine (flHas_is HN1.out HN2.out HR.out _ _ _ (HS.out.elems 1 rfl)).mono ?_
                      rintro e w13 ⟨rfl, hb_⟩
                      have HS := Lib.hid (HS.out.below hb_)
                      have HC := Lib.hid (HC.out.below hb_)
                      have HK := Lib.hid (HK.out.below hb_)
                      clear hb_
                      have f0 := cell_of_block (k := 0) (HS.out.blockAt 2 rfl) rfl
                      have f1 := cell_of_block (k := 1) (HS.out.blockAt 2 rfl) rfl
                      have n0 := cell_of_block (k := 0) (HS.out.blockAt 0 rfl) rfl
                      have n1 := cell_of_block (k := 1) (HS.out.blockAt 0 rfl) rfl
                      go_wp2_with fail
                      clear n0 n1 f0 f1
                      refine (steps_is HD.out _ HC.out).mono ?_
                      rintro e w14 ⟨rfl, hb_⟩
                      have HS := Lib.hid (HS.out.below hb_)
                      have HC := Lib.hid (HC.out.below hb_)
                      have HK := Lib.hid (HK.out.below hb_)
                      clear hb_
                      have hd3 := HD3.out
                      go_wp2_with fail
                      clear hd3
                      go_roundw
                      case rel => exact ⟨1 + 1, by omega, rfl, by rw [HSN.out], HK.out⟩
                      case measure => simp [intOf]
                  · have hnq : (⟨tx, ty - 1⟩ : PtT) ∈ nbs ⟨tx, ty⟩ := by simp [nbs]
                    have hsn := leastF_snoc (C := C) (p := ⟨tx, ty⟩) (t := tol) (0 : Int) ((nbs ⟨tx, ty⟩).take 2) ⟨tx, ty - 1⟩
                    rw [show (nbs ⟨tx, ty⟩).take 2 ++ [⟨tx, ty - 1⟩] = (nbs ⟨tx, ty⟩).take (2 + 1) from rfl, hln] at hsn
                    have hix := (four_index (tx - 1) ty (tx + 1) ty tx (ty - 1) tx (ty + 1) wr).2.2.1
                    repeat ((fail_if_success (with_reducible refine stop_at (id := 21) ?_)); (first | go_values | go_skip | go_guarded | go_step | go_upon | go_back | (simp only [Int.not_lt, Int.not_le] at *; go_simp) | (go_values <;> (try go_simp)) | (go_ite <;> go_prune <;> (try go_simp)) | (split <;> (first | (rename_i hx; exact (hx _ rfl).elim) | go_prune))))
                    clear hix
                    have hs_ := HS.out.alloc (.cells #[.int .i64 (tx), .int .i64 (ty - 1)] 49)
                    have hk_HC := HC.out.below ((Below.refl _ _).alloc (Nat.le_refl _) (.cells #[.int .i64 (tx), .int .i64 (ty - 1)] 49))
                    have hk_HK := HK.out.below ((Below.refl _ _).alloc (Nat.le_refl _) (.cells #[.int .i64 (tx), .int .i64 (ty - 1)] 49))
                    obtain ⟨w12, hw_⟩ : ∃ w12 : World, wr.alloc (.cells #[.int .i64 (tx), .int .i64 (ty - 1)] 49) = w12 := ⟨_, rfl⟩
                    rw [hw_] at hs_ hk_HC hk_HK
                    have HS := Lib.hid hs_
                    have HC := Lib.hid hk_HC
                    have HK := Lib.hid hk_HK
                    rw [hw_]
                    clear hw_ hs_ hk_HC hk_HK
                    have n0 := cell_of_block (k := 0) (HS.out.blockAt 0 rfl) rfl
                    have n1 := cell_of_block (k := 1) (HS.out.blockAt 0 rfl) rfl
                    clear hbx
                    cases hr : regHas C ⟨tx, ty⟩ tol ⟨tx, ty - 1⟩ with
                    | false =>
                      rw [hr, if_neg (by decide)] at hsn
                      have HR := Lib.hid hr
                      have HSN := Lib.hid hsn
                      clear hr hsn hnq
                      go_wp2_with fail
                      clear n0 n1
                      refine (flHas_is HN1.out HN2.out HR.out _ _ _ (HS.out.elems 1 rfl)).mono ?_
                      rintro e w13 ⟨rfl, hb_⟩
                      have HS := Lib.hid (HS.out.below hb_)
                      have HC := Lib.hid (HC.out.below hb_)
                      have HK := Lib.hid (HK.out.below hb_)
                      clear hb_
                      go_wp2_with fail
                      go_roundw
                      case rel => exact ⟨2 + 1, by omega, rfl, by rw [HSN.out], HK.out⟩
                      case measure => simp [intOf]
                    | true =>
                      rw [hr, if_pos rfl] at hsn
                      have hin := (regHas_iff HCK.out).1 hr
                      obtain ⟨hd1, hd2⟩ := HNB.out _ hnq hin
                      have HR := Lib.hid hr
                      obtain ⟨d, hd⟩ : ∃ d : Int, (metC C ⟨tx, ty⟩ tol (ixP ⟨tx, ty - 1⟩) : Int) - 1 = d := ⟨_, rfl⟩
                      rw [hd] at hd1
                      rw [hd1] at hsn
                      have hd3 : d ≤ 1 ∧ -1 ≤ d := by omega
                      have HSN := Lib.hid hsn
                      have HD := Lib.hid hd1
                      have HD3 := Lib.hid hd3
                      clear hr hsn hnq hin hd1 hd2 hd hd3
                      go_wp2_with fail
                      clear n0 n1
                      refine (flHas_is HN1.out HN2.out HR.out _ _ _ (HS.out.elems 1 rfl)).mono ?_
                      rintro e w13 ⟨rfl, hb_⟩
                      have HS := Lib.hid (HS.out.below hb_)
                      have HC := Lib.hid (HC.out.below hb_)
                      have HK := Lib.hid (HK.out.below hb_)
                      clear hb_
                      have f0 := cell_of_block (k := 0) (HS.out.blockAt 2 rfl) rfl
                      have f1 := cell_of_block (k := 1) (HS.out.blockAt 2 rfl) rfl
                      have n0 := cell_of_block (k := 0) (HS.out.blockAt 0 rfl) rfl
                      have n1 := cell_of_block (k := 1) (HS.out.blockAt 0 rfl) rfl
                      go_wp2_with fail
                      clear n0 n1 f0 f1
                      refine (steps_is HD.out _ HC.out).mono ?_
                      rintro e w14 ⟨rfl, hb_⟩
                      have HS := Lib.hid (HS.out.below hb_)
                      have HC := Lib.hid (HC.out.below hb_)
                      have HK := Lib.hid (HK.out.below hb_)
                      clear hb_
                      have hd3 := HD3.out
                      go_wp2_with fail
                      clear hd3
                      go_roundw
                      case rel => exact ⟨2 + 1, by omega, rfl, by rw [HSN.out], HK.out⟩
                      case measure => simp [intOf]
                  · have hnq : (⟨tx, ty + 1⟩ : PtT) ∈ nbs ⟨tx, ty⟩ := by simp [nbs]
                    have hsn := leastF_snoc (C := C) (p := ⟨tx, ty⟩) (t := tol) (0 : Int) ((nbs ⟨tx, ty⟩).take 3) ⟨tx, ty + 1⟩
                    rw [show (nbs ⟨tx, ty⟩).take 3 ++ [⟨tx, ty + 1⟩] = (nbs ⟨tx, ty⟩).take (3 + 1) from rfl, hln] at hsn
                    have hix := (four_index (tx - 1) ty (tx + 1) ty tx (ty - 1) tx (ty + 1) wr).2.2.2
                    repeat ((fail_if_success (with_reducible refine stop_at (id := 21) ?_)); (first | go_values | go_skip | go_guarded | go_step | go_upon | go_back | (simp only [Int.not_lt, Int.not_le] at *; go_simp) | (go_values <;> (try go_simp)) | (go_ite <;> go_prune <;> (try go_simp)) | (split <;> (first | (rename_i hx; exact (hx _ rfl).elim) | go_prune))))
                    clear hix
                    have hs_ := HS.out.alloc (.cells #[.int .i64 (tx), .int .i64 (ty + 1)] 49)
                    have hk_HC := HC.out.below ((Below.refl _ _).alloc (Nat.le_refl _) (.cells #[.int .i64 (tx), .int .i64 (ty + 1)] 49))
                    have hk_HK := HK.out.below ((Below.refl _ _).alloc (Nat.le_refl _) (.cells #[.int .i64 (tx), .int .i64 (ty + 1)] 49))
                    obtain ⟨w12, hw_⟩ : ∃ w12 : World, wr.alloc (.cells #[.int .i64 (tx), .int .i64 (ty + 1)] 49) = w12 := ⟨_, rfl⟩
                    rw [hw_] at hs_ hk_HC hk_HK
                    have HS := Lib.hid hs_
                    have HC := Lib.hid hk_HC
                    have HK := Lib.hid hk_HK
                    rw [hw_]
                    clear hw_ hs_ hk_HC hk_HK
                    have n0 := cell_of_block (k := 0) (HS.out.blockAt 0 rfl) rfl
                    have n1 := cell_of_block (k := 1) (HS.out.blockAt 0 rfl) rfl
                    clear hbx
                    cases hr : regHas C ⟨tx, ty⟩ tol ⟨tx, ty + 1⟩ with
                    | false =>
                      rw [hr, if_neg (by decide)] at hsn
                      have HR := Lib.hid hr
                      have HSN := Lib.hid hsn
                      clear hr hsn hnq
                      go_wp2_with fail
                      clear n0 n1
                      refine (flHas_is HN1.out HN2.out HR.out _ _ _ (HS.out.elems 1 rfl)).mono ?_
                      rintro e w13 ⟨rfl, hb_⟩
                      have HS := Lib.hid (HS.out.below hb_)
                      have HC := Lib.hid (HC.out.below hb_)
                      have HK := Lib.hid (HK.out.below hb_)
                      clear hb_
                      go_wp2_with fail
                      go_roundw
                      case rel => exact ⟨3 + 1, by omega, rfl, by rw [HSN.out], HK.out⟩
                      case measure => simp [intOf]
                    | true =>
                      rw [hr, if_pos rfl] at hsn
                      have hin := (regHas_iff HCK.out).1 hr
                      obtain ⟨hd1, hd2⟩ := HNB.out _ hnq hin
                      have HR := Lib.hid hr
                      obtain ⟨d, hd⟩ : ∃ d : Int, (metC C ⟨tx, ty⟩ tol (ixP ⟨tx, ty + 1⟩) : Int) - 1 = d := ⟨_, rfl⟩
                      rw [hd] at hd1
                      rw [hd1] at hsn
                      have hd3 : d ≤ 1 ∧ -1 ≤ d := by omega
                      have HSN := Lib.hid hsn
                      have HD := Lib.hid hd1
                      have HD3 := Lib.hid hd3
                      clear hr hsn hnq hin hd1 hd2 hd hd3
                      go_wp2_with fail
                      clear n0 n1
                      refine (flHas_is HN1.out HN2.out HR.out _ _ _ (HS.out.elems 1 rfl)).mono ?_
                      rintro e w13 ⟨rfl, hb_⟩
                      have HS := Lib.hid (HS.out.below hb_)
                      have HC := Lib.hid (HC.out.below hb_)
                      have HK := Lib.hid (HK.out.below hb_)
                      clear hb_
                      have f0 := cell_of_block (k := 0) (HS.out.blockAt 2 rfl) rfl
                      have f1 := cell_of_block (k := 1) (HS.out.blockAt 2 rfl) rfl
                      have n0 := cell_of_block (k := 0) (HS.out.blockAt 0 rfl) rfl
                      have n1 := cell_of_block (k := 1) (HS.out.blockAt 0 rfl) rfl
                      go_wp2_with fail
                      clear n0 n1 f0 f1
                      refine (steps_is HD.out _ HC.out).mono ?_
                      rintro e w14 ⟨rfl, hb_⟩
                      have HS := Lib.hid (HS.out.below hb_)
                      have HC := Lib.hid (HC.out.below hb_)
                      have HK := Lib.hid (HK.out.below hb_)
                      clear hb_
                      have hd3 := HD3.out
                      go_wp2_with fail
                      clear hd3
                      go_roundw
                      case rel => exact ⟨3 + 1, by omega, rfl, by rw [HSN.out], HK.out⟩
                      case measure => simp [intOf]
                · obtain rfl : k = 4 := by omega
                  rw [show (nbs ⟨tx, ty⟩).take 4 = nbs ⟨tx, ty⟩ from rfl] at hln
                  clear hk hlt hbx
                  go_wp2_with fail
                  go_ret
                  exact ⟨rfl, HS.out.low⟩
          · have hnp : ¬ (px = tx ∧ py = ty) := fun h => hm0 (HNE.out.1 (by rw [h.1, h.2]))
            have hm1 : ¬ ((m : Int) = 0) := by omega
            by_cases hpx : px = tx
            · have hpy : ¬ (py = ty) := fun h => hnp ⟨hpx, h⟩
              obtain rfl : tx = px := hpx.symm
              clear hpx
              clear hnp
              have q0 := cell_of_block (k := 0) (HS.out.blockAt 1 rfl) rfl
              have q1 := cell_of_block (k := 1) (HS.out.blockAt 1 rfl) rfl
              have t0 := cell_of_block (k := 0) (HS.out.blockAt 3 rfl) rfl
              have t1 := cell_of_block (k := 1) (HS.out.blockAt 3 rfl) rfl
              go_wp2_with fail
              clear q0 q1 t0 t1
              refine (HCT.out _ _ _ (HS.out.elems 0 rfl)).mono ?_
              rintro e w9 ⟨rfl, hb_⟩
              have HS := Lib.hid (HS.out.below hb_)
              have HC := Lib.hid (HC.out.below hb_)
              clear hb_
              have hge : ¬ ((cn : Int) ≤ (m : Int)) := by have := HMC.out; omega
              have hge2 : m < cn := by have := HMC.out; omega
              have hge3 : ¬ cn ≤ m := by omega
              have q0 := cell_of_block (k := 0) (HS.out.blockAt 1 rfl) rfl
              have q1 := cell_of_block (k := 1) (HS.out.blockAt 1 rfl) rfl
              have t0 := cell_of_block (k := 0) (HS.out.blockAt 3 rfl) rfl
              have t1 := cell_of_block (k := 1) (HS.out.blockAt 3 rfl) rfl
              go_wp2_with fail
              clear q0 q1 t0 t1 hge hge2 hge3
              refine (steps_is HZ2.out _ HC.out).mono ?_
              rintro e w10 ⟨rfl, hb_⟩
              have HS := Lib.hid (HS.out.below hb_)
              have HC := Lib.hid (HC.out.below hb_)
              clear hb_
              have q0 := cell_of_block (k := 0) (HS.out.blockAt 1 rfl) rfl
              have q1 := cell_of_block (k := 1) (HS.out.blockAt 1 rfl) rfl
              have t0 := cell_of_block (k := 0) (HS.out.blockAt 3 rfl) rfl
              have t1 := cell_of_block (k := 1) (HS.out.blockAt 3 rfl) rfl
              go_wp2_with fail
              clear q0 q1 t0 t1
              refine (steps_is HZ1.out _ HC.out).mono ?_
              rintro e w11 ⟨rfl, hb_⟩
              have HS := Lib.hid (HS.out.below hb_)
              have HC := Lib.hid (HC.out.below hb_)
              clear hb_
              rcases HZ3.out with ⟨rfl, hz⟩ | ⟨rfl, rfl⟩
              · have hz1 : ¬ (z < (m : Int)) := by omega
                have hbx := HBD.out
                have t0 := cell_of_block (k := 0) (HS.out.blockAt 3 rfl) rfl
                have t1 := cell_of_block (k := 1) (HS.out.blockAt 3 rfl) rfl
                go_wp2_with fail
                clear hz hz1 t0 t1
                have HK := Lib.hid (show Kp w11 w11 from Below.refl _ _)
                go_loopw [20, 150] (fun l i wr => ∃ k : Nat, k ≤ 4 ∧ i = .int .i64 (k : Int) ∧ l = .int .i64 (leastF C ⟨tx, py⟩ tol (m : Int) ((nbs ⟨tx, ty⟩).take k)) ∧ Kp w11 wr) (fun _ i _ => 4 - (intOf i).toNat)
                case atStart => exact ⟨0, by omega, rfl, rfl, HK.out⟩
                case round =>
                  obtain ⟨k, hk, rfl, rfl, hb⟩ := hrel
                  have HS := Lib.hid (HS.out.below hb)
                  have HC := Lib.hid (HC.out.below hb)
                  have HK := Lib.hid hb
                  clear hb
                  obtain ⟨ln, hln⟩ : ∃ ln, leastF C ⟨tx, py⟩ tol (m : Int) ((nbs ⟨tx, ty⟩).take k) = ln := ⟨_, rfl⟩
                  rw [hln]
                  by_cases hlt : k < 4
                  · have hk4 : k = 0 ∨ k = 1 ∨ k = 2 ∨ k = 3 := by omega
                    clear hlt hk
                    rcases hk4 with rfl | rfl | rfl | rfl
                    · have hnq : (⟨tx - 1, ty⟩ : PtT) ∈ nbs ⟨tx, ty⟩ := by simp [nbs]
                      have hsn := leastF_snoc (C := C) (p := ⟨tx, py⟩) (t := tol) (m : Int) ((nbs ⟨tx, ty⟩).take 0) ⟨tx - 1, ty⟩
                      rw [show (nbs ⟨tx, ty⟩).take 0 ++ [⟨tx - 1, ty⟩] = (nbs ⟨tx, ty⟩).take (0 + 1) from rfl, hln] at hsn
                      have hix := (four_index (tx - 1) ty (tx + 1) ty tx (ty - 1) tx (ty + 1) wr).1
                      repeat ((fail_if_success (with_reducible refine stop_at (id := 21) ?_)); (first | go_values | go_skip | go_guarded | go_step | go_upon | go_back | (simp only [Int.not_lt, Int.not_le] at *; go_simp) | (go_values <;> (try go_simp)) | (go_ite <;> go_prune <;> (try go_simp)) | (split <;> (first | (rename_i hx; exact (hx _ rfl).elim) | go_prune))))
                      clear hix
                      have hs_ := HS.out.alloc (.cells #[.int .i64 (tx - 1), .int .i64 (ty)] 49)
                      have hk_HC := HC.out.below ((Below.refl _ _).alloc (Nat.le_refl _) (.cells #[.int .i64 (tx - 1), .int .i64 (ty)] 49))
                      have hk_HK := HK.out.below ((Below.refl _ _).alloc (Nat.le_refl _) (.cells #[.int .i64 (tx - 1), .int .i64 (ty)] 49))
                      obtain ⟨w12, hw_⟩ : ∃ w12 : World, wr.alloc (.cells #[.int .i64 (tx - 1), .int .i64 (ty)] 49) = w12 := ⟨_, rfl⟩
                      rw [hw_] at hs_ hk_HC hk_HK
                      have HS := Lib.hid hs_
                      have HC := Lib.hid hk_HC
                      have HK := Lib.hid hk_HK
                      rw [hw_]
                      clear hw_ hs_ hk_HC hk_HK
                      have n0 := cell_of_block (k := 0) (HS.out.blockAt 0 rfl) rfl
                      have n1 := cell_of_block (k := 1) (HS.out.blockAt 0 rfl) rfl
                      clear hbx
                      cases hr : regHas C ⟨tx, py⟩ tol ⟨tx - 1, ty⟩ with
                      | false =>
                        rw [hr, if_neg (by decide)] at hsn
                        have HR := Lib.hid hr
                        have HSN := Lib.hid hsn
                        clear hr hsn hnq
                        go_wp2_with fail
                        clear n0 n1
                        refine (flHas_is HN1.out HN2.out HR.out _ _ _ (HS.out.elems 1 rfl)).mono ?_
                        rintro e w13 ⟨rfl, hb_⟩
                        have HS := Lib.hid (HS.out.below hb_)
                        have HC := Lib.hid (HC.out.below hb_)
                        have HK := Lib.hid (HK.out.below hb_)
                        clear hb_
                        go_wp2_with fail
                        go_roundw
                        case rel => exact ⟨0 + 1, by omega, rfl, by rw [HSN.out], HK.out⟩
                        case measure => simp [intOf]
                      | true =>
                        rw [hr, if_pos rfl] at hsn
                        have hin := (regHas_iff HCK.out).1 hr
                        obtain ⟨hd1, hd2⟩ := HNB.out _ hnq hin
                        have HR := Lib.hid hr
                        obtain ⟨d, hd⟩ : ∃ d : Int, (metC C ⟨tx, py⟩ tol (ixP ⟨tx - 1, ty⟩) : Int) - 1 = d := ⟨_, rfl⟩
                        rw [hd] at hd1
                        rw [hd1] at hsn
                        have hd3 : d ≤ m + 1 ∧ m - 1 ≤ d := by omega
                        have HSN := Lib.hid hsn
                        have HD := Lib.hid hd1
                        have HD3 := Lib.hid hd3
                        clear hr hsn hnq hin hd1 hd2 hd hd3
                        go_wp2_with fail
                        clear n0 n1
                        refine (flHas_is HN1.out HN2.out HR.out _ _ _ (HS.out.elems 1 rfl)).mono ?_
                        rintro e w13 ⟨rfl, hb_⟩
                        have HS := Lib.hid (HS.out.below hb_)
                        have HC := Lib.hid (HC.out.below hb_)
                        have HK := Lib.hid (HK.out.below hb_)
                        clear hb_
                        have f0 := cell_of_block (k := 0) (HS.out.blockAt 2 rfl) rfl
                        have f1 := cell_of_block (k := 1) (HS.out.blockAt 2 rfl) rfl
                        have n0 := cell_of_block (k := 0) (HS.out.blockAt 0 rfl) rfl
                        have n1 := cell_of_block (k := 1) (HS.out.blockAt 0 rfl) rfl
                        go_wp2_with fail
                        clear n0 n1 f0 f1
                        refine (steps_is HD.out _ HC.out).mono ?_
                        rintro e w14 ⟨rfl, hb_⟩
                        have HS := Lib.hid (HS.out.below hb_)
                        have HC := Lib.hid (HC.out.below hb_)
                        have HK := Lib.hid (HK.out.below hb_)
                        clear hb_
                        have hd3 := HD3.out
                        go_wp2_with fail
                        clear hd3
                        go_roundw
                        case rel => exact ⟨0 + 1, by omega, rfl, by rw [HSN.out], HK.out⟩
                        case measure => simp [intOf]
                    · have hnq : (⟨tx + 1, ty⟩ : PtT) ∈ nbs ⟨tx, ty⟩ := by simp [nbs]
                      have hsn := leastF_snoc (C := C) (p := ⟨tx, py⟩) (t := tol) (m : Int) ((nbs ⟨tx, ty⟩).take 1) ⟨tx + 1, ty⟩
                      rw [show (nbs ⟨tx, ty⟩).take 1 ++ [⟨tx + 1, ty⟩] = (nbs ⟨tx, ty⟩).take (1 + 1) from rfl, hln] at hsn
                      have hix := (four_index (tx - 1) ty (tx + 1) ty tx (ty - 1) tx (ty + 1) wr).2.1
                      repeat ((fail_if_success (with_reducible refine stop_at (id := 21) ?_)); (first | go_values | go_skip | go_guarded | go_step | go_upon | go_back | (simp only [Int.not_lt, Int.not_le] at *; go_simp) | (go_values <;> (try go_simp)) | (go_ite <;> go_prune <;> (try go_simp)) | (split <;> (first | (rename_i hx; exact (hx _ rfl).elim) | go_prune))))
                      clear hix
                      have hs_ := HS.out.alloc (.cells #[.int .i64 (tx + 1), .int .i64 (ty)] 49)
                      have hk_HC := HC.out.below ((Below.refl _ _).alloc (Nat.le_refl _) (.cells #[.int .i64 (tx + 1), .int .i64 (ty)] 49))
                      have hk_HK := HK.out.below ((Below.refl _ _).alloc (Nat.le_refl _) (.cells #[.int .i64 (tx + 1), .int .i64 (ty)] 49))
                      obtain ⟨w12, hw_⟩ : ∃ w12 : World, wr.alloc (.cells #[.int .i64 (tx + 1), .int .i64 (ty)] 49) = w12 := ⟨_, rfl⟩
                      rw [hw_] at hs_ hk_HC hk_HK
                      have HS := Lib.hid hs_
                      have HC := Lib.hid hk_HC
                      have HK := Lib.hid hk_HK
                      rw [hw_]
                      clear hw_ hs_ hk_HC hk_HK
                      have n0 := cell_of_block (k := 0) (HS.out.blockAt 0 rfl) rfl
                      have n1 := cell_of_block (k := 1) (HS.out.blockAt 0 rfl) rfl
                      clear hbx
                      cases hr : regHas C ⟨tx, py⟩ tol ⟨tx + 1, ty⟩ with
                      | false =>
                        rw [hr, if_neg (by decide)] at hsn
                        have HR := Lib.hid hr
                        have HSN := Lib.hid hsn
                        clear hr hsn hnq
                        go_wp2_with fail
                        clear n0 n1
                        refine (flHas_is HN1.out HN2.out HR.out _ _ _ (HS.out.elems 1 rfl)).mono ?_
                        rintro e w13 ⟨rfl, hb_⟩
                        have HS := Lib.hid (HS.out.below hb_)
                        have HC := Lib.hid (HC.out.below hb_)
                        have HK := Lib.hid (HK.out.below hb_)
                        clear hb_
                        go_wp2_with fail
                        go_roundw
                        case rel => exact ⟨1 + 1, by omega, rfl, by rw [HSN.out], HK.out⟩
                        case measure => simp [intOf]
                      | true =>
                        rw [hr, if_pos rfl] at hsn
                        have hin := (regHas_iff HCK.out).1 hr
                        obtain ⟨hd1, hd2⟩ := HNB.out _ hnq hin
                        have HR := Lib.hid hr
                        obtain ⟨d, hd⟩ : ∃ d : Int, (metC C ⟨tx, py⟩ tol (ixP ⟨tx + 1, ty⟩) : Int) - 1 = d := ⟨_, rfl⟩
                        rw [hd] at hd1
                        rw [hd1] at hsn
                        have hd3 : d ≤ m + 1 ∧ m - 1 ≤ d := by omega
                        have HSN := Lib.hid hsn
                        have HD := Lib.hid hd1
                        have HD3 := Lib.hid hd3
                        clear hr hsn hnq hin hd1 hd2 hd hd3
                        go_wp2_with fail
                        clear n0 n1
                        refine (flHas_is HN1.out HN2.out HR.out _ _ _ (HS.out.elems 1 rfl)).mono ?_
                        rintro e w13 ⟨rfl, hb_⟩
                        have HS := Lib.hid (HS.out.below hb_)
                        have HC := Lib.hid (HC.out.below hb_)
                        have HK := Lib.hid (HK.out.below hb_)
                        clear hb_
                        have f0 := cell_of_block (k := 0) (HS.out.blockAt 2 rfl) rfl
                        have f1 := cell_of_block (k := 1) (HS.out.blockAt 2 rfl) rfl
                        have n0 := cell_of_block (k := 0) (HS.out.blockAt 0 rfl) rfl
                        have n1 := cell_of_block (k := 1) (HS.out.blockAt 0 rfl) rfl
                        go_wp2_with fail
                        clear n0 n1 f0 f1
                        refine (steps_is HD.out _ HC.out).mono ?_
                        rintro e w14 ⟨rfl, hb_⟩
                        have HS := Lib.hid (HS.out.below hb_)
                        have HC := Lib.hid (HC.out.below hb_)
                        have HK := Lib.hid (HK.out.below hb_)
                        clear hb_
                        have hd3 := HD3.out
                        go_wp2_with fail
                        clear hd3
                        go_roundw
                        case rel => exact ⟨1 + 1, by omega, rfl, by rw [HSN.out], HK.out⟩
                        case measure => simp [intOf]
                    · have hnq : (⟨tx, ty - 1⟩ : PtT) ∈ nbs ⟨tx, ty⟩ := by simp [nbs]
                      have hsn := leastF_snoc (C := C) (p := ⟨tx, py⟩) (t := tol) (m : Int) ((nbs ⟨tx, ty⟩).take 2) ⟨tx, ty - 1⟩
                      rw [show (nbs ⟨tx, ty⟩).take 2 ++ [⟨tx, ty - 1⟩] = (nbs ⟨tx, ty⟩).take (2 + 1) from rfl, hln] at hsn
                      have hix := (four_index (tx - 1) ty (tx + 1) ty tx (ty - 1) tx (ty + 1) wr).2.2.1
                      repeat ((fail_if_success (with_reducible refine stop_at (id := 21) ?_)); (first | go_values | go_skip | go_guarded | go_step | go_upon | go_back | (simp only [Int.not_lt, Int.not_le] at *; go_simp) | (go_values <;> (try go_simp)) | (go_ite <;> go_prune <;> (try go_simp)) | (split <;> (first | (rename_i hx; exact (hx _ rfl).elim) | go_prune))))
                      clear hix
                      have hs_ := HS.out.alloc (.cells #[.int .i64 (tx), .int .i64 (ty - 1)] 49)
                      have hk_HC := HC.out.below ((Below.refl _ _).alloc (Nat.le_refl _) (.cells #[.int .i64 (tx), .int .i64 (ty - 1)] 49))
                      have hk_HK := HK.out.below ((Below.refl _ _).alloc (Nat.le_refl _) (.cells #[.int .i64 (tx), .int .i64 (ty - 1)] 49))
                      obtain ⟨w12, hw_⟩ : ∃ w12 : World, wr.alloc (.cells #[.int .i64 (tx), .int .i64 (ty - 1)] 49) = w12 := ⟨_, rfl⟩
                      rw [hw_] at hs_ hk_HC hk_HK
                      have HS := Lib.hid hs_
                      have HC := Lib.hid hk_HC
                      have HK := Lib.hid hk_HK
                      rw [hw_]
                      clear hw_ hs_ hk_HC hk_HK
                      have n0 := cell_of_block (k := 0) (HS.out.blockAt 0 rfl) rfl
                      have n1 := cell_of_block (k := 1) (HS.out.blockAt 0 rfl) rfl
                      clear hbx
                      cases hr : regHas C ⟨tx, py⟩ tol ⟨tx, ty - 1⟩ with
                      | false =>
                        rw [hr, if_neg (by decide)] at hsn
                        have HR := Lib.hid hr
                        have HSN := Lib.hid hsn
                        clear hr hsn hnq
                        go_wp2_with fail
                        clear n0 n1
                        refine (flHas_is HN1.out HN2.out HR.out _ _ _ (HS.out.elems 1 rfl)).mono ?_
                        rintro e w13 ⟨rfl, hb_⟩
                        have HS := Lib.hid (HS.out.below hb_)
                        have HC := Lib.hid (HC.out.below hb_)
                        have HK := Lib.hid (HK.out.below hb_)
                        clear hb_
                        go_wp2_with fail
                        go_roundw
                        case rel => exact ⟨2 + 1, by omega, rfl, by rw [HSN.out], HK.out⟩
                        case measure => simp [intOf]
                      | true =>
                        rw [hr, if_pos rfl] at hsn
                        have hin := (regHas_iff HCK.out).1 hr
                        obtain ⟨hd1, hd2⟩ := HNB.out _ hnq hin
                        have HR := Lib.hid hr
                        obtain ⟨d, hd⟩ : ∃ d : Int, (metC C ⟨tx, py⟩ tol (ixP ⟨tx, ty - 1⟩) : Int) - 1 = d := ⟨_, rfl⟩
                        rw [hd] at hd1
                        rw [hd1] at hsn
                        have hd3 : d ≤ m + 1 ∧ m - 1 ≤ d := by omega
                        have HSN := Lib.hid hsn
                        have HD := Lib.hid hd1
                        have HD3 := Lib.hid hd3
                        clear hr hsn hnq hin hd1 hd2 hd hd3
                        go_wp2_with fail
                        clear n0 n1
                        refine (flHas_is HN1.out HN2.out HR.out _ _ _ (HS.out.elems 1 rfl)).mono ?_
                        rintro e w13 ⟨rfl, hb_⟩
                        have HS := Lib.hid (HS.out.below hb_)
                        have HC := Lib.hid (HC.out.below hb_)
                        have HK := Lib.hid (HK.out.below hb_)
                        clear hb_
                        have f0 := cell_of_block (k := 0) (HS.out.blockAt 2 rfl) rfl
                        have f1 := cell_of_block (k := 1) (HS.out.blockAt 2 rfl) rfl
                        have n0 := cell_of_block (k := 0) (HS.out.blockAt 0 rfl) rfl
                        have n1 := cell_of_block (k := 1) (HS.out.blockAt 0 rfl) rfl
                        go_wp2_with fail
                        clear n0 n1 f0 f1
                        refine (steps_is HD.out _ HC.out).mono ?_
                        rintro e w14 ⟨rfl, hb_⟩
                        have HS := Lib.hid (HS.out.below hb_)
                        have HC := Lib.hid (HC.out.below hb_)
                        have HK := Lib.hid (HK.out.below hb_)
                        clear hb_
                        have hd3 := HD3.out
                        go_wp2_with fail
                        clear hd3
                        go_roundw
                        case rel => exact ⟨2 + 1, by omega, rfl, by rw [HSN.out], HK.out⟩
                        case measure => simp [intOf]
                    · have hnq : (⟨tx, ty + 1⟩ : PtT) ∈ nbs ⟨tx, ty⟩ := by simp [nbs]
                      have hsn := leastF_snoc (C := C) (p := ⟨tx, py⟩) (t := tol) (m : Int) ((nbs ⟨tx, ty⟩).take 3) ⟨tx, ty + 1⟩
                      rw [show (nbs ⟨tx, ty⟩).take 3 ++ [⟨tx, ty + 1⟩] = (nbs ⟨tx, ty⟩).take (3 + 1) from rfl, hln] at hsn
                      have hix := (four_index (tx - 1) ty (tx + 1) ty tx (ty - 1) tx (ty + 1) wr).2.2.2
                      repeat ((fail_if_success (with_reducible refine stop_at (id := 21) ?_)); (first | go_values | go_skip | go_guarded | go_step | go_upon | go_back | (simp only [Int.not_lt, Int.not_le] at *; go_simp) | (go_values <;> (try go_simp)) | (go_ite <;> go_prune <;> (try go_simp)) | (split <;> (first | (rename_i hx; exact (hx _ rfl).elim) | go_prune))))
                      clear hix
                      have hs_ := HS.out.alloc (.cells #[.int .i64 (tx), .int .i64 (ty + 1)] 49)
                      have hk_HC := HC.out.below ((Below.refl _ _).alloc (Nat.le_refl _) (.cells #[.int .i64 (tx), .int .i64 (ty + 1)] 49))
                      have hk_HK := HK.out.below ((Below.refl _ _).alloc (Nat.le_refl _) (.cells #[.int .i64 (tx), .int .i64 (ty + 1)] 49))
                      obtain ⟨w12, hw_⟩ : ∃ w12 : World, wr.alloc (.cells #[.int .i64 (tx), .int .i64 (ty + 1)] 49) = w12 := ⟨_, rfl⟩
                      rw [hw_] at hs_ hk_HC hk_HK
                      have HS := Lib.hid hs_
                      have HC := Lib.hid hk_HC
                      have HK := Lib.hid hk_HK
                      rw [hw_]
                      clear hw_ hs_ hk_HC hk_HK
                      have n0 := cell_of_block (k := 0) (HS.out.blockAt 0 rfl) rfl
                      have n1 := cell_of_block (k := 1) (HS.out.blockAt 0 rfl) rfl
                      clear hbx
                      cases hr : regHas C ⟨tx, py⟩ tol ⟨tx, ty + 1⟩ with
                      | false =>
                        rw [hr, if_neg (by decide)] at hsn
                        have HR := Lib.hid hr
                        have HSN := Lib.hid hsn
                        clear hr hsn hnq
                        go_wp2_with fail
                        clear n0 n1
                        refine (flHas_is HN1.out HN2.out HR.out _ _ _ (HS.out.elems 1 rfl)).mono ?_
                        rintro e w13 ⟨rfl, hb_⟩
                        have HS := Lib.hid (HS.out.below hb_)
                        have HC := Lib.hid (HC.out.below hb_)
                        have HK := Lib.hid (HK.out.below hb_)
                        clear hb_
                        go_wp2_with fail
                        go_roundw
                        case rel => exact ⟨3 + 1, by omega, rfl, by rw [HSN.out], HK.out⟩
                        case measure => simp [intOf]
                      | true =>
                        rw [hr, if_pos rfl] at hsn
                        have hin := (regHas_iff HCK.out).1 hr
                        obtain ⟨hd1, hd2⟩ := HNB.out _ hnq hin
                        have HR := Lib.hid hr
                        obtain ⟨d, hd⟩ : ∃ d : Int, (metC C ⟨tx, py⟩ tol (ixP ⟨tx, ty + 1⟩) : Int) - 1 = d := ⟨_, rfl⟩
                        rw [hd] at hd1
                        rw [hd1] at hsn
                        have hd3 : d ≤ m + 1 ∧ m - 1 ≤ d := by omega
                        have HSN := Lib.hid hsn
                        have HD := Lib.hid hd1
                        have HD3 := Lib.hid hd3
                        clear hr hsn hnq hin hd1 hd2 hd hd3
                        go_wp2_with fail
                        clear n0 n1
                        refine (flHas_is HN1.out HN2.out HR.out _ _ _ (HS.out.elems 1 rfl)).mono ?_
                        rintro e w13 ⟨rfl, hb_⟩
                        have HS := Lib.hid (HS.out.below hb_)
                        have HC := Lib.hid (HC.out.below hb_)
                        have HK := Lib.hid (HK.out.below hb_)
                        clear hb_
                        have f0 := cell_of_block (k := 0) (HS.out.blockAt 2 rfl) rfl
                        have f1 := cell_of_block (k := 1) (HS.out.blockAt 2 rfl) rfl
                        have n0 := cell_of_block (k := 0) (HS.out.blockAt 0 rfl) rfl
                        have n1 := cell_of_block (k := 1) (HS.out.blockAt 0 rfl) rfl
                        go_wp2_with fail
                        clear n0 n1 f0 f1
                        refine (steps_is HD.out _ HC.out).mono ?_
                        rintro e w14 ⟨rfl, hb_⟩
                        have HS := Lib.hid (HS.out.below hb_)
                        have HC := Lib.hid (HC.out.below hb_)
                        have HK := Lib.hid (HK.out.below hb_)
                        clear hb_
                        have hd3 := HD3.out
                        go_wp2_with fail
                        clear hd3
                        go_roundw
                        case rel => exact ⟨3 + 1, by omega, rfl, by rw [HSN.out], HK.out⟩
                        case measure => simp [intOf]
                  · obtain rfl : k = 4 := by omega
                    rw [show (nbs ⟨tx, ty⟩).take 4 = nbs ⟨tx, ty⟩ from rfl] at hln
                    clear hk hlt hbx
                    have hla := HALL.out hm0
                    rw [hln] at hla
                    subst hla
                    clear hln
                    have hmb : 0 < m ∧ m < 2000 := by have := HMC.out; omega
                    go_wp2_with fail
                    go_ret
                    exact ⟨rfl, HS.out.low⟩
              · have hz1 : (0 : Int) < (m : Int) := by omega
                have hz2 : 0 < m := by omega
                have hbx := HBD.out
                have t0 := cell_of_block (k := 0) (HS.out.blockAt 3 rfl) rfl
                have t1 := cell_of_block (k := 1) (HS.out.blockAt 3 rfl) rfl
                go_wp2_with fail
                clear t0 t1 hz1 hz2
                have HK := Lib.hid (show Kp w11 w11 from Below.refl _ _)
                go_loopw [20, 150] (fun l i wr => ∃ k : Nat, k ≤ 4 ∧ i = .int .i64 (k : Int) ∧ l = .int .i64 (leastF C ⟨tx, py⟩ tol (m : Int) ((nbs ⟨tx, ty⟩).take k)) ∧ Kp w11 wr) (fun _ i _ => 4 - (intOf i).toNat)
                case atStart => exact ⟨0, by omega, rfl, rfl, HK.out⟩
                case round =>
                  obtain ⟨k, hk, rfl, rfl, hb⟩ := hrel
                  have HS := Lib.hid (HS.out.below hb)
                  have HC := Lib.hid (HC.out.below hb)
                  have HK := Lib.hid hb
                  clear hb
                  obtain ⟨ln, hln⟩ : ∃ ln, leastF C ⟨tx, py⟩ tol (m : Int) ((nbs ⟨tx, ty⟩).take k) = ln := ⟨_, rfl⟩
                  rw [hln]
                  by_cases hlt : k < 4
                  · have hk4 : k = 0 ∨ k = 1 ∨ k = 2 ∨ k = 3 := by omega
                    clear hlt hk
                    rcases hk4 with rfl | rfl | rfl | rfl
                    · have hnq : (⟨tx - 1, ty⟩ : PtT) ∈ nbs ⟨tx, ty⟩ := by simp [nbs]
                      have hsn := leastF_snoc (C := C) (p := ⟨tx, py⟩) (t := tol) (m : Int) ((nbs ⟨tx, ty⟩).take 0) ⟨tx - 1, ty⟩
                      rw [show (nbs ⟨tx, ty⟩).take 0 ++ [⟨tx - 1, ty⟩] = (nbs ⟨tx, ty⟩).take (0 + 1) from rfl, hln] at hsn
                      have hix := (four_index (tx - 1) ty (tx + 1) ty tx (ty - 1) tx (ty + 1) wr).1
                      repeat ((fail_if_success (with_reducible refine stop_at (id := 21) ?_)); (first | go_values | go_skip | go_guarded | go_step | go_upon | go_back | (simp only [Int.not_lt, Int.not_le] at *; go_simp) | (go_values <;> (try go_simp)) | (go_ite <;> go_prune <;> (try go_simp)) | (split <;> (first | (rename_i hx; exact (hx _ rfl).elim) | go_prune))))
                      clear hix
                      have hs_ := HS.out.alloc (.cells #[.int .i64 (tx - 1), .int .i64 (ty)] 49)
                      have hk_HC := HC.out.below ((Below.refl _ _).alloc (Nat.le_refl _) (.cells #[.int .i64 (tx - 1), .int .i64 (ty)] 49))
                      have hk_HK := HK.out.below ((Below.refl _ _).alloc (Nat.le_refl _) (.cells #[.int .i64 (tx - 1), .int .i64 (ty)] 49))
                      obtain ⟨w12, hw_⟩ : ∃ w12 : World, wr.alloc (.cells #[.int .i64 (tx - 1), .int .i64 (ty)] 49) = w12 := ⟨_, rfl⟩
                      rw [hw_] at hs_ hk_HC hk_HK
                      have HS := Lib.hid hs_
                      have HC := Lib.hid hk_HC
                      have HK := Lib.hid hk_HK
                      rw [hw_]
                      clear hw_ hs_ hk_HC hk_HK
                      have n0 := cell_of_block (k := 0) (HS.out.blockAt 0 rfl) rfl
                      have n1 := cell_of_block (k := 1) (HS.out.blockAt 0 rfl) rfl
                      clear hbx
                      cases hr : regHas C ⟨tx, py⟩ tol ⟨tx - 1, ty⟩ with
                      | false =>
                        rw [hr, if_neg (by decide)] at hsn
                        have HR := Lib.hid hr
                        have HSN := Lib.hid hsn
                        clear hr hsn hnq
                        go_wp2_with fail
                        clear n0 n1
                        refine (flHas_is HN1.out HN2.out HR.out _ _ _ (HS.out.elems 1 rfl)).mono ?_
                        rintro e w13 ⟨rfl, hb_⟩
                        have HS := Lib.hid (HS.out.below hb_)
                        have HC := Lib.hid (HC.out.below hb_)
                        have HK := Lib.hid (HK.out.below hb_)
                        clear hb_
                        go_wp2_with fail
                        go_roundw
                        case rel => exact ⟨0 + 1, by omega, rfl, by rw [HSN.out], HK.out⟩
                        case measure => simp [intOf]
                      | true =>
                        rw [hr, if_pos rfl] at hsn
                        have hin := (regHas_iff HCK.out).1 hr
                        obtain ⟨hd1, hd2⟩ := HNB.out _ hnq hin
                        have HR := Lib.hid hr
                        obtain ⟨d, hd⟩ : ∃ d : Int, (metC C ⟨tx, py⟩ tol (ixP ⟨tx - 1, ty⟩) : Int) - 1 = d := ⟨_, rfl⟩
                        rw [hd] at hd1
                        rw [hd1] at hsn
                        have hd3 : d ≤ m + 1 ∧ m - 1 ≤ d := by omega
                        have HSN := Lib.hid hsn
                        have HD := Lib.hid hd1
                        have HD3 := Lib.hid hd3
                        clear hr hsn hnq hin hd1 hd2 hd hd3
                        go_wp2_with fail
                        clear n0 n1
                        refine (flHas_is HN1.out HN2.out HR.out _ _ _ (HS.out.elems 1 rfl)).mono ?_
                        rintro e w13 ⟨rfl, hb_⟩
                        have HS := Lib.hid (HS.out.below hb_)
                        have HC := Lib.hid (HC.out.below hb_)
                        have HK := Lib.hid (HK.out.below hb_)
                        clear hb_
                        have f0 := cell_of_block (k := 0) (HS.out.blockAt 2 rfl) rfl
                        have f1 := cell_of_block (k := 1) (HS.out.blockAt 2 rfl) rfl
                        have n0 := cell_of_block (k := 0) (HS.out.blockAt 0 rfl) rfl
                        have n1 := cell_of_block (k := 1) (HS.out.blockAt 0 rfl) rfl
                        go_wp2_with fail
                        clear n0 n1 f0 f1
                        refine (steps_is HD.out _ HC.out).mono ?_
                        rintro e w14 ⟨rfl, hb_⟩
                        have HS := Lib.hid (HS.out.below hb_)
                        have HC := Lib.hid (HC.out.below hb_)
                        have HK := Lib.hid (HK.out.below hb_)
                        clear hb_
                        have hd3 := HD3.out
                        go_wp2_with fail
                        clear hd3
                        go_roundw
                        case rel => exact ⟨0 + 1, by omega, rfl, by rw [HSN.out], HK.out⟩
                        case measure => simp [intOf]
                    · have hnq : (⟨tx + 1, ty⟩ : PtT) ∈ nbs ⟨tx, ty⟩ := by simp [nbs]
                      have hsn := leastF_snoc (C := C) (p := ⟨tx, py⟩) (t := tol) (m : Int) ((nbs ⟨tx, ty⟩).take 1) ⟨tx + 1, ty⟩
                      rw [show (nbs ⟨tx, ty⟩).take 1 ++ [⟨tx + 1, ty⟩] = (nbs ⟨tx, ty⟩).take (1 + 1) from rfl, hln] at hsn
                      have hix := (four_index (tx - 1) ty (tx + 1) ty tx (ty - 1) tx (ty + 1) wr).2.1
                      repeat ((fail_if_success (with_reducible refine stop_at (id := 21) ?_)); (first | go_values | go_skip | go_guarded | go_step | go_upon | go_back | (simp only [Int.not_lt, Int.not_le] at *; go_simp) | (go_values <;> (try go_simp)) | (go_ite <;> go_prune <;> (try go_simp)) | (split <;> (first | (rename_i hx; exact (hx _ rfl).elim) | go_prune))))
                      clear hix
                      have hs_ := HS.out.alloc (.cells #[.int .i64 (tx + 1), .int .i64 (ty)] 49)
                      have hk_HC := HC.out.below ((Below.refl _ _).alloc (Nat.le_refl _) (.cells #[.int .i64 (tx + 1), .int .i64 (ty)] 49))
                      have hk_HK := HK.out.below ((Below.refl _ _).alloc (Nat.le_refl _) (.cells #[.int .i64 (tx + 1), .int .i64 (ty)] 49))
                      obtain ⟨w12, hw_⟩ : ∃ w12 : World, wr.alloc (.cells #[.int .i64 (tx + 1), .int .i64 (ty)] 49) = w12 := ⟨_, rfl⟩
                      rw [hw_] at hs_ hk_HC hk_HK
                      have HS := Lib.hid hs_
                      have HC := Lib.hid hk_HC
                      have HK := Lib.hid hk_HK
                      rw [hw_]
                      clear hw_ hs_ hk_HC hk_HK
                      have n0 := cell_of_block (k := 0) (HS.out.blockAt 0 rfl) rfl
                      have n1 := cell_of_block (k := 1) (HS.out.blockAt 0 rfl) rfl
                      clear hbx
                      cases hr : regHas C ⟨tx, py⟩ tol ⟨tx + 1, ty⟩ with
                      | false =>
                        rw [hr, if_neg (by decide)] at hsn
                        have HR := Lib.hid hr
                        have HSN := Lib.hid hsn
                        clear hr hsn hnq
                        go_wp2_with fail
                        clear n0 n1
                        refine (flHas_is HN1.out HN2.out HR.out _ _ _ (HS.out.elems 1 rfl)).mono ?_
                        rintro e w13 ⟨rfl, hb_⟩
                        have HS := Lib.hid (HS.out.below hb_)
                        have HC := Lib.hid (HC.out.below hb_)
                        have HK := Lib.hid (HK.out.below hb_)
                        clear hb_
                        go_wp2_with fail
                        go_roundw
                        case rel => exact ⟨1 + 1, by omega, rfl, by rw [HSN.out], HK.out⟩
                        case measure => simp [intOf]
                      | true =>
                        rw [hr, if_pos rfl] at hsn
                        have hin := (regHas_iff HCK.out).1 hr
                        obtain ⟨hd1, hd2⟩ := HNB.out _ hnq hin
                        have HR := Lib.hid hr
                        obtain ⟨d, hd⟩ : ∃ d : Int, (metC C ⟨tx, py⟩ tol (ixP ⟨tx + 1, ty⟩) : Int) - 1 = d := ⟨_, rfl⟩
                        rw [hd] at hd1
                        rw [hd1] at hsn
                        have hd3 : d ≤ m + 1 ∧ m - 1 ≤ d := by omega
                        have HSN := Lib.hid hsn
                        have HD := Lib.hid hd1
                        have HD3 := Lib.hid hd3
                        clear hr hsn hnq hin hd1 hd2 hd hd3
                        go_wp2_with fail
                        clear n0 n1
                        refine (flHas_is HN1.out HN2.out HR.out _ _ _ (HS.out.elems 1 rfl)).mono ?_
                        rintro e w13 ⟨rfl, hb_⟩
                        have HS := Lib.hid (HS.out.below hb_)
                        have HC := Lib.hid (HC.out.below hb_)
                        have HK := Lib.hid (HK.out.below hb_)
                        clear hb_
                        have f0 := cell_of_block (k := 0) (HS.out.blockAt 2 rfl) rfl
                        have f1 := cell_of_block (k := 1) (HS.out.blockAt 2 rfl) rfl
                        have n0 := cell_of_block (k := 0) (HS.out.blockAt 0 rfl) rfl
                        have n1 := cell_of_block (k := 1) (HS.out.blockAt 0 rfl) rfl
                        go_wp2_with fail
                        clear n0 n1 f0 f1
                        refine (steps_is HD.out _ HC.out).mono ?_
                        rintro e w14 ⟨rfl, hb_⟩
                        have HS := Lib.hid (HS.out.below hb_)
                        have HC := Lib.hid (HC.out.below hb_)
                        have HK := Lib.hid (HK.out.below hb_)
                        clear hb_
                        have hd3 := HD3.out
                        go_wp2_with fail
                        clear hd3
                        go_roundw
                        case rel => exact ⟨1 + 1, by omega, rfl, by rw [HSN.out], HK.out⟩
                        case measure => simp [intOf]
                    · have hnq : (⟨tx, ty - 1⟩ : PtT) ∈ nbs ⟨tx, ty⟩ := by simp [nbs]
                      have hsn := leastF_snoc (C := C) (p := ⟨tx, py⟩) (t := tol) (m : Int) ((nbs ⟨tx, ty⟩).take 2) ⟨tx, ty - 1⟩
                      rw [show (nbs ⟨tx, ty⟩).take 2 ++ [⟨tx, ty - 1⟩] = (nbs ⟨tx, ty⟩).take (2 + 1) from rfl, hln] at hsn
                      have hix := (four_index (tx - 1) ty (tx + 1) ty tx (ty - 1) tx (ty + 1) wr).2.2.1
                      repeat ((fail_if_success (with_reducible refine stop_at (id := 21) ?_)); (first | go_values | go_skip | go_guarded | go_step | go_upon | go_back | (simp only [Int.not_lt, Int.not_le] at *; go_simp) | (go_values <;> (try go_simp)) | (go_ite <;> go_prune <;> (try go_simp)) | (split <;> (first | (rename_i hx; exact (hx _ rfl).elim) | go_prune))))
                      clear hix
                      have hs_ := HS.out.alloc (.cells #[.int .i64 (tx), .int .i64 (ty - 1)] 49)
                      have hk_HC := HC.out.below ((Below.refl _ _).alloc (Nat.le_refl _) (.cells #[.int .i64 (tx), .int .i64 (ty - 1)] 49))
                      have hk_HK := HK.out.below ((Below.refl _ _).alloc (Nat.le_refl _) (.cells #[.int .i64 (tx), .int .i64 (ty - 1)] 49))
                      obtain ⟨w12, hw_⟩ : ∃ w12 : World, wr.alloc (.cells #[.int .i64 (tx), .int .i64 (ty - 1)] 49) = w12 := ⟨_, rfl⟩
                      rw [hw_] at hs_ hk_HC hk_HK
                      have HS := Lib.hid hs_
                      have HC := Lib.hid hk_HC
                      have HK := Lib.hid hk_HK
                      rw [hw_]
                      clear hw_ hs_ hk_HC hk_HK
                      have n0 := cell_of_block (k := 0) (HS.out.blockAt 0 rfl) rfl
                      have n1 := cell_of_block (k := 1) (HS.out.blockAt 0 rfl) rfl
                      clear hbx
                      cases hr : regHas C ⟨tx, py⟩ tol ⟨tx, ty - 1⟩ with
                      | false =>
                        rw [hr, if_neg (by decide)] at hsn
                        have HR := Lib.hid hr
                        have HSN := Lib.hid hsn
                        clear hr hsn hnq
                        go_wp2_with fail
                        clear n0 n1
                        refine (flHas_is HN1.out HN2.out HR.out _ _ _ (HS.out.elems 1 rfl)).mono ?_
                        rintro e w13 ⟨rfl, hb_⟩
                        have HS := Lib.hid (HS.out.below hb_)
                        have HC := Lib.hid (HC.out.below hb_)
                        have HK := Lib.hid (HK.out.below hb_)
                        clear hb_
                        go_wp2_with fail
                        go_roundw
                        case rel => exact ⟨2 + 1, by omega, rfl, by rw [HSN.out], HK.out⟩
                        case measure => simp [intOf]
                      | true =>
                        rw [hr, if_pos rfl] at hsn
                        have hin := (regHas_iff HCK.out).1 hr
                        obtain ⟨hd1, hd2⟩ := HNB.out _ hnq hin
                        have HR := Lib.hid hr
                        obtain ⟨d, hd⟩ : ∃ d : Int, (metC C ⟨tx, py⟩ tol (ixP ⟨tx, ty - 1⟩) : Int) - 1 = d := ⟨_, rfl⟩
                        rw [hd] at hd1
                        rw [hd1] at hsn
                        have hd3 : d ≤ m + 1 ∧ m - 1 ≤ d := by omega
                        have HSN := Lib.hid hsn
                        have HD := Lib.hid hd1
                        have HD3 := Lib.hid hd3
                        clear hr hsn hnq hin hd1 hd2 hd hd3
                        go_wp2_with fail
                        clear n0 n1
                        refine (flHas_is HN1.out HN2.out HR.out _ _ _ (HS.out.elems 1 rfl)).mono ?_
                        rintro e w13 ⟨rfl, hb_⟩
                        have HS := Lib.hid (HS.out.below hb_)
                        have HC := Lib.hid (HC.out.below hb_)
                        have HK := Lib.hid (HK.out.below hb_)
                        clear hb_
                        have f0 := cell_of_block (k := 0) (HS.out.blockAt 2 rfl) rfl
                        have f1 := cell_of_block (k := 1) (HS.out.blockAt 2 rfl) rfl
                        have n0 := cell_of_block (k := 0) (HS.out.blockAt 0 rfl) rfl
                        have n1 := cell_of_block (k := 1) (HS.out.blockAt 0 rfl) rfl
                        go_wp2_with fail
                        clear n0 n1 f0 f1
                        refine (steps_is HD.out _ HC.out).mono ?_
                        rintro e w14 ⟨rfl, hb_⟩
                        have HS := Lib.hid (HS.out.below hb_)
                        have HC := Lib.hid (HC.out.below hb_)
                        have HK := Lib.hid (HK.out.below hb_)
                        clear hb_
                        have hd3 := HD3.out
                        go_wp2_with fail
                        clear hd3
                        go_roundw
                        case rel => exact ⟨2 + 1, by omega, rfl, by rw [HSN.out], HK.out⟩
                        case measure => simp [intOf]
                    · have hnq : (⟨tx, ty + 1⟩ : PtT) ∈ nbs ⟨tx, ty⟩ := by simp [nbs]
                      have hsn := leastF_snoc (C := C) (p := ⟨tx, py⟩) (t := tol) (m : Int) ((nbs ⟨tx, ty⟩).take 3) ⟨tx, ty + 1⟩
                      rw [show (nbs ⟨tx, ty⟩).take 3 ++ [⟨tx, ty + 1⟩] = (nbs ⟨tx, ty⟩).take (3 + 1) from rfl, hln] at hsn
                      have hix := (four_index (tx - 1) ty (tx + 1) ty tx (ty - 1) tx (ty + 1) wr).2.2.2
                      repeat ((fail_if_success (with_reducible refine stop_at (id := 21) ?_)); (first | go_values | go_skip | go_guarded | go_step | go_upon | go_back | (simp only [Int.not_lt, Int.not_le] at *; go_simp) | (go_values <;> (try go_simp)) | (go_ite <;> go_prune <;> (try go_simp)) | (split <;> (first | (rename_i hx; exact (hx _ rfl).elim) | go_prune))))
                      clear hix
                      have hs_ := HS.out.alloc (.cells #[.int .i64 (tx), .int .i64 (ty + 1)] 49)
                      have hk_HC := HC.out.below ((Below.refl _ _).alloc (Nat.le_refl _) (.cells #[.int .i64 (tx), .int .i64 (ty + 1)] 49))
                      have hk_HK := HK.out.below ((Below.refl _ _).alloc (Nat.le_refl _) (.cells #[.int .i64 (tx), .int .i64 (ty + 1)] 49))
                      obtain ⟨w12, hw_⟩ : ∃ w12 : World, wr.alloc (.cells #[.int .i64 (tx), .int .i64 (ty + 1)] 49) = w12 := ⟨_, rfl⟩
                      rw [hw_] at hs_ hk_HC hk_HK
                      have HS := Lib.hid hs_
                      have HC := Lib.hid hk_HC
                      have HK := Lib.hid hk_HK
                      rw [hw_]
                      clear hw_ hs_ hk_HC hk_HK
                      have n0 := cell_of_block (k := 0) (HS.out.blockAt 0 rfl) rfl
                      have n1 := cell_of_block (k := 1) (HS.out.blockAt 0 rfl) rfl
                      clear hbx
                      cases hr : regHas C ⟨tx, py⟩ tol ⟨tx, ty + 1⟩ with
                      | false =>
                        rw [hr, if_neg (by decide)] at hsn
                        have HR := Lib.hid hr
                        have HSN := Lib.hid hsn
                        clear hr hsn hnq
                        go_wp2_with fail
                        clear n0 n1
                        refine (flHas_is HN1.out HN2.out HR.out _ _ _ (HS.out.elems 1 rfl)).mono ?_
                        rintro e w13 ⟨rfl, hb_⟩
                        have HS := Lib.hid (HS.out.below hb_)
                        have HC := Lib.hid (HC.out.below hb_)
                        have HK := Lib.hid (HK.out.below hb_)
                        clear hb_
                        go_wp2_with fail
                        go_roundw
                        case rel => exact ⟨3 + 1, by omega, rfl, by rw [HSN.out], HK.out⟩
                        case measure => simp [intOf]
                      | true =>
                        rw [hr, if_pos rfl] at hsn
                        have hin := (regHas_iff HCK.out).1 hr
                        obtain ⟨hd1, hd2⟩ := HNB.out _ hnq hin
                        have HR := Lib.hid hr
                        obtain ⟨d, hd⟩ : ∃ d : Int, (metC C ⟨tx, py⟩ tol (ixP ⟨tx, ty + 1⟩) : Int) - 1 = d := ⟨_, rfl⟩
                        rw [hd] at hd1
                        rw [hd1] at hsn
                        have hd3 : d ≤ m + 1 ∧ m - 1 ≤ d := by omega
                        have HSN := Lib.hid hsn
                        have HD := Lib.hid hd1
                        have HD3 := Lib.hid hd3
                        clear hr hsn hnq hin hd1 hd2 hd hd3
                        go_wp2_with fail
                        clear n0 n1
                        refine (flHas_is HN1.out HN2.out HR.out _ _ _ (HS.out.elems 1 rfl)).mono ?_
                        rintro e w13 ⟨rfl, hb_⟩
                        have HS := Lib.hid (HS.out.below hb_)
                        have HC := Lib.hid (HC.out.below hb_)
                        have HK := Lib.hid (HK.out.below hb_)
                        clear hb_
                        have f0 := cell_of_block (k := 0) (HS.out.blockAt 2 rfl) rfl
                        have f1 := cell_of_block (k := 1) (HS.out.blockAt 2 rfl) rfl
                        have n0 := cell_of_block (k := 0) (HS.out.blockAt 0 rfl) rfl
                        have n1 := cell_of_block (k := 1) (HS.out.blockAt 0 rfl) rfl
                        go_wp2_with fail
                        clear n0 n1 f0 f1
                        refine (steps_is HD.out _ HC.out).mono ?_
                        rintro e w14 ⟨rfl, hb_⟩
                        have HS := Lib.hid (HS.out.below hb_)
                        have HC := Lib.hid (HC.out.below hb_)
                        have HK := Lib.hid (HK.out.below hb_)
                        clear hb_
                        have hd3 := HD3.out
                        go_wp2_with fail
                        clear hd3
                        go_roundw
                        case rel => exact ⟨3 + 1, by omega, rfl, by rw [HSN.out], HK.out⟩
                        case measure => simp [intOf]
                  · obtain rfl : k = 4 := by omega
                    rw [show (nbs ⟨tx, ty⟩).take 4 = nbs ⟨tx, ty⟩ from rfl] at hln
                    clear hk hlt hbx
                    have hla := HALL.out hm0
                    rw [hln] at hla
                    subst hla
                    clear hln
                    have hmb : 0 < m ∧ m < 2000 := by have := HMC.out; omega
                    go_wp2_with fail
                    go_ret
                    exact ⟨rfl, HS.out.low⟩
            · clear hnp
              have q0 := cell_of_block (k := 0) (HS.out.blockAt 1 rfl) rfl
              have q1 := cell_of_block (k := 1) (HS.out.blockAt 1 rfl) rfl
              have t0 := cell_of_block (k := 0) (HS.out.blockAt 3 rfl) rfl
              have t1 := cell_of_block (k := 1) (HS.out.blockAt 3 rfl) rfl
              go_wp2_with fail
              clear q0 q1 t0 t1
              refine (HCT.out _ _ _ (HS.out.elems 0 rfl)).mono ?_
              rintro e w9 ⟨rfl, hb_⟩
              have HS := Lib.hid (HS.out.below hb_)
              have HC := Lib.hid (HC.out.below hb_)
              clear hb_
              have hge : ¬ ((cn : Int) ≤ (m : Int)) := by have := HMC.out; omega
              have hge2 : m < cn := by have := HMC.out; omega
              have hge3 : ¬ cn ≤ m := by omega
              have q0 := cell_of_block (k := 0) (HS.out.blockAt 1 rfl) rfl
              have q1 := cell_of_block (k := 1) (HS.out.blockAt 1 rfl) rfl
              have t0 := cell_of_block (k := 0) (HS.out.blockAt 3 rfl) rfl
              have t1 := cell_of_block (k := 1) (HS.out.blockAt 3 rfl) rfl
              go_wp2_with fail
              clear q0 q1 t0 t1 hge hge2 hge3
              refine (steps_is HZ2.out _ HC.out).mono ?_
              rintro e w10 ⟨rfl, hb_⟩
              have HS := Lib.hid (HS.out.below hb_)
              have HC := Lib.hid (HC.out.below hb_)
              clear hb_
              have q0 := cell_of_block (k := 0) (HS.out.blockAt 1 rfl) rfl
              have q1 := cell_of_block (k := 1) (HS.out.blockAt 1 rfl) rfl
              have t0 := cell_of_block (k := 0) (HS.out.blockAt 3 rfl) rfl
              have t1 := cell_of_block (k := 1) (HS.out.blockAt 3 rfl) rfl
              go_wp2_with fail
              clear q0 q1 t0 t1
              refine (steps_is HZ1.out _ HC.out).mono ?_
              rintro e w11 ⟨rfl, hb_⟩
              have HS := Lib.hid (HS.out.below hb_)
              have HC := Lib.hid (HC.out.below hb_)
              clear hb_
              rcases HZ3.out with ⟨rfl, hz⟩ | ⟨rfl, rfl⟩
              · have hz1 : ¬ (z < (m : Int)) := by omega
                have hbx := HBD.out
                have t0 := cell_of_block (k := 0) (HS.out.blockAt 3 rfl) rfl
                have t1 := cell_of_block (k := 1) (HS.out.blockAt 3 rfl) rfl
                go_wp2_with fail
                clear hz hz1 t0 t1
                have HK := Lib.hid (show Kp w11 w11 from Below.refl _ _)
                go_loopw [20, 150] (fun l i wr => ∃ k : Nat, k ≤ 4 ∧ i = .int .i64 (k : Int) ∧ l = .int .i64 (leastF C ⟨px, py⟩ tol (m : Int) ((nbs ⟨tx, ty⟩).take k)) ∧ Kp w11 wr) (fun _ i _ => 4 - (intOf i).toNat)
                case atStart => exact ⟨0, by omega, rfl, rfl, HK.out⟩
                case round =>
                  obtain ⟨k, hk, rfl, rfl, hb⟩ := hrel
                  have HS := Lib.hid (HS.out.below hb)
                  have HC := Lib.hid (HC.out.below hb)
                  have HK := Lib.hid hb
                  clear hb
                  obtain ⟨ln, hln⟩ : ∃ ln, leastF C ⟨px, py⟩ tol (m : Int) ((nbs ⟨tx, ty⟩).take k) = ln := ⟨_, rfl⟩
                  rw [hln]
                  by_cases hlt : k < 4
                  · have hk4 : k = 0 ∨ k = 1 ∨ k = 2 ∨ k = 3 := by omega
                    clear hlt hk
                    rcases hk4 with rfl | rfl | rfl | rfl
                    · have hnq : (⟨tx - 1, ty⟩ : PtT) ∈ nbs ⟨tx, ty⟩ := by simp [nbs]
                      have hsn := leastF_snoc (C := C) (p := ⟨px, py⟩) (t := tol) (m : Int) ((nbs ⟨tx, ty⟩).take 0) ⟨tx - 1, ty⟩
                      rw [show (nbs ⟨tx, ty⟩).take 0 ++ [⟨tx - 1, ty⟩] = (nbs ⟨tx, ty⟩).take (0 + 1) from rfl, hln] at hsn
                      have hix := (four_index (tx - 1) ty (tx + 1) ty tx (ty - 1) tx (ty + 1) wr).1
                      repeat ((fail_if_success (with_reducible refine stop_at (id := 21) ?_)); (first | go_values | go_skip | go_guarded | go_step | go_upon | go_back | (simp only [Int.not_lt, Int.not_le] at *; go_simp) | (go_values <;> (try go_simp)) | (go_ite <;> go_prune <;> (try go_simp)) | (split <;> (first | (rename_i hx; exact (hx _ rfl).elim) | go_prune))))
                      clear hix
                      have hs_ := HS.out.alloc (.cells #[.int .i64 (tx - 1), .int .i64 (ty)] 49)
                      have hk_HC := HC.out.below ((Below.refl _ _).alloc (Nat.le_refl _) (.cells #[.int .i64 (tx - 1), .int .i64 (ty)] 49))
                      have hk_HK := HK.out.below ((Below.refl _ _).alloc (Nat.le_refl _) (.cells #[.int .i64 (tx - 1), .int .i64 (ty)] 49))
                      obtain ⟨w12, hw_⟩ : ∃ w12 : World, wr.alloc (.cells #[.int .i64 (tx - 1), .int .i64 (ty)] 49) = w12 := ⟨_, rfl⟩
                      rw [hw_] at hs_ hk_HC hk_HK
                      have HS := Lib.hid hs_
                      have HC := Lib.hid hk_HC
                      have HK := Lib.hid hk_HK
                      rw [hw_]
                      clear hw_ hs_ hk_HC hk_HK
                      have n0 := cell_of_block (k := 0) (HS.out.blockAt 0 rfl) rfl
                      have n1 := cell_of_block (k := 1) (HS.out.blockAt 0 rfl) rfl
                      clear hbx
                      cases hr : regHas C ⟨px, py⟩ tol ⟨tx - 1, ty⟩ with
                      | false =>
                        rw [hr, if_neg (by decide)] at hsn
                        have HR := Lib.hid hr
                        have HSN := Lib.hid hsn
                        clear hr hsn hnq
                        go_wp2_with fail
                        clear n0 n1
                        refine (flHas_is HN1.out HN2.out HR.out _ _ _ (HS.out.elems 1 rfl)).mono ?_
                        rintro e w13 ⟨rfl, hb_⟩
                        have HS := Lib.hid (HS.out.below hb_)
                        have HC := Lib.hid (HC.out.below hb_)
                        have HK := Lib.hid (HK.out.below hb_)
                        clear hb_
                        go_wp2_with fail
                        go_roundw
                        case rel => exact ⟨0 + 1, by omega, rfl, by rw [HSN.out], HK.out⟩
                        case measure => simp [intOf]
                      | true =>
                        rw [hr, if_pos rfl] at hsn
                        have hin := (regHas_iff HCK.out).1 hr
                        obtain ⟨hd1, hd2⟩ := HNB.out _ hnq hin
                        have HR := Lib.hid hr
                        obtain ⟨d, hd⟩ : ∃ d : Int, (metC C ⟨px, py⟩ tol (ixP ⟨tx - 1, ty⟩) : Int) - 1 = d := ⟨_, rfl⟩
                        rw [hd] at hd1
                        rw [hd1] at hsn
                        have hd3 : d ≤ m + 1 ∧ m - 1 ≤ d := by omega
                        have HSN := Lib.hid hsn
                        have HD := Lib.hid hd1
                        have HD3 := Lib.hid hd3
                        clear hr hsn hnq hin hd1 hd2 hd hd3
                        go_wp2_with fail
                        clear n0 n1
                        refine (flHas_is HN1.out HN2.out HR.out _ _ _ (HS.out.elems 1 rfl)).mono ?_
                        rintro e w13 ⟨rfl, hb_⟩
                        have HS := Lib.hid (HS.out.below hb_)
                        have HC := Lib.hid (HC.out.below hb_)
                        have HK := Lib.hid (HK.out.below hb_)
                        clear hb_
                        have f0 := cell_of_block (k := 0) (HS.out.blockAt 2 rfl) rfl
                        have f1 := cell_of_block (k := 1) (HS.out.blockAt 2 rfl) rfl
                        have n0 := cell_of_block (k := 0) (HS.out.blockAt 0 rfl) rfl
                        have n1 := cell_of_block (k := 1) (HS.out.blockAt 0 rfl) rfl
                        go_wp2_with fail
                        clear n0 n1 f0 f1
                        refine (steps_is HD.out _ HC.out).mono ?_
                        rintro e w14 ⟨rfl, hb_⟩
                        have HS := Lib.hid (HS.out.below hb_)
                        have HC := Lib.hid (HC.out.below hb_)
                        have HK := Lib.hid (HK.out.below hb_)
                        clear hb_
                        have hd3 := HD3.out
                        go_wp2_with fail
                        clear hd3
                        go_roundw
                        case rel => exact ⟨0 + 1, by omega, rfl, by rw [HSN.out], HK.out⟩
                        case measure => simp [intOf]
                    · have hnq : (⟨tx + 1, ty⟩ : PtT) ∈ nbs ⟨tx, ty⟩ := by simp [nbs]
                      have hsn := leastF_snoc (C := C) (p := ⟨px, py⟩) (t := tol) (m : Int) ((nbs ⟨tx, ty⟩).take 1) ⟨tx + 1, ty⟩
                      rw [show (nbs ⟨tx, ty⟩).take 1 ++ [⟨tx + 1, ty⟩] = (nbs ⟨tx, ty⟩).take (1 + 1) from rfl, hln] at hsn
                      have hix := (four_index (tx - 1) ty (tx + 1) ty tx (ty - 1) tx (ty + 1) wr).2.1
                      repeat ((fail_if_success (with_reducible refine stop_at (id := 21) ?_)); (first | go_values | go_skip | go_guarded | go_step | go_upon | go_back | (simp only [Int.not_lt, Int.not_le] at *; go_simp) | (go_values <;> (try go_simp)) | (go_ite <;> go_prune <;> (try go_simp)) | (split <;> (first | (rename_i hx; exact (hx _ rfl).elim) | go_prune))))
                      clear hix
                      have hs_ := HS.out.alloc (.cells #[.int .i64 (tx + 1), .int .i64 (ty)] 49)
                      have hk_HC := HC.out.below ((Below.refl _ _).alloc (Nat.le_refl _) (.cells #[.int .i64 (tx + 1), .int .i64 (ty)] 49))
                      have hk_HK := HK.out.below ((Below.refl _ _).alloc (Nat.le_refl _) (.cells #[.int .i64 (tx + 1), .int .i64 (ty)] 49))
                      obtain ⟨w12, hw_⟩ : ∃ w12 : World, wr.alloc (.cells #[.int .i64 (tx + 1), .int .i64 (ty)] 49) = w12 := ⟨_, rfl⟩
                      rw [hw_] at hs_ hk_HC hk_HK
                      have HS := Lib.hid hs_
                      have HC := Lib.hid hk_HC
                      have HK := Lib.hid hk_HK
                      rw [hw_]
                      clear hw_ hs_ hk_HC hk_HK
                      have n0 := cell_of_block (k := 0) (HS.out.blockAt 0 rfl) rfl
                      have n1 := cell_of_block (k := 1) (HS.out.blockAt 0 rfl) rfl
                      clear hbx
                      cases hr : regHas C ⟨px, py⟩ tol ⟨tx + 1, ty⟩ with
                      | false =>
                        rw [hr, if_neg (by decide)] at hsn
                        have HR := Lib.hid hr
                        have HSN := Lib.hid hsn
                        clear hr hsn hnq
                        go_wp2_with fail
                        clear n0 n1
                        refine (flHas_is HN1.out HN2.out HR.out _ _ _ (HS.out.elems 1 rfl)).mono ?_
                        rintro e w13 ⟨rfl, hb_⟩
                        have HS := Lib.hid (HS.out.below hb_)
                        have HC := Lib.hid (HC.out.below hb_)
                        have HK := Lib.hid (HK.out.below hb_)
                        clear hb_
                        go_wp2_with fail
                        go_roundw
                        case rel => exact ⟨1 + 1, by omega, rfl, by rw [HSN.out], HK.out⟩
                        case measure => simp [intOf]
                      | true =>
                        rw [hr, if_pos rfl] at hsn
                        have hin := (regHas_iff HCK.out).1 hr
                        obtain ⟨hd1, hd2⟩ := HNB.out _ hnq hin
                        have HR := Lib.hid hr
                        obtain ⟨d, hd⟩ : ∃ d : Int, (metC C ⟨px, py⟩ tol (ixP ⟨tx + 1, ty⟩) : Int) - 1 = d := ⟨_, rfl⟩
                        rw [hd] at hd1
                        rw [hd1] at hsn
                        have hd3 : d ≤ m + 1 ∧ m - 1 ≤ d := by omega
                        have HSN := Lib.hid hsn
                        have HD := Lib.hid hd1
                        have HD3 := Lib.hid hd3
                        clear hr hsn hnq hin hd1 hd2 hd hd3
                        go_wp2_with fail
                        clear n0 n1
                        refine (flHas_is HN1.out HN2.out HR.out _ _ _ (HS.out.elems 1 rfl)).mono ?_
                        rintro e w13 ⟨rfl, hb_⟩
                        have HS := Lib.hid (HS.out.below hb_)
                        have HC := Lib.hid (HC.out.below hb_)
                        have HK := Lib.hid (HK.out.below hb_)
                        clear hb_
                        have f0 := cell_of_block (k := 0) (HS.out.blockAt 2 rfl) rfl
                        have f1 := cell_of_block (k := 1) (HS.out.blockAt 2 rfl) rfl
                        have n0 := cell_of_block (k := 0) (HS.out.blockAt 0 rfl) rfl
                        have n1 := cell_of_block (k := 1) (HS.out.blockAt 0 rfl) rfl
                        go_wp2_with fail
                        clear n0 n1 f0 f1
                        refine (steps_is HD.out _ HC.out).mono ?_
                        rintro e w14 ⟨rfl, hb_⟩
                        have HS := Lib.hid (HS.out.below hb_)
                        have HC := Lib.hid (HC.out.below hb_)
                        have HK := Lib.hid (HK.out.below hb_)
                        clear hb_
                        have hd3 := HD3.out
                        go_wp2_with fail
                        clear hd3
                        go_roundw
                        case rel => exact ⟨1 + 1, by omega, rfl, by rw [HSN.out], HK.out⟩
                        case measure => simp [intOf]
                    · have hnq : (⟨tx, ty - 1⟩ : PtT) ∈ nbs ⟨tx, ty⟩ := by simp [nbs]
                      have hsn := leastF_snoc (C := C) (p := ⟨px, py⟩) (t := tol) (m : Int) ((nbs ⟨tx, ty⟩).take 2) ⟨tx, ty - 1⟩
                      rw [show (nbs ⟨tx, ty⟩).take 2 ++ [⟨tx, ty - 1⟩] = (nbs ⟨tx, ty⟩).take (2 + 1) from rfl, hln] at hsn
                      have hix := (four_index (tx - 1) ty (tx + 1) ty tx (ty - 1) tx (ty + 1) wr).2.2.1
                      repeat ((fail_if_success (with_reducible refine stop_at (id := 21) ?_)); (first | go_values | go_skip | go_guarded | go_step | go_upon | go_back | (simp only [Int.not_lt, Int.not_le] at *; go_simp) | (go_values <;> (try go_simp)) | (go_ite <;> go_prune <;> (try go_simp)) | (split <;> (first | (rename_i hx; exact (hx _ rfl).elim) | go_prune))))
                      clear hix
                      have hs_ := HS.out.alloc (.cells #[.int .i64 (tx), .int .i64 (ty - 1)] 49)
                      have hk_HC := HC.out.below ((Below.refl _ _).alloc (Nat.le_refl _) (.cells #[.int .i64 (tx), .int .i64 (ty - 1)] 49))
                      have hk_HK := HK.out.below ((Below.refl _ _).alloc (Nat.le_refl _) (.cells #[.int .i64 (tx), .int .i64 (ty - 1)] 49))
                      obtain ⟨w12, hw_⟩ : ∃ w12 : World, wr.alloc (.cells #[.int .i64 (tx), .int .i64 (ty - 1)] 49) = w12 := ⟨_, rfl⟩
                      rw [hw_] at hs_ hk_HC hk_HK
                      have HS := Lib.hid hs_
                      have HC := Lib.hid hk_HC
                      have HK := Lib.hid hk_HK
                      rw [hw_]
                      clear hw_ hs_ hk_HC hk_HK
                      have n0 := cell_of_block (k := 0) (HS.out.blockAt 0 rfl) rfl
                      have n1 := cell_of_block (k := 1) (HS.out.blockAt 0 rfl) rfl
                      clear hbx
                      cases hr : regHas C ⟨px, py⟩ tol ⟨tx, ty - 1⟩ with
                      | false =>
                        rw [hr, if_neg (by decide)] at hsn
                        have HR := Lib.hid hr
                        have HSN := Lib.hid hsn
                        clear hr hsn hnq
                        go_wp2_with fail
                        clear n0 n1
                        refine (flHas_is HN1.out HN2.out HR.out _ _ _ (HS.out.elems 1 rfl)).mono ?_
                        rintro e w13 ⟨rfl, hb_⟩
                        have HS := Lib.hid (HS.out.below hb_)
                        have HC := Lib.hid (HC.out.below hb_)
                        have HK := Lib.hid (HK.out.below hb_)
                        clear hb_
                        go_wp2_with fail
                        go_roundw
                        case rel => exact ⟨2 + 1, by omega, rfl, by rw [HSN.out], HK.out⟩
                        case measure => simp [intOf]
                      | true =>
                        rw [hr, if_pos rfl] at hsn
                        have hin := (regHas_iff HCK.out).1 hr
                        obtain ⟨hd1, hd2⟩ := HNB.out _ hnq hin
                        have HR := Lib.hid hr
                        obtain ⟨d, hd⟩ : ∃ d : Int, (metC C ⟨px, py⟩ tol (ixP ⟨tx, ty - 1⟩) : Int) - 1 = d := ⟨_, rfl⟩
                        rw [hd] at hd1
                        rw [hd1] at hsn
                        have hd3 : d ≤ m + 1 ∧ m - 1 ≤ d := by omega
                        have HSN := Lib.hid hsn
                        have HD := Lib.hid hd1
                        have HD3 := Lib.hid hd3
                        clear hr hsn hnq hin hd1 hd2 hd hd3
                        go_wp2_with fail
                        clear n0 n1
                        refine (flHas_is HN1.out HN2.out HR.out _ _ _ (HS.out.elems 1 rfl)).mono ?_
                        rintro e w13 ⟨rfl, hb_⟩
                        have HS := Lib.hid (HS.out.below hb_)
                        have HC := Lib.hid (HC.out.below hb_)
                        have HK := Lib.hid (HK.out.below hb_)
                        clear hb_
                        have f0 := cell_of_block (k := 0) (HS.out.blockAt 2 rfl) rfl
                        have f1 := cell_of_block (k := 1) (HS.out.blockAt 2 rfl) rfl
                        have n0 := cell_of_block (k := 0) (HS.out.blockAt 0 rfl) rfl
                        have n1 := cell_of_block (k := 1) (HS.out.blockAt 0 rfl) rfl
                        go_wp2_with fail
                        clear n0 n1 f0 f1
                        refine (steps_is HD.out _ HC.out).mono ?_
                        rintro e w14 ⟨rfl, hb_⟩
                        have HS := Lib.hid (HS.out.below hb_)
                        have HC := Lib.hid (HC.out.below hb_)
                        have HK := Lib.hid (HK.out.below hb_)
                        clear hb_
                        have hd3 := HD3.out
                        go_wp2_with fail
                        clear hd3
                        go_roundw
                        case rel => exact ⟨2 + 1, by omega, rfl, by rw [HSN.out], HK.out⟩
                        case measure => simp [intOf]
                    · have hnq : (⟨tx, ty + 1⟩ : PtT) ∈ nbs ⟨tx, ty⟩ := by simp [nbs]
                      have hsn := leastF_snoc (C := C) (p := ⟨px, py⟩) (t := tol) (m : Int) ((nbs ⟨tx, ty⟩).take 3) ⟨tx, ty + 1⟩
                      rw [show (nbs ⟨tx, ty⟩).take 3 ++ [⟨tx, ty + 1⟩] = (nbs ⟨tx, ty⟩).take (3 + 1) from rfl, hln] at hsn
                      have hix := (four_index (tx - 1) ty (tx + 1) ty tx (ty - 1) tx (ty + 1) wr).2.2.2
                      repeat ((fail_if_success (with_reducible refine stop_at (id := 21) ?_)); (first | go_values | go_skip | go_guarded | go_step | go_upon | go_back | (simp only [Int.not_lt, Int.not_le] at *; go_simp) | (go_values <;> (try go_simp)) | (go_ite <;> go_prune <;> (try go_simp)) | (split <;> (first | (rename_i hx; exact (hx _ rfl).elim) | go_prune))))
                      clear hix
                      have hs_ := HS.out.alloc (.cells #[.int .i64 (tx), .int .i64 (ty + 1)] 49)
                      have hk_HC := HC.out.below ((Below.refl _ _).alloc (Nat.le_refl _) (.cells #[.int .i64 (tx), .int .i64 (ty + 1)] 49))
                      have hk_HK := HK.out.below ((Below.refl _ _).alloc (Nat.le_refl _) (.cells #[.int .i64 (tx), .int .i64 (ty + 1)] 49))
                      obtain ⟨w12, hw_⟩ : ∃ w12 : World, wr.alloc (.cells #[.int .i64 (tx), .int .i64 (ty + 1)] 49) = w12 := ⟨_, rfl⟩
                      rw [hw_] at hs_ hk_HC hk_HK
                      have HS := Lib.hid hs_
                      have HC := Lib.hid hk_HC
                      have HK := Lib.hid hk_HK
                      rw [hw_]
                      clear hw_ hs_ hk_HC hk_HK
                      have n0 := cell_of_block (k := 0) (HS.out.blockAt 0 rfl) rfl
                      have n1 := cell_of_block (k := 1) (HS.out.blockAt 0 rfl) rfl
                      clear hbx
                      cases hr : regHas C ⟨px, py⟩ tol ⟨tx, ty + 1⟩ with
                      | false =>
                        rw [hr, if_neg (by decide)] at hsn
                        have HR := Lib.hid hr
                        have HSN := Lib.hid hsn
                        clear hr hsn hnq
                        go_wp2_with fail
                        clear n0 n1
                        refine (flHas_is HN1.out HN2.out HR.out _ _ _ (HS.out.elems 1 rfl)).mono ?_
                        rintro e w13 ⟨rfl, hb_⟩
                        have HS := Lib.hid (HS.out.below hb_)
                        have HC := Lib.hid (HC.out.below hb_)
                        have HK := Lib.hid (HK.out.below hb_)
                        clear hb_
                        go_wp2_with fail
                        go_roundw
                        case rel => exact ⟨3 + 1, by omega, rfl, by rw [HSN.out], HK.out⟩
                        case measure => simp [intOf]
                      | true =>
                        rw [hr, if_pos rfl] at hsn
                        have hin := (regHas_iff HCK.out).1 hr
                        obtain ⟨hd1, hd2⟩ := HNB.out _ hnq hin
                        have HR := Lib.hid hr
                        obtain ⟨d, hd⟩ : ∃ d : Int, (metC C ⟨px, py⟩ tol (ixP ⟨tx, ty + 1⟩) : Int) - 1 = d := ⟨_, rfl⟩
                        rw [hd] at hd1
                        rw [hd1] at hsn
                        have hd3 : d ≤ m + 1 ∧ m - 1 ≤ d := by omega
                        have HSN := Lib.hid hsn
                        have HD := Lib.hid hd1
                        have HD3 := Lib.hid hd3
                        clear hr hsn hnq hin hd1 hd2 hd hd3
                        go_wp2_with fail
                        clear n0 n1
                        refine (flHas_is HN1.out HN2.out HR.out _ _ _ (HS.out.elems 1 rfl)).mono ?_
                        rintro e w13 ⟨rfl, hb_⟩
                        have HS := Lib.hid (HS.out.below hb_)
                        have HC := Lib.hid (HC.out.below hb_)
                        have HK := Lib.hid (HK.out.below hb_)
                        clear hb_
                        have f0 := cell_of_block (k := 0) (HS.out.blockAt 2 rfl) rfl
                        have f1 := cell_of_block (k := 1) (HS.out.blockAt 2 rfl) rfl
                        have n0 := cell_of_block (k := 0) (HS.out.blockAt 0 rfl) rfl
                        have n1 := cell_of_block (k := 1) (HS.out.blockAt 0 rfl) rfl
                        go_wp2_with fail
                        clear n0 n1 f0 f1
                        refine (steps_is HD.out _ HC.out).mono ?_
                        rintro e w14 ⟨rfl, hb_⟩
                        have HS := Lib.hid (HS.out.below hb_)
                        have HC := Lib.hid (HC.out.below hb_)
                        have HK := Lib.hid (HK.out.below hb_)
                        clear hb_
                        have hd3 := HD3.out
                        go_wp2_with fail
                        clear hd3
                        go_roundw
                        case rel => exact ⟨3 + 1, by omega, rfl, by rw [HSN.out], HK.out⟩
                        case measure => simp [intOf]
                  · obtain rfl : k = 4 := by omega
                    rw [show (nbs ⟨tx, ty⟩).take 4 = nbs ⟨tx, ty⟩ from rfl] at hln
                    clear hk hlt hbx
                    have hla := HALL.out hm0
                    rw [hln] at hla
                    subst hla
                    clear hln
                    have hmb : 0 < m ∧ m < 2000 := by have := HMC.out; omega
                    go_wp2_with fail
                    go_ret
                    exact ⟨rfl, HS.out.low⟩
              · have hz1 : (0 : Int) < (m : Int) := by omega
                have hz2 : 0 < m := by omega
                have hbx := HBD.out
                have t0 := cell_of_block (k := 0) (HS.out.blockAt 3 rfl) rfl
                have t1 := cell_of_block (k := 1) (HS.out.blockAt 3 rfl) rfl
                go_wp2_with fail
                clear t0 t1 hz1 hz2
                have HK := Lib.hid (show Kp w11 w11 from Below.refl _ _)
                go_loopw [20, 150] (fun l i wr => ∃ k : Nat, k ≤ 4 ∧ i = .int .i64 (k : Int) ∧ l = .int .i64 (leastF C ⟨px, py⟩ tol (m : Int) ((nbs ⟨tx, ty⟩).take k)) ∧ Kp w11 wr) (fun _ i _ => 4 - (intOf i).toNat)
                case atStart => exact ⟨0, by omega, rfl, rfl, HK.out⟩
                case round =>
                  obtain ⟨k, hk, rfl, rfl, hb⟩ := hrel
                  have HS := Lib.hid (HS.out.below hb)
                  have HC := Lib.hid (HC.out.below hb)
                  have HK := Lib.hid hb
                  clear hb
                  obtain ⟨ln, hln⟩ : ∃ ln, leastF C ⟨px, py⟩ tol (m : Int) ((nbs ⟨tx, ty⟩).take k) = ln := ⟨_, rfl⟩
                  rw [hln]
                  by_cases hlt : k < 4
                  · have hk4 : k = 0 ∨ k = 1 ∨ k = 2 ∨ k = 3 := by omega
                    clear hlt hk
                    rcases hk4 with rfl | rfl | rfl | rfl
                    · have hnq : (⟨tx - 1, ty⟩ : PtT) ∈ nbs ⟨tx, ty⟩ := by simp [nbs]
                      have hsn := leastF_snoc (C := C) (p := ⟨px, py⟩) (t := tol) (m : Int) ((nbs ⟨tx, ty⟩).take 0) ⟨tx - 1, ty⟩
                      rw [show (nbs ⟨tx, ty⟩).take 0 ++ [⟨tx - 1, ty⟩] = (nbs ⟨tx, ty⟩).take (0 + 1) from rfl, hln] at hsn
                      have hix := (four_index (tx - 1) ty (tx + 1) ty tx (ty - 1) tx (ty + 1) wr).1
                      repeat ((fail_if_success (with_reducible refine stop_at (id := 21) ?_)); (first | go_values | go_skip | go_guarded | go_step | go_upon | go_back | (simp only [Int.not_lt, Int.not_le] at *; go_simp) | (go_values <;> (try go_simp)) | (go_ite <;> go_prune <;> (try go_simp)) | (split <;> (first | (rename_i hx; exact (hx _ rfl).elim) | go_prune))))
                      clear hix
                      have hs_ := HS.out.alloc (.cells #[.int .i64 (tx - 1), .int .i64 (ty)] 49)
                      have hk_HC := HC.out.below ((Below.refl _ _).alloc (Nat.le_refl _) (.cells #[.int .i64 (tx - 1), .int .i64 (ty)] 49))
                      have hk_HK := HK.out.below ((Below.refl _ _).alloc (Nat.le_refl _) (.cells #[.int .i64 (tx - 1), .int .i64 (ty)] 49))
                      obtain ⟨w12, hw_⟩ : ∃ w12 : World, wr.alloc (.cells #[.int .i64 (tx - 1), .int .i64 (ty)] 49) = w12 := ⟨_, rfl⟩
                      rw [hw_] at hs_ hk_HC hk_HK
                      have HS := Lib.hid hs_
                      have HC := Lib.hid hk_HC
                      have HK := Lib.hid hk_HK
                      rw [hw_]
                      clear hw_ hs_ hk_HC hk_HK
                      have n0 := cell_of_block (k := 0) (HS.out.blockAt 0 rfl) rfl
                      have n1 := cell_of_block (k := 1) (HS.out.blockAt 0 rfl) rfl
                      clear hbx
                      cases hr : regHas C ⟨px, py⟩ tol ⟨tx - 1, ty⟩ with
                      | false =>
                        rw [hr, if_neg (by decide)] at hsn
                        have HR := Lib.hid hr
                        have HSN := Lib.hid hsn
                        clear hr hsn hnq
                        go_wp2_with fail
                        clear n0 n1
                        refine (flHas_is HN1.out HN2.out HR.out _ _ _ (HS.out.elems 1 rfl)).mono ?_
                        rintro e w13 ⟨rfl, hb_⟩
                        have HS := Lib.hid (HS.out.below hb_)
                        have HC := Lib.hid (HC.out.below hb_)
                        have HK := Lib.hid (HK.out.below hb_)
                        clear hb_
                        go_wp2_with fail
                        go_roundw
                        case rel => exact ⟨0 + 1, by omega, rfl, by rw [HSN.out], HK.out⟩
                        case measure => simp [intOf]
                      | true =>
                        rw [hr, if_pos rfl] at hsn
                        have hin := (regHas_iff HCK.out).1 hr
                        obtain ⟨hd1, hd2⟩ := HNB.out _ hnq hin
                        have HR := Lib.hid hr
                        obtain ⟨d, hd⟩ : ∃ d : Int, (metC C ⟨px, py⟩ tol (ixP ⟨tx - 1, ty⟩) : Int) - 1 = d := ⟨_, rfl⟩
                        rw [hd] at hd1
                        rw [hd1] at hsn
                        have hd3 : d ≤ m + 1 ∧ m - 1 ≤ d := by omega
                        have HSN := Lib.hid hsn
                        have HD := Lib.hid hd1
                        have HD3 := Lib.hid hd3
                        clear hr hsn hnq hin hd1 hd2 hd hd3
                        go_wp2_with fail
                        clear n0 n1
                        refine (flHas_is HN1.out HN2.out HR.out _ _ _ (HS.out.elems 1 rfl)).mono ?_
                        rintro e w13 ⟨rfl, hb_⟩
                        have HS := Lib.hid (HS.out.below hb_)
                        have HC := Lib.hid (HC.out.below hb_)
                        have HK := Lib.hid (HK.out.below hb_)
                        clear hb_
                        have f0 := cell_of_block (k := 0) (HS.out.blockAt 2 rfl) rfl
                        have f1 := cell_of_block (k := 1) (HS.out.blockAt 2 rfl) rfl
                        have n0 := cell_of_block (k := 0) (HS.out.blockAt 0 rfl) rfl
                        have n1 := cell_of_block (k := 1) (HS.out.blockAt 0 rfl) rfl
                        go_wp2_with fail
                        clear n0 n1 f0 f1
                        refine (steps_is HD.out _ HC.out).mono ?_
                        rintro e w14 ⟨rfl, hb_⟩
                        have HS := Lib.hid (HS.out.below hb_)
                        have HC := Lib.hid (HC.out.below hb_)
                        have HK := Lib.hid (HK.out.below hb_)
                        clear hb_
                        have hd3 := HD3.out
                        go_wp2_with fail
                        clear hd3
                        go_roundw
                        case rel => exact ⟨0 + 1, by omega, rfl, by rw [HSN.out], HK.out⟩
                        case measure => simp [intOf]
                    · have hnq : (⟨tx + 1, ty⟩ : PtT) ∈ nbs ⟨tx, ty⟩ := by simp [nbs]
                      have hsn := leastF_snoc (C := C) (p := ⟨px, py⟩) (t := tol) (m : Int) ((nbs ⟨tx, ty⟩).take 1) ⟨tx + 1, ty⟩
                      rw [show (nbs ⟨tx, ty⟩).take 1 ++ [⟨tx + 1, ty⟩] = (nbs ⟨tx, ty⟩).take (1 + 1) from rfl, hln] at hsn
                      have hix := (four_index (tx - 1) ty (tx + 1) ty tx (ty - 1) tx (ty + 1) wr).2.1
                      repeat ((fail_if_success (with_reducible refine stop_at (id := 21) ?_)); (first | go_values | go_skip | go_guarded | go_step | go_upon | go_back | (simp only [Int.not_lt, Int.not_le] at *; go_simp) | (go_values <;> (try go_simp)) | (go_ite <;> go_prune <;> (try go_simp)) | (split <;> (first | (rename_i hx; exact (hx _ rfl).elim) | go_prune))))
                      clear hix
                      have hs_ := HS.out.alloc (.cells #[.int .i64 (tx + 1), .int .i64 (ty)] 49)
                      have hk_HC := HC.out.below ((Below.refl _ _).alloc (Nat.le_refl _) (.cells #[.int .i64 (tx + 1), .int .i64 (ty)] 49))
                      have hk_HK := HK.out.below ((Below.refl _ _).alloc (Nat.le_refl _) (.cells #[.int .i64 (tx + 1), .int .i64 (ty)] 49))
                      obtain ⟨w12, hw_⟩ : ∃ w12 : World, wr.alloc (.cells #[.int .i64 (tx + 1), .int .i64 (ty)] 49) = w12 := ⟨_, rfl⟩
                      rw [hw_] at hs_ hk_HC hk_HK
                      have HS := Lib.hid hs_
                      have HC := Lib.hid hk_HC
                      have HK := Lib.hid hk_HK
                      rw [hw_]
                      clear hw_ hs_ hk_HC hk_HK
                      have n0 := cell_of_block (k := 0) (HS.out.blockAt 0 rfl) rfl
                      have n1 := cell_of_block (k := 1) (HS.out.blockAt 0 rfl) rfl
                      clear hbx
                      cases hr : regHas C ⟨px, py⟩ tol ⟨tx + 1, ty⟩ with
                      | false =>
                        rw [hr, if_neg (by decide)] at hsn
                        have HR := Lib.hid hr
                        have HSN := Lib.hid hsn
                        clear hr hsn hnq
                        go_wp2_with fail
                        clear n0 n1
                        refine (flHas_is HN1.out HN2.out HR.out _ _ _ (HS.out.elems 1 rfl)).mono ?_
                        rintro e w13 ⟨rfl, hb_⟩
                        have HS := Lib.hid (HS.out.below hb_)
                        have HC := Lib.hid (HC.out.below hb_)
                        have HK := Lib.hid (HK.out.below hb_)
                        clear hb_
                        go_wp2_with fail
                        go_roundw
                        case rel => exact ⟨1 + 1, by omega, rfl, by rw [HSN.out], HK.out⟩
                        case measure => simp [intOf]
                      | true =>
                        rw [hr, if_pos rfl] at hsn
                        have hin := (regHas_iff HCK.out).1 hr
                        obtain ⟨hd1, hd2⟩ := HNB.out _ hnq hin
                        have HR := Lib.hid hr
                        obtain ⟨d, hd⟩ : ∃ d : Int, (metC C ⟨px, py⟩ tol (ixP ⟨tx + 1, ty⟩) : Int) - 1 = d := ⟨_, rfl⟩
                        rw [hd] at hd1
                        rw [hd1] at hsn
                        have hd3 : d ≤ m + 1 ∧ m - 1 ≤ d := by omega
                        have HSN := Lib.hid hsn
                        have HD := Lib.hid hd1
                        have HD3 := Lib.hid hd3
                        clear hr hsn hnq hin hd1 hd2 hd hd3
                        go_wp2_with fail
                        clear n0 n1
                        refine (flHas_is HN1.out HN2.out HR.out _ _ _ (HS.out.elems 1 rfl)).mono ?_
                        rintro e w13 ⟨rfl, hb_⟩
                        have HS := Lib.hid (HS.out.below hb_)
                        have HC := Lib.hid (HC.out.below hb_)
                        have HK := Lib.hid (HK.out.below hb_)
                        clear hb_
                        have f0 := cell_of_block (k := 0) (HS.out.blockAt 2 rfl) rfl
                        have f1 := cell_of_block (k := 1) (HS.out.blockAt 2 rfl) rfl
                        have n0 := cell_of_block (k := 0) (HS.out.blockAt 0 rfl) rfl
                        have n1 := cell_of_block (k := 1) (HS.out.blockAt 0 rfl) rfl
                        go_wp2_with fail
                        clear n0 n1 f0 f1
                        refine (steps_is HD.out _ HC.out).mono ?_
                        rintro e w14 ⟨rfl, hb_⟩
                        have HS := Lib.hid (HS.out.below hb_)
                        have HC := Lib.hid (HC.out.below hb_)
                        have HK := Lib.hid (HK.out.below hb_)
                        clear hb_
                        have hd3 := HD3.out
                        go_wp2_with fail
                        clear hd3
                        go_roundw
                        case rel => exact ⟨1 + 1, by omega, rfl, by rw [HSN.out], HK.out⟩
                        case measure => simp [intOf]
                    · have hnq : (⟨tx, ty - 1⟩ : PtT) ∈ nbs ⟨tx, ty⟩ := by simp [nbs]
                      have hsn := leastF_snoc (C := C) (p := ⟨px, py⟩) (t := tol) (m : Int) ((nbs ⟨tx, ty⟩).take 2) ⟨tx, ty - 1⟩
                      rw [show (nbs ⟨tx, ty⟩).take 2 ++ [⟨tx, ty - 1⟩] = (nbs ⟨tx, ty⟩).take (2 + 1) from rfl, hln] at hsn
                      have hix := (four_index (tx - 1) ty (tx + 1) ty tx (ty - 1) tx (ty + 1) wr).2.2.1
                      repeat ((fail_if_success (with_reducible refine stop_at (id := 21) ?_)); (first | go_values | go_skip | go_guarded | go_step | go_upon | go_back | (simp only [Int.not_lt, Int.not_le] at *; go_simp) | (go_values <;> (try go_simp)) | (go_ite <;> go_prune <;> (try go_simp)) | (split <;> (first | (rename_i hx; exact (hx _ rfl).elim) | go_prune))))
                      clear hix
                      have hs_ := HS.out.alloc (.cells #[.int .i64 (tx), .int .i64 (ty - 1)] 49)
                      have hk_HC := HC.out.below ((Below.refl _ _).alloc (Nat.le_refl _) (.cells #[.int .i64 (tx), .int .i64 (ty - 1)] 49))
                      have hk_HK := HK.out.below ((Below.refl _ _).alloc (Nat.le_refl _) (.cells #[.int .i64 (tx), .int .i64 (ty - 1)] 49))
                      obtain ⟨w12, hw_⟩ : ∃ w12 : World, wr.alloc (.cells #[.int .i64 (tx), .int .i64 (ty - 1)] 49) = w12 := ⟨_, rfl⟩
                      rw [hw_] at hs_ hk_HC hk_HK
                      have HS := Lib.hid hs_
                      have HC := Lib.hid hk_HC
                      have HK := Lib.hid hk_HK
                      rw [hw_]
                      clear hw_ hs_ hk_HC hk_HK
                      have n0 := cell_of_block (k := 0) (HS.out.blockAt 0 rfl) rfl
                      have n1 := cell_of_block (k := 1) (HS.out.blockAt 0 rfl) rfl
                      clear hbx
                      cases hr : regHas C ⟨px, py⟩ tol ⟨tx, ty - 1⟩ with
                      | false =>
                        rw [hr, if_neg (by decide)] at hsn
                        have HR := Lib.hid hr
                        have HSN := Lib.hid hsn
                        clear hr hsn hnq
                        go_wp2_with fail
                        clear n0 n1
                        refine (flHas_is HN1.out HN2.out HR.out _ _ _ (HS.out.elems 1 rfl)).mono ?_
                        rintro e w13 ⟨rfl, hb_⟩
                        have HS := Lib.hid (HS.out.below hb_)
                        have HC := Lib.hid (HC.out.below hb_)
                        have HK := Lib.hid (HK.out.below hb_)
                        clear hb_
                        go_wp2_with fail
                        go_roundw
                        case rel => exact ⟨2 + 1, by omega, rfl, by rw [HSN.out], HK.out⟩
                        case measure => simp [intOf]
                      | true =>
                        rw [hr, if_pos rfl] at hsn
                        have hin := (regHas_iff HCK.out).1 hr
                        obtain ⟨hd1, hd2⟩ := HNB.out _ hnq hin
                        have HR := Lib.hid hr
                        obtain ⟨d, hd⟩ : ∃ d : Int, (metC C ⟨px, py⟩ tol (ixP ⟨tx, ty - 1⟩) : Int) - 1 = d := ⟨_, rfl⟩
                        rw [hd] at hd1
                        rw [hd1] at hsn
                        have hd3 : d ≤ m + 1 ∧ m - 1 ≤ d := by omega
                        have HSN := Lib.hid hsn
                        have HD := Lib.hid hd1
                        have HD3 := Lib.hid hd3
                        clear hr hsn hnq hin hd1 hd2 hd hd3
                        go_wp2_with fail
                        clear n0 n1
                        refine (flHas_is HN1.out HN2.out HR.out _ _ _ (HS.out.elems 1 rfl)).mono ?_
                        rintro e w13 ⟨rfl, hb_⟩
                        have HS := Lib.hid (HS.out.below hb_)
                        have HC := Lib.hid (HC.out.below hb_)
                        have HK := Lib.hid (HK.out.below hb_)
                        clear hb_
                        have f0 := cell_of_block (k := 0) (HS.out.blockAt 2 rfl) rfl
                        have f1 := cell_of_block (k := 1) (HS.out.blockAt 2 rfl) rfl
                        have n0 := cell_of_block (k := 0) (HS.out.blockAt 0 rfl) rfl
                        have n1 := cell_of_block (k := 1) (HS.out.blockAt 0 rfl) rfl
                        go_wp2_with fail
                        clear n0 n1 f0 f1
                        refine (steps_is HD.out _ HC.out).mono ?_
                        rintro e w14 ⟨rfl, hb_⟩
                        have HS := Lib.hid (HS.out.below hb_)
                        have HC := Lib.hid (HC.out.below hb_)
                        have HK := Lib.hid (HK.out.below hb_)
                        clear hb_
                        have hd3 := HD3.out
                        go_wp2_with fail
                        clear hd3
                        go_roundw
                        case rel => exact ⟨2 + 1, by omega, rfl, by rw [HSN.out], HK.out⟩
                        case measure => simp [intOf]
                    · have hnq : (⟨tx, ty + 1⟩ : PtT) ∈ nbs ⟨tx, ty⟩ := by simp [nbs]
                      have hsn := leastF_snoc (C := C) (p := ⟨px, py⟩) (t := tol) (m : Int) ((nbs ⟨tx, ty⟩).take 3) ⟨tx, ty + 1⟩
                      rw [show (nbs ⟨tx, ty⟩).take 3 ++ [⟨tx, ty + 1⟩] = (nbs ⟨tx, ty⟩).take (3 + 1) from rfl, hln] at hsn
                      have hix := (four_index (tx - 1) ty (tx + 1) ty tx (ty - 1) tx (ty + 1) wr).2.2.2
                      repeat ((fail_if_success (with_reducible refine stop_at (id := 21) ?_)); (first | go_values | go_skip | go_guarded | go_step | go_upon | go_back | (simp only [Int.not_lt, Int.not_le] at *; go_simp) | (go_values <;> (try go_simp)) | (go_ite <;> go_prune <;> (try go_simp)) | (split <;> (first | (rename_i hx; exact (hx _ rfl).elim) | go_prune))))
                      clear hix
                      have hs_ := HS.out.alloc (.cells #[.int .i64 (tx), .int .i64 (ty + 1)] 49)
                      have hk_HC := HC.out.below ((Below.refl _ _).alloc (Nat.le_refl _) (.cells #[.int .i64 (tx), .int .i64 (ty + 1)] 49))
                      have hk_HK := HK.out.below ((Below.refl _ _).alloc (Nat.le_refl _) (.cells #[.int .i64 (tx), .int .i64 (ty + 1)] 49))
                      obtain ⟨w12, hw_⟩ : ∃ w12 : World, wr.alloc (.cells #[.int .i64 (tx), .int .i64 (ty + 1)] 49) = w12 := ⟨_, rfl⟩
                      rw [hw_] at hs_ hk_HC hk_HK
                      have HS := Lib.hid hs_
                      have HC := Lib.hid hk_HC
                      have HK := Lib.hid hk_HK
                      rw [hw_]
                      clear hw_ hs_ hk_HC hk_HK
                      have n0 := cell_of_block (k := 0) (HS.out.blockAt 0 rfl) rfl
                      have n1 := cell_of_block (k := 1) (HS.out.blockAt 0 rfl) rfl
                      clear hbx
                      cases hr : regHas C ⟨px, py⟩ tol ⟨tx, ty + 1⟩ with
                      | false =>
                        rw [hr, if_neg (by decide)] at hsn
                        have HR := Lib.hid hr
                        have HSN := Lib.hid hsn
                        clear hr hsn hnq
                        go_wp2_with fail
                        clear n0 n1
                        refine (flHas_is HN1.out HN2.out HR.out _ _ _ (HS.out.elems 1 rfl)).mono ?_
                        rintro e w13 ⟨rfl, hb_⟩
                        have HS := Lib.hid (HS.out.below hb_)
                        have HC := Lib.hid (HC.out.below hb_)
                        have HK := Lib.hid (HK.out.below hb_)
                        clear hb_
                        go_wp2_with fail
                        go_roundw
                        case rel => exact ⟨3 + 1, by omega, rfl, by rw [HSN.out], HK.out⟩
                        case measure => simp [intOf]
                      | true =>
                        rw [hr, if_pos rfl] at hsn
                        have hin := (regHas_iff HCK.out).1 hr
                        obtain ⟨hd1, hd2⟩ := HNB.out _ hnq hin
                        have HR := Lib.hid hr
                        obtain ⟨d, hd⟩ : ∃ d : Int, (metC C ⟨px, py⟩ tol (ixP ⟨tx, ty + 1⟩) : Int) - 1 = d := ⟨_, rfl⟩
                        rw [hd] at hd1
                        rw [hd1] at hsn
                        have hd3 : d ≤ m + 1 ∧ m - 1 ≤ d := by omega
                        have HSN := Lib.hid hsn
                        have HD := Lib.hid hd1
                        have HD3 := Lib.hid hd3
                        clear hr hsn hnq hin hd1 hd2 hd hd3
                        go_wp2_with fail
                        clear n0 n1
                        refine (flHas_is HN1.out HN2.out HR.out _ _ _ (HS.out.elems 1 rfl)).mono ?_
                        rintro e w13 ⟨rfl, hb_⟩
                        have HS := Lib.hid (HS.out.below hb_)
                        have HC := Lib.hid (HC.out.below hb_)
                        have HK := Lib.hid (HK.out.below hb_)
                        clear hb_
                        have f0 := cell_of_block (k := 0) (HS.out.blockAt 2 rfl) rfl
                        have f1 := cell_of_block (k := 1) (HS.out.blockAt 2 rfl) rfl
                        have n0 := cell_of_block (k := 0) (HS.out.blockAt 0 rfl) rfl
                        have n1 := cell_of_block (k := 1) (HS.out.blockAt 0 rfl) rfl
                        go_wp2_with fail
                        clear n0 n1 f0 f1
                        refine (steps_is HD.out _ HC.out).mono ?_
                        rintro e w14 ⟨rfl, hb_⟩
                        have HS := Lib.hid (HS.out.below hb_)
                        have HC := Lib.hid (HC.out.below hb_)
                        have HK := Lib.hid (HK.out.below hb_)
                        clear hb_
                        have hd3 := HD3.out
                        go_wp2_with fail
                        clear hd3
                        go_roundw
                        case rel => exact ⟨3 + 1, by omega, rfl, by rw [HSN.out], HK.out⟩
                        case measure => simp [intOf]
                  · obtain rfl : k = 4 := by omega
                    rw [show (nbs ⟨tx, ty⟩).take 4 = nbs ⟨tx, ty⟩ from rfl] at hln
                    clear hk hlt hbx
                    have hla := HALL.out hm0
                    rw [hln] at hla
                    subst hla
                    clear hln
                    have hmb : 0 < m ∧ m < 2000 := by have := HMC.out; omega
                    go_wp2_with fail
                    go_ret
                    exact ⟨rfl, HS.out.low⟩
        · have hs1 := stepsR_out hb hq
          have hh1 : regHas C ⟨px, py⟩ tol ⟨tx, ty⟩ = false := by
            cases e : regHas C ⟨px, py⟩ tol ⟨tx, ty⟩ with
            | false => rfl
            | true => exact absurd ((regHas_iff hck).1 e) hq
          have HR1 := Lib.hid hs1
          have HH1 := Lib.hid hh1
          clear hs1 hh1 hb hck hq
          have q0 := cell_of_block (k := 0) (HS.out.blockAt 0 rfl) rfl
          have q1 := cell_of_block (k := 1) (HS.out.blockAt 0 rfl) rfl
          have t0 := cell_of_block (k := 0) (HS.out.blockAt 2 rfl) rfl
          have t1 := cell_of_block (k := 1) (HS.out.blockAt 2 rfl) rfl
          go_wp2_with fail
          clear q0 q1 t0 t1
          refine (steps_is HR1.out _ HC.out).mono ?_
          rintro e w6 ⟨rfl, hb_⟩
          have HS := Lib.hid (HS.out.below hb_)
          have HC := Lib.hid (HC.out.below hb_)
          clear hb_
          have q0 := cell_of_block (k := 0) (HS.out.blockAt 0 rfl) rfl
          have q1 := cell_of_block (k := 1) (HS.out.blockAt 0 rfl) rfl
          go_wp2_with fail
          clear q0 q1
          refine (region_got C p _ _ n1 HN1.out HBB.out _ HC.out).mono ?_
          rintro e w7 ⟨-, a7, c7, rfl, he_, hb_⟩
          have HS := Lib.hid ((HS.out.below hb_).addRow he_)
          have HC := Lib.hid (HC.out.below hb_)
          clear hb_ he_
          have t0 := cell_of_block (k := 0) (HS.out.blockAt 3 rfl) rfl
          have t1 := cell_of_block (k := 1) (HS.out.blockAt 3 rfl) rfl
          go_wp2_with fail
          clear t0 t1
          refine (flHas_is HN1.out HN2.out HH1.out _ _ _ (HS.out.elems 0 rfl)).mono ?_
          rintro e w8 ⟨rfl, hb_⟩
          have HS := Lib.hid (HS.out.below hb_)
          have HC := Lib.hid (HC.out.below hb_)
          clear hb_
          go_wp2_with fail
          go_ret
          exact ⟨rfl, HS.out.low⟩
end Go.Proofs.Ytlnjgdnnpkloeaa
