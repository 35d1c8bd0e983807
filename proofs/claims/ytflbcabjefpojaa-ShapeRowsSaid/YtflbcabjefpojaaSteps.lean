/- ShapeSteps: the walk. -/
import Derived.Test.YtflbcabjefpojaaStepsA
namespace Go.Proofs.Ytflbcabjefpojaa
set_option linter.unusedSimpArgs false
set_option linter.unusedVariables false
open Go.RowKit Go.Shelf

theorem ptAt {w : World} {b off n cap : Nat} {l : List PtT} (hn : l.length = n) (h : Elems w (.slice (some ⟨b, off, none⟩) n cap) n 2 (rowC encP l)) (k : Nat) (x : PtT) (hx : l[k]? = some x) :
    w.cell? ⟨b, off + k * 2, none⟩ = some (.int .i64 x.x) ∧ w.cell? ⟨b, off + k * 2 + 1, none⟩ = some (.int .i64 x.y) := by
  obtain ⟨b', off', e, -, h1, h2⟩ := ptCells hn h k x hx
  cases e
  exact ⟨h1, h2⟩
theorem neqP_self (x y : Int) (w : World) : (binOp .neq 28 (.agg #[.int .i64 x, .int .i64 y]) (.agg #[.int .i64 x, .int .i64 y])).run Try.prog w = .ok (.bool false) w := by
  rw [run_neq_point, show ptEqB ⟨x, y⟩ ⟨x, y⟩ = true from (ptEqB_iff _ _).2 rfl]; rfl
theorem right_of_set {P : PtT → Prop} {L : List SpT} (h : SetRow P L) (hP : ∀ p, P p → (-256 ≤ p.x ∧ p.x ≤ 255) ∧ (-256 ≤ p.y ∧ p.y ≤ 255)) : rightB L = true := by
  refine (rightB_iff L).2 (RightP.of (fun s hs => ?_) h.row.ord)
  have hft := h.row.sp s hs
  have h1 := hP _ ((h.has ⟨s.f, s.y⟩).1 ((hasB_iff _ _).2 ⟨s, hs, rfl, Int.le_refl _, hft⟩))
  have h2 := hP _ ((h.has ⟨s.t, s.y⟩).1 ((hasB_iff _ _).2 ⟨s, hs, rfl, hft, Int.le_refl _⟩))
  rw [spB_iff]
  simp only at h1 h2
  omega

theorem run_max4 (ts : Array TypeId) (t : TypeId) (k : IntKind) (a b c d m : Int) (hm : max (max (max a b) c) d = m) (w : World) : Sem.run Try.prog (Builtin.max_ ts t #[.int k a, .int k b, .int k c, .int k d]) w = .ok (.int k m) w := by
  have e : ∀ x y : Int, (if x < y then y else x) = max x y := fun x y => by split <;> omega
  subst hm
  simp [Builtin.max_, Builtin.max2, e]
/-- A row to be read, and a code; its room is known. -/
def GotC {α : Type} (k : Nat) (enc : α → List Value) (L : List α) (n : Nat) (er : Int) (w : World) (e : Ending) (w' : World) : Prop :=
  ∃ a cap, e = .returned (.tuple #[.slice a n cap, .int .i64 er]) ∧ n ≤ cap ∧ Elems w' (.slice a n cap) n k (rowC enc L) ∧ Below w.heap.size w w'
theorem GivesRowE.gotC {α : Type} {k : Nat} {enc : α → List Value} (hk : ∀ q, (enc q).length = k) {E : TypeId} {L : List α} {er : Int} {w : World} {e : Ending} {w' : World} (h : GivesRowE E k L.length (L.flatMap enc) er w e w') : GotC k enc L L.length er w e w' := by
  obtain ⟨v, rfl, hr, hb⟩ := h
  have he := ownsRow_rows hk hr
  have hc : ∃ a cap, v = .slice a L.length cap ∧ L.length ≤ cap := by
    rcases hr.2 with ⟨rfl, h0⟩ | ⟨g, cap, cur, rfl, _, _, h1, _⟩
    · exact ⟨none, 0, by rw [h0], by omega⟩
    · exact ⟨_, cap, rfl, h1⟩
  obtain ⟨a, cap, rfl, h1⟩ := hc
  exact ⟨a, cap, rfl, h1, he, hb⟩
theorem lineGoodC {a b : PtT} (ha : drawnB a = true) (hb : drawnB b = true) {L : List PtT} (hL : lineL a b = L) {n : Nat} (hn : L.length = n) (w : World) : Calls Try.prog 24 #[a.val, b.val] w (GotC 2 encP L n 0 w) :=
  (shLine_any a b w).mono fun _ _ q => by
    have h := q.gotC encP_len
    have e : lineE a b = L := by unfold lineE; rw [ha, hb]; exact hL
    rw [e, hn, ha, hb] at h
    exact h

set_option maxRecDepth 100000 in
set_option maxHeartbeats 4000000 in
theorem steps_any (a b : PtT) (w : World) : Calls Try.prog 8 #[a.val, b.val] w (Gives (.bool true) w) := by
  obtain ⟨ax, ay⟩ := a
  obtain ⟨bx, by'⟩ := b
  have HS := Lib.hid (St.start w)
  obtain ⟨ok, hok⟩ : ∃ ok, (drawnB ⟨ax, ay⟩ && drawnB ⟨bx, by'⟩) = ok := ⟨_, rfl⟩
  have HOK := Lib.hid hok
  clear hok
  unfold PtT.val
  go_enter Try.func8, Try.ntmps8
  repeat ((fail_if_success (with_reducible refine stop_at (id := 1) ?_)); (first | go_values | go_skip | go_guarded | go_step | go_upon | go_back | (simp only [Int.not_lt, Int.not_le] at *; go_simp) | (go_values <;> (try go_simp)) | (go_ite <;> go_prune <;> (try go_simp)) | (split <;> (first | (rename_i hx; exact (hx _ rfl).elim) | go_prune))))
  have hs_ := ((HS.out.alloc (.cells #[.int .i64 ax, .int .i64 ay] 28)).alloc (.cells #[.int .i64 bx, .int .i64 by'] 28))
  obtain ⟨w1, hw_⟩ : ∃ w1 : World, ((w.alloc (.cells #[.int .i64 ax, .int .i64 ay] 28)).alloc (.cells #[.int .i64 bx, .int .i64 by'] 28)) = w1 := ⟨_, rfl⟩
  rw [hw_] at hs_
  try simp only [World.size_alloc] at hs_
  have HS := Lib.hid hs_
  rw [hw_]
  clear hw_ hs_
  go_wp2_with fail
  refine (wakes_any _).mono ?_
  rintro e w2 ⟨rfl, hb_⟩
  have HS := Lib.hid (HS.out.below hb_)
  clear hb_
  cases ok
  · have HLN := Lib.hid (fun w => lineBad (a := ⟨ax, ay⟩) (b := ⟨bx, by'⟩) HOK.out w)
    have HRC := Lib.hid (fun w => rectBad (a := ⟨ax, ay⟩) (b := ⟨bx, by'⟩) HOK.out w)
    have q0 := cell_of_block (k := 0) (HS.out.blockAt 0 rfl) rfl
    have q1 := cell_of_block (k := 1) (HS.out.blockAt 0 rfl) rfl
    have r0 := cell_of_block (k := 0) (HS.out.blockAt 1 rfl) rfl
    have r1 := cell_of_block (k := 1) (HS.out.blockAt 1 rfl) rfl
    go_wp2_with fail
    clear q0 q1 r0 r1
    refine (HLN.out _).mono ?_
    rintro e w3 ⟨-, a3, c3, rfl, he_, hb_⟩
    have HS := Lib.hid ((HS.out.below hb_).addRow he_)
    clear hb_ he_
    have q0 := cell_of_block (k := 0) (HS.out.blockAt 1 rfl) rfl
    have q1 := cell_of_block (k := 1) (HS.out.blockAt 1 rfl) rfl
    have r0 := cell_of_block (k := 0) (HS.out.blockAt 2 rfl) rfl
    have r1 := cell_of_block (k := 1) (HS.out.blockAt 2 rfl) rfl
    go_wp2_with fail
    clear q0 q1 r0 r1
    refine (HRC.out _).mono ?_
    rintro e w4 ⟨-, a4, c4, rfl, he_, hb_⟩
    have HS := Lib.hid ((HS.out.below hb_).addRow he_)
    clear hb_ he_
    go_wp2_with fail
    go_ret
    exact ⟨rfl, HS.out.low⟩
  · have hda : drawnB ⟨ax, ay⟩ = true := by have := HOK.out; simp at this; exact this.1
    have hdb : drawnB ⟨bx, by'⟩ = true := by have := HOK.out; simp at this; exact this.2
    have HDA := Lib.hid hda
    have HDB := Lib.hid hdb
    have HRA := Lib.hid ((drawn_iff ⟨ax, ay⟩).1 hda)
    have HRB := Lib.hid ((drawn_iff ⟨bx, by'⟩).1 hdb)
    clear hda hdb HOK
    obtain ⟨L1, hL1⟩ : ∃ L1, lineL ⟨ax, ay⟩ ⟨bx, by'⟩ = L1 := ⟨_, rfl⟩
    obtain ⟨n, hn1⟩ : ∃ n, L1.length = n := ⟨_, rfl⟩
    have hle := lineL_small HDA.out HDB.out
    have hwm := wayMax_max ⟨ax, ay⟩ ⟨bx, by'⟩
    obtain ⟨N, hN⟩ : ∃ N, wayMax ⟨ax, ay⟩ ⟨bx, by'⟩ = N := ⟨_, rfl⟩
    have hnN : (n : Int) = N + 1 := by
      have := wayN_nonneg ax bx
      rw [← hn1, ← hL1, lineL_len, hN]
      have : 0 ≤ N := by rw [← hN]; unfold wayMax; simp only; omega
      omega
    have HLL := Lib.hid (And.intro hL1 (And.intro hn1 (show n ≤ 1000 by rw [← hn1, ← hL1]; exact hle)))
    obtain ⟨R1, hR1⟩ : ∃ R1, rectL ⟨ax, ay⟩ ⟨bx, by'⟩ = R1 := ⟨_, rfl⟩
    obtain ⟨n2, hn2⟩ : ∃ n2, R1.length = n2 := ⟨_, rfl⟩
    have hset := rectL_set HDA.out HDB.out
    have hn2le := rectL_small HDA.out HDB.out
    rw [hR1] at hset hn2le
    rw [hn2] at hn2le
    have HRR := Lib.hid (And.intro hR1 (And.intro hn2 (And.intro hn2le hset)))
    have HGET := Lib.hid (fun (k : Nat) (h : k < n) => hL1 ▸ lineL_get (a := ⟨ax, ay⟩) (b := ⟨bx, by'⟩) (k := k) (by rw [hN]; omega))
    have HTAKE := Lib.hid (fun (k : Nat) (p : PtT) (h : linePt ⟨ax, ay⟩ ⟨bx, by'⟩ k = p) => hL1 ▸ lineL_take h)
    have HWM := Lib.hid (And.intro hN (And.intro hnN (And.intro hwm (show 0 ≤ N by omega))))
    clear hL1 hn1 hle hwm hN hnN hR1 hn2 hset hn2le
    have HLN := Lib.hid (fun w => lineGoodC HDA.out HDB.out HLL.out.1 HLL.out.2.1 w)
    have HRC := Lib.hid (fun w => rectGood HDA.out HDB.out HRR.out.1 HRR.out.2.1 w)
    have q0 := cell_of_block (k := 0) (HS.out.blockAt 0 rfl) rfl
    have q1 := cell_of_block (k := 1) (HS.out.blockAt 0 rfl) rfl
    have r0 := cell_of_block (k := 0) (HS.out.blockAt 1 rfl) rfl
    have r1 := cell_of_block (k := 1) (HS.out.blockAt 1 rfl) rfl
    go_wp2_with fail
    clear q0 q1 r0 r1
    refine (HLN.out _).mono ?_
    rintro e w3 ⟨a3, c3, rfl, hc3, he_, hb_⟩
    have HS := Lib.hid ((HS.out.below hb_).addRow he_)
    clear he_ hb_
    have q0 := cell_of_block (k := 0) (HS.out.blockAt 1 rfl) rfl
    have q1 := cell_of_block (k := 1) (HS.out.blockAt 1 rfl) rfl
    have r0 := cell_of_block (k := 0) (HS.out.blockAt 2 rfl) rfl
    have r1 := cell_of_block (k := 1) (HS.out.blockAt 2 rfl) rfl
    go_wp2_with fail
    clear q0 q1 r0 r1
    refine (HRC.out _).mono ?_
    rintro e w4 ⟨-, a4, c4, rfl, he_, hb_⟩
    have HS := Lib.hid ((HS.out.below hb_).addRow he_)
    clear hb_ he_
    clear HLN HRC
    have HP0 := Lib.hid (show L1[0]? = some (⟨ax, ay⟩ : PtT) by rw [HGET.out 0 (by have := HWM.out; omega)]; congr 1; exact linePt_first _ _)
    have HPN := Lib.hid (show L1[n - 1]? = some (⟨bx, by'⟩ : PtT) by
      rw [HGET.out (n - 1) (by have := HWM.out; omega)]
      congr 1
      rw [show (((n - 1 : Nat)) : Int) = wayMax ⟨ax, ay⟩ ⟨bx, by'⟩ by have := HWM.out; omega]
      exact linePt_last _ _)
    obtain ⟨bL, off, rfl, -⟩ := ptCells HLL.out.2.1 (HS.out.elems 1 rfl) 0 _ HP0.out
    have HN1 := Lib.hid (show decide ((n : Int) < 1) = false from decide_eq_false (by have := HWM.out; omega))
    have wn1 : wrap64 ((n : Int) - 1) = ((n - 1 : Nat) : Int) := by have := HWM.out; have := HLL.out.2.2; unfold wrap64; omega
    repeat ((fail_if_success (with_reducible refine stop_at (id := 7) ?_)); (first | go_values | go_skip | go_guarded | go_step | go_upon | go_back | (simp only [Int.not_lt, Int.not_le] at *; go_simp) | (go_values <;> (try go_simp)) | (go_ite <;> go_prune <;> (try go_simp)) | (split <;> (first | (rename_i hx; exact (hx _ rfl).elim) | go_prune))))
    refine (wpIn_wide (n := 0)).1 ?_
    apply wp_region_vals 24 (Rl := [(eqv _), (eqv _), (eqv _), (eqv _), (eqv _), (eqv _), (eqv _), (eqv _), (eqv _), (eqv _), (eqv _), (eqv _), (eqv _), (eqv _), (eqv _), (eqv _), (eqv _), (eqv _), (eqv _), (eqv _), (eqv _), (eqv _), (eqv _), (eqv _)]) (C := (fun x y => Below x.heap.size x y))
    case hm => kernel_rfl
    case hk => rfl
    case hCr => exact (fun _ => Below.refl _ _)
    case hCt => intro _ _ _; exact (fun h k => grows_trans h k)
    case hst => exact ⟨fun _ _ _ _ h => h, fun _ _ _ _ h => h, fun _ _ _ _ h => h, fun _ _ _ _ h => h, fun _ _ _ _ h => h, fun _ _ _ _ h => h, fun _ _ _ _ h => h, fun _ _ _ _ h => h, fun _ _ _ _ h => h, fun _ _ _ _ h => h, fun _ _ _ _ h => h, fun _ _ _ _ h => h, fun _ _ _ _ h => h, fun _ _ _ _ h => h, fun _ _ _ _ h => h, fun _ _ _ _ h => h, fun _ _ _ _ h => h, fun _ _ _ _ h => h, fun _ _ _ _ h => h, fun _ _ _ _ h => h, fun _ _ _ _ h => h, fun _ _ _ _ h => h, fun _ _ _ _ h => h, fun _ _ _ _ h => h, trivial⟩
    case hfo => kernel_rfl
    case ht => kernel_rfl
    case hC0 => exact (grows_drew _)
    case hsteps =>
      refine ⟨?_, ?_, ?_, ?_, ?_, ?_, ?_, ?_, ?_, ?_, ?_, ?_, ?_, ?_, ?_, ?_, ?_, ?_, ?_, ?_, ?_, ?_, ?_, ?_, trivial⟩
      · -- 0
        intro a' w' hA hC hD
        have s8 : a'.tmps[8]? = some _ := (hA.at 8 (by kernel_rfl)).trans rfl
        clear hA hD
        refine stepOk_plain rfl ?_
        intro K hK
        gi_wp2
        exact hK _ _ rfl ((fun _ => Below.refl _ _) _)
      · -- 1
        intro a' w' hA hC hD
        obtain ⟨u40, s40, r40⟩ := hD ⟨0, .data⟩ (by simp) rfl _ rfl
        replace r40 : u40 = _ := r40
        subst r40
        clear hA hD
        refine stepOk_plain rfl ?_
        intro K hK
        gi_wp2
        exact hK _ _ rfl ((fun _ => Below.refl _ _) _)
      · -- 2
        intro a' w' hA hC hD
        obtain ⟨u41, s41, r41⟩ := hD ⟨1, .data⟩ (by simp) rfl _ rfl
        replace r41 : u41 = _ := r41
        subst r41
        clear hA hD
        refine stepOk_plain rfl ?_
        intro K hK
        gi_wp2
        exact hK _ _ rfl ((fun _ => Below.refl _ _) _)
      · -- 3
        intro a' w' hA hC hD
        have s5 : a'.tmps[5]? = some _ := (hA.at 5 (by kernel_rfl)).trans rfl
        obtain ⟨u42, s42, r42⟩ := hD ⟨2, .guard⟩ (by simp) rfl _ rfl
        replace r42 : u42 = _ := r42
        subst r42
        clear hA hD
        refine stepOk_want rfl rfl s42 ?_
        intro K hK
        gi_wp2
        exact hK _ _ rfl ((fun _ => Below.refl _ _) _)
      · -- 4
        intro a' w' hA hC hD
        obtain ⟨u43, s43, r43⟩ := hD ⟨3, .data⟩ (by simp) rfl _ rfl
        replace r43 : u43 = _ := r43
        subst r43
        obtain ⟨u42, s42, r42⟩ := hD ⟨2, .guard⟩ (by simp) rfl _ rfl
        replace r42 : u42 = _ := r42
        subst r42
        clear hA hD
        refine stepOk_want rfl rfl s42 ?_
        intro K hK
        gi_wp2
        exact hK _ _ rfl ((fun _ => Below.refl _ _) _)
      · -- 5
        intro a' w' hA hC hD
        obtain ⟨u44, s44, r44⟩ := hD ⟨4, .data⟩ (by simp) rfl _ rfl
        replace r44 : u44 = _ := r44
        subst r44
        obtain ⟨u42, s42, r42⟩ := hD ⟨2, .guard⟩ (by simp) rfl _ rfl
        replace r42 : u42 = _ := r42
        subst r42
        clear hA hD
        refine stepOk_want rfl rfl s42 ?_
        intro K hK
        gi_wp2
        rw [HN1.out]
        exact hK _ _ rfl ((fun _ => Below.refl _ _) _)
      · -- 6
        intro a' w' hA hC hD
        obtain ⟨u42, s42, r42⟩ := hD ⟨2, .data⟩ (by simp) rfl _ rfl
        replace r42 : u42 = _ := r42
        subst r42
        obtain ⟨u45, s45, r45⟩ := hD ⟨5, .data⟩ (by simp) rfl _ rfl
        replace r45 : u45 = _ := r45
        subst r45
        clear hA hD
        refine stepOk_plain rfl ?_
        intro K hK
        gi_wp2
        exact hK _ _ rfl ((fun _ => Below.refl _ _) _)
      · -- 7
        intro a' w' hA hC hD
        obtain ⟨u46, s46, r46⟩ := hD ⟨6, .data⟩ (by simp) rfl _ rfl
        replace r46 : u46 = _ := r46
        subst r46
        clear hA hD
        refine stepOk_plain rfl ?_
        intro K hK
        gi_wp2
        exact hK _ _ rfl ((fun _ => Below.refl _ _) _)
      · -- 8
        intro a' w' hA hC hD
        have s5 : a'.tmps[5]? = some _ := (hA.at 5 (by kernel_rfl)).trans rfl
        obtain ⟨u47, s47, r47⟩ := hD ⟨7, .guard⟩ (by simp) rfl _ rfl
        replace r47 : u47 = _ := r47
        subst r47
        clear hA hD
        refine stepOk_want rfl rfl s47 ?_
        intro K hK
        gi_wp2
        exact hK _ _ rfl ((fun _ => Below.refl _ _) _)
      · -- 9
        intro a' w' hA hC hD
        obtain ⟨u48, s48, r48⟩ := hD ⟨8, .data⟩ (by simp) rfl _ rfl
        replace r48 : u48 = _ := r48
        subst r48
        obtain ⟨u47, s47, r47⟩ := hD ⟨7, .guard⟩ (by simp) rfl _ rfl
        replace r47 : u47 = _ := r47
        subst r47
        have hb0 : 0 < n := by have := HWM.out; omega
        clear hA hD
        refine stepOk_want rfl rfl s47 ?_
        intro K hK
        gi_wp2
        exact hK _ _ rfl ((fun _ => Below.refl _ _) _)
      · -- 10
        intro a' w' hA hC hD
        obtain ⟨u49, s49, r49⟩ := hD ⟨9, .data⟩ (by simp) rfl _ rfl
        replace r49 : u49 = _ := r49
        subst r49
        obtain ⟨u47, s47, r47⟩ := hD ⟨7, .guard⟩ (by simp) rfl _ rfl
        replace r47 : u47 = _ := r47
        subst r47
        obtain ⟨p0, p1⟩ := ptAt HLL.out.2.1 ((HS.out.elems 1 rfl).below hC) 0 _ HP0.out; simp only [Nat.zero_mul, Nat.add_zero] at p0 p1
        clear hA hD
        refine stepOk_want rfl rfl s47 ?_
        intro K hK
        gi_wp2
        exact hK _ _ rfl ((fun _ => Below.refl _ _) _)
      · -- 11
        intro a' w' hA hC hD
        have s2 : a'.tmps[2]? = some _ := (hA.at 2 (by kernel_rfl)).trans rfl
        obtain ⟨u47, s47, r47⟩ := hD ⟨7, .guard⟩ (by simp) rfl _ rfl
        replace r47 : u47 = _ := r47
        subst r47
        have h1_ := (HS.out.below hC).blockAt 3 rfl; have c1_0 := cell_of_block (k := 0) h1_ rfl; have c1_1 := cell_of_block (k := 1) h1_ rfl; clear h1_
        clear hA hD
        refine stepOk_want rfl rfl s47 ?_
        intro K hK
        gi_wp2
        exact hK _ _ rfl ((fun _ => Below.refl _ _) _)
      · -- 12
        intro a' w' hA hC hD
        obtain ⟨u50, s50, r50⟩ := hD ⟨10, .data⟩ (by simp) rfl _ rfl
        replace r50 : u50 = _ := r50
        subst r50
        obtain ⟨u51, s51, r51⟩ := hD ⟨11, .data⟩ (by simp) rfl _ rfl
        replace r51 : u51 = _ := r51
        subst r51
        obtain ⟨u47, s47, r47⟩ := hD ⟨7, .guard⟩ (by simp) rfl _ rfl
        replace r47 : u47 = _ := r47
        subst r47
        have hq := neqP_self ax ay
        clear hA hD
        refine stepOk_want rfl rfl s47 ?_
        intro K hK
        gi_wp2
        exact hK _ _ rfl ((fun _ => Below.refl _ _) _)
      · -- 13
        intro a' w' hA hC hD
        obtain ⟨u47, s47, r47⟩ := hD ⟨7, .data⟩ (by simp) rfl _ rfl
        replace r47 : u47 = _ := r47
        subst r47
        obtain ⟨u52, s52, r52⟩ := hD ⟨12, .data⟩ (by simp) rfl _ rfl
        replace r52 : u52 = _ := r52
        subst r52
        clear hA hD
        refine stepOk_plain rfl ?_
        intro K hK
        gi_wp2
        exact hK _ _ rfl ((fun _ => Below.refl _ _) _)
      · -- 14
        intro a' w' hA hC hD
        obtain ⟨u53, s53, r53⟩ := hD ⟨13, .data⟩ (by simp) rfl _ rfl
        replace r53 : u53 = _ := r53
        subst r53
        clear hA hD
        refine stepOk_plain rfl ?_
        intro K hK
        gi_wp2
        exact hK _ _ rfl ((fun _ => Below.refl _ _) _)
      · -- 15
        intro a' w' hA hC hD
        have s5 : a'.tmps[5]? = some _ := (hA.at 5 (by kernel_rfl)).trans rfl
        obtain ⟨u54, s54, r54⟩ := hD ⟨14, .guard⟩ (by simp) rfl _ rfl
        replace r54 : u54 = _ := r54
        subst r54
        clear hA hD
        refine stepOk_want rfl rfl s54 ?_
        intro K hK
        gi_wp2
        exact hK _ _ rfl ((fun _ => Below.refl _ _) _)
      · -- 16
        intro a' w' hA hC hD
        have s5 : a'.tmps[5]? = some _ := (hA.at 5 (by kernel_rfl)).trans rfl
        obtain ⟨u54, s54, r54⟩ := hD ⟨14, .guard⟩ (by simp) rfl _ rfl
        replace r54 : u54 = _ := r54
        subst r54
        clear hA hD
        refine stepOk_want rfl rfl s54 ?_
        intro K hK
        gi_wp2
        exact hK _ _ rfl ((fun _ => Below.refl _ _) _)
      · -- 17
        intro a' w' hA hC hD
        obtain ⟨u56, s56, r56⟩ := hD ⟨16, .data⟩ (by simp) rfl _ rfl
        replace r56 : u56 = _ := r56
        subst r56
        obtain ⟨u54, s54, r54⟩ := hD ⟨14, .guard⟩ (by simp) rfl _ rfl
        replace r54 : u54 = _ := r54
        subst r54
        clear hA hD
        refine stepOk_want rfl rfl s54 ?_
        intro K hK
        gi_wp2
        exact hK _ _ rfl ((fun _ => Below.refl _ _) _)
      · -- 18
        intro a' w' hA hC hD
        obtain ⟨u57, s57, r57⟩ := hD ⟨17, .data⟩ (by simp) rfl _ rfl
        replace r57 : u57 = _ := r57
        subst r57
        obtain ⟨u54, s54, r54⟩ := hD ⟨14, .guard⟩ (by simp) rfl _ rfl
        replace r54 : u54 = _ := r54
        subst r54
        clear hA hD
        refine stepOk_want rfl rfl s54 ?_
        intro K hK
        gi_wp2
        exact hK _ _ rfl ((fun _ => Below.refl _ _) _)
      · -- 19
        intro a' w' hA hC hD
        obtain ⟨u55, s55, r55⟩ := hD ⟨15, .data⟩ (by simp) rfl _ rfl
        replace r55 : u55 = _ := r55
        subst r55
        obtain ⟨u58, s58, r58⟩ := hD ⟨18, .data⟩ (by simp) rfl _ rfl
        replace r58 : u58 = _ := r58
        subst r58
        obtain ⟨u54, s54, r54⟩ := hD ⟨14, .guard⟩ (by simp) rfl _ rfl
        replace r54 : u54 = _ := r54
        subst r54
        have hb0 : n - 1 < n := by have := HWM.out; omega
        clear hA hD
        refine stepOk_want rfl rfl s54 ?_
        intro K hK
        gi_wp2
        exact hK _ _ rfl ((fun _ => Below.refl _ _) _)
      · -- 20
        intro a' w' hA hC hD
        obtain ⟨u59, s59, r59⟩ := hD ⟨19, .data⟩ (by simp) rfl _ rfl
        replace r59 : u59 = _ := r59
        subst r59
        obtain ⟨u54, s54, r54⟩ := hD ⟨14, .guard⟩ (by simp) rfl _ rfl
        replace r54 : u54 = _ := r54
        subst r54
        obtain ⟨p0, p1⟩ := ptAt HLL.out.2.1 ((HS.out.elems 1 rfl).below hC) (n - 1) _ HPN.out
        clear hA hD
        refine stepOk_want rfl rfl s54 ?_
        intro K hK
        gi_wp2
        exact hK _ _ rfl ((fun _ => Below.refl _ _) _)
      · -- 21
        intro a' w' hA hC hD
        have s3 : a'.tmps[3]? = some _ := (hA.at 3 (by kernel_rfl)).trans rfl
        obtain ⟨u54, s54, r54⟩ := hD ⟨14, .guard⟩ (by simp) rfl _ rfl
        replace r54 : u54 = _ := r54
        subst r54
        have h1_ := (HS.out.below hC).blockAt 2 rfl; have c1_0 := cell_of_block (k := 0) h1_ rfl; have c1_1 := cell_of_block (k := 1) h1_ rfl; clear h1_
        clear hA hD
        refine stepOk_want rfl rfl s54 ?_
        intro K hK
        gi_wp2
        exact hK _ _ rfl ((fun _ => Below.refl _ _) _)
      · -- 22
        intro a' w' hA hC hD
        obtain ⟨u60, s60, r60⟩ := hD ⟨20, .data⟩ (by simp) rfl _ rfl
        replace r60 : u60 = _ := r60
        subst r60
        obtain ⟨u61, s61, r61⟩ := hD ⟨21, .data⟩ (by simp) rfl _ rfl
        replace r61 : u61 = _ := r61
        subst r61
        obtain ⟨u54, s54, r54⟩ := hD ⟨14, .guard⟩ (by simp) rfl _ rfl
        replace r54 : u54 = _ := r54
        subst r54
        have hq := neqP_self bx by'
        clear hA hD
        refine stepOk_want rfl rfl s54 ?_
        intro K hK
        gi_wp2
        exact hK _ _ rfl ((fun _ => Below.refl _ _) _)
      · -- 23
        intro a' w' hA hC hD
        obtain ⟨u54, s54, r54⟩ := hD ⟨14, .data⟩ (by simp) rfl _ rfl
        replace r54 : u54 = _ := r54
        subst r54
        obtain ⟨u62, s62, r62⟩ := hD ⟨22, .data⟩ (by simp) rfl _ rfl
        replace r62 : u62 = _ := r62
        subst r62
        clear hA hD
        refine stepOk_plain rfl ?_
        intro K hK
        gi_wp2
        exact hK _ _ rfl ((fun _ => Below.refl _ _) _)
    case hend =>
      intro w5 hC
      simp only [EndFrom, eqv, forall_eq, Act.put, List.length_cons, List.length_nil, List.drop_succ_cons, List.drop_zero, Nat.reduceAdd, List.setIfInBounds_toArray, List.set_cons_succ, List.set_cons_zero]
      have HS := Lib.hid (HS.out.below hC)
      clear hC
      clear wn1
      have HRS := Lib.hid (show rightB R1 = true from right_of_set HRR.out.2.2.2 (fun p hp => by
        have := HRA.out
        have := HRB.out
        unfold RectP at hp
        simp only at *
        omega))
      have HHR := Lib.hid (fun (k : Nat) (p : PtT) (hk : k < n) (hp : linePt ⟨ax, ay⟩ ⟨bx, by'⟩ k = p) => show hasB R1 p = true from (HRR.out.2.2.2.has p).2 (hp ▸ linePt_in (by omega) (by have := HWM.out; omega)))
      gi_wp2
      go_wp2_with fail
      go_loopw [66] (fun i wr => ∃ k : Nat, k ≤ n ∧ i = .int .i64 (k : Int) ∧ St w [.row (.slice a4 n2 c4) n2 3 (rowC encS R1) w4.heap.size, .row (.slice (some ⟨bL, off, none⟩) n c3) n 2 (rowC encP L1) w3.heap.size, .blk (w.heap.size + 1) (.cells #[.int .i64 bx, .int .i64 by'] 28), .blk w.heap.size (.cells #[.int .i64 ax, .int .i64 ay] 28)] wr) (fun i _ => n - (intOf i).toNat)
      case atStart => exact ⟨0, by omega, rfl, HS.out⟩
      case round =>
        obtain ⟨k, hk, rfl, hs⟩ := hrel
        clear HS
        have HS := Lib.hid hs
        clear hs
        by_cases hlt : k < n
        · have HK := Lib.hid hlt
          have e3 : wrap64 ((k : Int) + 1) = ((k + 1 : Nat) : Int) := by have := HLL.out.2.2; unfold wrap64; omega
          obtain ⟨pt, hpt⟩ : ∃ pt, linePt ⟨ax, ay⟩ ⟨bx, by'⟩ k = pt := ⟨_, rfl⟩
          have HPT := Lib.hid hpt
          have HX := Lib.hid (show L1[k]? = some pt by rw [HGET.out k hlt, hpt])
          have HHS := Lib.hid (HHR.out k pt hlt hpt)
          have HCO := Lib.hid (HTAKE.out k pt hpt)
          obtain ⟨px, py⟩ := pt
          obtain ⟨c0, c1⟩ := ptAt HLL.out.2.1 (HS.out.elems 1 rfl) k _ HX.out
          simp only at c0 c1
          clear hpt
          repeat ((fail_if_success (with_reducible refine stop_at (id := 12) ?_)); (first | go_values | go_skip | go_guarded | go_step | go_upon | go_back | (simp only [Int.not_lt, Int.not_le] at *; go_simp) | (go_values <;> (try go_simp)) | (go_ite <;> go_prune <;> (try go_simp)) | (split <;> (first | (rename_i hx; exact (hx _ rfl).elim) | go_prune))))
          clear c0 c1
          have hs_ := (HS.out.alloc (.cells #[.int .i64 px, .int .i64 py] 28))
          obtain ⟨w5, hw_⟩ : ∃ w5 : World, (wr.alloc (.cells #[.int .i64 px, .int .i64 py] 28)) = w5 := ⟨_, rfl⟩
          rw [hw_] at hs_
          try simp only [World.size_alloc] at hs_
          have HS := Lib.hid hs_
          rw [hw_]
          clear hw_ hs_
          have HKN := Lib.hid (And.intro HK.out (And.intro HLL.out.2.2 hc3))
          clear hlt
          refine (wpIn_wide (n := 0)).1 ?_
          apply wp_region_vals 11 (Rl := [(eqv _), (eqv _), (eqv _), (eqv _), (eqv _), (eqv _), (eqv _), (eqv _), (eqv _), (eqv _), (eqv _)]) (C := (fun x y => Below x.heap.size x y))
          case hm => kernel_rfl
          case hk => rfl
          case hCr => exact (fun _ => Below.refl _ _)
          case hCt => intro _ _ _; exact (fun h k => grows_trans h k)
          case hst => exact ⟨fun _ _ _ _ h => h, fun _ _ _ _ h => h, fun _ _ _ _ h => h, fun _ _ _ _ h => h, fun _ _ _ _ h => h, fun _ _ _ _ h => h, fun _ _ _ _ h => h, fun _ _ _ _ h => h, fun _ _ _ _ h => h, fun _ _ _ _ h => h, fun _ _ _ _ h => h, trivial⟩
          case hfo => kernel_rfl
          case ht => kernel_rfl
          case hC0 => exact (grows_drew _)
          case hsteps =>
            refine ⟨?_, ?_, ?_, ?_, ?_, ?_, ?_, ?_, ?_, ?_, ?_, trivial⟩
            · -- 0
              intro a' w' hA hC hD
              have s7 : a'.tmps[7]? = some _ := (hA.at 7 (by kernel_rfl)).trans rfl
              clear hA hD
              refine stepOk_plain rfl ?_
              intro K hK
              gi_wp2
              exact hK _ _ rfl ((fun _ => Below.refl _ _) _)
            · -- 1
              intro a' w' hA hC hD
              have s10 : a'.tmps[10]? = some _ := (hA.at 10 (by kernel_rfl)).trans rfl
              have h1_ := (HS.out.below hC).blockAt 0 rfl; have c1_0 := cell_of_block (k := 0) h1_ rfl; have c1_1 := cell_of_block (k := 1) h1_ rfl; clear h1_
              clear hA hD
              refine stepOk_plain rfl ?_
              intro K hK
              gi_wp2
              exact hK _ _ rfl ((fun _ => Below.refl _ _) _)
            · -- 2
              intro a' w' hA hC hD
              obtain ⟨u71, s71, r71⟩ := hD ⟨0, .data⟩ (by simp) rfl _ rfl
              replace r71 : u71 = _ := r71
              subst r71
              obtain ⟨u72, s72, r72⟩ := hD ⟨1, .data⟩ (by simp) rfl _ rfl
              replace r72 : u72 = _ := r72
              subst r72
              clear hA hD
              refine stepOk_plain rfl ?_
              intro K hK
              gi_wp2_with fail; refine (callsIn_wide.2 (shHas_any _ _ _ R1 HRR.out.2.1 (by have := HRR.out.2.2.1; omega) ⟨px, py⟩ _ ((HS.out.elems 1 rfl).below hC))).mono ?_; rintro e w2 ⟨rfl, hb⟩; rw [(show (rightB R1 && hasB R1 ⟨px, py⟩) = true by rw [HRS.out, HHS.out]; rfl)]
              exact hK _ _ rfl hb
            · -- 3
              intro a' w' hA hC hD
              obtain ⟨u73, s73, r73⟩ := hD ⟨2, .data⟩ (by simp) rfl _ rfl
              replace r73 : u73 = _ := r73
              subst r73
              clear hA hD
              refine stepOk_plain rfl ?_
              intro K hK
              gi_wp2
              exact hK _ _ rfl ((fun _ => Below.refl _ _) _)
            · -- 4
              intro a' w' hA hC hD
              obtain ⟨u74, s74, r74⟩ := hD ⟨3, .data⟩ (by simp) rfl _ rfl
              replace r74 : u74 = _ := r74
              subst r74
              clear hA hD
              refine stepOk_plain rfl ?_
              intro K hK
              gi_wp2
              exact hK _ _ rfl ((fun _ => Below.refl _ _) _)
            · -- 5
              intro a' w' hA hC hD
              have s5 : a'.tmps[5]? = some _ := (hA.at 5 (by kernel_rfl)).trans rfl
              obtain ⟨u75, s75, r75⟩ := hD ⟨4, .guard⟩ (by simp) rfl _ rfl
              replace r75 : u75 = _ := r75
              subst r75
              clear hA hD
              refine stepOk_want rfl rfl s75 ?_
              intro K hK
              gi_wp2
              exact hK _ _ rfl ((fun _ => Below.refl _ _) _)
            · -- 6
              intro a' w' hA hC hD
              have s9 : a'.tmps[9]? = some _ := (hA.at 9 (by kernel_rfl)).trans rfl
              obtain ⟨u75, s75, r75⟩ := hD ⟨4, .guard⟩ (by simp) rfl _ rfl
              replace r75 : u75 = _ := r75
              subst r75
              clear hA hD
              refine stepOk_want rfl rfl s75 ?_
              intro K hK
              gi_wp2
              exact hK _ _ rfl ((fun _ => Below.refl _ _) _)
            · -- 7
              intro a' w' hA hC hD
              obtain ⟨u76, s76, r76⟩ := hD ⟨5, .data⟩ (by simp) rfl _ rfl
              replace r76 : u76 = _ := r76
              subst r76
              obtain ⟨u77, s77, r77⟩ := hD ⟨6, .data⟩ (by simp) rfl _ rfl
              replace r77 : u77 = _ := r77
              subst r77
              obtain ⟨u75, s75, r75⟩ := hD ⟨4, .guard⟩ (by simp) rfl _ rfl
              replace r75 : u75 = _ := r75
              subst r75
              have hk1 := HKN.out.1; have hk2 := HKN.out.2.2; have hk3 : k ≤ c3 := by omega
              clear hA hD
              refine stepOk_want rfl rfl s75 ?_
              intro K hK
              gi_wp2
              exact hK _ _ rfl ((fun _ => Below.refl _ _) _)
            · -- 8
              intro a' w' hA hC hD
              have s10 : a'.tmps[10]? = some _ := (hA.at 10 (by kernel_rfl)).trans rfl
              obtain ⟨u75, s75, r75⟩ := hD ⟨4, .guard⟩ (by simp) rfl _ rfl
              replace r75 : u75 = _ := r75
              subst r75
              have h1_ := (HS.out.below hC).blockAt 0 rfl; have c1_0 := cell_of_block (k := 0) h1_ rfl; have c1_1 := cell_of_block (k := 1) h1_ rfl; clear h1_
              clear hA hD
              refine stepOk_want rfl rfl s75 ?_
              intro K hK
              gi_wp2
              exact hK _ _ rfl ((fun _ => Below.refl _ _) _)
            · -- 9
              intro a' w' hA hC hD
              obtain ⟨u78, s78, r78⟩ := hD ⟨7, .data⟩ (by simp) rfl _ rfl
              replace r78 : u78 = _ := r78
              subst r78
              obtain ⟨u79, s79, r79⟩ := hD ⟨8, .data⟩ (by simp) rfl _ rfl
              replace r79 : u79 = _ := r79
              subst r79
              obtain ⟨u75, s75, r75⟩ := hD ⟨4, .chain⟩ (by simp) rfl _ rfl
              replace r75 : u75 = _ := r75
              subst r75
              clear hA hD
              refine stepOk_want rfl rfl s75 ?_
              intro K hK
              gi_wp2_with fail; refine (callsIn_wide.2 (containsP bL off k c3 L1 (by rw [HLL.out.2.1]; have := HKN.out.1; omega) (by have := HKN.out; omega) ⟨px, py⟩ _ (fun j y hy => ptAt HLL.out.2.1 ((HS.out.elems 2 rfl).below hC) j y hy))).mono ?_; rintro e w2 ⟨rfl, hb⟩; rw [HCO.out]; exact hK _ _ rfl hb
            · -- 10
              intro a' w' hA hC hD
              obtain ⟨u75, s75, r75⟩ := hD ⟨4, .data⟩ (by simp) rfl _ rfl
              replace r75 : u75 = _ := r75
              subst r75
              obtain ⟨u80, s80, r80⟩ := hD ⟨9, .data⟩ (by simp) rfl _ rfl
              replace r80 : u80 = _ := r80
              subst r80
              clear hA hD
              refine stepOk_plain rfl ?_
              intro K hK
              gi_wp2
              exact hK _ _ rfl ((fun _ => Below.refl _ _) _)
          case hend =>
            intro w6 hC
            simp only [EndFrom, eqv, forall_eq, Act.put, List.length_cons, List.length_nil, List.drop_succ_cons, List.drop_zero, Nat.reduceAdd, List.setIfInBounds_toArray, List.set_cons_succ, List.set_cons_zero]
            have HS := Lib.hid (HS.out.below hC)
            clear hC
            gi_wp2
            by_cases hk0 : k = 0
            · subst hk0
              repeat ((fail_if_success (with_reducible refine stop_at (id := 14) ?_)); (first | go_values | go_skip | go_guarded | go_step | go_upon | go_back | (simp only [Int.not_lt, Int.not_le] at *; go_simp) | (go_values <;> (try go_simp)) | (go_ite <;> go_prune <;> (try go_simp)) | (split <;> (first | (rename_i hx; exact (hx _ rfl).elim) | go_prune))))
              refine (wpIn_wide (n := 0)).1 ?_
              apply wp_region_vals 46 (Rl := [(eqv _), (eqv _), (eqv _), (fun v_ _ => v_ = (undef : Value)), (fun v_ _ => v_ = (undef : Value)), (fun v_ _ => v_ = (undef : Value)), (fun v_ _ => v_ = (undef : Value)), (fun v_ _ => v_ = (undef : Value)), (fun v_ _ => v_ = (undef : Value)), (fun v_ _ => v_ = (undef : Value)), (fun v_ _ => v_ = (undef : Value)), (fun v_ _ => v_ = (undef : Value)), (fun v_ _ => v_ = (undef : Value)), (fun v_ _ => v_ = (undef : Value)), (fun v_ _ => v_ = (undef : Value)), (fun v_ _ => v_ = (undef : Value)), (fun v_ _ => v_ = (undef : Value)), (fun v_ _ => v_ = (undef : Value)), (fun v_ _ => v_ = (undef : Value)), (fun v_ _ => v_ = (undef : Value)), (fun v_ _ => v_ = (undef : Value)), (fun v_ _ => v_ = (undef : Value)), (fun v_ _ => v_ = (undef : Value)), (fun v_ _ => v_ = (undef : Value)), (fun v_ _ => v_ = (undef : Value)), (fun v_ _ => v_ = (undef : Value)), (fun v_ _ => v_ = (undef : Value)), (fun v_ _ => v_ = (undef : Value)), (fun v_ _ => v_ = (undef : Value)), (fun v_ _ => v_ = (undef : Value)), (fun v_ _ => v_ = (undef : Value)), (fun v_ _ => v_ = (undef : Value)), (fun v_ _ => v_ = (undef : Value)), (fun v_ _ => v_ = (undef : Value)), (fun v_ _ => v_ = (undef : Value)), (fun v_ _ => v_ = (undef : Value)), (fun v_ _ => v_ = (undef : Value)), (fun v_ _ => v_ = (undef : Value)), (fun v_ _ => v_ = (undef : Value)), (fun v_ _ => v_ = (undef : Value)), (fun v_ _ => v_ = (undef : Value)), (fun v_ _ => v_ = (undef : Value)), (fun v_ _ => v_ = (undef : Value)), (fun v_ _ => v_ = (undef : Value)), (fun v_ _ => v_ = (undef : Value)), (eqv _)]) (C := (fun x y => Below x.heap.size x y))
              case hm => kernel_rfl
              case hk => rfl
              case hCr => exact (fun _ => Below.refl _ _)
              case hCt => intro _ _ _; exact (fun h k => grows_trans h k)
              case hst => exact ⟨fun _ _ _ _ h => h, fun _ _ _ _ h => h, fun _ _ _ _ h => h, fun _ _ _ _ h => h, fun _ _ _ _ h => h, fun _ _ _ _ h => h, fun _ _ _ _ h => h, fun _ _ _ _ h => h, fun _ _ _ _ h => h, fun _ _ _ _ h => h, fun _ _ _ _ h => h, fun _ _ _ _ h => h, fun _ _ _ _ h => h, fun _ _ _ _ h => h, fun _ _ _ _ h => h, fun _ _ _ _ h => h, fun _ _ _ _ h => h, fun _ _ _ _ h => h, fun _ _ _ _ h => h, fun _ _ _ _ h => h, fun _ _ _ _ h => h, fun _ _ _ _ h => h, fun _ _ _ _ h => h, fun _ _ _ _ h => h, fun _ _ _ _ h => h, fun _ _ _ _ h => h, fun _ _ _ _ h => h, fun _ _ _ _ h => h, fun _ _ _ _ h => h, fun _ _ _ _ h => h, fun _ _ _ _ h => h, fun _ _ _ _ h => h, fun _ _ _ _ h => h, fun _ _ _ _ h => h, fun _ _ _ _ h => h, fun _ _ _ _ h => h, fun _ _ _ _ h => h, fun _ _ _ _ h => h, fun _ _ _ _ h => h, fun _ _ _ _ h => h, fun _ _ _ _ h => h, fun _ _ _ _ h => h, fun _ _ _ _ h => h, fun _ _ _ _ h => h, fun _ _ _ _ h => h, fun _ _ _ _ h => h, trivial⟩
              case hfo => kernel_rfl
              case ht => kernel_rfl
              case hC0 => exact (grows_drew _)
              case hsteps =>
                refine ⟨?_, ?_, ?_, ?_, ?_, ?_, ?_, ?_, ?_, ?_, ?_, ?_, ?_, ?_, ?_, ?_, ?_, ?_, ?_, ?_, ?_, ?_, ?_, ?_, ?_, ?_, ?_, ?_, ?_, ?_, ?_, ?_, ?_, ?_, ?_, ?_, ?_, ?_, ?_, ?_, ?_, ?_, ?_, ?_, ?_, ?_, trivial⟩
                · -- 0
                  intro a' w' hA hC hD
                  have s9 : a'.tmps[9]? = some _ := (hA.at 9 (by kernel_rfl)).trans rfl
                  clear hA hD
                  refine stepOk_plain rfl ?_
                  intro K hK
                  gi_wp2
                  exact hK _ _ rfl ((fun _ => Below.refl _ _) _)
                · -- 1
                  intro a' w' hA hC hD
                  obtain ⟨u82, s82, r82⟩ := hD ⟨0, .data⟩ (by simp) rfl _ rfl
                  replace r82 : u82 = _ := r82
                  subst r82
                  clear hA hD
                  refine stepOk_plain rfl ?_
                  intro K hK
                  gi_wp2
                  exact hK _ _ rfl ((fun _ => Below.refl _ _) _)
                · -- 2
                  intro a' w' hA hC hD
                  obtain ⟨u83, s83, r83⟩ := hD ⟨1, .data⟩ (by simp) rfl _ rfl
                  replace r83 : u83 = _ := r83
                  subst r83
                  clear hA hD
                  refine stepOk_plain rfl ?_
                  intro K hK
                  gi_wp2
                  exact hK _ _ rfl ((fun _ => Below.refl _ _) _)
                · -- 3
                  intro a' w' hA hC hD
                  have s10 : a'.tmps[10]? = some _ := (hA.at 10 (by kernel_rfl)).trans rfl
                  obtain ⟨u84, s84, r84⟩ := hD ⟨2, .guard⟩ (by simp) rfl _ rfl
                  replace r84 : u84 = _ := r84
                  subst r84
                  clear hA hD
                  exact stepOk_skip rfl rfl s84 rfl
                · -- 4
                  intro a' w' hA hC hD
                  obtain ⟨u85, s85, r85⟩ := hD ⟨3, .data⟩ (by simp) rfl _ rfl
                  replace r85 : u85 = undef := r85
                  subst r85
                  obtain ⟨u84, s84, r84⟩ := hD ⟨2, .guard⟩ (by simp) rfl _ rfl
                  replace r84 : u84 = _ := r84
                  subst r84
                  clear hA hD
                  exact stepOk_skip rfl rfl s84 rfl
                · -- 5
                  intro a' w' hA hC hD
                  have s5 : a'.tmps[5]? = some _ := (hA.at 5 (by kernel_rfl)).trans rfl
                  obtain ⟨u84, s84, r84⟩ := hD ⟨2, .guard⟩ (by simp) rfl _ rfl
                  replace r84 : u84 = _ := r84
                  subst r84
                  clear hA hD
                  exact stepOk_skip rfl rfl s84 rfl
                · -- 6
                  intro a' w' hA hC hD
                  have s9 : a'.tmps[9]? = some _ := (hA.at 9 (by kernel_rfl)).trans rfl
                  obtain ⟨u84, s84, r84⟩ := hD ⟨2, .guard⟩ (by simp) rfl _ rfl
                  replace r84 : u84 = _ := r84
                  subst r84
                  clear hA hD
                  exact stepOk_skip rfl rfl s84 rfl
                · -- 7
                  intro a' w' hA hC hD
                  obtain ⟨u88, s88, r88⟩ := hD ⟨6, .data⟩ (by simp) rfl _ rfl
                  replace r88 : u88 = undef := r88
                  subst r88
                  obtain ⟨u84, s84, r84⟩ := hD ⟨2, .guard⟩ (by simp) rfl _ rfl
                  replace r84 : u84 = _ := r84
                  subst r84
                  clear hA hD
                  exact stepOk_skip rfl rfl s84 rfl
                · -- 8
                  intro a' w' hA hC hD
                  obtain ⟨u87, s87, r87⟩ := hD ⟨5, .data⟩ (by simp) rfl _ rfl
                  replace r87 : u87 = undef := r87
                  subst r87
                  obtain ⟨u89, s89, r89⟩ := hD ⟨7, .data⟩ (by simp) rfl _ rfl
                  replace r89 : u89 = undef := r89
                  subst r89
                  obtain ⟨u84, s84, r84⟩ := hD ⟨2, .guard⟩ (by simp) rfl _ rfl
                  replace r84 : u84 = _ := r84
                  subst r84
                  clear hA hD
                  exact stepOk_skip rfl rfl s84 rfl
                · -- 9
                  intro a' w' hA hC hD
                  obtain ⟨u90, s90, r90⟩ := hD ⟨8, .data⟩ (by simp) rfl _ rfl
                  replace r90 : u90 = undef := r90
                  subst r90
                  obtain ⟨u84, s84, r84⟩ := hD ⟨2, .guard⟩ (by simp) rfl _ rfl
                  replace r84 : u84 = _ := r84
                  subst r84
                  clear hA hD
                  exact stepOk_skip rfl rfl s84 rfl
                · -- 10
                  intro a' w' hA hC hD
                  obtain ⟨u91, s91, r91⟩ := hD ⟨9, .data⟩ (by simp) rfl _ rfl
                  replace r91 : u91 = undef := r91
                  subst r91
                  obtain ⟨u84, s84, r84⟩ := hD ⟨2, .guard⟩ (by simp) rfl _ rfl
                  replace r84 : u84 = _ := r84
                  subst r84
                  clear hA hD
                  exact stepOk_skip rfl rfl s84 rfl
                · -- 11
                  intro a' w' hA hC hD
                  obtain ⟨u86, s86, r86⟩ := hD ⟨4, .data⟩ (by simp) rfl _ rfl
                  replace r86 : u86 = undef := r86
                  subst r86
                  obtain ⟨u92, s92, r92⟩ := hD ⟨10, .data⟩ (by simp) rfl _ rfl
                  replace r92 : u92 = undef := r92
                  subst r92
                  obtain ⟨u84, s84, r84⟩ := hD ⟨2, .guard⟩ (by simp) rfl _ rfl
                  replace r84 : u84 = _ := r84
                  subst r84
                  clear hA hD
                  exact stepOk_skip rfl rfl s84 rfl
                · -- 12
                  intro a' w' hA hC hD
                  have s5 : a'.tmps[5]? = some _ := (hA.at 5 (by kernel_rfl)).trans rfl
                  obtain ⟨u84, s84, r84⟩ := hD ⟨2, .guard⟩ (by simp) rfl _ rfl
                  replace r84 : u84 = _ := r84
                  subst r84
                  clear hA hD
                  exact stepOk_skip rfl rfl s84 rfl
                · -- 13
                  intro a' w' hA hC hD
                  have s9 : a'.tmps[9]? = some _ := (hA.at 9 (by kernel_rfl)).trans rfl
                  obtain ⟨u84, s84, r84⟩ := hD ⟨2, .guard⟩ (by simp) rfl _ rfl
                  replace r84 : u84 = _ := r84
                  subst r84
                  clear hA hD
                  exact stepOk_skip rfl rfl s84 rfl
                · -- 14
                  intro a' w' hA hC hD
                  obtain ⟨u95, s95, r95⟩ := hD ⟨13, .data⟩ (by simp) rfl _ rfl
                  replace r95 : u95 = undef := r95
                  subst r95
                  obtain ⟨u84, s84, r84⟩ := hD ⟨2, .guard⟩ (by simp) rfl _ rfl
                  replace r84 : u84 = _ := r84
                  subst r84
                  clear hA hD
                  exact stepOk_skip rfl rfl s84 rfl
                · -- 15
                  intro a' w' hA hC hD
                  obtain ⟨u94, s94, r94⟩ := hD ⟨12, .data⟩ (by simp) rfl _ rfl
                  replace r94 : u94 = undef := r94
                  subst r94
                  obtain ⟨u96, s96, r96⟩ := hD ⟨14, .data⟩ (by simp) rfl _ rfl
                  replace r96 : u96 = undef := r96
                  subst r96
                  obtain ⟨u84, s84, r84⟩ := hD ⟨2, .guard⟩ (by simp) rfl _ rfl
                  replace r84 : u84 = _ := r84
                  subst r84
                  clear hA hD
                  exact stepOk_skip rfl rfl s84 rfl
                · -- 16
                  intro a' w' hA hC hD
                  obtain ⟨u97, s97, r97⟩ := hD ⟨15, .data⟩ (by simp) rfl _ rfl
                  replace r97 : u97 = undef := r97
                  subst r97
                  obtain ⟨u84, s84, r84⟩ := hD ⟨2, .guard⟩ (by simp) rfl _ rfl
                  replace r84 : u84 = _ := r84
                  subst r84
                  clear hA hD
                  exact stepOk_skip rfl rfl s84 rfl
                · -- 17
                  intro a' w' hA hC hD
                  obtain ⟨u98, s98, r98⟩ := hD ⟨16, .data⟩ (by simp) rfl _ rfl
                  replace r98 : u98 = undef := r98
                  subst r98
                  obtain ⟨u84, s84, r84⟩ := hD ⟨2, .guard⟩ (by simp) rfl _ rfl
                  replace r84 : u84 = _ := r84
                  subst r84
                  clear hA hD
                  exact stepOk_skip rfl rfl s84 rfl
                · -- 18
                  intro a' w' hA hC hD
                  have s10 : a'.tmps[10]? = some _ := (hA.at 10 (by kernel_rfl)).trans rfl
                  obtain ⟨u84, s84, r84⟩ := hD ⟨2, .guard⟩ (by simp) rfl _ rfl
                  replace r84 : u84 = _ := r84
                  subst r84
                  clear hA hD
                  exact stepOk_skip rfl rfl s84 rfl
                · -- 19
                  intro a' w' hA hC hD
                  obtain ⟨u100, s100, r100⟩ := hD ⟨18, .data⟩ (by simp) rfl _ rfl
                  replace r100 : u100 = undef := r100
                  subst r100
                  obtain ⟨u84, s84, r84⟩ := hD ⟨2, .guard⟩ (by simp) rfl _ rfl
                  replace r84 : u84 = _ := r84
                  subst r84
                  clear hA hD
                  exact stepOk_skip rfl rfl s84 rfl
                · -- 20
                  intro a' w' hA hC hD
                  obtain ⟨u99, s99, r99⟩ := hD ⟨17, .data⟩ (by simp) rfl _ rfl
                  replace r99 : u99 = undef := r99
                  subst r99
                  obtain ⟨u101, s101, r101⟩ := hD ⟨19, .data⟩ (by simp) rfl _ rfl
                  replace r101 : u101 = undef := r101
                  subst r101
                  obtain ⟨u84, s84, r84⟩ := hD ⟨2, .guard⟩ (by simp) rfl _ rfl
                  replace r84 : u84 = _ := r84
                  subst r84
                  clear hA hD
                  exact stepOk_skip rfl rfl s84 rfl
                · -- 21
                  intro a' w' hA hC hD
                  obtain ⟨u93, s93, r93⟩ := hD ⟨11, .data⟩ (by simp) rfl _ rfl
                  replace r93 : u93 = undef := r93
                  subst r93
                  obtain ⟨u102, s102, r102⟩ := hD ⟨20, .data⟩ (by simp) rfl _ rfl
                  replace r102 : u102 = undef := r102
                  subst r102
                  obtain ⟨u84, s84, r84⟩ := hD ⟨2, .guard⟩ (by simp) rfl _ rfl
                  replace r84 : u84 = _ := r84
                  subst r84
                  clear hA hD
                  exact stepOk_skip rfl rfl s84 rfl
                · -- 22
                  intro a' w' hA hC hD
                  obtain ⟨u103, s103, r103⟩ := hD ⟨21, .data⟩ (by simp) rfl _ rfl
                  replace r103 : u103 = undef := r103
                  subst r103
                  obtain ⟨u84, s84, r84⟩ := hD ⟨2, .guard⟩ (by simp) rfl _ rfl
                  replace r84 : u84 = _ := r84
                  subst r84
                  clear hA hD
                  exact stepOk_skip rfl rfl s84 rfl
                · -- 23
                  intro a' w' hA hC hD
                  obtain ⟨u104, s104, r104⟩ := hD ⟨22, .data⟩ (by simp) rfl _ rfl
                  replace r104 : u104 = undef := r104
                  subst r104
                  obtain ⟨u84, s84, r84⟩ := hD ⟨2, .chain⟩ (by simp) rfl _ rfl
                  replace r84 : u84 = _ := r84
                  subst r84
                  clear hA hD
                  exact stepOk_skip rfl rfl s84 rfl
                · -- 24
                  intro a' w' hA hC hD
                  have s10 : a'.tmps[10]? = some _ := (hA.at 10 (by kernel_rfl)).trans rfl
                  obtain ⟨u105, s105, r105⟩ := hD ⟨23, .guard⟩ (by simp) rfl _ rfl
                  replace r105 : u105 = undef := r105
                  subst r105
                  clear hA hD
                  exact stepOk_skip' rfl rfl s105 rfl
                · -- 25
                  intro a' w' hA hC hD
                  obtain ⟨u106, s106, r106⟩ := hD ⟨24, .data⟩ (by simp) rfl _ rfl
                  replace r106 : u106 = undef := r106
                  subst r106
                  obtain ⟨u105, s105, r105⟩ := hD ⟨23, .guard⟩ (by simp) rfl _ rfl
                  replace r105 : u105 = undef := r105
                  subst r105
                  clear hA hD
                  exact stepOk_skip' rfl rfl s105 rfl
                · -- 26
                  intro a' w' hA hC hD
                  have s5 : a'.tmps[5]? = some _ := (hA.at 5 (by kernel_rfl)).trans rfl
                  obtain ⟨u105, s105, r105⟩ := hD ⟨23, .guard⟩ (by simp) rfl _ rfl
                  replace r105 : u105 = undef := r105
                  subst r105
                  clear hA hD
                  exact stepOk_skip' rfl rfl s105 rfl
                · -- 27
                  intro a' w' hA hC hD
                  have s9 : a'.tmps[9]? = some _ := (hA.at 9 (by kernel_rfl)).trans rfl
                  obtain ⟨u105, s105, r105⟩ := hD ⟨23, .guard⟩ (by simp) rfl _ rfl
                  replace r105 : u105 = undef := r105
                  subst r105
                  clear hA hD
                  exact stepOk_skip' rfl rfl s105 rfl
                · -- 28
                  intro a' w' hA hC hD
                  obtain ⟨u109, s109, r109⟩ := hD ⟨27, .data⟩ (by simp) rfl _ rfl
                  replace r109 : u109 = undef := r109
                  subst r109
                  obtain ⟨u105, s105, r105⟩ := hD ⟨23, .guard⟩ (by simp) rfl _ rfl
                  replace r105 : u105 = undef := r105
                  subst r105
                  clear hA hD
                  exact stepOk_skip' rfl rfl s105 rfl
                · -- 29
                  intro a' w' hA hC hD
                  obtain ⟨u108, s108, r108⟩ := hD ⟨26, .data⟩ (by simp) rfl _ rfl
                  replace r108 : u108 = undef := r108
                  subst r108
                  obtain ⟨u110, s110, r110⟩ := hD ⟨28, .data⟩ (by simp) rfl _ rfl
                  replace r110 : u110 = undef := r110
                  subst r110
                  obtain ⟨u105, s105, r105⟩ := hD ⟨23, .guard⟩ (by simp) rfl _ rfl
                  replace r105 : u105 = undef := r105
                  subst r105
                  clear hA hD
                  exact stepOk_skip' rfl rfl s105 rfl
                · -- 30
                  intro a' w' hA hC hD
                  obtain ⟨u111, s111, r111⟩ := hD ⟨29, .data⟩ (by simp) rfl _ rfl
                  replace r111 : u111 = undef := r111
                  subst r111
                  obtain ⟨u105, s105, r105⟩ := hD ⟨23, .guard⟩ (by simp) rfl _ rfl
                  replace r105 : u105 = undef := r105
                  subst r105
                  clear hA hD
                  exact stepOk_skip' rfl rfl s105 rfl
                · -- 31
                  intro a' w' hA hC hD
                  obtain ⟨u112, s112, r112⟩ := hD ⟨30, .data⟩ (by simp) rfl _ rfl
                  replace r112 : u112 = undef := r112
                  subst r112
                  obtain ⟨u105, s105, r105⟩ := hD ⟨23, .guard⟩ (by simp) rfl _ rfl
                  replace r105 : u105 = undef := r105
                  subst r105
                  clear hA hD
                  exact stepOk_skip' rfl rfl s105 rfl
                · -- 32
                  intro a' w' hA hC hD
                  obtain ⟨u107, s107, r107⟩ := hD ⟨25, .data⟩ (by simp) rfl _ rfl
                  replace r107 : u107 = undef := r107
                  subst r107
                  obtain ⟨u113, s113, r113⟩ := hD ⟨31, .data⟩ (by simp) rfl _ rfl
                  replace r113 : u113 = undef := r113
                  subst r113
                  obtain ⟨u105, s105, r105⟩ := hD ⟨23, .guard⟩ (by simp) rfl _ rfl
                  replace r105 : u105 = undef := r105
                  subst r105
                  clear hA hD
                  exact stepOk_skip' rfl rfl s105 rfl
                · -- 33
                  intro a' w' hA hC hD
                  have s5 : a'.tmps[5]? = some _ := (hA.at 5 (by kernel_rfl)).trans rfl
                  obtain ⟨u105, s105, r105⟩ := hD ⟨23, .guard⟩ (by simp) rfl _ rfl
                  replace r105 : u105 = undef := r105
                  subst r105
                  clear hA hD
                  exact stepOk_skip' rfl rfl s105 rfl
                · -- 34
                  intro a' w' hA hC hD
                  have s9 : a'.tmps[9]? = some _ := (hA.at 9 (by kernel_rfl)).trans rfl
                  obtain ⟨u105, s105, r105⟩ := hD ⟨23, .guard⟩ (by simp) rfl _ rfl
                  replace r105 : u105 = undef := r105
                  subst r105
                  clear hA hD
                  exact stepOk_skip' rfl rfl s105 rfl
                · -- 35
                  intro a' w' hA hC hD
                  obtain ⟨u116, s116, r116⟩ := hD ⟨34, .data⟩ (by simp) rfl _ rfl
                  replace r116 : u116 = undef := r116
                  subst r116
                  obtain ⟨u105, s105, r105⟩ := hD ⟨23, .guard⟩ (by simp) rfl _ rfl
                  replace r105 : u105 = undef := r105
                  subst r105
                  clear hA hD
                  exact stepOk_skip' rfl rfl s105 rfl
                · -- 36
                  intro a' w' hA hC hD
                  obtain ⟨u115, s115, r115⟩ := hD ⟨33, .data⟩ (by simp) rfl _ rfl
                  replace r115 : u115 = undef := r115
                  subst r115
                  obtain ⟨u117, s117, r117⟩ := hD ⟨35, .data⟩ (by simp) rfl _ rfl
                  replace r117 : u117 = undef := r117
                  subst r117
                  obtain ⟨u105, s105, r105⟩ := hD ⟨23, .guard⟩ (by simp) rfl _ rfl
                  replace r105 : u105 = undef := r105
                  subst r105
                  clear hA hD
                  exact stepOk_skip' rfl rfl s105 rfl
                · -- 37
                  intro a' w' hA hC hD
                  obtain ⟨u118, s118, r118⟩ := hD ⟨36, .data⟩ (by simp) rfl _ rfl
                  replace r118 : u118 = undef := r118
                  subst r118
                  obtain ⟨u105, s105, r105⟩ := hD ⟨23, .guard⟩ (by simp) rfl _ rfl
                  replace r105 : u105 = undef := r105
                  subst r105
                  clear hA hD
                  exact stepOk_skip' rfl rfl s105 rfl
                · -- 38
                  intro a' w' hA hC hD
                  obtain ⟨u119, s119, r119⟩ := hD ⟨37, .data⟩ (by simp) rfl _ rfl
                  replace r119 : u119 = undef := r119
                  subst r119
                  obtain ⟨u105, s105, r105⟩ := hD ⟨23, .guard⟩ (by simp) rfl _ rfl
                  replace r105 : u105 = undef := r105
                  subst r105
                  clear hA hD
                  exact stepOk_skip' rfl rfl s105 rfl
                · -- 39
                  intro a' w' hA hC hD
                  have s10 : a'.tmps[10]? = some _ := (hA.at 10 (by kernel_rfl)).trans rfl
                  obtain ⟨u105, s105, r105⟩ := hD ⟨23, .guard⟩ (by simp) rfl _ rfl
                  replace r105 : u105 = undef := r105
                  subst r105
                  clear hA hD
                  exact stepOk_skip' rfl rfl s105 rfl
                · -- 40
                  intro a' w' hA hC hD
                  obtain ⟨u121, s121, r121⟩ := hD ⟨39, .data⟩ (by simp) rfl _ rfl
                  replace r121 : u121 = undef := r121
                  subst r121
                  obtain ⟨u105, s105, r105⟩ := hD ⟨23, .guard⟩ (by simp) rfl _ rfl
                  replace r105 : u105 = undef := r105
                  subst r105
                  clear hA hD
                  exact stepOk_skip' rfl rfl s105 rfl
                · -- 41
                  intro a' w' hA hC hD
                  obtain ⟨u120, s120, r120⟩ := hD ⟨38, .data⟩ (by simp) rfl _ rfl
                  replace r120 : u120 = undef := r120
                  subst r120
                  obtain ⟨u122, s122, r122⟩ := hD ⟨40, .data⟩ (by simp) rfl _ rfl
                  replace r122 : u122 = undef := r122
                  subst r122
                  obtain ⟨u105, s105, r105⟩ := hD ⟨23, .guard⟩ (by simp) rfl _ rfl
                  replace r105 : u105 = undef := r105
                  subst r105
                  clear hA hD
                  exact stepOk_skip' rfl rfl s105 rfl
                · -- 42
                  intro a' w' hA hC hD
                  obtain ⟨u114, s114, r114⟩ := hD ⟨32, .data⟩ (by simp) rfl _ rfl
                  replace r114 : u114 = undef := r114
                  subst r114
                  obtain ⟨u123, s123, r123⟩ := hD ⟨41, .data⟩ (by simp) rfl _ rfl
                  replace r123 : u123 = undef := r123
                  subst r123
                  obtain ⟨u105, s105, r105⟩ := hD ⟨23, .guard⟩ (by simp) rfl _ rfl
                  replace r105 : u105 = undef := r105
                  subst r105
                  clear hA hD
                  exact stepOk_skip' rfl rfl s105 rfl
                · -- 43
                  intro a' w' hA hC hD
                  obtain ⟨u124, s124, r124⟩ := hD ⟨42, .data⟩ (by simp) rfl _ rfl
                  replace r124 : u124 = undef := r124
                  subst r124
                  obtain ⟨u105, s105, r105⟩ := hD ⟨23, .guard⟩ (by simp) rfl _ rfl
                  replace r105 : u105 = undef := r105
                  subst r105
                  clear hA hD
                  exact stepOk_skip' rfl rfl s105 rfl
                · -- 44
                  intro a' w' hA hC hD
                  obtain ⟨u105, s105, r105⟩ := hD ⟨23, .data⟩ (by simp) rfl _ rfl
                  replace r105 : u105 = undef := r105
                  subst r105
                  obtain ⟨u125, s125, r125⟩ := hD ⟨43, .data⟩ (by simp) rfl _ rfl
                  replace r125 : u125 = undef := r125
                  subst r125
                  obtain ⟨u84, s84, r84⟩ := hD ⟨2, .guard⟩ (by simp) rfl _ rfl
                  replace r84 : u84 = _ := r84
                  subst r84
                  clear hA hD
                  exact stepOk_skip rfl rfl s84 rfl
                · -- 45
                  intro a' w' hA hC hD
                  obtain ⟨u84, s84, r84⟩ := hD ⟨2, .data⟩ (by simp) rfl _ rfl
                  replace r84 : u84 = _ := r84
                  subst r84
                  obtain ⟨u126, s126, r126⟩ := hD ⟨44, .data⟩ (by simp) rfl _ rfl
                  replace r126 : u126 = undef := r126
                  subst r126
                  clear hA hD
                  refine stepOk_plain rfl ?_
                  intro K hK
                  gi_wp2
                  exact hK _ _ rfl ((fun _ => Below.refl _ _) _)
              case hend =>
                intro w7 hC
                simp only [EndFrom, eqv, forall_eq, Act.put, List.length_cons, List.length_nil, List.drop_succ_cons, List.drop_zero, Nat.reduceAdd, List.setIfInBounds_toArray, List.set_cons_succ, List.set_cons_zero]
                have HS := Lib.hid (HS.out.below hC)
                clear hC
                gi_wp2
                go_wp2_with fail
                go_roundw
                case rel => exact ⟨1, HKN.out.1, by first | rfl | simp, HS.out.sub (by repeat (first | exact List.Sublist.refl _ | apply List.Sublist.cons))⟩
                case measure => have := HKN.out; (try rw [e3]); simp [intOf]; omega
            · have HK0 := Lib.hid (show decide (0 < k) = true from decide_eq_true (by omega))
              have HK1 := Lib.hid (show wrap64 ((k : Int) - 1) = ((k - 1 : Nat) : Int) by have := HKN.out; unfold wrap64; omega)
              obtain ⟨q, hq⟩ : ∃ q, linePt ⟨ax, ay⟩ ⟨bx, by'⟩ ((k - 1 : Nat) : Int) = q := ⟨_, rfl⟩
              have HX1 := Lib.hid (show L1[k - 1]? = some q by rw [HGET.out (k - 1) (by have := HKN.out; omega), hq])
              have hst := linePt_step ⟨ax, ay⟩ ⟨bx, by'⟩ ((k - 1 : Nat) : Int)
              rw [hq, show (((k - 1 : Nat) : Int) + 1) = (k : Int) by omega, HPT.out] at hst
              obtain ⟨qx, qy⟩ := q
              simp only at hst
              have HF := Lib.hid (show wrap64 (px - qx) = px - qx ∧ wrap64 (qx - px) = qx - px ∧ wrap64 (py - qy) = py - qy ∧ wrap64 (qy - py) = qy - py ∧ decide (max (px - qx) (qx - px) > 1) = false ∧ decide (max (py - qy) (qy - py) > 1) = false by
                refine ⟨?_, ?_, ?_, ?_, decide_eq_false (by omega), decide_eq_false (by omega)⟩ <;> unfold wrap64 <;> omega)
              clear hst hq hk0
              repeat ((fail_if_success (with_reducible refine stop_at (id := 14) ?_)); (first | go_values | go_skip | go_guarded | go_step | go_upon | go_back | (simp only [Int.not_lt, Int.not_le] at *; go_simp) | (go_values <;> (try go_simp)) | (go_ite <;> go_prune <;> (try go_simp)) | (split <;> (first | (rename_i hx; exact (hx _ rfl).elim) | go_prune))))
              refine (wpIn_wide (n := 0)).1 ?_
              apply wp_region_vals 46 (Rl := [(eqv _), (eqv _), (eqv _), (eqv _), (eqv _), (eqv _), (eqv _), (eqv _), (eqv _), (eqv _), (eqv _), (eqv _), (eqv _), (eqv _), (eqv _), (eqv _), (eqv _), (eqv _), (eqv _), (eqv _), (eqv _), (eqv _), (eqv _), (eqv _), (eqv _), (eqv _), (eqv _), (eqv _), (eqv _), (eqv _), (eqv _), (eqv _), (eqv _), (eqv _), (eqv _), (eqv _), (eqv _), (eqv _), (eqv _), (eqv _), (eqv _), (eqv _), (eqv _), (eqv _), (eqv _), (eqv _)]) (C := (fun x y => Below x.heap.size x y))
              case hm => kernel_rfl
              case hk => rfl
              case hCr => exact (fun _ => Below.refl _ _)
              case hCt => intro _ _ _; exact (fun h k => grows_trans h k)
              case hst => exact ⟨fun _ _ _ _ h => h, fun _ _ _ _ h => h, fun _ _ _ _ h => h, fun _ _ _ _ h => h, fun _ _ _ _ h => h, fun _ _ _ _ h => h, fun _ _ _ _ h => h, fun _ _ _ _ h => h, fun _ _ _ _ h => h, fun _ _ _ _ h => h, fun _ _ _ _ h => h, fun _ _ _ _ h => h, fun _ _ _ _ h => h, fun _ _ _ _ h => h, fun _ _ _ _ h => h, fun _ _ _ _ h => h, fun _ _ _ _ h => h, fun _ _ _ _ h => h, fun _ _ _ _ h => h, fun _ _ _ _ h => h, fun _ _ _ _ h => h, fun _ _ _ _ h => h, fun _ _ _ _ h => h, fun _ _ _ _ h => h, fun _ _ _ _ h => h, fun _ _ _ _ h => h, fun _ _ _ _ h => h, fun _ _ _ _ h => h, fun _ _ _ _ h => h, fun _ _ _ _ h => h, fun _ _ _ _ h => h, fun _ _ _ _ h => h, fun _ _ _ _ h => h, fun _ _ _ _ h => h, fun _ _ _ _ h => h, fun _ _ _ _ h => h, fun _ _ _ _ h => h, fun _ _ _ _ h => h, fun _ _ _ _ h => h, fun _ _ _ _ h => h, fun _ _ _ _ h => h, fun _ _ _ _ h => h, fun _ _ _ _ h => h, fun _ _ _ _ h => h, fun _ _ _ _ h => h, fun _ _ _ _ h => h, trivial⟩
              case hfo => kernel_rfl
              case ht => kernel_rfl
              case hC0 => exact (grows_drew _)
              case hsteps =>
                refine ⟨?_, ?_, ?_, ?_, ?_, ?_, ?_, ?_, ?_, ?_, ?_, ?_, ?_, ?_, ?_, ?_, ?_, ?_, ?_, ?_, ?_, ?_, ?_, ?_, ?_, ?_, ?_, ?_, ?_, ?_, ?_, ?_, ?_, ?_, ?_, ?_, ?_, ?_, ?_, ?_, ?_, ?_, ?_, ?_, ?_, ?_, trivial⟩
                · -- 0
                  intro a' w' hA hC hD
                  have s9 : a'.tmps[9]? = some _ := (hA.at 9 (by kernel_rfl)).trans rfl
                  clear hA hD
                  refine stepOk_plain rfl ?_
                  intro K hK
                  gi_wp2
                  exact hK _ _ rfl ((fun _ => Below.refl _ _) _)
                · -- 1
                  intro a' w' hA hC hD
                  obtain ⟨u82, s82, r82⟩ := hD ⟨0, .data⟩ (by simp) rfl _ rfl
                  replace r82 : u82 = _ := r82
                  subst r82
                  clear hA hD
                  refine stepOk_plain rfl ?_
                  intro K hK
                  gi_wp2
                  rw [HK0.out]
                  exact hK _ _ rfl ((fun _ => Below.refl _ _) _)
                · -- 2
                  intro a' w' hA hC hD
                  obtain ⟨u83, s83, r83⟩ := hD ⟨1, .data⟩ (by simp) rfl _ rfl
                  replace r83 : u83 = _ := r83
                  subst r83
                  clear hA hD
                  refine stepOk_plain rfl ?_
                  intro K hK
                  gi_wp2
                  exact hK _ _ rfl ((fun _ => Below.refl _ _) _)
                · -- 3
                  intro a' w' hA hC hD
                  have s10 : a'.tmps[10]? = some _ := (hA.at 10 (by kernel_rfl)).trans rfl
                  obtain ⟨u84, s84, r84⟩ := hD ⟨2, .guard⟩ (by simp) rfl _ rfl
                  replace r84 : u84 = _ := r84
                  subst r84
                  clear hA hD
                  refine stepOk_want rfl rfl s84 ?_
                  intro K hK
                  gi_wp2
                  exact hK _ _ rfl ((fun _ => Below.refl _ _) _)
                · -- 4
                  intro a' w' hA hC hD
                  obtain ⟨u85, s85, r85⟩ := hD ⟨3, .data⟩ (by simp) rfl _ rfl
                  replace r85 : u85 = _ := r85
                  subst r85
                  obtain ⟨u84, s84, r84⟩ := hD ⟨2, .guard⟩ (by simp) rfl _ rfl
                  replace r84 : u84 = _ := r84
                  subst r84
                  have h1_ := (HS.out.below hC).blockAt 0 rfl; have c1_0 := cell_of_block (k := 0) h1_ rfl; have c1_1 := cell_of_block (k := 1) h1_ rfl; clear h1_
                  clear hA hD
                  refine stepOk_want rfl rfl s84 ?_
                  intro K hK
                  gi_wp2
                  exact hK _ _ rfl ((fun _ => Below.refl _ _) _)
                · -- 5
                  intro a' w' hA hC hD
                  have s5 : a'.tmps[5]? = some _ := (hA.at 5 (by kernel_rfl)).trans rfl
                  obtain ⟨u84, s84, r84⟩ := hD ⟨2, .guard⟩ (by simp) rfl _ rfl
                  replace r84 : u84 = _ := r84
                  subst r84
                  clear hA hD
                  refine stepOk_want rfl rfl s84 ?_
                  intro K hK
                  gi_wp2
                  exact hK _ _ rfl ((fun _ => Below.refl _ _) _)
                · -- 6
                  intro a' w' hA hC hD
                  have s9 : a'.tmps[9]? = some _ := (hA.at 9 (by kernel_rfl)).trans rfl
                  obtain ⟨u84, s84, r84⟩ := hD ⟨2, .guard⟩ (by simp) rfl _ rfl
                  replace r84 : u84 = _ := r84
                  subst r84
                  clear hA hD
                  refine stepOk_want rfl rfl s84 ?_
                  intro K hK
                  gi_wp2
                  exact hK _ _ rfl ((fun _ => Below.refl _ _) _)
                · -- 7
                  intro a' w' hA hC hD
                  obtain ⟨u88, s88, r88⟩ := hD ⟨6, .data⟩ (by simp) rfl _ rfl
                  replace r88 : u88 = _ := r88
                  subst r88
                  obtain ⟨u84, s84, r84⟩ := hD ⟨2, .guard⟩ (by simp) rfl _ rfl
                  replace r84 : u84 = _ := r84
                  subst r84
                  clear hA hD
                  refine stepOk_want rfl rfl s84 ?_
                  intro K hK
                  gi_wp2
                  rw [HK1.out]
                  exact hK _ _ rfl ((fun _ => Below.refl _ _) _)
                · -- 8
                  intro a' w' hA hC hD
                  obtain ⟨u87, s87, r87⟩ := hD ⟨5, .data⟩ (by simp) rfl _ rfl
                  replace r87 : u87 = _ := r87
                  subst r87
                  obtain ⟨u89, s89, r89⟩ := hD ⟨7, .data⟩ (by simp) rfl _ rfl
                  replace r89 : u89 = _ := r89
                  subst r89
                  obtain ⟨u84, s84, r84⟩ := hD ⟨2, .guard⟩ (by simp) rfl _ rfl
                  replace r84 : u84 = _ := r84
                  subst r84
                  have hb0 : k - 1 < n := by have := HKN.out; omega
                  clear hA hD
                  refine stepOk_want rfl rfl s84 ?_
                  intro K hK
                  gi_wp2
                  exact hK _ _ rfl ((fun _ => Below.refl _ _) _)
                · -- 9
                  intro a' w' hA hC hD
                  obtain ⟨u90, s90, r90⟩ := hD ⟨8, .data⟩ (by simp) rfl _ rfl
                  replace r90 : u90 = _ := r90
                  subst r90
                  obtain ⟨u84, s84, r84⟩ := hD ⟨2, .guard⟩ (by simp) rfl _ rfl
                  replace r84 : u84 = _ := r84
                  subst r84
                  clear hA hD
                  refine stepOk_want rfl rfl s84 ?_
                  intro K hK
                  gi_wp2
                  exact hK _ _ rfl ((fun _ => Below.refl _ _) _)
                · -- 10
                  intro a' w' hA hC hD
                  obtain ⟨u91, s91, r91⟩ := hD ⟨9, .data⟩ (by simp) rfl _ rfl
                  replace r91 : u91 = _ := r91
                  subst r91
                  obtain ⟨u84, s84, r84⟩ := hD ⟨2, .guard⟩ (by simp) rfl _ rfl
                  replace r84 : u84 = _ := r84
                  subst r84
                  obtain ⟨p0, p1⟩ := ptAt HLL.out.2.1 ((HS.out.elems 2 rfl).below hC) (k - 1) _ HX1.out
                  clear hA hD
                  refine stepOk_want rfl rfl s84 ?_
                  intro K hK
                  gi_wp2
                  exact hK _ _ rfl ((fun _ => Below.refl _ _) _)
                · -- 11
                  intro a' w' hA hC hD
                  obtain ⟨u86, s86, r86⟩ := hD ⟨4, .data⟩ (by simp) rfl _ rfl
                  replace r86 : u86 = _ := r86
                  subst r86
                  obtain ⟨u92, s92, r92⟩ := hD ⟨10, .data⟩ (by simp) rfl _ rfl
                  replace r92 : u92 = _ := r92
                  subst r92
                  obtain ⟨u84, s84, r84⟩ := hD ⟨2, .guard⟩ (by simp) rfl _ rfl
                  replace r84 : u84 = _ := r84
                  subst r84
                  clear hA hD
                  refine stepOk_want rfl rfl s84 ?_
                  intro K hK
                  gi_wp2
                  rw [HF.out.1]
                  exact hK _ _ rfl ((fun _ => Below.refl _ _) _)
                · -- 12
                  intro a' w' hA hC hD
                  have s5 : a'.tmps[5]? = some _ := (hA.at 5 (by kernel_rfl)).trans rfl
                  obtain ⟨u84, s84, r84⟩ := hD ⟨2, .guard⟩ (by simp) rfl _ rfl
                  replace r84 : u84 = _ := r84
                  subst r84
                  clear hA hD
                  refine stepOk_want rfl rfl s84 ?_
                  intro K hK
                  gi_wp2
                  exact hK _ _ rfl ((fun _ => Below.refl _ _) _)
                · -- 13
                  intro a' w' hA hC hD
                  have s9 : a'.tmps[9]? = some _ := (hA.at 9 (by kernel_rfl)).trans rfl
                  obtain ⟨u84, s84, r84⟩ := hD ⟨2, .guard⟩ (by simp) rfl _ rfl
                  replace r84 : u84 = _ := r84
                  subst r84
                  clear hA hD
                  refine stepOk_want rfl rfl s84 ?_
                  intro K hK
                  gi_wp2
                  exact hK _ _ rfl ((fun _ => Below.refl _ _) _)
                · -- 14
                  intro a' w' hA hC hD
                  obtain ⟨u95, s95, r95⟩ := hD ⟨13, .data⟩ (by simp) rfl _ rfl
                  replace r95 : u95 = _ := r95
                  subst r95
                  obtain ⟨u84, s84, r84⟩ := hD ⟨2, .guard⟩ (by simp) rfl _ rfl
                  replace r84 : u84 = _ := r84
                  subst r84
                  clear hA hD
                  refine stepOk_want rfl rfl s84 ?_
                  intro K hK
                  gi_wp2
                  rw [HK1.out]
                  exact hK _ _ rfl ((fun _ => Below.refl _ _) _)
                · -- 15
                  intro a' w' hA hC hD
                  obtain ⟨u94, s94, r94⟩ := hD ⟨12, .data⟩ (by simp) rfl _ rfl
                  replace r94 : u94 = _ := r94
                  subst r94
                  obtain ⟨u96, s96, r96⟩ := hD ⟨14, .data⟩ (by simp) rfl _ rfl
                  replace r96 : u96 = _ := r96
                  subst r96
                  obtain ⟨u84, s84, r84⟩ := hD ⟨2, .guard⟩ (by simp) rfl _ rfl
                  replace r84 : u84 = _ := r84
                  subst r84
                  have hb0 : k - 1 < n := by have := HKN.out; omega
                  clear hA hD
                  refine stepOk_want rfl rfl s84 ?_
                  intro K hK
                  gi_wp2
                  exact hK _ _ rfl ((fun _ => Below.refl _ _) _)
                · -- 16
                  intro a' w' hA hC hD
                  obtain ⟨u97, s97, r97⟩ := hD ⟨15, .data⟩ (by simp) rfl _ rfl
                  replace r97 : u97 = _ := r97
                  subst r97
                  obtain ⟨u84, s84, r84⟩ := hD ⟨2, .guard⟩ (by simp) rfl _ rfl
                  replace r84 : u84 = _ := r84
                  subst r84
                  clear hA hD
                  refine stepOk_want rfl rfl s84 ?_
                  intro K hK
                  gi_wp2
                  exact hK _ _ rfl ((fun _ => Below.refl _ _) _)
                · -- 17
                  intro a' w' hA hC hD
                  obtain ⟨u98, s98, r98⟩ := hD ⟨16, .data⟩ (by simp) rfl _ rfl
                  replace r98 : u98 = _ := r98
                  subst r98
                  obtain ⟨u84, s84, r84⟩ := hD ⟨2, .guard⟩ (by simp) rfl _ rfl
                  replace r84 : u84 = _ := r84
                  subst r84
                  obtain ⟨p0, p1⟩ := ptAt HLL.out.2.1 ((HS.out.elems 2 rfl).below hC) (k - 1) _ HX1.out
                  clear hA hD
                  refine stepOk_want rfl rfl s84 ?_
                  intro K hK
                  gi_wp2
                  exact hK _ _ rfl ((fun _ => Below.refl _ _) _)
                · -- 18
                  intro a' w' hA hC hD
                  have s10 : a'.tmps[10]? = some _ := (hA.at 10 (by kernel_rfl)).trans rfl
                  obtain ⟨u84, s84, r84⟩ := hD ⟨2, .guard⟩ (by simp) rfl _ rfl
                  replace r84 : u84 = _ := r84
                  subst r84
                  clear hA hD
                  refine stepOk_want rfl rfl s84 ?_
                  intro K hK
                  gi_wp2
                  exact hK _ _ rfl ((fun _ => Below.refl _ _) _)
                · -- 19
                  intro a' w' hA hC hD
                  obtain ⟨u100, s100, r100⟩ := hD ⟨18, .data⟩ (by simp) rfl _ rfl
                  replace r100 : u100 = _ := r100
                  subst r100
                  obtain ⟨u84, s84, r84⟩ := hD ⟨2, .guard⟩ (by simp) rfl _ rfl
                  replace r84 : u84 = _ := r84
                  subst r84
                  have h1_ := (HS.out.below hC).blockAt 0 rfl; have c1_0 := cell_of_block (k := 0) h1_ rfl; have c1_1 := cell_of_block (k := 1) h1_ rfl; clear h1_
                  clear hA hD
                  refine stepOk_want rfl rfl s84 ?_
                  intro K hK
                  gi_wp2
                  exact hK _ _ rfl ((fun _ => Below.refl _ _) _)
                · -- 20
                  intro a' w' hA hC hD
                  obtain ⟨u99, s99, r99⟩ := hD ⟨17, .data⟩ (by simp) rfl _ rfl
                  replace r99 : u99 = _ := r99
                  subst r99
                  obtain ⟨u101, s101, r101⟩ := hD ⟨19, .data⟩ (by simp) rfl _ rfl
                  replace r101 : u101 = _ := r101
                  subst r101
                  obtain ⟨u84, s84, r84⟩ := hD ⟨2, .guard⟩ (by simp) rfl _ rfl
                  replace r84 : u84 = _ := r84
                  subst r84
                  clear hA hD
                  refine stepOk_want rfl rfl s84 ?_
                  intro K hK
                  gi_wp2
                  rw [HF.out.2.1]
                  exact hK _ _ rfl ((fun _ => Below.refl _ _) _)
                · -- 21
                  intro a' w' hA hC hD
                  obtain ⟨u93, s93, r93⟩ := hD ⟨11, .data⟩ (by simp) rfl _ rfl
                  replace r93 : u93 = _ := r93
                  subst r93
                  obtain ⟨u102, s102, r102⟩ := hD ⟨20, .data⟩ (by simp) rfl _ rfl
                  replace r102 : u102 = _ := r102
                  subst r102
                  obtain ⟨u84, s84, r84⟩ := hD ⟨2, .guard⟩ (by simp) rfl _ rfl
                  replace r84 : u84 = _ := r84
                  subst r84
                  clear hA hD
                  refine stepOk_want rfl rfl s84 ?_
                  intro K hK
                  gi_wp2
                  exact hK _ _ rfl ((fun _ => Below.refl _ _) _)
                · -- 22
                  intro a' w' hA hC hD
                  obtain ⟨u103, s103, r103⟩ := hD ⟨21, .data⟩ (by simp) rfl _ rfl
                  replace r103 : u103 = _ := r103
                  subst r103
                  obtain ⟨u84, s84, r84⟩ := hD ⟨2, .guard⟩ (by simp) rfl _ rfl
                  replace r84 : u84 = _ := r84
                  subst r84
                  clear hA hD
                  refine stepOk_want rfl rfl s84 ?_
                  intro K hK
                  gi_wp2
                  rw [HF.out.2.2.2.2.1]
                  exact hK _ _ rfl ((fun _ => Below.refl _ _) _)
                · -- 23
                  intro a' w' hA hC hD
                  obtain ⟨u104, s104, r104⟩ := hD ⟨22, .data⟩ (by simp) rfl _ rfl
                  replace r104 : u104 = _ := r104
                  subst r104
                  obtain ⟨u84, s84, r84⟩ := hD ⟨2, .chain⟩ (by simp) rfl _ rfl
                  replace r84 : u84 = _ := r84
                  subst r84
                  clear hA hD
                  refine stepOk_want rfl rfl s84 ?_
                  intro K hK
                  gi_wp2
                  exact hK _ _ rfl ((fun _ => Below.refl _ _) _)
                · -- 24
                  intro a' w' hA hC hD
                  have s10 : a'.tmps[10]? = some _ := (hA.at 10 (by kernel_rfl)).trans rfl
                  obtain ⟨u105, s105, r105⟩ := hD ⟨23, .guard⟩ (by simp) rfl _ rfl
                  replace r105 : u105 = _ := r105
                  subst r105
                  clear hA hD
                  refine stepOk_want rfl rfl s105 ?_
                  intro K hK
                  gi_wp2
                  exact hK _ _ rfl ((fun _ => Below.refl _ _) _)
                · -- 25
                  intro a' w' hA hC hD
                  obtain ⟨u106, s106, r106⟩ := hD ⟨24, .data⟩ (by simp) rfl _ rfl
                  replace r106 : u106 = _ := r106
                  subst r106
                  obtain ⟨u105, s105, r105⟩ := hD ⟨23, .guard⟩ (by simp) rfl _ rfl
                  replace r105 : u105 = _ := r105
                  subst r105
                  have h1_ := (HS.out.below hC).blockAt 0 rfl; have c1_0 := cell_of_block (k := 0) h1_ rfl; have c1_1 := cell_of_block (k := 1) h1_ rfl; clear h1_
                  clear hA hD
                  refine stepOk_want rfl rfl s105 ?_
                  intro K hK
                  gi_wp2
                  exact hK _ _ rfl ((fun _ => Below.refl _ _) _)
                · -- 26
                  intro a' w' hA hC hD
                  have s5 : a'.tmps[5]? = some _ := (hA.at 5 (by kernel_rfl)).trans rfl
                  obtain ⟨u105, s105, r105⟩ := hD ⟨23, .guard⟩ (by simp) rfl _ rfl
                  replace r105 : u105 = _ := r105
                  subst r105
                  clear hA hD
                  refine stepOk_want rfl rfl s105 ?_
                  intro K hK
                  gi_wp2
                  exact hK _ _ rfl ((fun _ => Below.refl _ _) _)
                · -- 27
                  intro a' w' hA hC hD
                  have s9 : a'.tmps[9]? = some _ := (hA.at 9 (by kernel_rfl)).trans rfl
                  obtain ⟨u105, s105, r105⟩ := hD ⟨23, .guard⟩ (by simp) rfl _ rfl
                  replace r105 : u105 = _ := r105
                  subst r105
                  clear hA hD
                  refine stepOk_want rfl rfl s105 ?_
                  intro K hK
                  gi_wp2
                  exact hK _ _ rfl ((fun _ => Below.refl _ _) _)
                · -- 28
                  intro a' w' hA hC hD
                  obtain ⟨u109, s109, r109⟩ := hD ⟨27, .data⟩ (by simp) rfl _ rfl
                  replace r109 : u109 = _ := r109
                  subst r109
                  obtain ⟨u105, s105, r105⟩ := hD ⟨23, .guard⟩ (by simp) rfl _ rfl
                  replace r105 : u105 = _ := r105
                  subst r105
                  clear hA hD
                  refine stepOk_want rfl rfl s105 ?_
                  intro K hK
                  gi_wp2
                  rw [HK1.out]
                  exact hK _ _ rfl ((fun _ => Below.refl _ _) _)
                · -- 29
                  intro a' w' hA hC hD
                  obtain ⟨u108, s108, r108⟩ := hD ⟨26, .data⟩ (by simp) rfl _ rfl
                  replace r108 : u108 = _ := r108
                  subst r108
                  obtain ⟨u110, s110, r110⟩ := hD ⟨28, .data⟩ (by simp) rfl _ rfl
                  replace r110 : u110 = _ := r110
                  subst r110
                  obtain ⟨u105, s105, r105⟩ := hD ⟨23, .guard⟩ (by simp) rfl _ rfl
                  replace r105 : u105 = _ := r105
                  subst r105
                  have hb0 : k - 1 < n := by have := HKN.out; omega
                  clear hA hD
                  refine stepOk_want rfl rfl s105 ?_
                  intro K hK
                  gi_wp2
                  exact hK _ _ rfl ((fun _ => Below.refl _ _) _)
                · -- 30
                  intro a' w' hA hC hD
                  obtain ⟨u111, s111, r111⟩ := hD ⟨29, .data⟩ (by simp) rfl _ rfl
                  replace r111 : u111 = _ := r111
                  subst r111
                  obtain ⟨u105, s105, r105⟩ := hD ⟨23, .guard⟩ (by simp) rfl _ rfl
                  replace r105 : u105 = _ := r105
                  subst r105
                  clear hA hD
                  refine stepOk_want rfl rfl s105 ?_
                  intro K hK
                  gi_wp2
                  exact hK _ _ rfl ((fun _ => Below.refl _ _) _)
                · -- 31
                  intro a' w' hA hC hD
                  obtain ⟨u112, s112, r112⟩ := hD ⟨30, .data⟩ (by simp) rfl _ rfl
                  replace r112 : u112 = _ := r112
                  subst r112
                  obtain ⟨u105, s105, r105⟩ := hD ⟨23, .guard⟩ (by simp) rfl _ rfl
                  replace r105 : u105 = _ := r105
                  subst r105
                  obtain ⟨p0, p1⟩ := ptAt HLL.out.2.1 ((HS.out.elems 2 rfl).below hC) (k - 1) _ HX1.out
                  clear hA hD
                  refine stepOk_want rfl rfl s105 ?_
                  intro K hK
                  gi_wp2
                  exact hK _ _ rfl ((fun _ => Below.refl _ _) _)
                · -- 32
                  intro a' w' hA hC hD
                  obtain ⟨u107, s107, r107⟩ := hD ⟨25, .data⟩ (by simp) rfl _ rfl
                  replace r107 : u107 = _ := r107
                  subst r107
                  obtain ⟨u113, s113, r113⟩ := hD ⟨31, .data⟩ (by simp) rfl _ rfl
                  replace r113 : u113 = _ := r113
                  subst r113
                  obtain ⟨u105, s105, r105⟩ := hD ⟨23, .guard⟩ (by simp) rfl _ rfl
                  replace r105 : u105 = _ := r105
                  subst r105
                  clear hA hD
                  refine stepOk_want rfl rfl s105 ?_
                  intro K hK
                  gi_wp2
                  rw [HF.out.2.2.1]
                  exact hK _ _ rfl ((fun _ => Below.refl _ _) _)
                · -- 33
                  intro a' w' hA hC hD
                  have s5 : a'.tmps[5]? = some _ := (hA.at 5 (by kernel_rfl)).trans rfl
                  obtain ⟨u105, s105, r105⟩ := hD ⟨23, .guard⟩ (by simp) rfl _ rfl
                  replace r105 : u105 = _ := r105
                  subst r105
                  clear hA hD
                  refine stepOk_want rfl rfl s105 ?_
                  intro K hK
                  gi_wp2
                  exact hK _ _ rfl ((fun _ => Below.refl _ _) _)
                · -- 34
                  intro a' w' hA hC hD
                  have s9 : a'.tmps[9]? = some _ := (hA.at 9 (by kernel_rfl)).trans rfl
                  obtain ⟨u105, s105, r105⟩ := hD ⟨23, .guard⟩ (by simp) rfl _ rfl
                  replace r105 : u105 = _ := r105
                  subst r105
                  clear hA hD
                  refine stepOk_want rfl rfl s105 ?_
                  intro K hK
                  gi_wp2
                  exact hK _ _ rfl ((fun _ => Below.refl _ _) _)
                · -- 35
                  intro a' w' hA hC hD
                  obtain ⟨u116, s116, r116⟩ := hD ⟨34, .data⟩ (by simp) rfl _ rfl
                  replace r116 : u116 = _ := r116
                  subst r116
                  obtain ⟨u105, s105, r105⟩ := hD ⟨23, .guard⟩ (by simp) rfl _ rfl
                  replace r105 : u105 = _ := r105
                  subst r105
                  clear hA hD
                  refine stepOk_want rfl rfl s105 ?_
                  intro K hK
                  gi_wp2
                  rw [HK1.out]
                  exact hK _ _ rfl ((fun _ => Below.refl _ _) _)
                · -- 36
                  intro a' w' hA hC hD
                  obtain ⟨u115, s115, r115⟩ := hD ⟨33, .data⟩ (by simp) rfl _ rfl
                  replace r115 : u115 = _ := r115
                  subst r115
                  obtain ⟨u117, s117, r117⟩ := hD ⟨35, .data⟩ (by simp) rfl _ rfl
                  replace r117 : u117 = _ := r117
                  subst r117
                  obtain ⟨u105, s105, r105⟩ := hD ⟨23, .guard⟩ (by simp) rfl _ rfl
                  replace r105 : u105 = _ := r105
                  subst r105
                  have hb0 : k - 1 < n := by have := HKN.out; omega
                  clear hA hD
                  refine stepOk_want rfl rfl s105 ?_
                  intro K hK
                  gi_wp2
                  exact hK _ _ rfl ((fun _ => Below.refl _ _) _)
                · -- 37
                  intro a' w' hA hC hD
                  obtain ⟨u118, s118, r118⟩ := hD ⟨36, .data⟩ (by simp) rfl _ rfl
                  replace r118 : u118 = _ := r118
                  subst r118
                  obtain ⟨u105, s105, r105⟩ := hD ⟨23, .guard⟩ (by simp) rfl _ rfl
                  replace r105 : u105 = _ := r105
                  subst r105
                  clear hA hD
                  refine stepOk_want rfl rfl s105 ?_
                  intro K hK
                  gi_wp2
                  exact hK _ _ rfl ((fun _ => Below.refl _ _) _)
                · -- 38
                  intro a' w' hA hC hD
                  obtain ⟨u119, s119, r119⟩ := hD ⟨37, .data⟩ (by simp) rfl _ rfl
                  replace r119 : u119 = _ := r119
                  subst r119
                  obtain ⟨u105, s105, r105⟩ := hD ⟨23, .guard⟩ (by simp) rfl _ rfl
                  replace r105 : u105 = _ := r105
                  subst r105
                  obtain ⟨p0, p1⟩ := ptAt HLL.out.2.1 ((HS.out.elems 2 rfl).below hC) (k - 1) _ HX1.out
                  clear hA hD
                  refine stepOk_want rfl rfl s105 ?_
                  intro K hK
                  gi_wp2
                  exact hK _ _ rfl ((fun _ => Below.refl _ _) _)
                · -- 39
                  intro a' w' hA hC hD
                  have s10 : a'.tmps[10]? = some _ := (hA.at 10 (by kernel_rfl)).trans rfl
                  obtain ⟨u105, s105, r105⟩ := hD ⟨23, .guard⟩ (by simp) rfl _ rfl
                  replace r105 : u105 = _ := r105
                  subst r105
                  clear hA hD
                  refine stepOk_want rfl rfl s105 ?_
                  intro K hK
                  gi_wp2
                  exact hK _ _ rfl ((fun _ => Below.refl _ _) _)
                · -- 40
                  intro a' w' hA hC hD
                  obtain ⟨u121, s121, r121⟩ := hD ⟨39, .data⟩ (by simp) rfl _ rfl
                  replace r121 : u121 = _ := r121
                  subst r121
                  obtain ⟨u105, s105, r105⟩ := hD ⟨23, .guard⟩ (by simp) rfl _ rfl
                  replace r105 : u105 = _ := r105
                  subst r105
                  have h1_ := (HS.out.below hC).blockAt 0 rfl; have c1_0 := cell_of_block (k := 0) h1_ rfl; have c1_1 := cell_of_block (k := 1) h1_ rfl; clear h1_
                  clear hA hD
                  refine stepOk_want rfl rfl s105 ?_
                  intro K hK
                  gi_wp2
                  exact hK _ _ rfl ((fun _ => Below.refl _ _) _)
                · -- 41
                  intro a' w' hA hC hD
                  obtain ⟨u120, s120, r120⟩ := hD ⟨38, .data⟩ (by simp) rfl _ rfl
                  replace r120 : u120 = _ := r120
                  subst r120
                  obtain ⟨u122, s122, r122⟩ := hD ⟨40, .data⟩ (by simp) rfl _ rfl
                  replace r122 : u122 = _ := r122
                  subst r122
                  obtain ⟨u105, s105, r105⟩ := hD ⟨23, .guard⟩ (by simp) rfl _ rfl
                  replace r105 : u105 = _ := r105
                  subst r105
                  clear hA hD
                  refine stepOk_want rfl rfl s105 ?_
                  intro K hK
                  gi_wp2
                  rw [HF.out.2.2.2.1]
                  exact hK _ _ rfl ((fun _ => Below.refl _ _) _)
                · -- 42
                  intro a' w' hA hC hD
                  obtain ⟨u114, s114, r114⟩ := hD ⟨32, .data⟩ (by simp) rfl _ rfl
                  replace r114 : u114 = _ := r114
                  subst r114
                  obtain ⟨u123, s123, r123⟩ := hD ⟨41, .data⟩ (by simp) rfl _ rfl
                  replace r123 : u123 = _ := r123
                  subst r123
                  obtain ⟨u105, s105, r105⟩ := hD ⟨23, .guard⟩ (by simp) rfl _ rfl
                  replace r105 : u105 = _ := r105
                  subst r105
                  clear hA hD
                  refine stepOk_want rfl rfl s105 ?_
                  intro K hK
                  gi_wp2
                  exact hK _ _ rfl ((fun _ => Below.refl _ _) _)
                · -- 43
                  intro a' w' hA hC hD
                  obtain ⟨u124, s124, r124⟩ := hD ⟨42, .data⟩ (by simp) rfl _ rfl
                  replace r124 : u124 = _ := r124
                  subst r124
                  obtain ⟨u105, s105, r105⟩ := hD ⟨23, .guard⟩ (by simp) rfl _ rfl
                  replace r105 : u105 = _ := r105
                  subst r105
                  clear hA hD
                  refine stepOk_want rfl rfl s105 ?_
                  intro K hK
                  gi_wp2
                  rw [HF.out.2.2.2.2.2]
                  exact hK _ _ rfl ((fun _ => Below.refl _ _) _)
                · -- 44
                  intro a' w' hA hC hD
                  obtain ⟨u105, s105, r105⟩ := hD ⟨23, .data⟩ (by simp) rfl _ rfl
                  replace r105 : u105 = _ := r105
                  subst r105
                  obtain ⟨u125, s125, r125⟩ := hD ⟨43, .data⟩ (by simp) rfl _ rfl
                  replace r125 : u125 = _ := r125
                  subst r125
                  obtain ⟨u84, s84, r84⟩ := hD ⟨2, .guard⟩ (by simp) rfl _ rfl
                  replace r84 : u84 = _ := r84
                  subst r84
                  clear hA hD
                  refine stepOk_want rfl rfl s84 ?_
                  intro K hK
                  gi_wp2
                  exact hK _ _ rfl ((fun _ => Below.refl _ _) _)
                · -- 45
                  intro a' w' hA hC hD
                  obtain ⟨u84, s84, r84⟩ := hD ⟨2, .data⟩ (by simp) rfl _ rfl
                  replace r84 : u84 = _ := r84
                  subst r84
                  obtain ⟨u126, s126, r126⟩ := hD ⟨44, .data⟩ (by simp) rfl _ rfl
                  replace r126 : u126 = _ := r126
                  subst r126
                  clear hA hD
                  refine stepOk_plain rfl ?_
                  intro K hK
                  gi_wp2
                  exact hK _ _ rfl ((fun _ => Below.refl _ _) _)
              case hend =>
                intro w7 hC
                simp only [EndFrom, eqv, forall_eq, Act.put, List.length_cons, List.length_nil, List.drop_succ_cons, List.drop_zero, Nat.reduceAdd, List.setIfInBounds_toArray, List.set_cons_succ, List.set_cons_zero]
                have HS := Lib.hid (HS.out.below hC)
                clear hC
                gi_wp2
                go_wp2_with fail
                go_roundw
                case rel => exact ⟨k + 1, HKN.out.1, by first | rw [e3] | simp, HS.out.sub (by repeat (first | exact List.Sublist.refl _ | apply List.Sublist.cons))⟩
                case measure => have := HKN.out; (try rw [e3]); simp [intOf]; omega
        · obtain rfl : k = n := by omega
          have q0 := cell_of_block (k := 0) (HS.out.blockAt 3 rfl) rfl
          have q1 := cell_of_block (k := 1) (HS.out.blockAt 3 rfl) rfl
          have r0 := cell_of_block (k := 0) (HS.out.blockAt 2 rfl) rfl
          have r1 := cell_of_block (k := 1) (HS.out.blockAt 2 rfl) rfl
          have HW := Lib.hid (show (wrap64 (ax - bx) = ax - bx ∧ wrap64 (bx - ax) = bx - ax ∧ wrap64 (ay - by') = ay - by' ∧ wrap64 (by' - ay) = by' - ay) by
            have := HRA.out
            have := HRB.out
            refine ⟨?_, ?_, ?_, ?_⟩ <;> unfold wrap64 <;> omega)
          have hmx := fun w' => run_max4 #[3, 3, 3, 3] 3 .i64 (wrap64 (ax - bx)) (wrap64 (bx - ax)) (wrap64 (ay - by')) (wrap64 (by' - ay)) N (by
            rw [HW.out.1, HW.out.2.1, HW.out.2.2.1, HW.out.2.2.2]
            have := HWM.out
            omega) w'
          have e5 : wrap64 (1 + N) = (k : Int) := by have := HWM.out; have := HLL.out.2.2; unfold wrap64; omega
          clear hk hlt
          go_wp2_with fail
          go_ret
          exact ⟨rfl, HS.out.low⟩
end Go.Proofs.Ytflbcabjefpojaa
