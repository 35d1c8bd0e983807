/- Layer 6: the document's Rect. -/
import Derived.Test.YtflbcabjefpojaaShR
import Derived.Test.YtflbcabjefpojaaShK
namespace Go.Proofs.Ytflbcabjefpojaa
set_option linter.unusedSimpArgs false
set_option linter.unusedVariables false
open Go.RowKit Go.Shelf

/-- L is THE row of spans of the places of which P holds. -/
structure SetRow (P : PtT → Prop) (L : List SpT) : Prop where
  row : RowP L
  has : ∀ p, hasB L p = true ↔ P p
theorem SetRow.unique {P : PtT → Prop} {L M : List SpT} (h : SetRow P L) (k : SetRow P M) : L = M := rowP_unique h.row k.row fun p => (h.has p).trans (k.has p).symm
theorem SetRow.congr {P Q : PtT → Prop} {L : List SpT} (h : SetRow P L) (e : ∀ p, P p ↔ Q p) : SetRow Q L := ⟨h.row, fun p => (h.has p).trans (e p)⟩
theorem RowOf.setRow {x1 y1 : Int} {n m : Nat} {F : Nat → Nat → Bool} {L : List SpT} {P : PtT → Prop} (h : RowOf x1 y1 n m F L) (hin : ∀ p, P p → (y1 ≤ p.y ∧ p.y < y1 + n) ∧ (x1 ≤ p.x ∧ p.x < x1 + m)) (hF : ∀ r c : Nat, F r c = true ↔ P ⟨x1 + c, y1 + r⟩) : SetRow P L := by
  refine ⟨h.row, fun p => (h.has p).trans ?_⟩
  have key : ∀ p : PtT, (y1 ≤ p.y ∧ x1 ≤ p.x) → (F (p.y - y1).toNat (p.x - x1).toNat = true ↔ P p) := fun p hp => by
    rw [hF]
    have e1 : x1 + ((p.x - x1).toNat : Int) = p.x := by omega
    have e2 : y1 + ((p.y - y1).toNat : Int) = p.y := by omega
    rw [e1, e2]
  constructor
  · rintro ⟨a, b, c⟩; exact (key p ⟨a.1, b.1⟩).1 c
  · intro hp; obtain ⟨a, b⟩ := hin p hp; exact ⟨a, b, (key p ⟨a.1, b.1⟩).2 hp⟩
theorem upd2_true {F : Nat → Nat → Bool} {j i a b : Nat} : upd2 F j i true a b = true ↔ (a = j ∧ b = i) ∨ F a b = true := by
  unfold upd2
  by_cases h : a = j ∧ b = i
  · simp [h]
  · rw [if_neg h]; simp [h]

/-- The places of a rectangle. -/
def RectP (a b p : PtT) : Prop := (min a.x b.x ≤ p.x ∧ p.x ≤ max a.x b.x) ∧ (min a.y b.y ≤ p.y ∧ p.y ≤ max a.y b.y)
/-- a number on the way from a to b -/
theorem way_at {a b : Int} {j : Nat} (hj : (j : Int) ≤ wayN a b) : min a b ≤ a + sideN a b * (j : Int) ∧ a + sideN a b * (j : Int) ≤ max a b ∧ sideN a b * (j : Int) = a + sideN a b * (j : Int) - a ∧ -(j : Int) ≤ sideN a b * (j : Int) ∧ sideN a b * (j : Int) ≤ (j : Int) := by
  unfold wayN at hj
  unfold sideN
  by_cases h : b < a
  · rw [if_pos h] at hj ⊢; omega
  · rw [if_neg h] at hj ⊢; omega
theorem way_back {a b c : Int} (h1 : min a b ≤ c) (h2 : c ≤ max a b) : ∃ j : Nat, (j : Int) ≤ wayN a b ∧ c = a + sideN a b * (j : Int) := by
  unfold wayN sideN
  by_cases h : b < a
  · rw [if_pos h, if_pos h]; exact ⟨(a - c).toNat, by omega, by omega⟩
  · rw [if_neg h, if_neg h]; exact ⟨(c - a).toNat, by omega, by omega⟩
/-- So far: J whole rows, and I places of the next. -/
def RectF (a b : PtT) (J I : Nat) (F : Nat → Nat → Bool) : Prop := ∀ r c : Nat, F r c = true ↔ ∃ j i : Nat, (j < J ∨ j = J ∧ i < I) ∧ (i : Int) ≤ wayN a.x b.x ∧ -79 + (r : Int) = a.y + sideN a.y b.y * (j : Int) ∧ -79 + (c : Int) = a.x + sideN a.x b.x * (i : Int)
theorem rectF_start (a b : PtT) : RectF a b 0 0 (fun _ _ => false) := fun r c => by simp
theorem RectF.step {a b : PtT} {J I R C : Nat} {F : Nat → Nat → Bool} (h : RectF a b J I F) (hI : (I : Int) ≤ wayN a.x b.x) (hR : -79 + (R : Int) = a.y + sideN a.y b.y * (J : Int)) (hC : -79 + (C : Int) = a.x + sideN a.x b.x * (I : Int)) : RectF a b J (I + 1) (upd2 F R C true) := by
  intro r c
  rw [upd2_true, h r c]
  constructor
  · rintro (⟨rfl, rfl⟩ | ⟨j, i, h1, h2, h3, h4⟩)
    · exact ⟨J, I, .inr ⟨rfl, by omega⟩, hI, hR, hC⟩
    · exact ⟨j, i, by omega, h2, h3, h4⟩
  · rintro ⟨j, i, h1, h2, h3, h4⟩
    by_cases e : j = J ∧ i = I
    · obtain ⟨rfl, rfl⟩ := e
      left; omega
    · right; exact ⟨j, i, by omega, h2, h3, h4⟩
theorem RectF.down {a b : PtT} {J I : Nat} {F : Nat → Nat → Bool} (h : RectF a b J I F) (hI : (I : Int) = wayN a.x b.x + 1) : RectF a b (J + 1) 0 F := by
  intro r c
  rw [h r c]
  constructor
  · rintro ⟨j, i, h1, h2, h3, h4⟩; exact ⟨j, i, by omega, h2, h3, h4⟩
  · rintro ⟨j, i, h1, h2, h3, h4⟩; exact ⟨j, i, by omega, h2, h3, h4⟩
theorem RectF.all {a b : PtT} {J : Nat} {F : Nat → Nat → Bool} (h : RectF a b J 0 F) (hJ : (J : Int) = wayN a.y b.y + 1) (r c : Nat) : F r c = true ↔ RectP a b ⟨-79 + (c : Int), -79 + (r : Int)⟩ := by
  rw [h r c]
  unfold RectP
  constructor
  · rintro ⟨j, i, h1, h2, h3, h4⟩
    simp only
    rw [h3, h4]
    have a1 := way_at h2
    have a2 := way_at (a := a.y) (b := b.y) (j := j) (by omega)
    exact ⟨⟨a1.1, a1.2.1⟩, a2.1, a2.2.1⟩
  · rintro ⟨⟨h1, h2⟩, h3, h4⟩
    obtain ⟨i, i1, i2⟩ := way_back h1 h2
    obtain ⟨j, j1, j2⟩ := way_back h3 h4
    exact ⟨j, i, by omega, i1, j2, i2⟩
theorem drawn_iff (p : PtT) : drawnB p = true ↔ (-64 ≤ p.x ∧ p.x ≤ 127) ∧ (-64 ≤ p.y ∧ p.y ≤ 127) := by simp [drawnB]; omega

set_option maxRecDepth 100000 in
set_option maxHeartbeats 1000000 in
theorem refRect_any (a b : PtT) (ha : drawnB a = true) (hb : drawnB b = true) (w : World) :
    Calls Try.prog 27 #[a.val, b.val] w fun e w' => ∃ L, SetRow (RectP a b) L ∧ GivesRow 39 3 L.length (L.flatMap encS) w e w' := by
  obtain ⟨⟨a1, a2⟩, a3, a4⟩ := (drawn_iff a).1 ha
  obtain ⟨⟨b1, b2⟩, b3, b4⟩ := (drawn_iff b).1 hb
  obtain ⟨x1, x2⟩ := wayN_small (a := a.x) (b := b.x) (by omega) (by omega)
  obtain ⟨y1, y2⟩ := wayN_small (a := a.y) (b := b.y) (by omega) (by omega)
  have HAX := Lib.hid (fun w => refAway_any a.x b.x w)
  have HAY := Lib.hid (fun w => refAway_any a.y b.y w)
  simp only [x1] at HAX
  simp only [y1] at HAY
  have HBD := Lib.hid (And.intro (And.intro (And.intro a1 a2) (And.intro a3 a4)) (And.intro (And.intro b1 b2) (And.intro b3 b4)))
  obtain ⟨A, hA⟩ : ∃ A, A = a := ⟨_, rfl⟩
  obtain ⟨B, hB⟩ : ∃ B, B = b := ⟨_, rfl⟩
  have HA := Lib.hid hA
  have HB := Lib.hid hB
  rw [← hA, ← hB]
  clear hA hB ha hb a1 a2 a3 a4 b1 b2 b3 b4 x1 x2 y1 y2
  obtain ⟨dx, hdx⟩ : ∃ dx : Nat, wayN A.x B.x = (dx : Int) := ⟨_, (Int.toNat_of_nonneg (wayN_nonneg _ _)).symm⟩
  obtain ⟨dy, hdy⟩ : ∃ dy : Nat, wayN A.y B.y = (dy : Int) := ⟨_, (Int.toNat_of_nonneg (wayN_nonneg _ _)).symm⟩
  obtain ⟨sx, hsx⟩ : ∃ sx, sideN A.x B.x = sx := ⟨_, rfl⟩
  obtain ⟨sy, hsy⟩ : ∃ sy, sideN A.y B.y = sy := ⟨_, rfl⟩
  rw [← HA.out, ← HB.out, hdx, hsx] at HAX
  rw [← HA.out, ← HB.out, hdy, hsy] at HAY
  rw [← HA.out, ← HB.out] at HBD
  have HDX := Lib.hid hdx
  have HDY := Lib.hid hdy
  have HSX := Lib.hid hsx
  have HSY := Lib.hid hsy
  have hlx : dx ≤ 191 := by have := HBD.out; unfold wayN at hdx; split at hdx <;> omega
  have hly : dy ≤ 191 := by have := HBD.out; unfold wayN at hdy; split at hdy <;> omega
  have HLX := Lib.hid (And.intro hlx hly)
  clear hdx hdy hsx hsy HA HB hlx hly a b
  obtain ⟨ax, ay⟩ := A
  obtain ⟨bx, by'⟩ := B
  simp only at HAX HAY
  unfold PtT.val
  have HS := Lib.hid (St.start w)
  go_enter Try.func27, Try.ntmps27
  repeat ((fail_if_success (with_reducible refine stop_at (id := 1) ?_)); (first | go_values | go_skip | go_guarded | go_step | go_upon | go_back | (simp only [Int.not_lt, Int.not_le] at *; go_simp) | (go_values <;> (try go_simp)) | (go_ite <;> go_prune <;> (try go_simp)) | (split <;> (first | (rename_i hx; exact (hx _ rfl).elim) | go_prune))))
  have hs_ := ((HS.out.alloc (.cells #[.int .i64 ax, .int .i64 ay] 28)).alloc (.cells #[.int .i64 bx, .int .i64 by'] 28))
  obtain ⟨w1, hw_⟩ : ∃ w1 : World, ((w.alloc (.cells #[.int .i64 ax, .int .i64 ay] 28)).alloc (.cells #[.int .i64 bx, .int .i64 by'] 28)) = w1 := ⟨_, rfl⟩
  rw [hw_] at hs_
  try simp only [World.size_alloc] at hs_
  have HS := Lib.hid hs_
  rw [hw_]
  clear hw_ hs_
  go_wp2_with fail
  refine (refAround_any _).mono ?_
  rintro e w2 ⟨rfl, hb_⟩
  have HS := Lib.hid (HS.out.below hb_)
  clear hb_
  go_wp2_with fail
  have hs_ := (HS.out.alloc (.cells #[.int .i64 (-79), .int .i64 (-79), .int .i64 142, .int .i64 142] 43))
  obtain ⟨w3, hw_⟩ : ∃ w3 : World, (w2.alloc (.cells #[.int .i64 (-79), .int .i64 (-79), .int .i64 142, .int .i64 142] 43)) = w3 := ⟨_, rfl⟩
  rw [hw_] at hs_
  try simp only [World.size_alloc] at hs_
  have HS := Lib.hid hs_
  rw [hw_]
  clear hw_ hs_
  refine (refBlank_any (-79) (-79) 142 142 222 222 (by decide) (by decide) (by decide) (by unfold wrap64; omega) (by unfold wrap64; omega) (by unfold wrap64; omega) (by unfold wrap64; omega) _).mono ?_
  rintro e w4 ⟨g, cap, rfl, hf⟩
  have HF := Lib.hid (Fld.into HS.out hf)
  obtain ⟨N1, hN1⟩ : ∃ N1, w3.heap.size = N1 := ⟨_, rfl⟩
  rw [hN1] at HF
  obtain ⟨bx0, hbx0⟩ : ∃ bx0, w2.heap.size = bx0 := ⟨_, rfl⟩
  rw [hbx0] at HF
  simp only [hbx0]
  clear hf HS hN1 hbx0
  have k0 := cell_of_block (k := 0) (HF.out.st.blockAt 2 rfl) rfl
  have e0 := cell_of_block (k := 0) (HF.out.st.blockAt 1 rfl) rfl
  go_wp2_with fail
  clear k0 e0
  refine (HAX.out _).mono ?_
  rintro e w5 ⟨rfl, hb_⟩
  have HF := Lib.hid (HF.out.below hb_)
  clear hb_
  have k0 := cell_of_block (k := 1) (HF.out.st.blockAt 2 rfl) rfl
  have e0 := cell_of_block (k := 1) (HF.out.st.blockAt 1 rfl) rfl
  go_wp2_with fail
  clear k0 e0
  refine (HAY.out _).mono ?_
  rintro e w6 ⟨rfl, hb_⟩
  have HF := Lib.hid (HF.out.below hb_)
  clear hb_
  have e1 : wrap64 ((dy : Int) + 1) = ((dy + 1 : Nat) : Int) := by have := HLX.out; unfold wrap64; omega
  go_wp2_with fail
  go_loopw [34] (fun y wr => ∃ (J : Nat) (F : Nat → Nat → Bool), J ≤ dy + 1 ∧ y = .int .i64 (J : Int) ∧ Fld w [.blk bx0 (.cells #[.int .i64 (-79), .int .i64 (-79), .int .i64 142, .int .i64 142] 43), .blk (w.heap.size + 1) (.cells #[.int .i64 bx, .int .i64 by'] 28), .blk w.heap.size (.cells #[.int .i64 ax, .int .i64 ay] 28)] N1 g cap 222 222 F wr ∧ RectF ⟨ax, ay⟩ ⟨bx, by'⟩ J 0 F) (fun y _ => dy + 1 - (intOf y).toNat)
  case atStart => exact ⟨0, _, by omega, rfl, HF.out, rectF_start _ _⟩
  case round =>
    obtain ⟨J, F, hJ, rfl, hf, hr⟩ := hrel
    clear HF
    have HF := Lib.hid hf
    have HR := Lib.hid hr
    clear hf hr
    by_cases hlt : J < dy + 1
    · have HJ := Lib.hid hlt
      have e3 : wrap64 ((J : Int) + 1) = ((J + 1 : Nat) : Int) := by have := HLX.out; unfold wrap64; omega
      have e2 : wrap64 ((dx : Int) + 1) = ((dx + 1 : Nat) : Int) := by have := HLX.out; unfold wrap64; omega
      go_wp2_with fail
      go_loopw [39] (fun x wr => ∃ (I : Nat) (F : Nat → Nat → Bool), I ≤ dx + 1 ∧ x = .int .i64 (I : Int) ∧ Fld w [.blk bx0 (.cells #[.int .i64 (-79), .int .i64 (-79), .int .i64 142, .int .i64 142] 43), .blk (w.heap.size + 1) (.cells #[.int .i64 bx, .int .i64 by'] 28), .blk w.heap.size (.cells #[.int .i64 ax, .int .i64 ay] 28)] N1 g cap 222 222 F wr ∧ RectF ⟨ax, ay⟩ ⟨bx, by'⟩ J I F) (fun y _ => dx + 1 - (intOf y).toNat)
      case atStart => exact ⟨0, _, by omega, rfl, HF.out, HR.out⟩
      case round =>
        obtain ⟨I, F, hI, rfl, hf, hr⟩ := hrel
        clear HF HR
        have HF := Lib.hid hf
        have HR := Lib.hid hr
        clear hf hr
        by_cases hlt2 : I < dx + 1
        · have HI := Lib.hid hlt2
          have e4 : wrap64 ((I : Int) + 1) = ((I + 1 : Nat) : Int) := by have := HLX.out; unfold wrap64; omega
          have hwx := way_at (a := ax) (b := bx) (j := I) (by have := HDX.out; omega)
          have hwy := way_at (a := ay) (b := by') (j := J) (by have := HDY.out; have := HJ.out; omega)
          rw [HSX.out] at hwx
          rw [HSY.out] at hwy
          obtain ⟨tx, htx⟩ : ∃ tx, sx * (I : Int) = tx := ⟨_, rfl⟩
          obtain ⟨ty, hty⟩ : ∃ ty, sy * (J : Int) = ty := ⟨_, rfl⟩
          rw [htx] at hwx
          rw [hty] at hwy
          obtain ⟨C, hC⟩ : ∃ C : Nat, -79 + (C : Int) = ax + tx := ⟨(ax + tx + 79).toNat, by have := HBD.out; omega⟩
          obtain ⟨R, hR⟩ : ∃ R : Nat, -79 + (R : Int) = ay + ty := ⟨(ay + ty + 79).toNat, by have := HBD.out; omega⟩
          have HT := Lib.hid (show RectF ⟨ax, ay⟩ ⟨bx, by'⟩ J (I + 1) (upd2 F R C true) from HR.out.step (by have := HDX.out; have := HI.out; simp only at *; omega) (by simp only at *; rw [HSY.out, hty]; exact hR) (by simp only at *; rw [HSX.out, htx]; exact hC))
          have w1 : wrap64 (sx * (I : Int)) = tx := by rw [htx]; have := HBD.out; unfold wrap64; omega
          have w2 : wrap64 (sy * (J : Int)) = ty := by rw [hty]; have := HBD.out; unfold wrap64; omega
          have w3 : wrap64 (ax + tx) = ax + tx := by have := HBD.out; unfold wrap64; omega
          have w4 : wrap64 (ay + ty) = ay + ty := by have := HBD.out; unfold wrap64; omega
          have hRn : R < 222 := by have := HBD.out; omega
          have hCn : C < 222 := by have := HBD.out; omega
          have w5 : wrap64 (ax + tx + 79) = (C : Int) := by have := HBD.out; unfold wrap64; omega
          have w6 : wrap64 (ay + ty + 79) = (R : Int) := by have := HBD.out; unfold wrap64; omega
          have W1 := Lib.hid w1
          have W2 := Lib.hid w2
          have W3 := Lib.hid w3
          have W4 := Lib.hid w4
          have W5 := Lib.hid w5
          have W6 := Lib.hid w6
          obtain ⟨b, hbb, hb1, hb2, hb3, hb4⟩ := HF.out.at R C hRn hCn
          have HBC := Lib.hid hb1
          have HB2 := Lib.hid hb2
          have HB3 := Lib.hid hb3
          have HB4 := Lib.hid (hb4 true)
          clear hwx hwy htx hty hC hR w1 w2 w3 w4 w5 w6 hb1 hb2 hb3 hb4
          go_wp2_with fail
          refine (wpIn_wide (n := 0)).1 ?_
          apply wp_region_vals 21 (Rl := [(eqv _), (eqv _), (eqv _), (eqv _), (eqv _), (eqv _), (eqv _), (eqv _), (eqv _), (eqv _), (eqv _), (eqv _), (eqv _), (eqv _), (eqv _), (eqv _), (eqv _), (eqv _), (eqv _), (eqv _), (eqv _)]) (C := (fun x y => Below wr.heap.size x y))
          case hm => kernel_rfl
          case hk => rfl
          case hCr => exact (fun x => Below.refl _ x)
          case hCt => intro _ _ _; exact (fun h k => h.trans k)
          case hst => exact ⟨fun _ _ _ _ h => h, fun _ _ _ _ h => h, fun _ _ _ _ h => h, fun _ _ _ _ h => h, fun _ _ _ _ h => h, fun _ _ _ _ h => h, fun _ _ _ _ h => h, fun _ _ _ _ h => h, fun _ _ _ _ h => h, fun _ _ _ _ h => h, fun _ _ _ _ h => h, fun _ _ _ _ h => h, fun _ _ _ _ h => h, fun _ _ _ _ h => h, fun _ _ _ _ h => h, fun _ _ _ _ h => h, fun _ _ _ _ h => h, fun _ _ _ _ h => h, fun _ _ _ _ h => h, fun _ _ _ _ h => h, fun _ _ _ _ h => h, trivial⟩
          case hfo => kernel_rfl
          case ht => kernel_rfl
          case hC0 => exact ((Below.refl _ _).drew)
          case hsteps =>
            refine ⟨?_, ?_, ?_, ?_, ?_, ?_, ?_, ?_, ?_, ?_, ?_, ?_, ?_, ?_, ?_, ?_, ?_, ?_, ?_, ?_, ?_, trivial⟩
            · -- 0
              intro a' w' hA hC hD
              have s6 : a'.tmps[6]? = some _ := (hA.at 6 (by kernel_rfl)).trans rfl
              clear hA hD
              refine stepOk_plain rfl ?_
              intro K hK
              gi_wp2
              exact hK _ _ rfl ((fun x => Below.refl _ x) _)
            · -- 1
              intro a' w' hA hC hD
              have s2 : a'.tmps[2]? = some _ := (hA.at 2 (by kernel_rfl)).trans rfl
              clear hA hD
              refine stepOk_plain rfl ?_
              intro K hK
              gi_wp2
              exact hK _ _ rfl ((fun x => Below.refl _ x) _)
            · -- 2
              intro a' w' hA hC hD
              obtain ⟨u43, s43, r43⟩ := hD ⟨1, .data⟩ (by simp) rfl _ rfl
              replace r43 : u43 = _ := r43
              subst r43
              have b1 := cell_of_block (k := 1) ((HF.out.st.below hC).blockAt 2 rfl) rfl
              clear hA hD
              refine stepOk_plain rfl ?_
              intro K hK
              gi_wp2
              exact hK _ _ rfl ((fun x => Below.refl _ x) _)
            · -- 3
              intro a' w' hA hC hD
              have s10 : a'.tmps[10]? = some _ := (hA.at 10 (by kernel_rfl)).trans rfl
              clear hA hD
              refine stepOk_plain rfl ?_
              intro K hK
              gi_wp2
              exact hK _ _ rfl ((fun x => Below.refl _ x) _)
            · -- 4
              intro a' w' hA hC hD
              have s11 : a'.tmps[11]? = some _ := (hA.at 11 (by kernel_rfl)).trans rfl
              clear hA hD
              refine stepOk_plain rfl ?_
              intro K hK
              gi_wp2
              exact hK _ _ rfl ((fun x => Below.refl _ x) _)
            · -- 5
              intro a' w' hA hC hD
              obtain ⟨u45, s45, r45⟩ := hD ⟨3, .data⟩ (by simp) rfl _ rfl
              replace r45 : u45 = _ := r45
              subst r45
              obtain ⟨u46, s46, r46⟩ := hD ⟨4, .data⟩ (by simp) rfl _ rfl
              replace r46 : u46 = _ := r46
              subst r46
              clear hA hD
              refine stepOk_plain rfl ?_
              intro K hK
              gi_wp2
              rw [W2.out]
              exact hK _ _ rfl ((fun x => Below.refl _ x) _)
            · -- 6
              intro a' w' hA hC hD
              obtain ⟨u44, s44, r44⟩ := hD ⟨2, .data⟩ (by simp) rfl _ rfl
              replace r44 : u44 = _ := r44
              subst r44
              obtain ⟨u47, s47, r47⟩ := hD ⟨5, .data⟩ (by simp) rfl _ rfl
              replace r47 : u47 = _ := r47
              subst r47
              clear hA hD
              refine stepOk_plain rfl ?_
              intro K hK
              gi_wp2
              rw [W4.out]
              exact hK _ _ rfl ((fun x => Below.refl _ x) _)
            · -- 7
              intro a' w' hA hC hD
              have s5 : a'.tmps[5]? = some _ := (hA.at 5 (by kernel_rfl)).trans rfl
              clear hA hD
              refine stepOk_plain rfl ?_
              intro K hK
              gi_wp2
              exact hK _ _ rfl ((fun x => Below.refl _ x) _)
            · -- 8
              intro a' w' hA hC hD
              obtain ⟨u49, s49, r49⟩ := hD ⟨7, .data⟩ (by simp) rfl _ rfl
              replace r49 : u49 = _ := r49
              subst r49
              have b1 := cell_of_block (k := 1) ((HF.out.st.below hC).blockAt 0 rfl) rfl
              clear hA hD
              refine stepOk_plain rfl ?_
              intro K hK
              gi_wp2
              exact hK _ _ rfl ((fun x => Below.refl _ x) _)
            · -- 9
              intro a' w' hA hC hD
              obtain ⟨u48, s48, r48⟩ := hD ⟨6, .data⟩ (by simp) rfl _ rfl
              replace r48 : u48 = _ := r48
              subst r48
              obtain ⟨u50, s50, r50⟩ := hD ⟨8, .data⟩ (by simp) rfl _ rfl
              replace r50 : u50 = _ := r50
              subst r50
              clear hA hD
              refine stepOk_plain rfl ?_
              intro K hK
              gi_wp2
              rw [W6.out]
              exact hK _ _ rfl ((fun x => Below.refl _ x) _)
            · -- 10
              intro a' w' hA hC hD
              obtain ⟨u42, s42, r42⟩ := hD ⟨0, .data⟩ (by simp) rfl _ rfl
              replace r42 : u42 = _ := r42
              subst r42
              obtain ⟨u51, s51, r51⟩ := hD ⟨9, .data⟩ (by simp) rfl _ rfl
              replace r51 : u51 = _ := r51
              subst r51
              clear hA hD
              refine stepOk_plain rfl ?_
              intro K hK
              gi_wp2
              exact hK _ _ rfl ((fun x => Below.refl _ x) _)
            · -- 11
              intro a' w' hA hC hD
              obtain ⟨u52, s52, r52⟩ := hD ⟨10, .data⟩ (by simp) rfl _ rfl
              replace r52 : u52 = _ := r52
              subst r52
              have b1 := (hC.cell (p := ⟨g, R, none⟩) (cell_lt HBC.out)).trans HBC.out
              clear hA hD
              refine stepOk_plain rfl ?_
              intro K hK
              gi_wp2
              exact hK _ _ rfl ((fun x => Below.refl _ x) _)
            · -- 12
              intro a' w' hA hC hD
              have s2 : a'.tmps[2]? = some _ := (hA.at 2 (by kernel_rfl)).trans rfl
              clear hA hD
              refine stepOk_plain rfl ?_
              intro K hK
              gi_wp2
              exact hK _ _ rfl ((fun x => Below.refl _ x) _)
            · -- 13
              intro a' w' hA hC hD
              obtain ⟨u54, s54, r54⟩ := hD ⟨12, .data⟩ (by simp) rfl _ rfl
              replace r54 : u54 = _ := r54
              subst r54
              have b1 := cell_of_block (k := 0) ((HF.out.st.below hC).blockAt 2 rfl) rfl
              clear hA hD
              refine stepOk_plain rfl ?_
              intro K hK
              gi_wp2
              exact hK _ _ rfl ((fun x => Below.refl _ x) _)
            · -- 14
              intro a' w' hA hC hD
              have s8 : a'.tmps[8]? = some _ := (hA.at 8 (by kernel_rfl)).trans rfl
              clear hA hD
              refine stepOk_plain rfl ?_
              intro K hK
              gi_wp2
              exact hK _ _ rfl ((fun x => Below.refl _ x) _)
            · -- 15
              intro a' w' hA hC hD
              have s12 : a'.tmps[12]? = some _ := (hA.at 12 (by kernel_rfl)).trans rfl
              clear hA hD
              refine stepOk_plain rfl ?_
              intro K hK
              gi_wp2
              exact hK _ _ rfl ((fun x => Below.refl _ x) _)
            · -- 16
              intro a' w' hA hC hD
              obtain ⟨u56, s56, r56⟩ := hD ⟨14, .data⟩ (by simp) rfl _ rfl
              replace r56 : u56 = _ := r56
              subst r56
              obtain ⟨u57, s57, r57⟩ := hD ⟨15, .data⟩ (by simp) rfl _ rfl
              replace r57 : u57 = _ := r57
              subst r57
              clear hA hD
              refine stepOk_plain rfl ?_
              intro K hK
              gi_wp2
              rw [W1.out]
              exact hK _ _ rfl ((fun x => Below.refl _ x) _)
            · -- 17
              intro a' w' hA hC hD
              obtain ⟨u55, s55, r55⟩ := hD ⟨13, .data⟩ (by simp) rfl _ rfl
              replace r55 : u55 = _ := r55
              subst r55
              obtain ⟨u58, s58, r58⟩ := hD ⟨16, .data⟩ (by simp) rfl _ rfl
              replace r58 : u58 = _ := r58
              subst r58
              clear hA hD
              refine stepOk_plain rfl ?_
              intro K hK
              gi_wp2
              rw [W3.out]
              exact hK _ _ rfl ((fun x => Below.refl _ x) _)
            · -- 18
              intro a' w' hA hC hD
              have s5 : a'.tmps[5]? = some _ := (hA.at 5 (by kernel_rfl)).trans rfl
              clear hA hD
              refine stepOk_plain rfl ?_
              intro K hK
              gi_wp2
              exact hK _ _ rfl ((fun x => Below.refl _ x) _)
            · -- 19
              intro a' w' hA hC hD
              obtain ⟨u60, s60, r60⟩ := hD ⟨18, .data⟩ (by simp) rfl _ rfl
              replace r60 : u60 = _ := r60
              subst r60
              have b1 := cell_of_block (k := 0) ((HF.out.st.below hC).blockAt 0 rfl) rfl
              clear hA hD
              refine stepOk_plain rfl ?_
              intro K hK
              gi_wp2
              exact hK _ _ rfl ((fun x => Below.refl _ x) _)
            · -- 20
              intro a' w' hA hC hD
              obtain ⟨u59, s59, r59⟩ := hD ⟨17, .data⟩ (by simp) rfl _ rfl
              replace r59 : u59 = _ := r59
              subst r59
              obtain ⟨u61, s61, r61⟩ := hD ⟨19, .data⟩ (by simp) rfl _ rfl
              replace r61 : u61 = _ := r61
              subst r61
              clear hA hD
              refine stepOk_plain rfl ?_
              intro K hK
              gi_wp2
              rw [W5.out]
              exact hK _ _ rfl ((fun x => Below.refl _ x) _)
          case hend =>
            intro w3 hC
            simp only [EndFrom, eqv, forall_eq, Act.put, List.length_cons, List.length_nil, List.drop_succ_cons, List.drop_zero, Nat.reduceAdd, List.setIfInBounds_toArray, List.set_cons_succ, List.set_cons_zero]
            have hw := HF.out.below hC
            have hbc := (hC.cell (p := ⟨g, R, none⟩) (cell_lt HBC.out)).trans HBC.out
            obtain ⟨b3, _, hb1, hb2, hb3, hb4⟩ := hw.at R C hRn hCn
            have hbe : b = b3 := by
              have h := hbc.symm.trans hb1
              simp only [Option.some.injEq, Value.slice.injEq, Addr.mk.injEq] at h
              exact h.1.1
            subst hbe
            have HB5 := Lib.hid (hb4 true)
            have W1 := Lib.hid W1.out
            clear hb1 hb4 hw hbc hC HB4 HB3 HB2 HBC W2 W3 W4 W5 W6
            gi_wp2
            go_wp2_with fail
            go_roundw
            case rel => exact ⟨I + 1, _, by have := HI.out; omega, by rw [e4], HB5.out, HT.out⟩
            case measure => have := HI.out; rw [e4]; simp [intOf]; omega
        · have HD := Lib.hid (HR.out.down (by have := HDX.out; simp only at *; omega))
          clear hI
          go_wp2_with fail
          go_roundw
          case rel => exact ⟨J + 1, F, HJ.out, by rw [e3], HF.out, HD.out⟩
          case measure => have := HJ.out; rw [e3]; simp [intOf]; omega
    · have HD := Lib.hid (fun r c => HR.out.all (by have := HDY.out; simp only at *; omega) r c)
      clear hJ
      have k0 := cell_of_block (k := 0) (HF.out.st.blockAt 0 rfl) rfl
      have k1 := cell_of_block (k := 1) (HF.out.st.blockAt 0 rfl) rfl
      have k2 := cell_of_block (k := 2) (HF.out.st.blockAt 0 rfl) rfl
      have k3 := cell_of_block (k := 3) (HF.out.st.blockAt 0 rfl) rfl
      go_wp2_with fail
      clear k0 k1 k2 k3
      refine (refRow_any (-79) (-79) 222 222 (by decide) (by decide) (by decide) (by decide) 142 142 (by decide) (by decide) g cap F _ HF.out.read).mono ?_
      rintro e w7 ⟨L, hL, v, rfl, hrow, hb_⟩
      have hset : SetRow (RectP ⟨ax, ay⟩ ⟨bx, by'⟩) L := by
        refine hL.setRow (fun p hp => ?_) HD.out
        have := HBD.out
        unfold RectP at hp
        simp only at hp
        omega
      have H1 := Lib.hid hset
      have H2 := Lib.hid (ownsRow_mono hrow HF.out.st.low.size)
      have H3 := Lib.hid (HF.out.st.low.trans (hb_.mono HF.out.st.low.size))
      clear hL hrow hb_ hset HD hlt e1
      go_wp2_with fail
      go_ret
      refine ⟨L, H1.out, v, rfl, ?_, ?_⟩
      · exact H2.out
      · exact H3.out
end Go.Proofs.Ytflbcabjefpojaa
