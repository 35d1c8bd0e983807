/- Layer 6: the document's Sweep. -/
import Derived.Test.YtflbcabjefpojaaShT
namespace Go.Proofs.Ytflbcabjefpojaa
set_option linter.unusedSimpArgs false
set_option linter.unusedVariables false
open Go.RowKit Go.Shelf

theorem le_of_sq {x s : Int} (hs : 0 ≤ s) (h : x * x ≤ s * s) : x ≤ s := by
  refine Int.not_lt.1 fun hlt => ?_
  have h1 : s * s < x * x := Int.lt_of_lt_of_le (Int.mul_lt_mul_of_pos_left hlt (show 0 < s + 1 by omega) |> fun h => (by
    have h2 : (s + 1) * (s + 1) ≤ x * x := Int.mul_le_mul (by omega) (by omega) (by omega) (by omega)
    have h3 : s * s < (s + 1) * (s + 1) := by
      have : (s + 1) * (s + 1) = s * s + 2 * s + 1 := by rw [Int.add_mul, Int.mul_add]; omega
      omega
    exact Int.lt_of_lt_of_le h3 h2)) (Int.le_refl _)
  omega
theorem inRef_in {size : Int} {round : Bool} {c p : PtT} (hs : 0 ≤ size) (h : inRef size round c p = true) : (c.x - size ≤ p.x ∧ p.x ≤ c.x + size) ∧ (c.y - size ≤ p.y ∧ p.y ≤ c.y + size) := by
  have key : wayN c.x p.x ≤ size ∧ wayN c.y p.y ≤ size := by
    unfold inRef at h
    cases round
    · simpa using h
    · simp only [cond_true, decide_eq_true_eq] at h
      have h1 := Int.mul_nonneg (wayN_nonneg c.x p.x) (wayN_nonneg c.x p.x)
      have h2 := Int.mul_nonneg (wayN_nonneg c.y p.y) (wayN_nonneg c.y p.y)
      exact ⟨le_of_sq hs (by omega), le_of_sq hs (by omega)⟩
  unfold wayN at key
  split at key <;> split at key <;> omega
/-- The field of the places of which Q holds. -/
def SwF (Q : PtT → Prop) (F : Nat → Nat → Bool) : Prop := ∀ r c : Nat, F r c = true ↔ Q ⟨-79 + (c : Int), -79 + (r : Int)⟩
theorem SwF.congr {Q Q' : PtT → Prop} {F : Nat → Nat → Bool} (h : SwF Q F) (e : ∀ p, Q p ↔ Q' p) : SwF Q' F := fun r c => (h r c).trans (e _)
/-- What the places M sweep, and the place c so far. -/
def SwQ (size : Int) (round : Bool) (M : List PtT) (c : PtT) (y x : Int) (p : PtT) : Prop := (∃ c' ∈ M, inRef size round c' p = true) ∨ (inRef size round c p = true ∧ (p.y < y ∨ p.y = y ∧ p.x < x))
def SwM (size : Int) (round : Bool) (M : List PtT) (p : PtT) : Prop := ∃ c' ∈ M, inRef size round c' p = true
section
variable {size : Int} {round : Bool} {M : List PtT} {c : PtT} {y x : Int} {F : Nat → Nat → Bool}
theorem SwF.begin (h : SwF (SwM size round M) F) (hs : 0 ≤ size) : SwF (SwQ size round M c (c.y - size) (c.x - size)) F := h.congr fun p => by
  unfold SwM SwQ
  constructor
  · exact .inl
  · rintro (h | ⟨h1, h2⟩)
    · exact h
    · have := inRef_in hs h1; omega
theorem SwF.step (h : SwF (SwQ size round M c y x) F) {R C : Nat} (hR : -79 + (R : Int) = y) (hC : -79 + (C : Int) = x) (hi : inRef size round c ⟨x, y⟩ = true) : SwF (SwQ size round M c y (x + 1)) (upd2 F R C true) := fun r k => by
  rw [upd2_true, h r k]
  unfold SwQ
  simp only
  constructor
  · rintro (⟨rfl, rfl⟩ | h | ⟨h1, h2⟩)
    · right; rw [hR, hC]; exact ⟨hi, by omega⟩
    · exact .inl h
    · exact .inr ⟨h1, by omega⟩
  · rintro (h | ⟨h1, h2⟩)
    · exact .inr (.inl h)
    · by_cases e : -79 + (r : Int) = y ∧ -79 + (k : Int) = x
      · left; omega
      · right; right; exact ⟨h1, by omega⟩
theorem SwF.skip (h : SwF (SwQ size round M c y x) F) (hi : inRef size round c ⟨x, y⟩ = false) : SwF (SwQ size round M c y (x + 1)) F := h.congr fun p => by
  unfold SwQ
  constructor
  · rintro (h | ⟨h1, h2⟩)
    · exact .inl h
    · exact .inr ⟨h1, by omega⟩
  · rintro (h | ⟨h1, h2⟩)
    · exact .inl h
    · refine .inr ⟨h1, ?_⟩
      by_cases e : p.y = y ∧ p.x = x
      · obtain ⟨px, py⟩ := p
        simp only at e
        rw [e.1, e.2, hi] at h1
        cases h1
      · omega
theorem SwF.down (h : SwF (SwQ size round M c y (c.x + size + 1)) F) (hs : 0 ≤ size) : SwF (SwQ size round M c (y + 1) (c.x - size)) F := h.congr fun p => by
  unfold SwQ
  constructor
  · rintro (h | ⟨h1, h2⟩)
    · exact .inl h
    · exact .inr ⟨h1, by omega⟩
  · rintro (h | ⟨h1, h2⟩)
    · exact .inl h
    · have := inRef_in hs h1; exact .inr ⟨h1, by omega⟩
theorem SwF.done {q : Int} (h : SwF (SwQ size round M c (c.y + size + 1) q) F) (hs : 0 ≤ size) : SwF (SwM size round (M ++ [c])) F := h.congr fun p => by
  unfold SwM SwQ
  constructor
  · rintro (⟨c', h1, h2⟩ | ⟨h1, h2⟩)
    · exact ⟨c', by simp [h1], h2⟩
    · exact ⟨c, by simp, h1⟩
  · rintro ⟨c', h1, h2⟩
    rcases List.mem_append.1 h1 with h1 | h1
    · exact .inl ⟨c', h1, h2⟩
    · simp at h1; subst h1
      have := inRef_in hs h2
      exact .inr ⟨h2, by omega⟩
end
theorem take_snocP {l : List PtT} {q : Nat} {s : PtT} (h : l[q]? = some s) : l.take (q + 1) = l.take q ++ [s] := by rw [List.take_add_one, h]; simp

set_option maxRecDepth 100000 in
set_option maxHeartbeats 1000000 in
theorem refSweep_any (a : Option Addr) (n cap : Nat) (l : List PtT) (hl : l.length = n) (hn : n ≤ 1000000) (hd : ∀ p ∈ l, drawnB p = true) (size : Int) (hs1 : 0 ≤ size) (hs2 : size ≤ 15) (round : Bool) (w : World) (h : Elems w (.slice a n cap) n 2 (rowC encP l)) :
    Calls Try.prog 16 #[.slice a n cap, .int .i64 size, .bool round] w fun e w' => ∃ L, SetRow (SwM size round l) L ∧ GivesRow 39 3 L.length (L.flatMap encS) w e w' := by
  have HS := Lib.hid (St.start w)
  have HL := Lib.hid hl
  have HD := Lib.hid hd
  have HE := Lib.hid h
  have HSZ := Lib.hid (And.intro hs1 hs2)
  clear hl hd h
  go_enter Try.func16, Try.ntmps16
  go_wp2_with fail
  refine (refAround_any _).mono ?_
  rintro e w2 ⟨rfl, hb_⟩
  have HS := Lib.hid (HS.out.below hb_)
  clear hb_
  go_wp2_with fail
  have hs_ := (HS.out.alloc (.cells #[.int .i64 (-79), .int .i64 (-79), .int .i64 142, .int .i64 142] 43))
  obtain ⟨w3, hw_⟩ : ∃ w3 : World, (w2.alloc (.cells #[.int .i64 (-79), .int .i64 (-79), .int .i64 142, .int .i64 142] 43)) = w3 := ⟨_, rfl⟩
  rw [hw_] at hs_
  try simp only [World.size_alloc] at hs_
  have HS := Lib.hid hs_
  rw [hw_]
  clear hw_ hs_
  refine (refBlank_any (-79) (-79) 142 142 222 222 (by decide) (by decide) (by decide) (by unfold wrap64; omega) (by unfold wrap64; omega) (by unfold wrap64; omega) (by unfold wrap64; omega) _).mono ?_
  rintro e w4 ⟨g, gcap, rfl, hf⟩
  have HF := Lib.hid (Fld.into HS.out hf)
  obtain ⟨N1, hN1⟩ : ∃ N1, w3.heap.size = N1 := ⟨_, rfl⟩
  rw [hN1] at HF
  obtain ⟨bx0, hbx0⟩ : ∃ bx0, w2.heap.size = bx0 := ⟨_, rfl⟩
  rw [hbx0] at HF
  simp only [hbx0]
  clear hf HS hN1 hbx0
  go_wp2_with fail
  go_loopw [18] (fun y wr => ∃ (k : Nat) (F : Nat → Nat → Bool), k ≤ n ∧ y = .int .i64 (k : Int) ∧ Fld w [.blk bx0 (.cells #[.int .i64 (-79), .int .i64 (-79), .int .i64 142, .int .i64 142] 43)] N1 g gcap 222 222 F wr ∧ SwF (SwM size round (l.take k)) F) (fun y _ => n - (intOf y).toNat)
  case atStart => exact ⟨0, _, by omega, rfl, HF.out, fun r c => by simp [SwM]⟩
  case round =>
    obtain ⟨k, F, hk, rfl, hf, hu⟩ := hrel
    clear HF
    have HF := Lib.hid hf
    have HU := Lib.hid hu
    clear hf hu
    by_cases hlt : k < n
    · have HK := Lib.hid hlt
      have e3 : wrap64 ((k : Int) + 1) = ((k + 1 : Nat) : Int) := by unfold wrap64; omega
      obtain ⟨s, hx⟩ : ∃ s, l[k]? = some s := ⟨_, List.getElem?_eq_getElem (by rw [HL.out]; exact hlt)⟩
      obtain ⟨bb', off', rfl, hbb', c0, c1⟩ := ptCells HL.out (HE.out.below HF.out.st.low) k s hx
      have hds := (drawn_iff s).1 (HD.out s (List.mem_of_getElem? hx))
      have HTS := Lib.hid (take_snocP hx)
      have HSB := Lib.hid hds
      have HU1 := Lib.hid (HU.out.begin (c := s) HSZ.out.1)
      have HIN := Lib.hid (fun (p : PtT) (hp : (-400 ≤ p.x ∧ p.x ≤ 400) ∧ (-400 ≤ p.y ∧ p.y ≤ 400)) w => refIn_any s size round p (by omega) hp (by omega) (by omega) w)
      obtain ⟨sp, hsp⟩ : ∃ sp, sp = s := ⟨_, rfl⟩
      rw [← hsp] at HTS HU1
      have HSP := Lib.hid hsp
      clear hsp
      obtain ⟨sx, sy⟩ := s
      simp only at c0 c1 HSB
      unfold PtT.val at HIN
      clear hx hds hbb' HU
      have HS := Lib.hid (St.start wr)
      repeat ((fail_if_success (with_reducible refine stop_at (id := 6) ?_)); (first | go_values | go_skip | go_guarded | go_step | go_upon | go_back | (simp only [Int.not_lt, Int.not_le] at *; go_simp) | (go_values <;> (try go_simp)) | (go_ite <;> go_prune <;> (try go_simp)) | (split <;> (first | (rename_i hx; exact (hx _ rfl).elim) | go_prune))))
      clear c0 c1
      obtain ⟨p, hp⟩ : ∃ p, wr.heap.size = p := ⟨_, rfl⟩
      have hs_ := (HS.out.alloc (.cells #[.int .i64 sx, .int .i64 sy] 28))
      obtain ⟨w5, hw_⟩ : ∃ w5 : World, (wr.alloc (.cells #[.int .i64 sx, .int .i64 sy] 28)) = w5 := ⟨_, rfl⟩
      rw [hw_] at hs_
      try simp only [World.size_alloc] at hs_
      have HS := Lib.hid hs_
      rw [hw_]
      clear hw_ hs_
      have HF := Lib.hid (HF.out.below HS.out.low)
      have hpb := HS.out.blockAt 0 rfl
      rw [hp] at hpb
      have HP := Lib.hid hpb
      have k1 := cell_of_block (k := 1) hpb rfl
      simp only [hp]
      have wy0 : wrap64 (sy - size) = sy - size := by have := HSB.out; unfold wrap64; omega
      clear hpb hp HS
      go_wp2_with fail
      clear k1
      try rw [wy0]
      clear wy0
      go_loopw [11] (fun y wx => ∃ (yy : Int) (F : Nat → Nat → Bool), (sy - size ≤ yy ∧ yy ≤ sy + size + 1) ∧ y = .int .i64 yy ∧ Fld w [.blk bx0 (.cells #[.int .i64 (-79), .int .i64 (-79), .int .i64 142, .int .i64 142] 43)] N1 g gcap 222 222 F wx ∧ SwF (SwQ size round (l.take k) sp yy (sx - size)) F ∧ wx.heap[p]? = some (.cells #[.int .i64 sx, .int .i64 sy] 28 (0, 0))) (fun y _ => (sy + size + 1 - intOf y).toNat)
      case atStart => exact ⟨sy - size, _, ⟨by omega, by omega⟩, rfl, HF.out, by have := HU1.out; rw [HSP.out] at this ⊢; exact this, HP.out⟩
      case round =>
        obtain ⟨yy, F, hyy, rfl, hf, hu, hpb⟩ := hrel
        clear HF HU1 HP
        have HF := Lib.hid hf
        have HU := Lib.hid hu
        have HP := Lib.hid hpb
        have HY := Lib.hid hyy
        have k0 := cell_of_block (k := 0) hpb rfl
        have k1 := cell_of_block (k := 1) hpb rfl
        have wy1 : wrap64 (sy + size) = sy + size := by have := HSB.out; unfold wrap64; omega
        have wx0 : wrap64 (sx - size) = sx - size := by have := HSB.out; unfold wrap64; omega
        clear hf hu hpb hyy
        by_cases hlt2 : yy ≤ sy + size
        · have e4 : wrap64 (yy + 1) = yy + 1 := by have := HSB.out; have := HY.out; unfold wrap64; omega
          have HLT2 := Lib.hid hlt2
          go_wp2_with fail
          clear k0 k1
          try rw [wx0]
          try rw [wy1]
          clear wx0 wy1
          go_loopw [12] (fun x wx => ∃ (xx : Int) (F : Nat → Nat → Bool), (sx - size ≤ xx ∧ xx ≤ sx + size + 1) ∧ x = .int .i64 xx ∧ Fld w [.blk bx0 (.cells #[.int .i64 (-79), .int .i64 (-79), .int .i64 142, .int .i64 142] 43)] N1 g gcap 222 222 F wx ∧ SwF (SwQ size round (l.take k) sp yy xx) F ∧ wx.heap[p]? = some (.cells #[.int .i64 sx, .int .i64 sy] 28 (0, 0))) (fun y _ => (sx + size + 1 - intOf y).toNat)
          case atStart => exact ⟨sx - size, _, ⟨by omega, by omega⟩, rfl, HF.out, HU.out, HP.out⟩
          case round =>
            obtain ⟨xx, F, hxx, rfl, hf, hu, hpb⟩ := hrel
            clear HF HU HP
            have HF := Lib.hid hf
            have HU := Lib.hid hu
            have HP := Lib.hid hpb
            have HX := Lib.hid hxx
            have k0 := cell_of_block (k := 0) hpb rfl
            have k1 := cell_of_block (k := 1) hpb rfl
            have wx1 : wrap64 (sx + size) = sx + size := by have := HSB.out; unfold wrap64; omega
            clear hf hu hpb hxx
            by_cases hlt3 : xx ≤ sx + size
            · have e5 : wrap64 (xx + 1) = xx + 1 := by have := HSB.out; have := HX.out; unfold wrap64; omega
              have HLT3 := Lib.hid hlt3
              have hIN := HIN.out ⟨xx, yy⟩ (by have := HSB.out; have := HSZ.out; have := HX.out; have := HY.out; simp only; omega)
              simp only at hIN
              rw [← HSP.out] at hIN
              obtain ⟨ib, hib⟩ : ∃ ib, inRef size round sp ⟨xx, yy⟩ = ib := ⟨_, rfl⟩
              simp only [hib] at hIN
              have HIB := Lib.hid hib
              have HI := Lib.hid hIN
              clear hIN hib
              go_wp2_with fail
              refine (HI.out _).mono ?_
              rintro e w6 ⟨rfl, hb_⟩
              have HF := Lib.hid (HF.out.below hb_)
              have HP := Lib.hid ((hb_.block p (block_lt HP.out)).trans HP.out)
              clear hb_ HI k0 k1
              cases ib
              · have HT := Lib.hid (HU.out.skip HIB.out)
                go_wp2_with fail
                go_roundw
                case rel => exact ⟨xx + 1, _, ⟨by have := HX.out; omega, by have := HLT3.out; omega⟩, by first | rw [e5] | simp, HF.out, HT.out, HP.out⟩
                case measure => have := HLT3.out; (try rw [e5]); simp [intOf]; omega
              · obtain ⟨R, hR⟩ : ∃ R : Nat, -79 + (R : Int) = yy := ⟨(yy + 79).toNat, by have := HSB.out; have := HSZ.out; have := HY.out; omega⟩
                obtain ⟨C, hC⟩ : ∃ C : Nat, -79 + (C : Int) = xx := ⟨(xx + 79).toNat, by have := HSB.out; have := HSZ.out; have := HX.out; omega⟩
                have hRn : R < 222 := by have := HSB.out; have := HSZ.out; have := HLT2.out; omega
                have hCn : C < 222 := by have := HSB.out; have := HSZ.out; have := HLT3.out; omega
                have W5 := Lib.hid (show wrap64 (xx + 79) = (C : Int) by unfold wrap64; omega)
                have W6 := Lib.hid (show wrap64 (yy + 79) = (R : Int) by unfold wrap64; omega)
                have HT := Lib.hid (HU.out.step hR hC HIB.out)
                obtain ⟨b, hbb, hb1, hb2, hb3, hb4⟩ := HF.out.at R C hRn hCn
                have HBC := Lib.hid hb1
                clear hR hC hb1 hb2 hb3 hb4 hbb
                go_wp2_with fail
                refine (wpIn_wide (n := 0)).1 ?_
                apply wp_region_vals 11 (Rl := [(eqv _), (eqv _), (eqv _), (eqv _), (eqv _), (eqv _), (eqv _), (eqv _), (eqv _), (eqv _), (eqv _)]) (C := (fun x y => Below w6.heap.size x y))
                case hm => kernel_rfl
                case hk => rfl
                case hCr => exact (fun x => Below.refl _ x)
                case hCt => intro _ _ _; exact (fun h k => h.trans k)
                case hst => exact ⟨fun _ _ _ _ h => h, fun _ _ _ _ h => h, fun _ _ _ _ h => h, fun _ _ _ _ h => h, fun _ _ _ _ h => h, fun _ _ _ _ h => h, fun _ _ _ _ h => h, fun _ _ _ _ h => h, fun _ _ _ _ h => h, fun _ _ _ _ h => h, fun _ _ _ _ h => h, trivial⟩
                case hfo => kernel_rfl
                case ht => kernel_rfl
                case hC0 => exact ((Below.refl _ _).drew)
                case hsteps =>
                  refine ⟨?_, ?_, ?_, ?_, ?_, ?_, ?_, ?_, ?_, ?_, ?_, trivial⟩
                  · -- 0
                    intro a' w' hA hC hD
                    have s8 : a'.tmps[8]? = some _ := (hA.at 8 (by kernel_rfl)).trans rfl
                    clear hA hD
                    refine stepOk_plain rfl ?_
                    intro K hK
                    gi_wp2
                    exact hK _ _ rfl ((fun x => Below.refl _ x) _)
                  · -- 1
                    intro a' w' hA hC hD
                    have s11 : a'.tmps[11]? = some _ := (hA.at 11 (by kernel_rfl)).trans rfl
                    clear hA hD
                    refine stepOk_plain rfl ?_
                    intro K hK
                    gi_wp2
                    exact hK _ _ rfl ((fun x => Below.refl _ x) _)
                  · -- 2
                    intro a' w' hA hC hD
                    have s7 : a'.tmps[7]? = some _ := (hA.at 7 (by kernel_rfl)).trans rfl
                    clear hA hD
                    refine stepOk_plain rfl ?_
                    intro K hK
                    gi_wp2
                    exact hK _ _ rfl ((fun x => Below.refl _ x) _)
                  · -- 3
                    intro a' w' hA hC hD
                    obtain ⟨u55, s55, r55⟩ := hD ⟨2, .data⟩ (by simp) rfl _ rfl
                    replace r55 : u55 = _ := r55
                    subst r55
                    have b1 := cell_of_block (k := 1) ((HF.out.st.below hC).blockAt 0 rfl) rfl
                    clear hA hD
                    refine stepOk_plain rfl ?_
                    intro K hK
                    gi_wp2
                    exact hK _ _ rfl ((fun x => Below.refl _ x) _)
                  · -- 4
                    intro a' w' hA hC hD
                    obtain ⟨u54, s54, r54⟩ := hD ⟨1, .data⟩ (by simp) rfl _ rfl
                    replace r54 : u54 = _ := r54
                    subst r54
                    obtain ⟨u56, s56, r56⟩ := hD ⟨3, .data⟩ (by simp) rfl _ rfl
                    replace r56 : u56 = _ := r56
                    subst r56
                    clear hA hD
                    refine stepOk_plain rfl ?_
                    intro K hK
                    gi_wp2
                    rw [W6.out]
                    exact hK _ _ rfl ((fun x => Below.refl _ x) _)
                  · -- 5
                    intro a' w' hA hC hD
                    obtain ⟨u53, s53, r53⟩ := hD ⟨0, .data⟩ (by simp) rfl _ rfl
                    replace r53 : u53 = _ := r53
                    subst r53
                    obtain ⟨u57, s57, r57⟩ := hD ⟨4, .data⟩ (by simp) rfl _ rfl
                    replace r57 : u57 = _ := r57
                    subst r57
                    clear hA hD
                    refine stepOk_plain rfl ?_
                    intro K hK
                    gi_wp2
                    exact hK _ _ rfl ((fun x => Below.refl _ x) _)
                  · -- 6
                    intro a' w' hA hC hD
                    obtain ⟨u58, s58, r58⟩ := hD ⟨5, .data⟩ (by simp) rfl _ rfl
                    replace r58 : u58 = _ := r58
                    subst r58
                    have b1 := (hC.cell (p := ⟨g, R, none⟩) (cell_lt HBC.out)).trans HBC.out
                    clear hA hD
                    refine stepOk_plain rfl ?_
                    intro K hK
                    gi_wp2
                    exact hK _ _ rfl ((fun x => Below.refl _ x) _)
                  · -- 7
                    intro a' w' hA hC hD
                    have s12 : a'.tmps[12]? = some _ := (hA.at 12 (by kernel_rfl)).trans rfl
                    clear hA hD
                    refine stepOk_plain rfl ?_
                    intro K hK
                    gi_wp2
                    exact hK _ _ rfl ((fun x => Below.refl _ x) _)
                  · -- 8
                    intro a' w' hA hC hD
                    have s7 : a'.tmps[7]? = some _ := (hA.at 7 (by kernel_rfl)).trans rfl
                    clear hA hD
                    refine stepOk_plain rfl ?_
                    intro K hK
                    gi_wp2
                    exact hK _ _ rfl ((fun x => Below.refl _ x) _)
                  · -- 9
                    intro a' w' hA hC hD
                    obtain ⟨u61, s61, r61⟩ := hD ⟨8, .data⟩ (by simp) rfl _ rfl
                    replace r61 : u61 = _ := r61
                    subst r61
                    have b1 := cell_of_block (k := 0) ((HF.out.st.below hC).blockAt 0 rfl) rfl
                    clear hA hD
                    refine stepOk_plain rfl ?_
                    intro K hK
                    gi_wp2
                    exact hK _ _ rfl ((fun x => Below.refl _ x) _)
                  · -- 10
                    intro a' w' hA hC hD
                    obtain ⟨u60, s60, r60⟩ := hD ⟨7, .data⟩ (by simp) rfl _ rfl
                    replace r60 : u60 = _ := r60
                    subst r60
                    obtain ⟨u62, s62, r62⟩ := hD ⟨9, .data⟩ (by simp) rfl _ rfl
                    replace r62 : u62 = _ := r62
                    subst r62
                    clear hA hD
                    refine stepOk_plain rfl ?_
                    intro K hK
                    gi_wp2
                    rw [W5.out]
                    exact hK _ _ rfl ((fun x => Below.refl _ x) _)
                case hend =>
                  intro w7 hC
                  simp only [EndFrom, eqv, forall_eq, Act.put, List.length_cons, List.length_nil, List.drop_succ_cons, List.drop_zero, Nat.reduceAdd, List.setIfInBounds_toArray, List.set_cons_succ, List.set_cons_zero]
                  have hw := HF.out.below hC
                  have hbc := (hC.cell (p := ⟨g, R, none⟩) (cell_lt HBC.out)).trans HBC.out
                  have hpw := (hC.block p (block_lt HP.out)).trans HP.out
                  obtain ⟨b3, _, hb1, hb2, hb3, hb4⟩ := hw.at R C hRn hCn
                  have hbe : b = b3 := by
                    have h := hbc.symm.trans hb1
                    simp only [Option.some.injEq, Value.slice.injEq, Addr.mk.injEq] at h
                    exact h.1.1
                  subst hbe
                  obtain ⟨cur, hcur⟩ := hw.blockOf hRn hb1
                  have hbp : b ≠ p := by
                    rintro rfl
                    rw [hpw] at hcur
                    simp at hcur
                  have HF5 := Lib.hid (hb4 true)
                  have HP5 := Lib.hid (show (w7.setCell ⟨b, C, none⟩ (.bool true)).heap[p]? = _ from (Below.heap_setCell w7 ⟨b, C, none⟩ (.bool true) p (by simpa using hbp.symm)).trans hpw)
                  clear hb1 hb4 hw hbc hC HBC W5 W6 hcur hbp hpw
                  gi_wp2
                  go_wp2_with fail
                  go_roundw
                  case rel => exact ⟨xx + 1, _, ⟨by have := HX.out; omega, by have := HLT3.out; omega⟩, by first | rw [e5] | simp, HF5.out, HT.out, HP5.out⟩
                  case measure => have := HLT3.out; (try rw [e5]); simp [intOf]; omega
            · have HT := Lib.hid (show SwF (SwQ size round (l.take k) sp (yy + 1) (sx - size)) F by
                have := HU.out
                rw [show xx = sx + size + 1 by have := HX.out; omega, HSP.out] at this
                rw [HSP.out]
                exact this.down HSZ.out.1)
              clear HU
              go_wp2_with fail
              go_roundw
              case rel => exact ⟨yy + 1, _, ⟨by have := HY.out; omega, by have := HLT2.out; omega⟩, by first | rw [e4] | simp, HF.out, HT.out, HP.out⟩
              case measure => have := HLT2.out; (try rw [e4]); simp [intOf]; omega
        · have HT := Lib.hid (show SwF (SwM size round (l.take (k + 1))) F by
            have := HU.out
            rw [show yy = sy + size + 1 by have := HY.out; omega, HSP.out] at this
            rw [HTS.out, HSP.out]
            exact this.done HSZ.out.1)
          clear HU
          go_wp2_with fail
          go_roundw
          case rel => exact ⟨k + 1, _, HK.out, by first | rw [e3] | simp, HF.out, HT.out⟩
          case measure => have := HK.out; (try rw [e3]); simp [intOf]; omega
    · have HT := Lib.hid (show SwF (SwM size round l) F by
        have := HU.out
        rwa [List.take_of_length_le (show l.length ≤ k by rw [HL.out]; omega)] at this)
      have HB := Lib.hid (show ∀ p, SwM size round l p → (-79 ≤ p.y ∧ p.y < -79 + ((222 : Nat) : Int)) ∧ (-79 ≤ p.x ∧ p.x < -79 + ((222 : Nat) : Int)) from fun p ⟨c, hc, hi⟩ => by
        have h1 := (drawn_iff c).1 (HD.out c hc)
        have h2 := inRef_in HSZ.out.1 hi
        have h3 := HSZ.out
        omega)
      clear hk
      have k0 := cell_of_block (k := 0) (HF.out.st.blockAt 0 rfl) rfl
      have k1 := cell_of_block (k := 1) (HF.out.st.blockAt 0 rfl) rfl
      have k2 := cell_of_block (k := 2) (HF.out.st.blockAt 0 rfl) rfl
      have k3 := cell_of_block (k := 3) (HF.out.st.blockAt 0 rfl) rfl
      go_wp2_with fail
      clear k0 k1 k2 k3
      refine (refRow_any (-79) (-79) 222 222 (by decide) (by decide) (by decide) (by decide) 142 142 (by decide) (by decide) g gcap F _ HF.out.read).mono ?_
      rintro e w7 ⟨L, hL, v, rfl, hrow, hb_⟩
      have hset : SetRow (SwM size round l) L := hL.setRow HB.out HT.out
      have H1 := Lib.hid hset
      have H2 := Lib.hid (ownsRow_mono hrow HF.out.st.low.size)
      have H3 := Lib.hid (HF.out.st.low.trans (hb_.mono HF.out.st.low.size))
      clear hL hrow hb_ hset hlt
      go_wp2_with fail
      go_ret
      refine ⟨L, H1.out, v, rfl, ?_, ?_⟩
      · exact H2.out
      · exact H3.out
end Go.Proofs.Ytflbcabjefpojaa
