/- Layer 6: the document's Union, Sweep. -/
import Derived.Test.YtflbcabjefpojaaShS
namespace Go.Proofs.Ytflbcabjefpojaa
set_option linter.unusedSimpArgs false
set_option linter.unusedVariables false
open Go.RowKit Go.Shelf

/-- A slice of rows of spans. -/
def RowsR (w : World) (a : Option Addr) (ls : List (List SpT)) : Prop := ∀ k l, ls[k]? = some l → ∃ b off a' cap', a = some ⟨b, off, none⟩ ∧ b < w.heap.size ∧ w.cell? ⟨b, off + k, none⟩ = some (.slice a' l.length cap') ∧ Elems w (.slice a' l.length cap') l.length 3 (rowC encS l)
theorem RowsR.below {w w' : World} {a : Option Addr} {ls : List (List SpT)} (h : RowsR w a ls) (hb : Below w.heap.size w w') : RowsR w' a ls := fun k l hk => by
  obtain ⟨b, off, a', cap', h1, h2, h3, h4⟩ := h k l hk
  exact ⟨b, off, a', cap', h1, Nat.lt_of_lt_of_le h2 hb.size, (hb.cell (p := ⟨b, off + k, none⟩) h2).trans h3, h4.below hb⟩
theorem Fld.blockOf {w0 w : World} {its : List It} {base g cap n m : Nat} {F : Nat → Nat → Bool} (h : Fld w0 its base g cap n m F w) {j b : Nat} (hj : j < n) (hb : w.cell? ⟨g, j, none⟩ = some (.slice (some ⟨b, 0, none⟩) m m)) : ∃ cur, w.heap[b]? = some (.cells cur 4 (0, 0)) := by
  obtain ⟨B, h1, h2⟩ := h
  subst h1
  obtain ⟨c, hc⟩ : ∃ c, B[j]? = some c := ⟨_, List.getElem?_eq_getElem hj⟩
  have := h2.o.cell (encB_len m) j c 0 _ hc rfl
  simp only [Nat.mul_one, Nat.add_zero] at this
  have e : b = c := by
    have h := hb.symm.trans this
    simp only [Option.some.injEq, Value.slice.injEq, Addr.mk.injEq] at h
    exact h.1.1
  subst e
  exact (ownsRow_block (h2.row j b hc)).2.2

/-- The field of the places of a row. -/
def UnF (M : List SpT) (F : Nat → Nat → Bool) : Prop := ∀ r c : Nat, F r c = true ↔ hasB M ⟨-256 + (c : Int), -256 + (r : Int)⟩ = true
theorem unF_start : UnF [] (fun _ _ => false) := fun r c => by simp [hasB]
theorem UnF.begin {M : List SpT} {F : Nat → Nat → Bool} (h : UnF M F) (y f : Int) : UnF (M ++ [⟨y, f, f - 1⟩]) F := fun r c => by
  rw [h r c, hasB_app, hasB_one, Bool.or_eq_true]
  simp only [inB, decide_eq_true_eq]
  constructor
  · exact .inl
  · rintro (h | ⟨h1, h2, h3⟩)
    · exact h
    · omega
theorem UnF.step {M : List SpT} {F : Nat → Nat → Bool} {y f x : Int} {R C : Nat} (h : UnF (M ++ [⟨y, f, x - 1⟩]) F) (hf : f ≤ x) (hR : -256 + (R : Int) = y) (hC : -256 + (C : Int) = x) : UnF (M ++ [⟨y, f, x⟩]) (upd2 F R C true) := fun r c => by
  have := h r c
  rw [hasB_app, hasB_one, Bool.or_eq_true] at this
  rw [upd2_true, this, hasB_app, hasB_one, Bool.or_eq_true]
  simp only [inB, decide_eq_true_eq]
  constructor
  · rintro (⟨rfl, rfl⟩ | h | ⟨h1, h2, h3⟩)
    · right; omega
    · exact .inl h
    · right; omega
  · rintro (h | ⟨h1, h2, h3⟩)
    · exact .inr (.inl h)
    · by_cases e : -256 + (c : Int) = x
      · left; omega
      · right; right; omega
theorem UnF.same {M : List SpT} {F : Nat → Nat → Bool} {s : SpT} {t : Int} (h : UnF (M ++ [⟨s.y, s.f, t⟩]) F) (ht : t = s.t) : UnF (M ++ [s]) F := by subst ht; exact h
theorem take_flat {ls : List (List SpT)} {k : Nat} {l : List SpT} (h : ls[k]? = some l) : (ls.take (k + 1)).flatten = (ls.take k).flatten ++ l := by rw [List.take_add_one, h]; simp
theorem take_snoc {l : List SpT} {q : Nat} {s : SpT} (h : l[q]? = some s) : l.take (q + 1) = l.take q ++ [s] := by rw [List.take_add_one, h]; simp

set_option maxRecDepth 100000 in
set_option maxHeartbeats 1000000 in
theorem refUnion_any (a : Option Addr) (n cap : Nat) (ls : List (List SpT)) (hl : ls.length = n) (hn : n ≤ 1000000) (hr : ∀ l ∈ ls, l.length ≤ 1000000 ∧ rightB l = true) (w : World) (h : RowsR w a ls) :
    Calls Try.prog 35 #[.slice a n cap] w fun e w' => ∃ L, SetRow (fun p => hasB ls.flatten p = true) L ∧ GivesRow 39 3 L.length (L.flatMap encS) w e w' := by
  have HS := Lib.hid (St.start w)
  have HL := Lib.hid hl
  have HR := Lib.hid hr
  have HRO := Lib.hid h
  clear hl hr h
  go_enter Try.func35, Try.ntmps35
  go_wp2_with fail
  have hs_ := (HS.out.alloc (.cells #[.int .i64 (-256), .int .i64 (-256), .int .i64 255, .int .i64 255] 43))
  obtain ⟨w3, hw_⟩ : ∃ w3 : World, (w.alloc (.cells #[.int .i64 (-256), .int .i64 (-256), .int .i64 255, .int .i64 255] 43)) = w3 := ⟨_, rfl⟩
  rw [hw_] at hs_
  try simp only [World.size_alloc] at hs_
  have HS := Lib.hid hs_
  rw [hw_]
  clear hw_ hs_
  refine (refBlank_any (-256) (-256) 255 255 512 512 (by decide) (by decide) (by decide) (by unfold wrap64; omega) (by unfold wrap64; omega) (by unfold wrap64; omega) (by unfold wrap64; omega) _).mono ?_
  rintro e w4 ⟨g, gcap, rfl, hf⟩
  have HF := Lib.hid (Fld.into HS.out hf)
  obtain ⟨N1, hN1⟩ : ∃ N1, w3.heap.size = N1 := ⟨_, rfl⟩
  rw [hN1] at HF
  clear hf HS hN1
  go_wp2_with fail
  go_loopw [15] (fun y wr => ∃ (k : Nat) (F : Nat → Nat → Bool), k ≤ n ∧ y = .int .i64 (k : Int) ∧ Fld w [.blk w.heap.size (.cells #[.int .i64 (-256), .int .i64 (-256), .int .i64 255, .int .i64 255] 43)] N1 g gcap 512 512 F wr ∧ UnF (ls.take k).flatten F) (fun y _ => n - (intOf y).toNat)
  case atStart => exact ⟨0, _, by omega, rfl, HF.out, unF_start⟩
  case round =>
    obtain ⟨k, F, hk, rfl, hf, hu⟩ := hrel
    clear HF
    have HF := Lib.hid hf
    have HU := Lib.hid hu
    clear hf hu
    by_cases hlt : k < n
    · have HK := Lib.hid hlt
      have e3 : wrap64 ((k : Int) + 1) = ((k + 1 : Nat) : Int) := by unfold wrap64; omega
      obtain ⟨l, hx⟩ : ∃ l, ls[k]? = some l := ⟨_, List.getElem?_eq_getElem (by rw [HL.out]; exact hlt)⟩
      have hrl := HR.out l (List.mem_of_getElem? hx)
      obtain ⟨bb, off, a', cap', rfl, hbb, c00, hel⟩ := HRO.out k l hx
      have c0 := (HF.out.st.low.cell (p := ⟨bb, off + k, none⟩) hbb).trans c00
      have HEL := Lib.hid hel
      clear c00
      have HTF := Lib.hid (take_flat hx)
      have HRL := Lib.hid hrl.1
      have HRP := Lib.hid ((rightB_iff l).1 hrl.2)
      clear hx hrl hbb hel
      go_wp2_with fail
      clear c0
      obtain ⟨m, hm⟩ : ∃ m, l.length = m := ⟨_, rfl⟩
      rw [hm] at HEL HRL
      simp only [hm]
      have HM := Lib.hid hm
      clear hm
      go_loopw [21] (fun y wx => ∃ (q : Nat) (F : Nat → Nat → Bool), q ≤ m ∧ y = .int .i64 (q : Int) ∧ Fld w [.blk w.heap.size (.cells #[.int .i64 (-256), .int .i64 (-256), .int .i64 255, .int .i64 255] 43)] N1 g gcap 512 512 F wx ∧ UnF ((ls.take k).flatten ++ l.take q) F) (fun y _ => m - (intOf y).toNat)
      case atStart => exact ⟨0, _, by omega, rfl, HF.out, by simpa using HU.out⟩
      case round =>
        obtain ⟨q, F, hq, rfl, hf, hu⟩ := hrel
        clear HF HU
        have HF := Lib.hid hf
        have HU := Lib.hid hu
        clear hf hu
        by_cases hlt2 : q < m
        · have HQ := Lib.hid hlt2
          have e4 : wrap64 ((q : Int) + 1) = ((q + 1 : Nat) : Int) := by have := HRL.out; unfold wrap64; omega
          obtain ⟨s, hx⟩ : ∃ s, l[q]? = some s := ⟨_, List.getElem?_eq_getElem (by rw [HM.out]; exact hlt2)⟩
          obtain ⟨bb', off', rfl, hbb', c0, c1, c2⟩ := spCells HM.out (HEL.out.below HF.out.st.low) q s hx
          have hs := (spB_iff s).1 (by have := HRP.out.sp q (by rw [HM.out]; exact hlt2); rwa [(List.getElem?_eq_some_iff.1 hx).2] at this)
          have HTS := Lib.hid (take_snoc hx)
          have HSB := Lib.hid hs
          have HU1 := Lib.hid (HU.out.begin s.y s.f)
          obtain ⟨sy, sf, st⟩ := s
          simp only at c0 c1 c2 HSB HU1
          clear hx hs hbb'
          have HS := Lib.hid (St.start wr)
          repeat ((fail_if_success (with_reducible refine stop_at (id := 9) ?_)); (first | go_values | go_skip | go_guarded | go_step | go_upon | go_back | (simp only [Int.not_lt, Int.not_le] at *; go_simp) | (go_values <;> (try go_simp)) | (go_ite <;> go_prune <;> (try go_simp)) | (split <;> (first | (rename_i hx; exact (hx _ rfl).elim) | go_prune))))
          clear c0 c1 c2
          obtain ⟨p, hp⟩ : ∃ p, wr.heap.size = p := ⟨_, rfl⟩
          have hs_ := (HS.out.alloc (.cells #[.int .i64 sy, .int .i64 sf, .int .i64 st] 39))
          obtain ⟨w5, hw_⟩ : ∃ w5 : World, (wr.alloc (.cells #[.int .i64 sy, .int .i64 sf, .int .i64 st] 39)) = w5 := ⟨_, rfl⟩
          rw [hw_] at hs_
          try simp only [World.size_alloc] at hs_
          have HS := Lib.hid hs_
          rw [hw_]
          clear hw_ hs_
          have HF := Lib.hid (HF.out.below HS.out.low)
          have hpb := HS.out.blockAt 0 rfl
          rw [hp] at hpb
          have HP := Lib.hid hpb
          have k1 := cell_of_block (k := 1) hpb rfl
          simp only [hp]
          clear hpb hp HS
          go_wp2_with fail
          clear k1
          go_loopw [9] (fun y wx => ∃ (x : Int) (F : Nat → Nat → Bool), (sf ≤ x ∧ x ≤ st + 1) ∧ y = .int .i64 x ∧ Fld w [.blk w.heap.size (.cells #[.int .i64 (-256), .int .i64 (-256), .int .i64 255, .int .i64 255] 43)] N1 g gcap 512 512 F wx ∧ UnF ((ls.take k).flatten ++ l.take q ++ [⟨sy, sf, x - 1⟩]) F ∧ wx.heap[p]? = some (.cells #[.int .i64 sy, .int .i64 sf, .int .i64 st] 39 (0, 0))) (fun y _ => (st + 1 - intOf y).toNat)
          case atStart => exact ⟨sf, _, ⟨by omega, by have := HSB.out; omega⟩, rfl, HF.out, HU1.out, HP.out⟩
          case round =>
            obtain ⟨x, F, hxx, rfl, hf, hu, hpb⟩ := hrel
            clear HF HU HU1 HP
            have HF := Lib.hid hf
            have HU := Lib.hid hu
            have HP := Lib.hid hpb
            have k0 := cell_of_block (k := 0) hpb rfl
            have k2 := cell_of_block (k := 2) hpb rfl
            have HX := Lib.hid hxx
            clear hf hu hpb hxx
            by_cases hlt3 : x ≤ st
            · have e5 : wrap64 (x + 1) = x + 1 := by have := HSB.out; have := HX.out; unfold wrap64; omega
              obtain ⟨R, hR⟩ : ∃ R : Nat, -256 + (R : Int) = sy := ⟨(sy + 256).toNat, by have := HSB.out; omega⟩
              obtain ⟨C, hC⟩ : ∃ C : Nat, -256 + (C : Int) = x := ⟨(x + 256).toNat, by have := HSB.out; have := HX.out; omega⟩
              have hRn : R < 512 := by have := HSB.out; omega
              have hCn : C < 512 := by have := HSB.out; omega
              have w5 : wrap64 (sy + 256) = (R : Int) := by have := HSB.out; unfold wrap64; omega
              have w6 : wrap64 (x + 256) = (C : Int) := by have := HSB.out; have := HX.out; unfold wrap64; omega
              have HT := Lib.hid (HU.out.step HX.out.1 hR hC)
              obtain ⟨b, hbb, hb1, hb2, hb3, hb4⟩ := HF.out.at R C hRn hCn
              obtain ⟨cur, hcur⟩ := HF.out.blockOf hRn hb1
              have hbp : b ≠ p := by
                rintro rfl
                rw [HP.out] at hcur
                simp at hcur
              have HF5 := Lib.hid (hb4 true)
              have HP5 := Lib.hid (show (wr.setCell ⟨b, C, none⟩ (.bool true)).heap[p]? = _ from (Below.heap_setCell wr ⟨b, C, none⟩ (.bool true) p (by simpa using hbp.symm)).trans HP.out)
              clear hb4 hcur hR hC
              go_wp2_with fail
              go_roundw
              case rel => exact ⟨x + 1, _, ⟨by have := HX.out; omega, by omega⟩, by first | rw [e5] | simp, HF5.out, by rw [Int.add_sub_cancel]; exact HT.out, HP5.out⟩
              case measure => (try rw [e5]); simp [intOf]; omega
            · have HD := Lib.hid (show UnF ((ls.take k).flatten ++ l.take (q + 1)) F by
                rw [HTS.out, ← List.append_assoc]
                exact UnF.same (s := ⟨sy, sf, st⟩) HU.out (by have := HX.out; simp only; omega))
              clear HU
              go_wp2_with fail
              go_roundw
              case rel => exact ⟨q + 1, _, HQ.out, by first | rw [e4] | simp, HF.out, HD.out⟩
              case measure => have := HQ.out; (try rw [e4]); simp [intOf]; omega
        · have HD := Lib.hid (show UnF (ls.take (k + 1)).flatten F by
            have := HU.out
            rwa [List.take_of_length_le (show l.length ≤ q by rw [HM.out]; omega), ← HTF.out] at this)
          clear hq HU
          go_wp2_with fail
          go_roundw
          case rel => exact ⟨k + 1, _, HK.out, by first | rw [e3] | simp, HF.out, HD.out⟩
          case measure => have := HK.out; (try rw [e3]); simp [intOf]; omega
    · have HD := Lib.hid (show UnF ls.flatten F by
        have := HU.out
        rwa [List.take_of_length_le (show ls.length ≤ k by rw [HL.out]; omega)] at this)
      have HIN := Lib.hid (show ∀ p, hasB ls.flatten p = true → (-256 ≤ p.y ∧ p.y < -256 + ((512 : Nat) : Int)) ∧ (-256 ≤ p.x ∧ p.x < -256 + ((512 : Nat) : Int)) from fun p hp => by
        obtain ⟨s, hs, h1, h2, h3⟩ := (hasB_iff _ _).1 hp
        obtain ⟨l, hl, hsl⟩ := List.mem_flatten.1 hs
        obtain ⟨j, hj⟩ := List.getElem?_of_mem hsl
        have hrp := (rightB_iff l).1 (HR.out l hl).2
        have := (spB_iff s).1 (by have := hrp.sp j (List.getElem?_eq_some_iff.1 hj).1; rwa [(List.getElem?_eq_some_iff.1 hj).2] at this)
        omega)
      clear hk
      have k0 := cell_of_block (k := 0) (HF.out.st.blockAt 0 rfl) rfl
      have k1 := cell_of_block (k := 1) (HF.out.st.blockAt 0 rfl) rfl
      have k2 := cell_of_block (k := 2) (HF.out.st.blockAt 0 rfl) rfl
      have k3 := cell_of_block (k := 3) (HF.out.st.blockAt 0 rfl) rfl
      go_wp2_with fail
      clear k0 k1 k2 k3
      refine (refRow_any (-256) (-256) 512 512 (by decide) (by decide) (by decide) (by decide) 255 255 (by decide) (by decide) g gcap F _ HF.out.read).mono ?_
      rintro e w7 ⟨L, hL, v, rfl, hrow, hb_⟩
      have hset : SetRow (fun p => hasB ls.flatten p = true) L := hL.setRow HIN.out HD.out
      have H1 := Lib.hid hset
      have H2 := Lib.hid (ownsRow_mono hrow HF.out.st.low.size)
      have H3 := Lib.hid (HF.out.st.low.trans (hb_.mono HF.out.st.low.size))
      clear hL hrow hb_ hset HD hlt
      go_wp2_with fail
      go_ret
      refine ⟨L, H1.out, v, rfl, ?_, ?_⟩
      · exact H2.out
      · exact H3.out
end Go.Proofs.Ytflbcabjefpojaa
