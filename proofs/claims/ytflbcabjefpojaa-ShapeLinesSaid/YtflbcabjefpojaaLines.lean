/- ShapeLines: the walk (printed by gen_lines06.py). -/
import Derived.Test.YtflbcabjefpojaaLinesA
namespace Go.Proofs.Ytflbcabjefpojaa
set_option linter.unusedSimpArgs false
set_option linter.unusedVariables false
open Go.RowKit Go.Shelf

set_option maxRecDepth 100000 in
set_option maxHeartbeats 4000000 in
theorem lines_any (a : Option Addr) (n cap : Nat) (ls : List (PtT × PtT)) (hl : ls.length = n) (hn : n ≤ 9223372036854775807) (size : Int) (w : World) (h : Elems w (.slice a n cap) n 4 (rowC encPP ls)) :
    Calls Try.prog 5 #[.slice a n cap, .int .i64 size] w (Gives (.bool true) w) := by
  have HL := Lib.hid hl
  have HS := Lib.hid ((St.start w).addRow h)
  have HSZC := Lib.hid (fun w => refSize_any size w)
  clear hl h
  go_enter Try.func5, Try.ntmps5
  go_wp2_with fail
  refine (wakes_any _).mono ?_
  rintro e w2 ⟨rfl, hb_⟩
  have HS := Lib.hid (HS.out.below hb_)
  clear hb_
  go_wp2_with fail
  go_loopw [24] (fun i wr => ∃ k : Nat, k ≤ n ∧ i = .int .i64 (k : Int) ∧ St w [.row (.slice a n cap) n 4 (rowC encPP ls) w.heap.size] wr) (fun i _ => n - (intOf i).toNat)
  case atStart => exact ⟨0, by omega, rfl, HS.out⟩
  case round =>
    obtain ⟨k, hk, rfl, hs⟩ := hrel
    clear HS
    have HS := Lib.hid hs
    clear hs
    by_cases hlt : k < n
    · obtain ⟨x, hx⟩ : ∃ x, ls[k]? = some x := ⟨_, List.getElem?_eq_getElem (by rw [HL.out]; exact hlt)⟩
      obtain ⟨bb, off, rfl, hbb, c0, c1, c2, c3⟩ := ppCells HL.out (HS.out.elems 0 rfl) k x hx
      obtain ⟨⟨px, py⟩, ⟨qx, qy⟩⟩ := x
      simp only at c0 c1 c2 c3
      clear hx hbb
      have e3 : wrap64 ((k : Int) + 1) = ((k + 1 : Nat) : Int) := by unfold wrap64; omega
      by_cases h5 : k = 5
      · subst h5
        go_wp2_with fail
        go_ret
        exact ⟨rfl, HS.out.low.trans (((Below.refl _ _).alloc (Nat.le_refl _) _).mono HS.out.low.size)⟩
      · have h5' : ¬ ((k : Int) = 5) := by omega
        repeat ((fail_if_success (with_reducible refine stop_at (id := 7) ?_)); (first | go_values | go_skip | go_guarded | go_step | go_upon | go_back | (simp only [Int.not_lt, Int.not_le] at *; go_simp) | (go_values <;> (try go_simp)) | (go_ite <;> go_prune <;> (try go_simp)) | (split <;> (first | (rename_i hx; exact (hx _ rfl).elim) | go_prune))))
        clear c0 c1 c2 c3 h5'
        have hs_ := (HS.out.alloc (.cells #[.int .i64 px, .int .i64 py, .int .i64 qx, .int .i64 qy] 51))
        obtain ⟨w3, hw_⟩ : ∃ w3 : World, (wr.alloc (.cells #[.int .i64 px, .int .i64 py, .int .i64 qx, .int .i64 qy] 51)) = w3 := ⟨_, rfl⟩
        rw [hw_] at hs_
        try simp only [World.size_alloc] at hs_
        have HS := Lib.hid hs_
        rw [hw_]
        clear hw_ hs_
        have HDR := Lib.hid (fun w => refDrawn_any ⟨px, py⟩ w)
        have HDRQ := Lib.hid (fun w => refDrawn_any ⟨qx, qy⟩ w)
        cases hda : drawnB ⟨px, py⟩
        · rw [hda] at HDR; have HDA := Lib.hid hda
          have HBAD := Lib.hid (show (drawnB ⟨px, py⟩ && drawnB ⟨qx, qy⟩) = false by rw [hda]; rfl)
          clear hda
          have q0 := cell_of_block (k := 0) (HS.out.blockAt 0 rfl) rfl
          have q1 := cell_of_block (k := 1) (HS.out.blockAt 0 rfl) rfl
          go_wp2_with fail
          clear q0 q1
          refine (HDR.out _).mono ?_
          rintro e w4 ⟨rfl, hb_⟩
          have HS := Lib.hid (HS.out.below hb_)
          clear hb_
          have HLN := Lib.hid (fun w => lineBad (a := ⟨px, py⟩) (b := ⟨qx, qy⟩) HBAD.out w)
          have HRC := Lib.hid (fun w => rectBad (a := ⟨px, py⟩) (b := ⟨qx, qy⟩) HBAD.out w)
          have q0 := cell_of_block (k := 0) (HS.out.blockAt 0 rfl) rfl
          have q1 := cell_of_block (k := 1) (HS.out.blockAt 0 rfl) rfl
          have q2 := cell_of_block (k := 2) (HS.out.blockAt 0 rfl) rfl
          have q3 := cell_of_block (k := 3) (HS.out.blockAt 0 rfl) rfl
          go_wp2_with fail
          clear q0 q1 q2 q3
          refine (HLN.out _).mono ?_
          rintro e w11 ⟨-, a11, c11, rfl, he_, hb_⟩
          have HS := Lib.hid ((HS.out.below hb_).addRow he_)
          clear hb_ he_
          have q0 := cell_of_block (k := 0) (HS.out.blockAt 1 rfl) rfl
          have q1 := cell_of_block (k := 1) (HS.out.blockAt 1 rfl) rfl
          have q2 := cell_of_block (k := 2) (HS.out.blockAt 1 rfl) rfl
          have q3 := cell_of_block (k := 3) (HS.out.blockAt 1 rfl) rfl
          go_wp2_with fail
          clear q0 q1 q2 q3
          refine (HRC.out _).mono ?_
          rintro e w12 ⟨-, a12, c12, rfl, he_, hb_⟩
          have HS := Lib.hid ((HS.out.below hb_).addRow he_)
          clear hb_ he_
          go_wp2_with fail
          refine (eqP_same _ _ [] 0 rfl _ (HS.out.elems 1 rfl) (elems_nil _)).mono ?_
          rintro e w14 ⟨rfl, hb_⟩
          have HS := Lib.hid (HS.out.below hb_)
          clear hb_
          go_wp2_with fail
          refine (eqS_same _ _ [] 0 rfl _ (HS.out.elems 0 rfl) (elems_nil _)).mono ?_
          rintro e w15 ⟨rfl, hb_⟩
          have HS := Lib.hid (HS.out.below hb_)
          clear hb_
          have HDI := Lib.hid (fun w => discBad (c := ⟨px, py⟩) (size := size) (by rw [HDA.out]; simp) w)
          have HSQ := Lib.hid (fun w => squareBad (c := ⟨px, py⟩) (size := size) (by rw [HDA.out]; simp) w)
          have q0 := cell_of_block (k := 0) (HS.out.blockAt 2 rfl) rfl
          have q1 := cell_of_block (k := 1) (HS.out.blockAt 2 rfl) rfl
          go_wp2_with fail
          clear q0 q1
          refine (HDI.out _).mono ?_
          rintro e w21 ⟨-, a21, c21, rfl, he_, hb_⟩
          have HS := Lib.hid ((HS.out.below hb_).addRow he_)
          clear hb_ he_
          have q0 := cell_of_block (k := 0) (HS.out.blockAt 3 rfl) rfl
          have q1 := cell_of_block (k := 1) (HS.out.blockAt 3 rfl) rfl
          go_wp2_with fail
          clear q0 q1
          refine (HSQ.out _).mono ?_
          rintro e w22 ⟨-, a22, c22, rfl, he_, hb_⟩
          have HS := Lib.hid ((HS.out.below hb_).addRow he_)
          clear hb_ he_
          have q0 := cell_of_block (k := 0) (HS.out.blockAt 4 rfl) rfl
          have q1 := cell_of_block (k := 1) (HS.out.blockAt 4 rfl) rfl
          go_wp2_with fail
          clear q0 q1
          refine (HDR.out _).mono ?_
          rintro e w23 ⟨rfl, hb_⟩
          have HS := Lib.hid (HS.out.below hb_)
          clear hb_
          go_wp2_with fail
          refine (eqS_same _ _ [] 0 rfl _ (HS.out.elems 1 rfl) (elems_nil _)).mono ?_
          rintro e w33 ⟨rfl, hb_⟩
          have HS := Lib.hid (HS.out.below hb_)
          clear hb_
          go_wp2_with fail
          refine (eqS_same _ _ [] 0 rfl _ (HS.out.elems 0 rfl) (elems_nil _)).mono ?_
          rintro e w34 ⟨rfl, hb_⟩
          have HS := Lib.hid (HS.out.below hb_)
          clear hb_
          go_wp2_with fail
          go_roundw
          case rel => exact ⟨k + 1, by omega, by first | rw [e3] | simp, HS.out.sub (by repeat (first | exact List.Sublist.refl _ | apply List.Sublist.cons))⟩
          case measure => (try rw [e3]); simp [intOf]; omega
        · rw [hda] at HDR; have HDA := Lib.hid hda
          clear hda
          have q0 := cell_of_block (k := 0) (HS.out.blockAt 0 rfl) rfl
          have q1 := cell_of_block (k := 1) (HS.out.blockAt 0 rfl) rfl
          go_wp2_with fail
          clear q0 q1
          refine (HDR.out _).mono ?_
          rintro e w4 ⟨rfl, hb_⟩
          have HS := Lib.hid (HS.out.below hb_)
          clear hb_
          cases hdb : drawnB ⟨qx, qy⟩
          · rw [hdb] at HDRQ; have HBAD := Lib.hid (show (drawnB ⟨px, py⟩ && drawnB ⟨qx, qy⟩) = false by rw [hdb]; simp)
            clear hdb
            have q2 := cell_of_block (k := 2) (HS.out.blockAt 0 rfl) rfl
            have q3 := cell_of_block (k := 3) (HS.out.blockAt 0 rfl) rfl
            go_wp2_with fail
            clear q2 q3
            refine (HDRQ.out _).mono ?_
            rintro e w5 ⟨rfl, hb_⟩
            have HS := Lib.hid (HS.out.below hb_)
            clear hb_
            have HLN := Lib.hid (fun w => lineBad (a := ⟨px, py⟩) (b := ⟨qx, qy⟩) HBAD.out w)
            have HRC := Lib.hid (fun w => rectBad (a := ⟨px, py⟩) (b := ⟨qx, qy⟩) HBAD.out w)
            have q0 := cell_of_block (k := 0) (HS.out.blockAt 0 rfl) rfl
            have q1 := cell_of_block (k := 1) (HS.out.blockAt 0 rfl) rfl
            have q2 := cell_of_block (k := 2) (HS.out.blockAt 0 rfl) rfl
            have q3 := cell_of_block (k := 3) (HS.out.blockAt 0 rfl) rfl
            go_wp2_with fail
            clear q0 q1 q2 q3
            refine (HLN.out _).mono ?_
            rintro e w11 ⟨-, a11, c11, rfl, he_, hb_⟩
            have HS := Lib.hid ((HS.out.below hb_).addRow he_)
            clear hb_ he_
            have q0 := cell_of_block (k := 0) (HS.out.blockAt 1 rfl) rfl
            have q1 := cell_of_block (k := 1) (HS.out.blockAt 1 rfl) rfl
            have q2 := cell_of_block (k := 2) (HS.out.blockAt 1 rfl) rfl
            have q3 := cell_of_block (k := 3) (HS.out.blockAt 1 rfl) rfl
            go_wp2_with fail
            clear q0 q1 q2 q3
            refine (HRC.out _).mono ?_
            rintro e w12 ⟨-, a12, c12, rfl, he_, hb_⟩
            have HS := Lib.hid ((HS.out.below hb_).addRow he_)
            clear hb_ he_
            go_wp2_with fail
            refine (eqP_same _ _ [] 0 rfl _ (HS.out.elems 1 rfl) (elems_nil _)).mono ?_
            rintro e w14 ⟨rfl, hb_⟩
            have HS := Lib.hid (HS.out.below hb_)
            clear hb_
            go_wp2_with fail
            refine (eqS_same _ _ [] 0 rfl _ (HS.out.elems 0 rfl) (elems_nil _)).mono ?_
            rintro e w15 ⟨rfl, hb_⟩
            have HS := Lib.hid (HS.out.below hb_)
            clear hb_
            cases hsz : sizeB size
            · rw [hsz] at HSZC; have HSZ := Lib.hid hsz
              clear hsz
              have HDI := Lib.hid (fun w => discBad (c := ⟨px, py⟩) (size := size) (by rw [HSZ.out]; rfl) w)
              have HSQ := Lib.hid (fun w => squareBad (c := ⟨px, py⟩) (size := size) (by rw [HSZ.out]; rfl) w)
              have q0 := cell_of_block (k := 0) (HS.out.blockAt 2 rfl) rfl
              have q1 := cell_of_block (k := 1) (HS.out.blockAt 2 rfl) rfl
              go_wp2_with fail
              clear q0 q1
              refine (HDI.out _).mono ?_
              rintro e w21 ⟨-, a21, c21, rfl, he_, hb_⟩
              have HS := Lib.hid ((HS.out.below hb_).addRow he_)
              clear hb_ he_
              have q0 := cell_of_block (k := 0) (HS.out.blockAt 3 rfl) rfl
              have q1 := cell_of_block (k := 1) (HS.out.blockAt 3 rfl) rfl
              go_wp2_with fail
              clear q0 q1
              refine (HSQ.out _).mono ?_
              rintro e w22 ⟨-, a22, c22, rfl, he_, hb_⟩
              have HS := Lib.hid ((HS.out.below hb_).addRow he_)
              clear hb_ he_
              have q0 := cell_of_block (k := 0) (HS.out.blockAt 4 rfl) rfl
              have q1 := cell_of_block (k := 1) (HS.out.blockAt 4 rfl) rfl
              go_wp2_with fail
              clear q0 q1
              refine (HDR.out _).mono ?_
              rintro e w23 ⟨rfl, hb_⟩
              have HS := Lib.hid (HS.out.below hb_)
              clear hb_
              go_wp2_with fail
              refine (HSZC.out _).mono ?_
              rintro e w24 ⟨rfl, hb_⟩
              have HS := Lib.hid (HS.out.below hb_)
              clear hb_
              go_wp2_with fail
              refine (eqS_same _ _ [] 0 rfl _ (HS.out.elems 1 rfl) (elems_nil _)).mono ?_
              rintro e w33 ⟨rfl, hb_⟩
              have HS := Lib.hid (HS.out.below hb_)
              clear hb_
              go_wp2_with fail
              refine (eqS_same _ _ [] 0 rfl _ (HS.out.elems 0 rfl) (elems_nil _)).mono ?_
              rintro e w34 ⟨rfl, hb_⟩
              have HS := Lib.hid (HS.out.below hb_)
              clear hb_
              go_wp2_with fail
              go_roundw
              case rel => exact ⟨k + 1, by omega, by first | rw [e3] | simp, HS.out.sub (by repeat (first | exact List.Sublist.refl _ | apply List.Sublist.cons))⟩
              case measure => (try rw [e3]); simp [intOf]; omega
            · rw [hsz] at HSZC; have HSZ := Lib.hid hsz
              clear hsz
              have HDI := Lib.hid (fun w => discGood HDA.out HSZ.out w)
              have HSQ := Lib.hid (fun w => squareGood HDA.out HSZ.out w)
              have q0 := cell_of_block (k := 0) (HS.out.blockAt 2 rfl) rfl
              have q1 := cell_of_block (k := 1) (HS.out.blockAt 2 rfl) rfl
              go_wp2_with fail
              clear q0 q1
              refine (HDI.out _).mono ?_
              rintro e w21 ⟨M1, m1, m2, -, aa1, cc1, rfl, he_, hb_⟩
              obtain ⟨k1, hk1⟩ : ∃ k1, M1.length = k1 := ⟨_, rfl⟩
              rw [hk1] at m2 he_
              rw [hk1]
              have HM1 := Lib.hid (And.intro m1 (And.intro m2 hk1))
              have HS := Lib.hid ((HS.out.below hb_).addRow he_)
              clear m1 m2 he_ hb_ hk1
              have q0 := cell_of_block (k := 0) (HS.out.blockAt 3 rfl) rfl
              have q1 := cell_of_block (k := 1) (HS.out.blockAt 3 rfl) rfl
              go_wp2_with fail
              clear q0 q1
              refine (HSQ.out _).mono ?_
              rintro e w22 ⟨M2, m1, m2, -, aa2, cc2, rfl, he_, hb_⟩
              obtain ⟨k2, hk2⟩ : ∃ k2, M2.length = k2 := ⟨_, rfl⟩
              rw [hk2] at m2 he_
              rw [hk2]
              have HM2 := Lib.hid (And.intro m1 (And.intro m2 hk2))
              have HS := Lib.hid ((HS.out.below hb_).addRow he_)
              clear m1 m2 he_ hb_ hk2
              have q0 := cell_of_block (k := 0) (HS.out.blockAt 4 rfl) rfl
              have q1 := cell_of_block (k := 1) (HS.out.blockAt 4 rfl) rfl
              go_wp2_with fail
              clear q0 q1
              refine (HDR.out _).mono ?_
              rintro e w23 ⟨rfl, hb_⟩
              have HS := Lib.hid (HS.out.below hb_)
              clear hb_
              go_wp2_with fail
              refine (HSZC.out _).mono ?_
              rintro e w24 ⟨rfl, hb_⟩
              have HS := Lib.hid (HS.out.below hb_)
              clear hb_
              have q0 := cell_of_block (k := 0) (HS.out.blockAt 4 rfl) rfl
              have q1 := cell_of_block (k := 1) (HS.out.blockAt 4 rfl) rfl
              repeat ((fail_if_success (with_reducible refine stop_at (id := 23) ?_)); (first | go_values | go_skip | go_guarded | go_step | go_upon | go_back | (simp only [Int.not_lt, Int.not_le] at *; go_simp) | (go_values <;> (try go_simp)) | (go_ite <;> go_prune <;> (try go_simp)) | (split <;> (first | (rename_i hx; exact (hx _ rfl).elim) | go_prune))))
              clear q0 q1
              have hs_ := (HS.out.alloc (.cells #[.int .i64 px, .int .i64 py] 28))
              obtain ⟨w25, hw_⟩ : ∃ w25 : World, (w24.alloc (.cells #[.int .i64 px, .int .i64 py] 28)) = w25 := ⟨_, rfl⟩
              rw [hw_] at hs_
              try simp only [World.size_alloc] at hs_
              have HS := Lib.hid hs_
              rw [hw_]
              clear hw_ hs_
              have HR1 := Lib.hid (fun a cap w h => refSweepGot HDA.out HSZ.out HM1.out.1 HM1.out.2.2 a cap w h)
              have HR2 := Lib.hid (fun a cap w h => refSweepGot HDA.out HSZ.out HM2.out.1 HM2.out.2.2 a cap w h)
              go_wp2_with fail
              refine (HR1.out _ _ _ (Elems.ofBlock (HS.out.blockAt 0 rfl) _ _ _ rfl rfl)).mono ?_
              rintro e w31 ⟨v31, rfl, he_, hb_⟩
              have HS := Lib.hid ((HS.out.below hb_).addRow he_)
              clear he_ hb_
              go_wp2_with fail
              refine (HR2.out _ _ _ (Elems.ofBlock (HS.out.blockAt 1 rfl) _ _ _ rfl rfl)).mono ?_
              rintro e w32 ⟨v32, rfl, he_, hb_⟩
              have HS := Lib.hid ((HS.out.below hb_).addRow he_)
              clear he_ hb_
              go_wp2_with fail
              refine (eqS_same _ _ M1 k1 HM1.out.2.2 _ (HS.out.elems 4 rfl) (HS.out.elems 1 rfl) (Nat.le_trans HM1.out.2.1 (by decide))).mono ?_
              rintro e w33 ⟨rfl, hb_⟩
              have HS := Lib.hid (HS.out.below hb_)
              clear hb_
              go_wp2_with fail
              refine (eqS_same _ _ M2 k2 HM2.out.2.2 _ (HS.out.elems 3 rfl) (HS.out.elems 0 rfl) (Nat.le_trans HM2.out.2.1 (by decide))).mono ?_
              rintro e w34 ⟨rfl, hb_⟩
              have HS := Lib.hid (HS.out.below hb_)
              clear hb_
              go_wp2_with fail
              go_roundw
              case rel => exact ⟨k + 1, by omega, by first | rw [e3] | simp, HS.out.sub (by repeat (first | exact List.Sublist.refl _ | apply List.Sublist.cons))⟩
              case measure => (try rw [e3]); simp [intOf]; omega
          · rw [hdb] at HDRQ; have HDB := Lib.hid hdb
            clear hdb
            obtain ⟨L1, hL1⟩ : ∃ L1, lineL ⟨px, py⟩ ⟨qx, qy⟩ = L1 := ⟨_, rfl⟩
            obtain ⟨n1, hn1⟩ : ∃ n1, L1.length = n1 := ⟨_, rfl⟩
            have HLL := Lib.hid (And.intro hL1 (And.intro hn1 (show n1 ≤ 1000 by rw [← hn1, ← hL1]; exact lineL_small HDA.out HDB.out)))
            obtain ⟨R1, hR1⟩ : ∃ R1, rectL ⟨px, py⟩ ⟨qx, qy⟩ = R1 := ⟨_, rfl⟩
            obtain ⟨n2, hn2⟩ : ∃ n2, R1.length = n2 := ⟨_, rfl⟩
            have HRR := Lib.hid (And.intro hR1 (And.intro hn2 (show n2 ≤ 1000 by rw [← hn2, ← hR1]; exact rectL_small HDA.out HDB.out)))
            clear hL1 hn1 hR1 hn2
            have q2 := cell_of_block (k := 2) (HS.out.blockAt 0 rfl) rfl
            have q3 := cell_of_block (k := 3) (HS.out.blockAt 0 rfl) rfl
            go_wp2_with fail
            clear q2 q3
            refine (HDRQ.out _).mono ?_
            rintro e w5 ⟨rfl, hb_⟩
            have HS := Lib.hid (HS.out.below hb_)
            clear hb_
            have HLN := Lib.hid (fun w => lineGood HDA.out HDB.out HLL.out.1 HLL.out.2.1 w)
            have HRC := Lib.hid (fun w => rectGood HDA.out HDB.out HRR.out.1 HRR.out.2.1 w)
            have q0 := cell_of_block (k := 0) (HS.out.blockAt 0 rfl) rfl
            have q1 := cell_of_block (k := 1) (HS.out.blockAt 0 rfl) rfl
            have q2 := cell_of_block (k := 2) (HS.out.blockAt 0 rfl) rfl
            have q3 := cell_of_block (k := 3) (HS.out.blockAt 0 rfl) rfl
            go_wp2_with fail
            clear q0 q1 q2 q3
            refine (HLN.out _).mono ?_
            rintro e w11 ⟨-, a11, c11, rfl, he_, hb_⟩
            have HS := Lib.hid ((HS.out.below hb_).addRow he_)
            clear hb_ he_
            have q0 := cell_of_block (k := 0) (HS.out.blockAt 1 rfl) rfl
            have q1 := cell_of_block (k := 1) (HS.out.blockAt 1 rfl) rfl
            have q2 := cell_of_block (k := 2) (HS.out.blockAt 1 rfl) rfl
            have q3 := cell_of_block (k := 3) (HS.out.blockAt 1 rfl) rfl
            go_wp2_with fail
            clear q0 q1 q2 q3
            refine (HRC.out _).mono ?_
            rintro e w12 ⟨-, a12, c12, rfl, he_, hb_⟩
            have HS := Lib.hid ((HS.out.below hb_).addRow he_)
            clear hb_ he_
            go_wp2_with fail
            refine (wpIn_wide (n := 0)).1 ?_
            apply wp_region_vals 10 (Rl := [(eqv _), (eqv _), (eqv _), (eqv _), (fun v_ w_ => Elems w_ v_ n1 2 (rowC encP L1)), (eqv _), (eqv _), (eqv _), (eqv _), (fun v_ w_ => Elems w_ v_ n2 3 (rowC encS R1))]) (C := (fun x y => Below x.heap.size x y))
            case hm => kernel_rfl
            case hk => rfl
            case hCr => exact (fun _ => Below.refl _ _)
            case hCt => intro _ _ _; exact (fun h k => grows_trans h k)
            case hst => exact ⟨fun _ _ _ _ h => h, fun _ _ _ _ h => h, fun _ _ _ _ h => h, fun _ _ _ _ h => h, fun _ _ _ hC h => h.below hC, fun _ _ _ _ h => h, fun _ _ _ _ h => h, fun _ _ _ _ h => h, fun _ _ _ _ h => h, fun _ _ _ hC h => h.below hC, trivial⟩
            case hfo => kernel_rfl
            case ht => kernel_rfl
            case hC0 => exact (grows_drew _)
            case hsteps =>
              refine ⟨?_, ?_, ?_, ?_, ?_, ?_, ?_, ?_, ?_, ?_, trivial⟩
              · -- 0
                intro a' w' hA hC hD
                have s6 : a'.tmps[6]? = some _ := (hA.at 6 (by kernel_rfl)).trans rfl
                clear hA hD
                refine stepOk_plain rfl ?_
                intro K hK
                gi_wp2
                exact hK _ _ rfl ((fun _ => Below.refl _ _) _)
              · -- 1
                intro a' w' hA hC hD
                obtain ⟨u56, s56, r56⟩ := hD ⟨0, .data⟩ (by simp) rfl _ rfl
                replace r56 : u56 = _ := r56
                subst r56
                have h1_ := (HS.out.below hC).blockAt 2 rfl; have c1_0 := cell_of_block (k := 0) h1_ rfl; have c1_1 := cell_of_block (k := 1) h1_ rfl; have c1_2 := cell_of_block (k := 2) h1_ rfl; have c1_3 := cell_of_block (k := 3) h1_ rfl; clear h1_
                clear hA hD
                refine stepOk_plain rfl ?_
                intro K hK
                gi_wp2
                exact hK _ _ rfl ((fun _ => Below.refl _ _) _)
              · -- 2
                intro a' w' hA hC hD
                have s6 : a'.tmps[6]? = some _ := (hA.at 6 (by kernel_rfl)).trans rfl
                clear hA hD
                refine stepOk_plain rfl ?_
                intro K hK
                gi_wp2
                exact hK _ _ rfl ((fun _ => Below.refl _ _) _)
              · -- 3
                intro a' w' hA hC hD
                obtain ⟨u58, s58, r58⟩ := hD ⟨2, .data⟩ (by simp) rfl _ rfl
                replace r58 : u58 = _ := r58
                subst r58
                have h1_ := (HS.out.below hC).blockAt 2 rfl; have c1_0 := cell_of_block (k := 0) h1_ rfl; have c1_1 := cell_of_block (k := 1) h1_ rfl; have c1_2 := cell_of_block (k := 2) h1_ rfl; have c1_3 := cell_of_block (k := 3) h1_ rfl; clear h1_
                clear hA hD
                refine stepOk_plain rfl ?_
                intro K hK
                gi_wp2
                exact hK _ _ rfl ((fun _ => Below.refl _ _) _)
              · -- 4
                intro a' w' hA hC hD
                obtain ⟨u57, s57, r57⟩ := hD ⟨1, .data⟩ (by simp) rfl _ rfl
                replace r57 : u57 = _ := r57
                subst r57
                obtain ⟨u59, s59, r59⟩ := hD ⟨3, .data⟩ (by simp) rfl _ rfl
                replace r59 : u59 = _ := r59
                subst r59
                clear hA hD
                refine stepOk_plain rfl ?_
                intro K hK
                gi_wp2_with fail; refine (callsIn_wide.2 (refLineGot HDA.out HDB.out HLL.out.1 HLL.out.2.1 _)).mono ?_; rintro e w2 ⟨v, rfl, he_, hb⟩
                exact hK v _ he_ hb
              · -- 5
                intro a' w' hA hC hD
                have s6 : a'.tmps[6]? = some _ := (hA.at 6 (by kernel_rfl)).trans rfl
                clear hA hD
                refine stepOk_plain rfl ?_
                intro K hK
                gi_wp2
                exact hK _ _ rfl ((fun _ => Below.refl _ _) _)
              · -- 6
                intro a' w' hA hC hD
                obtain ⟨u61, s61, r61⟩ := hD ⟨5, .data⟩ (by simp) rfl _ rfl
                replace r61 : u61 = _ := r61
                subst r61
                have h1_ := (HS.out.below hC).blockAt 2 rfl; have c1_0 := cell_of_block (k := 0) h1_ rfl; have c1_1 := cell_of_block (k := 1) h1_ rfl; have c1_2 := cell_of_block (k := 2) h1_ rfl; have c1_3 := cell_of_block (k := 3) h1_ rfl; clear h1_
                clear hA hD
                refine stepOk_plain rfl ?_
                intro K hK
                gi_wp2
                exact hK _ _ rfl ((fun _ => Below.refl _ _) _)
              · -- 7
                intro a' w' hA hC hD
                have s6 : a'.tmps[6]? = some _ := (hA.at 6 (by kernel_rfl)).trans rfl
                clear hA hD
                refine stepOk_plain rfl ?_
                intro K hK
                gi_wp2
                exact hK _ _ rfl ((fun _ => Below.refl _ _) _)
              · -- 8
                intro a' w' hA hC hD
                obtain ⟨u63, s63, r63⟩ := hD ⟨7, .data⟩ (by simp) rfl _ rfl
                replace r63 : u63 = _ := r63
                subst r63
                have h1_ := (HS.out.below hC).blockAt 2 rfl; have c1_0 := cell_of_block (k := 0) h1_ rfl; have c1_1 := cell_of_block (k := 1) h1_ rfl; have c1_2 := cell_of_block (k := 2) h1_ rfl; have c1_3 := cell_of_block (k := 3) h1_ rfl; clear h1_
                clear hA hD
                refine stepOk_plain rfl ?_
                intro K hK
                gi_wp2
                exact hK _ _ rfl ((fun _ => Below.refl _ _) _)
              · -- 9
                intro a' w' hA hC hD
                obtain ⟨u62, s62, r62⟩ := hD ⟨6, .data⟩ (by simp) rfl _ rfl
                replace r62 : u62 = _ := r62
                subst r62
                obtain ⟨u64, s64, r64⟩ := hD ⟨8, .data⟩ (by simp) rfl _ rfl
                replace r64 : u64 = _ := r64
                subst r64
                clear hA hD
                refine stepOk_plain rfl ?_
                intro K hK
                gi_wp2_with fail; refine (callsIn_wide.2 (refRectGot HDA.out HDB.out HRR.out.1 HRR.out.2.1 _)).mono ?_; rintro e w2 ⟨v, rfl, he_, hb⟩
                exact hK v _ he_ hb
            case hend =>
              intro w13 hC
              simp only [EndFrom, eqv, forall_eq, Act.put, List.length_cons, List.length_nil, List.drop_succ_cons, List.drop_zero, Nat.reduceAdd, List.setIfInBounds_toArray, List.set_cons_succ, List.set_cons_zero]
              intro v1 hv1 v2 hv2
              have HS := Lib.hid (((HS.out.below hC).addRow hv1).addRow hv2)
              clear hC hv1 hv2
              gi_wp2
              go_wp2_with fail
              refine (eqP_same _ _ L1 n1 HLL.out.2.1 _ (HS.out.elems 3 rfl) (HS.out.elems 1 rfl) (Nat.le_trans HLL.out.2.2 (by decide))).mono ?_
              rintro e w14 ⟨rfl, hb_⟩
              have HS := Lib.hid (HS.out.below hb_)
              clear hb_
              go_wp2_with fail
              refine (eqS_same _ _ R1 n2 HRR.out.2.1 _ (HS.out.elems 2 rfl) (HS.out.elems 0 rfl) (Nat.le_trans HRR.out.2.2 (by decide))).mono ?_
              rintro e w15 ⟨rfl, hb_⟩
              have HS := Lib.hid (HS.out.below hb_)
              clear hb_
              cases hsz : sizeB size
              · rw [hsz] at HSZC; have HSZ := Lib.hid hsz
                clear hsz
                have HDI := Lib.hid (fun w => discBad (c := ⟨px, py⟩) (size := size) (by rw [HSZ.out]; rfl) w)
                have HSQ := Lib.hid (fun w => squareBad (c := ⟨px, py⟩) (size := size) (by rw [HSZ.out]; rfl) w)
                have q0 := cell_of_block (k := 0) (HS.out.blockAt 4 rfl) rfl
                have q1 := cell_of_block (k := 1) (HS.out.blockAt 4 rfl) rfl
                go_wp2_with fail
                clear q0 q1
                refine (HDI.out _).mono ?_
                rintro e w21 ⟨-, a21, c21, rfl, he_, hb_⟩
                have HS := Lib.hid ((HS.out.below hb_).addRow he_)
                clear hb_ he_
                have q0 := cell_of_block (k := 0) (HS.out.blockAt 5 rfl) rfl
                have q1 := cell_of_block (k := 1) (HS.out.blockAt 5 rfl) rfl
                go_wp2_with fail
                clear q0 q1
                refine (HSQ.out _).mono ?_
                rintro e w22 ⟨-, a22, c22, rfl, he_, hb_⟩
                have HS := Lib.hid ((HS.out.below hb_).addRow he_)
                clear hb_ he_
                have q0 := cell_of_block (k := 0) (HS.out.blockAt 6 rfl) rfl
                have q1 := cell_of_block (k := 1) (HS.out.blockAt 6 rfl) rfl
                go_wp2_with fail
                clear q0 q1
                refine (HDR.out _).mono ?_
                rintro e w23 ⟨rfl, hb_⟩
                have HS := Lib.hid (HS.out.below hb_)
                clear hb_
                go_wp2_with fail
                refine (HSZC.out _).mono ?_
                rintro e w24 ⟨rfl, hb_⟩
                have HS := Lib.hid (HS.out.below hb_)
                clear hb_
                go_wp2_with fail
                refine (eqS_same _ _ [] 0 rfl _ (HS.out.elems 1 rfl) (elems_nil _)).mono ?_
                rintro e w33 ⟨rfl, hb_⟩
                have HS := Lib.hid (HS.out.below hb_)
                clear hb_
                go_wp2_with fail
                refine (eqS_same _ _ [] 0 rfl _ (HS.out.elems 0 rfl) (elems_nil _)).mono ?_
                rintro e w34 ⟨rfl, hb_⟩
                have HS := Lib.hid (HS.out.below hb_)
                clear hb_
                go_wp2_with fail
                go_roundw
                case rel => exact ⟨k + 1, by omega, by first | rw [e3] | simp, HS.out.sub (by repeat (first | exact List.Sublist.refl _ | apply List.Sublist.cons))⟩
                case measure => (try rw [e3]); simp [intOf]; omega
              · rw [hsz] at HSZC; have HSZ := Lib.hid hsz
                clear hsz
                have HDI := Lib.hid (fun w => discGood HDA.out HSZ.out w)
                have HSQ := Lib.hid (fun w => squareGood HDA.out HSZ.out w)
                have q0 := cell_of_block (k := 0) (HS.out.blockAt 4 rfl) rfl
                have q1 := cell_of_block (k := 1) (HS.out.blockAt 4 rfl) rfl
                go_wp2_with fail
                clear q0 q1
                refine (HDI.out _).mono ?_
                rintro e w21 ⟨M1, m1, m2, -, aa1, cc1, rfl, he_, hb_⟩
                obtain ⟨k1, hk1⟩ : ∃ k1, M1.length = k1 := ⟨_, rfl⟩
                rw [hk1] at m2 he_
                rw [hk1]
                have HM1 := Lib.hid (And.intro m1 (And.intro m2 hk1))
                have HS := Lib.hid ((HS.out.below hb_).addRow he_)
                clear m1 m2 he_ hb_ hk1
                have q0 := cell_of_block (k := 0) (HS.out.blockAt 5 rfl) rfl
                have q1 := cell_of_block (k := 1) (HS.out.blockAt 5 rfl) rfl
                go_wp2_with fail
                clear q0 q1
                refine (HSQ.out _).mono ?_
                rintro e w22 ⟨M2, m1, m2, -, aa2, cc2, rfl, he_, hb_⟩
                obtain ⟨k2, hk2⟩ : ∃ k2, M2.length = k2 := ⟨_, rfl⟩
                rw [hk2] at m2 he_
                rw [hk2]
                have HM2 := Lib.hid (And.intro m1 (And.intro m2 hk2))
                have HS := Lib.hid ((HS.out.below hb_).addRow he_)
                clear m1 m2 he_ hb_ hk2
                have q0 := cell_of_block (k := 0) (HS.out.blockAt 6 rfl) rfl
                have q1 := cell_of_block (k := 1) (HS.out.blockAt 6 rfl) rfl
                go_wp2_with fail
                clear q0 q1
                refine (HDR.out _).mono ?_
                rintro e w23 ⟨rfl, hb_⟩
                have HS := Lib.hid (HS.out.below hb_)
                clear hb_
                go_wp2_with fail
                refine (HSZC.out _).mono ?_
                rintro e w24 ⟨rfl, hb_⟩
                have HS := Lib.hid (HS.out.below hb_)
                clear hb_
                have q0 := cell_of_block (k := 0) (HS.out.blockAt 6 rfl) rfl
                have q1 := cell_of_block (k := 1) (HS.out.blockAt 6 rfl) rfl
                repeat ((fail_if_success (with_reducible refine stop_at (id := 23) ?_)); (first | go_values | go_skip | go_guarded | go_step | go_upon | go_back | (simp only [Int.not_lt, Int.not_le] at *; go_simp) | (go_values <;> (try go_simp)) | (go_ite <;> go_prune <;> (try go_simp)) | (split <;> (first | (rename_i hx; exact (hx _ rfl).elim) | go_prune))))
                clear q0 q1
                have hs_ := (HS.out.alloc (.cells #[.int .i64 px, .int .i64 py] 28))
                obtain ⟨w25, hw_⟩ : ∃ w25 : World, (w24.alloc (.cells #[.int .i64 px, .int .i64 py] 28)) = w25 := ⟨_, rfl⟩
                rw [hw_] at hs_
                try simp only [World.size_alloc] at hs_
                have HS := Lib.hid hs_
                rw [hw_]
                clear hw_ hs_
                have HR1 := Lib.hid (fun a cap w h => refSweepGot HDA.out HSZ.out HM1.out.1 HM1.out.2.2 a cap w h)
                have HR2 := Lib.hid (fun a cap w h => refSweepGot HDA.out HSZ.out HM2.out.1 HM2.out.2.2 a cap w h)
                go_wp2_with fail
                refine (HR1.out _ _ _ (Elems.ofBlock (HS.out.blockAt 0 rfl) _ _ _ rfl rfl)).mono ?_
                rintro e w31 ⟨v31, rfl, he_, hb_⟩
                have HS := Lib.hid ((HS.out.below hb_).addRow he_)
                clear he_ hb_
                go_wp2_with fail
                refine (HR2.out _ _ _ (Elems.ofBlock (HS.out.blockAt 1 rfl) _ _ _ rfl rfl)).mono ?_
                rintro e w32 ⟨v32, rfl, he_, hb_⟩
                have HS := Lib.hid ((HS.out.below hb_).addRow he_)
                clear he_ hb_
                go_wp2_with fail
                refine (eqS_same _ _ M1 k1 HM1.out.2.2 _ (HS.out.elems 4 rfl) (HS.out.elems 1 rfl) (Nat.le_trans HM1.out.2.1 (by decide))).mono ?_
                rintro e w33 ⟨rfl, hb_⟩
                have HS := Lib.hid (HS.out.below hb_)
                clear hb_
                go_wp2_with fail
                refine (eqS_same _ _ M2 k2 HM2.out.2.2 _ (HS.out.elems 3 rfl) (HS.out.elems 0 rfl) (Nat.le_trans HM2.out.2.1 (by decide))).mono ?_
                rintro e w34 ⟨rfl, hb_⟩
                have HS := Lib.hid (HS.out.below hb_)
                clear hb_
                go_wp2_with fail
                go_roundw
                case rel => exact ⟨k + 1, by omega, by first | rw [e3] | simp, HS.out.sub (by repeat (first | exact List.Sublist.refl _ | apply List.Sublist.cons))⟩
                case measure => (try rw [e3]); simp [intOf]; omega
    · obtain rfl : k = n := by omega
      go_wp2_with fail
      go_ret
      exact ⟨rfl, HS.out.low⟩
end Go.Proofs.Ytflbcabjefpojaa
