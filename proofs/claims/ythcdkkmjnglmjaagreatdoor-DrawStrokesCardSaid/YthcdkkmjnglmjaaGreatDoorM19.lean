/- Merged texts: DrO DrP Goes Begun Gath PointsI Diff. -/
import Derived.Test.YthcdkkmjnglmjaaGreatDoorM18
import Derived.Test.YthcdkkmjnglmjaaGreatDoorM12
import Derived.Test.YthcdkkmjnglmjaaGreatDoorM8
import Derived.Test.YthcdkkmjnglmjaaGreatDoorM14
import Derived.Laws.EntriesVeiled
set_option linter.unusedSimpArgs false
set_option linter.unusedVariables false
/- Package draw: Frame. -/
namespace Go.Proofs.YthcdkkmjnglmjaaGreatDoor
open Go.RowKit Go.Shelf
attribute [local go_sem] Oper.semAt_some
theorem ownsRow_one {y : World} {g base : Nat} {s : SpT} (h : y.heap[g]? = some (.cells #[.int .i64 s.y, .int .i64 s.f, .int .i64 s.t] 60 (0, 0))) (hb : base ≤ g) : y.ownsRow base 60 3 (.slice (some ⟨g, 0, none⟩) 1 1) [s].length ([s].flatMap encS) :=
 ⟨rfl, .inr ⟨g, 1, _, rfl, hb, h, Nat.le_refl _, by unfold maxLen; omega, rfl, rfl⟩⟩
set_option maxRecDepth 100000 in
set_option maxHeartbeats 4000000 in
theorem dFrame1_any (c : ColT) (hc : okC c) (f t : PtT) (E p qf qt qc : Nat) (C : CanT)
 (w : World) (hE : w.heap[E]? = some (.cells #[.pointer (some ⟨p, 0, none⟩)] 127 (0, 0))) (hC : CanAt w p C)
 (hf : BlkA qf (.cells #[.int .i64 f.x, .int .i64 f.y] 26 (0, 0)) w) (ht : BlkA qt (.cells #[.int .i64 t.x, .int .i64 t.y] 26 (0, 0)) w) (hq : BlkA qc (.cells #[.int .u8 c.r, .int .u8 c.g, .int .u8 c.b, .int .u8 c.a] 34 (0, 0)) w) :
 Calls Tryz.prog 49 #[.pointer (some ⟨E, 0, none⟩), .pointer (some ⟨qf, 0, none⟩), .pointer (some ⟨qt, 0, none⟩), .pointer (some ⟨qc, 0, none⟩)] w (Drew E (errOf (drawnB f && drawnB t) 2) (frameK C (rectL f t) c (rectL f t).length) w) := by
 have HEA := H7 (BlkA.mk hE)
 have HCC := H7 hC
 have HQ := H7 hq
 have HRC := H7 (fun w' => shRect_any f t w')
 unfold PtT.val at HRC
 have x0 := c7b (k := 0) hf.at_ rfl
 have x1 := c7b (k := 1) hf.at_ rfl
 have y0 := c7b (k := 0) ht.at_ rfl
 have y1 := c7b (k := 1) ht.at_ rfl
 have hmm := makeMap_rows
 clear hE hC hf ht hq
 cases hok : (drawnB f && drawnB t) with
 | false =>
  have HOK := H7 hok
  simp only [errOf]
  clear hok
  go_enter Tryz.func49, Tryz.ntmps49
  go_wp2_with fail
  clear x0 x1 y0 y1
  refine (HRC.out _).mono ?_
  intro e w1 h
  obtain ⟨v, rfl, hb⟩ := rect_bad HOK.out h
  clear h
  go_wp2_with fail
  refine (sureS_no _ 2 (by decide) _).mono ?_
  rintro e w2 ⟨h1, rfl⟩
  unfold PanicE at h1
  subst h1
  exact ⟨rfl, ⟨(Turned.refl (fun k => k = E) w).belowT hb, fun h => absurd h (by decide), fun _ => rfl⟩⟩
 | true =>
  have HOK := H7 hok
  simp only [errOf]
  clear hok
  go_enter Tryz.func49, Tryz.ntmps49
  go_wp2_with fail
  clear x0 x1 y0 y1
  refine (HRC.out _).mono ?_
  intro e w1 h
  rw [HOK.out] at h
  have hd := Bool.and_eq_true_iff.1 HOK.out
  have hsm := rectL_small hd.1 hd.2
  have hst := rectL_set hd.1 hd.2
  have hnr := rect_near HOK.out
  obtain ⟨hgl, a, cap, rfl, hel, hb1⟩ := h.got encS_len
  obtain ⟨R, hR⟩ : ∃ R, rectL f t = R := ⟨_, rfl⟩
  rw [hR] at hel hsm hst
  obtain ⟨n, hn⟩ : ∃ n, R.length = n := ⟨_, rfl⟩
  rw [hn] at hel hsm
  have HR := H7 (And.intro hR (And.intro hn hsm))
  have HEL := H7 hel
  have HST := H7 (And.intro hst hnr)
  have HCC := H7 (HCC.out.below hb1)
  have HEA := H7 (HEA.out.below hb1)
  have HQ := H7 (HQ.out.below hb1)
  have HLW := H7 (LowAt.mk hb1)
  simp only [hR, hn]
  clear h hgl hb1 hel hsm hst hnr hR hd HRC
  go_wp2_with fail
  refine (sureS_ok _ _).mono ?_
  rintro e w2 ⟨rfl, rfl⟩
  go_wp2_with fail
  clear hmm
  have HFS := H7 (FrS.start w1 R)
  go_loopw [19] (fun i wr => ∃ k : Nat, k ≤ n ∧ i = .int .i64 (k : Int) ∧ FrS w1 R k wr) (fun i _ => n - (intOf i).toNat)
  case atStart => exact ⟨0, by omega, rfl, HFS.out⟩
  case round =>
   obtain ⟨k, hk, rfl, hg⟩ := hrel
   clear HFS
   have HG := H7 hg
   clear hg
   by_cases hlt : k < n
   · have HK := H7 hlt
     have e3 : wrap64 ((k : Int) + 1) = ((k + 1 : Nat) : Int) := by have := HR.out.2.2; unfold wrap64; omega
     have HWK := H7 e3
     obtain ⟨s, hx⟩ : ∃ s, R[k]? = some s := ⟨_, List.getElem?_eq_getElem (by rw [HR.out.2.1]; exact hlt)⟩
     have HX := H7 hx
     obtain ⟨bb, off, rfl, hbb, c0, c1, c2⟩ := spCells HR.out.2.1 HEL.out k s hx
     have c0' := (HG.out.low.cell (p := ⟨bb, off + k * 3, none⟩) hbb).trans c0
     have c1' := (HG.out.low.cell (p := ⟨bb, off + k * 3 + 1, none⟩) hbb).trans c1
     have c2' := (HG.out.low.cell (p := ⟨bb, off + k * 3 + 2, none⟩) hbb).trans c2
     clear c0 c1 c2 hx hbb e3
     have HS := H7 (St.start wr)
     repeat ((fail_if_success (with_reducible refine stop_at (id := 5) ?_)); (first | go_values | go_skip | go_guarded | go_step | go_upon | go_back | (simp only [Int.not_lt, Int.not_le] at *; go_simp) | (go_values <;> (try go_simp)) | (go_ite <;> go_prune <;> (try go_simp)) | (split <;> (first | (rename_i hx; exact (hx _ rfl).elim) | go_prune))))
     clear c0' c1' c2'
     have hs_ := (HS.out.alloc (.cells #[.int .i64 s.y, .int .i64 s.f, .int .i64 s.t] 60))
     have hk_HG := HG.out.below ((B7 _ _).alloc (by exact Nat.le_refl _) (.cells #[.int .i64 s.y, .int .i64 s.f, .int .i64 s.t] 60))
     obtain ⟨w2, hw_⟩ : ∃ w2 : World, (wr.alloc (.cells #[.int .i64 s.y, .int .i64 s.f, .int .i64 s.t] 60)) = w2 := ⟨_, rfl⟩
     rw [hw_] at hs_ hk_HG
     try simp only [World.size_alloc] at hs_
     have HS := H7 hs_
     have HG := H7 hk_HG
     rw [hw_]
     clear hw_ hs_ hk_HG
     have hw : wrap64 ((n : Int) - 1) = (n : Int) - 1 := by have := HR.out.2.2; unfold wrap64; omega
     by_cases hk0 : k = 0
     · have hb0 : ((k : Int) == 0) = true := by simp; omega
       have z0 := h7c HS 0 0 rfl rfl
       have z1 := h7c HS 0 1 rfl rfl
       have z2 := h7c HS 0 2 rfl rfl
       have hnb := (World.alloc_heap_new w2 (.cells #[.int .i64 s.y, .int .i64 s.f, .int .i64 s.t] 60))
       obtain ⟨w5, hrun, hfs⟩ := HG.out.put (by have := HR.out.2.2; omega) ((B7 w2.heap.size w2).alloc (Nat.le_refl _) (.cells #[.int .i64 s.y, .int .i64 s.f, .int .i64 s.t] 60)) (ownsRow_one hnb (Nat.le_refl _)) (by simp) (frL_ends HX.out (.inl hk0))
       have hrun0 := hrun
       rw [show (k : Int) = 0 by omega] at hrun0
       have HFS := H7 hfs
       have e3 := HWK.out
       go_wp2_with fail
       clear z0 z1 z2 hrun hrun0 hb0
       go_roundw
       case rel => exact ⟨k + 1, by omega, by first | exact congrArg (Value.int .i64) HWK.out | exact congrArg (Value.int .i64) (Int.natCast_succ k).symm | (congr 1; omega), HFS.out⟩
       case measure => (try rw [HWK.out]); have := HK.out; simp only [intOf]; omega
     · have hb0 : ((k : Int) == 0) = false := by simp; omega
       by_cases hkn : k + 1 = n
       · have hbn : ((k : Int) == (n : Int) - 1) = true := by simp; omega
         have z0 := h7c HS 0 0 rfl rfl
         have z1 := h7c HS 0 1 rfl rfl
         have z2 := h7c HS 0 2 rfl rfl
         have hnb := (World.alloc_heap_new w2 (.cells #[.int .i64 s.y, .int .i64 s.f, .int .i64 s.t] 60))
         obtain ⟨w5, hrun, hfs⟩ := HG.out.put (by have := HR.out.2.2; omega) ((B7 w2.heap.size w2).alloc (Nat.le_refl _) (.cells #[.int .i64 s.y, .int .i64 s.f, .int .i64 s.t] 60)) (ownsRow_one hnb (Nat.le_refl _)) (by simp) (frL_ends HX.out (.inr (by rw [HR.out.2.1]; exact hkn)))
         have hrun0 := hrun
         rw [show (k : Int) = (n : Int) - 1 by omega] at hrun0
         have HFS := H7 hfs
         have e3 := HWK.out
         go_wp2_with fail
         clear z0 z1 z2 hrun hrun0 hbn hb0
         go_roundw
         case rel => exact ⟨k + 1, by omega, by first | exact congrArg (Value.int .i64) HWK.out | exact congrArg (Value.int .i64) (Int.natCast_succ k).symm | (congr 1; omega), HFS.out⟩
         case measure => (try rw [HWK.out]); have := HK.out; simp only [intOf]; omega
       · have hbn : ((k : Int) == (n : Int) - 1) = false := by simp; omega
         have hsR : s ∈ R := List.mem_of_getElem? HX.out
         have hft := HST.out.1.row.sp s hsR
         have hn1 := HST.out.2 _ ((HST.out.1.has ⟨s.f, s.y⟩).1 ((hasB_iff _ _).2 ⟨s, hsR, rfl, Int.le_refl _, hft⟩))
         have hn2 := HST.out.2 _ ((HST.out.1.has ⟨s.t, s.y⟩).1 ((hasB_iff _ _).2 ⟨s, hsR, rfl, hft, Int.le_refl _⟩))
         simp only at hn1 hn2
         have hr1 : rightB [⟨s.y, s.f, s.f⟩] = true := rightB_ofD ⟨by simp, List.pairwise_singleton _ _⟩ (by simp; omega)
         have hr2 : rightB [⟨s.y, s.t, s.t⟩] = true := rightB_ofD ⟨by simp, List.pairwise_singleton _ _⟩ (by simp; omega)
         have HRT := H7 (And.intro hft (And.intro hr1 hr2))
         clear hn1 hn2 hr1 hr2 hft hsR
         repeat ((fail_if_success (with_reducible refine stop_at (id := 7) ?_)); (first | go_values | go_skip | go_guarded | go_step | go_upon | go_back | (simp only [Int.not_lt, Int.not_le] at *; go_simp) | (go_values <;> (try go_simp)) | (go_ite <;> go_prune <;> (try go_simp)) | (split <;> (first | (rename_i hx; exact (hx _ rfl).elim) | go_prune))))
         clear hb0 hbn hw
         have z0 := h7c HS 0 0 rfl rfl
         have z1 := h7c HS 0 1 rfl rfl
         have z2 := h7c HS 0 2 rfl rfl
         have r0 := c7b (k := 0) (heap_alloc_keeps (HS.out.blockAt 0 rfl) (.cells #[.int .i64 s.y, .int .i64 s.f, .int .i64 s.f] 60)) rfl
         have r2 := c7b (k := 2) (heap_alloc_keeps (HS.out.blockAt 0 rfl) (.cells #[.int .i64 s.y, .int .i64 s.f, .int .i64 s.f] 60)) rfl
         go_wp2_with fail
         clear z0 z1 z2 r0 r2
         have hs_ := (((HS.out.alloc (.cells #[.int .i64 s.y, .int .i64 s.f, .int .i64 s.f] 60)).alloc (.cells #[.int .i64 s.y, .int .i64 s.t, .int .i64 s.t] 60)).alloc (.cells #[.slice (some ⟨w2.heap.size, 0, none⟩) 1 1, .slice (some ⟨w2.heap.size + 1, 0, none⟩) 1 1] 57))
         have hk_HG := HG.out.below ((((B7 _ _).alloc (by exact Nat.le_refl _) (.cells #[.int .i64 s.y, .int .i64 s.f, .int .i64 s.f] 60)).alloc (by simp only [World.size_alloc]; omega) (.cells #[.int .i64 s.y, .int .i64 s.t, .int .i64 s.t] 60)).alloc (by simp only [World.size_alloc]; omega) (.cells #[.slice (some ⟨w2.heap.size, 0, none⟩) 1 1, .slice (some ⟨w2.heap.size + 1, 0, none⟩) 1 1] 57))
         obtain ⟨w3, hw_⟩ : ∃ w3 : World, (((w2.alloc (.cells #[.int .i64 s.y, .int .i64 s.f, .int .i64 s.f] 60)).alloc (.cells #[.int .i64 s.y, .int .i64 s.t, .int .i64 s.t] 60)).alloc (.cells #[.slice (some ⟨w2.heap.size, 0, none⟩) 1 1, .slice (some ⟨w2.heap.size + 1, 0, none⟩) 1 1] 57)) = w3 := ⟨_, rfl⟩
         rw [hw_] at hs_ hk_HG
         try simp only [World.size_alloc] at hs_
         have HS := H7 hs_
         have HG := H7 hk_HG
         rw [hw_]
         clear hw_ hs_ hk_HG
         have hrw : RowsR w3 (some ⟨w2.heap.size + 1 + 1, 0, none⟩) [[⟨s.y, s.f, s.f⟩], [⟨s.y, s.t, s.t⟩]] := by
          intro q l hq
          match q, hq with
          | 0, hq => cases hq; exact ⟨_, 0, _, 1, rfl, HS.out.lt 0 rfl, h7c HS 0 0 rfl rfl, ownsRow_rows encS_len (ownsRow_one (s := ⟨s.y, s.f, s.f⟩) (HS.out.blockAt 2 rfl) (Nat.zero_le _))⟩
          | 1, hq => cases hq; exact ⟨_, 0, _, 1, rfl, HS.out.lt 0 rfl, h7c HS 0 1 rfl rfl, ownsRow_rows encS_len (ownsRow_one (s := ⟨s.y, s.t, s.t⟩) (HS.out.blockAt 1 rfl) (Nat.zero_le _))⟩
          | q + 2, hq => simp at hq
         refine (shUnion_any (some ⟨w2.heap.size + 1 + 1, 0, none⟩) 2 2 [[⟨s.y, s.f, s.f⟩], [⟨s.y, s.t, s.t⟩]] rfl (by decide) (by simp) w3 hrw).mono ?_
         intro e w4 h
         obtain ⟨M, hM, -, -, v, rfl, hrow, hb4⟩ := h
         have hall : ([[⟨s.y, s.f, s.f⟩], [⟨s.y, s.t, s.t⟩]] : List (List SpT)).all rightB = true := by simp [HRT.out.2.1, HRT.out.2.2]
         rw [hall]
         obtain rfl : M = endsL s := (hM hall).unique (endsL_set HRT.out.1)
         rw [show errOf true 160 = 0 from rfl]
         obtain ⟨w5, hrun, hfs⟩ := HG.out.put (by have := HR.out.2.2; omega) hb4 hrow (endsL_ne s) (frL_mid HX.out (by rw [HR.out.2.1]; omega))
         have HFS := H7 hfs
         have e3 := HWK.out
         clear hM hrow hb4 hfs hrw hall
         go_wp2_with fail
         refine (sureS_ok _ _).mono ?_
         rintro e w6 ⟨rfl, rfl⟩
         go_wp2_with fail
         clear hrun
         go_roundw
         case rel => exact ⟨k + 1, by omega, by first | exact congrArg (Value.int .i64) HWK.out | exact congrArg (Value.int .i64) (Int.natCast_succ k).symm | (congr 1; omega), HFS.out⟩
         case measure => (try rw [HWK.out]); have := HK.out; simp only [intOf]; omega
   · obtain rfl : k = n := by omega
     have hwb : w.heap.size ≤ w1.heap.size := HLW.out.low.size
     have hEb : E < w1.heap.size := b7t HEA.out.at_
     have hfp : FrP w w1.heap.size E qc c C R k 0 wr := by
      obtain ⟨D, F, G, h1, h2⟩ := HG.out.gr
      exact ⟨⟨D, F, G, h1, h2⟩, (Turned.refl (fun k => k = E) w).belowT (HLW.out.low.trans (HG.out.low.mono hwb)), ⟨p, (HG.out.low.block E hEb).trans HEA.out.at_, HCC.out.below HG.out.low⟩, (HG.out.low.block qc (b7t HQ.out.at_)).trans HQ.out.at_⟩
     have hRr : ∀ s ∈ R, s.f ≤ s.t ∧ (-256 ≤ s.y ∧ s.y ≤ 255) ∧ (-256 ≤ s.f ∧ s.f ≤ 255) ∧ (-256 ≤ s.t ∧ s.t ≤ 255) := fun s hsR => by
      have hft := HST.out.1.row.sp s hsR
      have hn1 := HST.out.2 _ ((HST.out.1.has ⟨s.f, s.y⟩).1 ((hasB_iff _ _).2 ⟨s, hsR, rfl, Int.le_refl _, hft⟩))
      have hn2 := HST.out.2 _ ((HST.out.1.has ⟨s.t, s.y⟩).1 ((hasB_iff _ _).2 ⟨s, hsR, rfl, hft, Int.le_refl _⟩))
      simp only at hn1 hn2
      omega
     have HFP := H7 hfp
     have HRR := H7 hRr
     have HEB := H7 hEb
     have HCO := H7 hc
     clear hfp hRr hEb hwb HG HST HEA HCC HQ HEL HLW hlt hk hc
     go_wp2_with fail
     go_loopw [63] (fun i wx => ∃ j : Nat, j ≤ k ∧ i = .int .i64 (j : Int) ∧ FrP w w1.heap.size E qc c C R k j wx) (fun i _ => k - (intOf i).toNat)
     case atStart => exact ⟨0, by omega, rfl, HFP.out⟩
     case round =>
      obtain ⟨j, hj, rfl, hg⟩ := hrel
      clear HFP
      have HG := H7 hg
      by_cases hlt : j < k
      · have HK := H7 hlt
        have e3 : wrap64 ((j : Int) + 1) = ((j + 1 : Nat) : Int) := by have := HR.out.2.2; unfold wrap64; omega
        have HWK := H7 e3
        obtain ⟨D, F, G, h1, h2⟩ := hg.gr
        obtain ⟨d, hd1, hd2⟩ := hg.ex
        have hik : inK (j : Int) := by have := HR.out.2.2; unfold inK; omega
        have hlook := h1.look hik
        have hrow := h1.row _ hik
        rw [h2 j hlt] at hrow
        have hel := ownsRow_rows encS_len hrow
        obtain ⟨fa, fc, hF, -⟩ := hel.shape
        rw [hF] at hlook hel
        have hpt := epaint_any c HCO.out E d (frameK C R c j) fa _ fc (frL R j) rfl (by have := frL_len (R := R) j; omega) wr hd1 hd2 hel
        rw [frL_right HRR.out] at hpt
        obtain ⟨fn, hfn⟩ : ∃ fn, (frL R j).length = fn := ⟨_, rfl⟩
        rw [hfn] at hlook hpt
        have HPT := H7 hpt
        have c0 := c7b (k := 0) hg.col rfl
        have c1 := c7b (k := 1) hg.col rfl
        have c2 := c7b (k := 2) hg.col rfl
        have c3 := c7b (k := 3) hg.col rfl
        unfold ColT.val at HPT
        clear hpt hel hrow h1 h2 hd1 hd2 hfn hF hg hik
        go_wp2_with fail
        clear c0 c1 c2 c3 hlook
        refine HPT.out.mono ?_
        intro e w2 h
        obtain ⟨rfl, hg2⟩ := HG.out.step HEB.out h
        have HG2 := H7 hg2
        clear h hg2 HPT HG
        go_wp2_with fail
        go_roundw
        case rel => exact ⟨j + 1, by omega, by first | exact congrArg (Value.int .i64) HWK.out | exact congrArg (Value.int .i64) (Int.natCast_succ j).symm | (congr 1; omega), HG2.out⟩
        case measure => (try rw [HWK.out]); have := HK.out; simp only [intOf]; omega
      · obtain rfl : j = k := by omega
        clear hg
        go_wp2_with fail
        go_end0
        have hRl : rectL f t = R := HR.out.1
        have hnl : R.length = j := HR.out.2.1
        exact ⟨HG.out.tu, fun _ => ⟨rfl, by rw [hRl, hnl]; exact HG.out.ex⟩, fun h => absurd rfl h⟩
/- Package draw: Frame itself. -/
set_option maxRecDepth 100000 in
set_option maxHeartbeats 1000000 in
theorem dFrame_any (c : ColT) (hc : okC c) (f t : PtT) (p : Nat) (C : CanT) (w : World) (hC : CanAt w p C) :
 Calls Tryz.prog 12 #[.pointer (some ⟨p, 0, none⟩), c.val, f.val, t.val] w (Drawn (errOf (drawnB f && drawnB t) 2) (frameK C (rectL f t) c (rectL f t).length) w) := by
 have HS := H7 (St.start w)
 have HD := H7 (fun E qf qt qb w1 (hb : Below w.heap.size w w1) hE h1 h2 h3 => dFrame1_any c hc f t E p qf qt qb C w1 hE (hC.below hb) h1 h2 h3)
 have hmf : ∀ (fn : Fn) (first cap : Array Value) (w : World), (Instr.makeFunc fn first cap).run Tryz.prog w = .ok (.func fn first cap) w := fun _ _ _ _ => rfl
 obtain ⟨S, hS⟩ : ∃ S, frameK C (rectL f t) c (rectL f t).length = S := ⟨_, rfl⟩
 obtain ⟨er, her⟩ : ∃ er, errOf (drawnB f && drawnB t) 2 = er := ⟨_, rfl⟩
 rw [hS, her] at HD ⊢
 unfold ColT.val PtT.val
 clear hC hc hS her
 go_enter Tryz.func12, Tryz.ntmps12
 repeat ((fail_if_success (with_reducible refine stop_at (id := 1) ?_)); (first | go_values | go_skip | go_guarded | go_step | go_upon | go_back | (simp only [Int.not_lt, Int.not_le] at *; go_simp) | (go_values <;> (try go_simp)) | (go_ite <;> go_prune <;> (try go_simp)) | (split <;> (first | (rename_i hx; exact (hx _ rfl).elim) | go_prune))))
 have hs_ := (((HS.out.alloc (.cells #[.int .u8 c.r, .int .u8 c.g, .int .u8 c.b, .int .u8 c.a] 34)).alloc (.cells #[.int .i64 f.x, .int .i64 f.y] 26)).alloc (.cells #[.int .i64 t.x, .int .i64 t.y] 26))
 obtain ⟨w1, hw_⟩ : ∃ w1 : World, (((w.alloc (.cells #[.int .u8 c.r, .int .u8 c.g, .int .u8 c.b, .int .u8 c.a] 34)).alloc (.cells #[.int .i64 f.x, .int .i64 f.y] 26)).alloc (.cells #[.int .i64 t.x, .int .i64 t.y] 26)) = w1 := ⟨_, rfl⟩
 rw [hw_] at hs_
 try simp only [World.size_alloc] at hs_
 have HS := H7 hs_
 rw [hw_]
 clear hw_ hs_
 go_wp2_with fail
 refine (dTries_any 49 #[.pointer (some ⟨w.heap.size + 1, 0, none⟩), .pointer (some ⟨w.heap.size + 1 + 1, 0, none⟩), .pointer (some ⟨w.heap.size, 0, none⟩)] p er S w1 (fun _ _ => by simp [go_sem]) (fun w2 E hE hb hE2 => HD.out E (w.heap.size + 1) (w.heap.size + 1 + 1) w.heap.size w2 (HS.out.below hb).low hE2 ⟨(HS.out.below hb).blockAt 1 rfl⟩ ⟨(HS.out.below hb).blockAt 0 rfl⟩ ⟨(HS.out.below hb).blockAt 2 rfl⟩)).mono ?_
 intro e w3 h
 have HR := H7 (h.of_below HS.out.low)
 clear h
 rcases Classical.em (er = 0) with h0 | h0
 · obtain ⟨d, rfl, -⟩ := HR.out.2.1 h0
   go_wp2_with fail
   refine bodyPost_ret (v := .tuple #[.pointer (some ⟨d, 0, none⟩), .int .i64 0]) (by simp [results, Tryz.results12, go_sem]) rfl HR.out
 · obtain rfl := HR.out.2.2 h0
   go_wp2_with fail
   refine bodyPost_ret (v := .tuple #[.pointer none, .int .i64 er]) (by simp [results, Tryz.results12, go_sem]) rfl HR.out
/- Layer 8: goes. -/
/- Layer 8: of, tolerant, begun. -/
/- Layer 8: gathered, for each closure. -/
/-- Place k of a canvas W wide, row by row. -/
def ptK (W k : Nat) : PtT := ⟨((k % W : Nat) : Int), ((k / W : Nat) : Int)⟩
def gathL (W : Nat) (is : Nat → Bool) (k : Nat) : List PtT := ((List.range k).filter is).map (ptK W)
theorem ptK_at {W x y : Nat} (hx : x < W) : ptK W (y * W + x) = ⟨(x : Int), (y : Int)⟩ := by
 unfold ptK
 rw [show (y * W + x) % W = x by rw [Nat.add_comm, Nat.add_mul_mod_self_right]; exact Nat.mod_eq_of_lt hx, show (y * W + x) / W = y by rw [Nat.add_comm, Nat.add_mul_div_right _ _ (by omega), Nat.div_eq_of_lt hx]; omega]
/-- What gathered keeps behind k places. -/
structure GatS (y0 : World) (S : Nat) (W : Nat) (is : Nat → Bool) (Inv : Nat → World → Prop) (k : Nat) (v : Value) (x : World) : Prop where
 o : StO (cutW y0 S) [] y0.heap.size 26 2 encP v (gathL W is k) x
 inv : Inv k x
 tu : Turned (fun j => j = S) y0 x
 sl : S < y0.heap.size
theorem GatS.start {y0 : World} {S W : Nat} {is : Nat → Bool} {Inv : Nat → World → Prop} (hS : S < y0.heap.size) (h0 : Inv 0 y0) : GatS y0 S W is Inv 0 (.slice none 0 0) y0 :=
 ⟨StO.start (its := []) ⟨by rw [cutW_size (Nat.le_of_lt hS)]; exact cutW_below (Nat.le_of_lt hS), by simp, trivial, by simp⟩ _ _ _, h0, Turned.refl _ _, hS⟩
theorem GatS.oturn {y0 : World} {S W : Nat} {is : Nat → Bool} {Inv : Nat → World → Prop} {k : Nat} {v : Value} {x y : World} (h : GatS y0 S W is Inv k v x) (ht : Turned (fun j => j = S) x y) : StO (cutW y0 S) [] y0.heap.size 26 2 encP v (gathL W is k) y := by
 have hcz := cutW_size (Nat.le_of_lt h.sl)
 refine ⟨⟨?_, by simp, trivial, by simp⟩, ?_, h.o.low, by simp, Nat.le_trans h.o.hi ht.size⟩
 · have h1 := h.o.st.low
   rw [hcz] at h1 ⊢
   exact h1.trans (ht.below (by have := h1.size; rw [hcz] at this; exact this) (fun j hj => by rw [hj]; exact Nat.le_refl _))
 · refine ⟨h.o.row.1, ?_⟩
   rcases h.o.row.2 with h1 | ⟨g, cap, cur, e1, hg, hgg, rest⟩
   · exact .inl h1
   · exact .inr ⟨g, cap, cur, e1, hg, (ht.block g (b7t hgg) (fun e => by have := h.sl; omega)).trans hgg, rest⟩
theorem GatS.turn {y0 : World} {S W : Nat} {is : Nat → Bool} {Inv : Nat → World → Prop} {k k' : Nat} {v : Value} {x y : World} (h : GatS y0 S W is Inv k v x) (ht : Turned (fun j => j = S) x y) (hi : Inv k' y) (hl : gathL W is k' = gathL W is k) : GatS y0 S W is Inv k' v y :=
 ⟨by rw [hl]; exact h.oturn ht, hi, (h.tu.trans ht).mono fun k _ hk => (by rcases hk with hk | hk <;> exact hk), h.sl⟩
theorem GatS.below {y0 : World} {S W : Nat} {is : Nat → Bool} {Inv : Nat → World → Prop} {k : Nat} {v : Value} {x y : World} (hloc : ∀ k wr wr', Inv k wr → (∀ j, j < y0.heap.size → wr'.heap[j]? = wr.heap[j]?) → Inv k wr') (h : GatS y0 S W is Inv k v x) (hb : Below x.heap.size x y) : GatS y0 S W is Inv k v y :=
 ⟨h.o.below hb, hloc k x y h.inv (fun j hj => hb.block j (Nat.lt_of_lt_of_le hj h.o.hi)), h.tu.belowT hb, h.sl⟩
/- Layer 5: the points of a canvas, told one by one. -/
set_option maxRecDepth 100000 in
set_option maxHeartbeats 2000000 in
theorem points1_any (n : Nat) (hn : 1 ≤ n) (own : World → Nat → Prop) (N0 : Nat) (ho : OwnSt own N0) (L Bs : Nat) (bs : List Nat) (wi hi Wd Hd : Nat) (hwi : 8 * wi = Wd) (hhi : 8 * hi = Hd) (hw : wi ≤ 4) (hh : hi ≤ 4)
 (J Jx : List (Fin (Hd * Wd)) → World → Prop) (hJd : ∀ pre x y, J pre x → Below x.heap.size x y → J pre y) (hb1 : Bs ∈ bs)
 (hY : ∀ pre x W, J pre W → pre.length < Hd * Wd → YieldAt Fence.wide (n - 1) Tryz.prog L #[(ptK Wd x.1).val] W fun e W' =>
  (e = .returned (.bool true) ∧ J (pre ++ [x]) W' ∧ KO own bs N0 W W') ∨ (e = .returned (.bool false) ∧ Jx (pre ++ [x]) W'))
 (W : World) (hN : N0 ≤ W.heap.size) (hBs : ∀ c ∈ bs, c < W.heap.size) (hwf : ∀ q, own W q → q < W.heap.size) (hc0 : W.cell? ⟨Bs, 0, none⟩ = some (.int .i64 wi)) (hc1 : W.cell? ⟨Bs, 1, none⟩ = some (.int .i64 hi)) (h0 : J [] W) :
 CallsIn Fence.wide n Tryz.prog 106 #[.func (.yield L) #[] #[], .pointer (some ⟨Bs, 0, none⟩)] W fun e W' => (∃ v, e = .returned v) ∧
  ((∃ ys, ys = List.finRange (Hd * Wd) ∧ J ys W') ∨ (∃ pre, pre <+: List.finRange (Hd * Wd) ∧ Jx pre W')) := by
 have HY := H7 hY
 have HD := H7 (fun (p : Nat) (x y : World) (h : AllAt own bs N0 (Hd * Wd) J W p x) (hb : Below x.heap.size x y) => h.below ho hJd hN hBs hb)
 have HC : Hid (∀ wr, KeepsAt bs W wr → wr.cell? ⟨Bs, 0, none⟩ = some (.int .i64 wi) ∧ wr.cell? ⟨Bs, 1, none⟩ = some (.int .i64 hi)) := H7 fun wr hk => ⟨cell_keepsAt hc0 hb1 hk, cell_keepsAt hc1 hb1 hk⟩
 have HA := H7 (show AllAt own bs N0 (Hd * Wd) J W 0 W from ⟨h0, KO.refl _ _ _ _, hwf⟩)
 have HB := H7 (show Wd ≤ 32 ∧ Hd ≤ 32 by omega)
 have HE := H7 (show wrap64 (8 * (wi : Int)) = (Wd : Int) ∧ wrap64 (8 * (hi : Int)) = (Hd : Int) by unfold wrap64; omega)
 have c1 := (HC.out W (KeepsAt.refl _ _)).2
 have e1 := HE.out.2
 clear hY ho hJd hb1 hBs hc0 hc1 h0 hwf hN hwi hhi hw hh
 refine callsIn_of_wp Tryz.func106 rfl trivial ?_ rfl
 simp only [Tryz.ntmps106, List.size_toArray, List.length_cons, List.length_nil, Nat.reduceAdd, Nat.reduceSub, Array.replicate_succ, Array.replicate_zero, List.push_toArray, List.append_toArray, List.nil_append, List.cons_append]
 apply wpIn_scope
 gi_wp2
 apply wpIn_label
 gi_wp2; rw [HE.out.2]
 clear c1 e1
 gi_loopw [8] (fun i wr => ∃ k : Nat, k ≤ Hd ∧ i = .int .i64 k ∧ AllAt own bs N0 (Hd * Wd) J W (k * Wd) wr) (fun i _ => Hd - (intOf i).toNat)
 case atStart => exact ⟨0, by omega, rfl, by rw [Nat.zero_mul]; exact HA.out⟩
 case round =>
  obtain ⟨k, hk, rfl, ha⟩ := hrel
  clear HA
  have HA := H7 ha
  clear ha
  by_cases hlt : k < Hd
  · have HLT := H7 hlt
    have wk : wrap64 ((k : Int) + 1) = ((k + 1 : Nat) : Int) := by have := HB.out; unfold wrap64; omega
    have HWK := H7 wk
    have c0 := (HC.out wr HA.out.ko.at_).1
    have e0 := HE.out.1
    clear wk
    gi_wp2; rw [HE.out.1]
    clear c0 e0 hlt hk
    gi_loopw [14] (fun x wi => ∃ i : Nat, i ≤ Wd ∧ x = .int .i64 (i : Int) ∧ AllAt own bs N0 (Hd * Wd) J W (k * Wd + i) wi) (fun x _ => Wd - (intOf x).toNat)
    case atStart => exact ⟨0, by omega, rfl, HA.out⟩
    case round =>
     obtain ⟨i, hi, rfl, ha⟩ := hrel
     clear HA
     have HA := H7 ha
     clear ha
     by_cases hlt2 : i < Wd
     · have HLT2 := H7 hlt2
       have wi1 : wrap64 ((i : Int) + 1) = ((i + 1 : Nat) : Int) := by have := HB.out; unfold wrap64; omega
       have HWI := H7 wi1
       have hpl : k * Wd + i < Hd * Wd := by
        have h1 : (k + 1) * Wd ≤ Hd * Wd := Nat.mul_le_mul_right _ HLT.out
        rw [Nat.succ_mul] at h1
        omega
       obtain ⟨fn, tmps, assign, body, hy, hR⟩ := HY.out _ (⟨k * Wd + i, hpl⟩ : Fin (Hd * Wd)) wr HA.out.j (by rw [firsts_length (Nat.le_of_lt hpl)]; exact hpl)
       have he : ptK Wd (k * Wd + i) = ⟨(i : Int), (k : Int)⟩ := ptK_at hlt2
       simp only [he, PtT.val] at hy
       have hs := firsts_succ (N := Hd * Wd) (k := k * Wd + i) hpl
       rw [hs] at hR
       clear hs he hpl wi1 hi
       gi_wp2
       refine hR.mono ?_
       rintro e w4 (⟨rfl, hJ4, hk4⟩ | ⟨rfl, hJx⟩)
       · have HA4 := H7 (show AllAt own bs N0 (Hd * Wd) J W (k * Wd + (i + 1)) w4 from ⟨hJ4, HA.out.ko.trans hk4, hk4.wf HA.out.wf⟩)
         clear hJ4 hk4
         gi_wp2
         go_roundw
         case rel => exact ⟨i + 1, HLT2.out, by first | exact congrArg (Value.int .i64) HWI.out | exact congrArg (Value.int .i64) (Int.natCast_succ i).symm, HA4.out⟩
         case measure => (try rw [HWI.out]); have := HLT2.out; simp only [intOf]; omega
       · have HJ3 := H7 hJx
         clear hJx
         gi_wp2; rw [Exit.noGoto_normal]
         go_end0
         exact ⟨⟨_, rfl⟩, .inr ⟨_, firsts_prefix _ _, HJ3.out⟩⟩
     · have HN2 := H7 (show k * Wd + i = (k + 1) * Wd by rw [Nat.succ_mul]; omega)
       clear hi
       gi_wp2
       go_roundw
       case rel => exact ⟨k + 1, HLT.out, by first | exact congrArg (Value.int .i64) HWK.out | exact congrArg (Value.int .i64) (Int.natCast_succ k).symm, by have := HA.out; rwa [HN2.out] at this⟩
       case measure => (try rw [HWK.out]); have := HLT.out; simp only [intOf]; omega
  · obtain rfl : k = Hd := by omega
    have HJ := H7 (show J (List.finRange (k * Wd)) wr by have := HA.out.j; rwa [firsts_all] at this)
    clear hk hlt
    gi_wp2; rw [Exit.noGoto_normal]
    go_end0
    exact ⟨⟨_, rfl⟩, .inl ⟨_, rfl, HJ.out⟩⟩
theorem points_iter (own : World → Nat → Prop) (w : World) (ho : OwnSt own w.heap.size) (hwf : ∀ q, own w q → q < w.heap.size) (Bs : Nat) (bs : List Nat) (wi hi Wd Hd : Nat) (hwi : 8 * wi = Wd) (hhi : 8 * hi = Hd) (hw : wi ≤ 4) (hh : hi ≤ 4)
 (hbs : ∀ c ∈ bs, c < w.heap.size) (hb1 : Bs ∈ bs) (hc0 : w.cell? ⟨Bs, 0, none⟩ = some (.int .i64 wi)) (hc1 : w.cell? ⟨Bs, 1, none⟩ = some (.int .i64 hi)) :
 IterO Tryz.prog 106 #[.pointer (some ⟨Bs, 0, none⟩)] (Hd * Wd) (fun i => #[(ptK Wd i.1).val]) own bs w := by
 intro n hn1 L J Jx W hW hJ _ hY h0
 have e := ho w W (fun k hk => hW.block k hk)
 exact points1_any n hn1 own w.heap.size ho L Bs bs wi hi Wd Hd hwi hhi hw hh J Jx (fun pre x y h hb => hJ pre x y none h (below_grown hb) (by simp)) hb1 hY W hW.size (fun c hc => Nat.lt_of_lt_of_le (hbs c hc) hW.size) (fun q hq => Nat.lt_of_lt_of_le (hwf q ((e q).1 hq)) hW.size)
  ((hW.cell (p := ⟨Bs, 0, none⟩) (hbs Bs hb1)).trans hc0) ((hW.cell (p := ⟨Bs, 1, none⟩) (hbs Bs hb1)).trans hc1) h0
theorem points_cl (wi hi : Int) (w : World) :
 Calls Tryz.prog 79 #[.agg #[.int .i64 wi, .int .i64 hi]] w fun e w' => e = .returned (.func (.func 106) #[] #[.pointer (some ⟨w.heap.size, 0, none⟩)]) ∧ w.alloc (.cells #[.int .i64 wi, .int .i64 hi] 79) = w' := by
 go_enter Tryz.func79, Tryz.ntmps79
 go_wp2
 go_ret
 exact ⟨rfl, rfl⟩
/- Layer 5: Differ. -/
theorem CanAt.two {w : World} {p : Nat} {C : CanT} (h : CanAt w p C) : w.cell? ⟨p, 0, none⟩ = some (.int .i64 C.wide) ∧ w.cell? ⟨p, 1, none⟩ = some (.int .i64 C.high) := by
 obtain ⟨ok, b, cap, qs, h1, -⟩ := h
 exact ⟨c7b h1 rfl, c7b h1 rfl⟩
def isD (C D : CanT) (k : Nat) : Bool := decide (colP C (ptK (8 * C.wide) k) ≠ colP D (ptK (8 * C.wide) k))
/-- Where two canvases differ, row by row. -/
def diffL (C D : CanT) : List PtT := gathL (8 * C.wide) (isD C D) (8 * C.high * (8 * C.wide))
def takeD (W : Nat) (is : Nat → Bool) {N : Nat} (pre : List (Fin N)) : List PtT := (pre.filter fun x => is x.1).map fun x => ptK W x.1
theorem takeD_snoc (W : Nat) (is : Nat → Bool) {N : Nat} (pre : List (Fin N)) (x : Fin N) : takeD W is (pre ++ [x]) = takeD W is pre ++ (if is x.1 = true then [ptK W x.1] else []) := by
 unfold takeD
 rw [List.filter_append, List.map_append]
 congr 1
 by_cases h : is x.1 = true <;> simp [h]
theorem takeD_len (W : Nat) (is : Nat → Bool) {N : Nat} (pre : List (Fin N)) : (takeD W is pre).length ≤ pre.length := by
 unfold takeD
 rw [List.length_map]
 exact List.length_filter_le _ _
theorem finRange_val (n : Nat) : (List.finRange n).map (fun x => x.1) = List.range n := by
 refine List.ext_getElem (by simp) fun i h1 h2 => ?_
 simp
theorem takeD_all (W : Nat) (is : Nat → Bool) (N : Nat) : takeD W is (List.finRange N) = gathL W is N := by
 unfold takeD gathL
 rw [← finRange_val, List.filter_map, List.map_map]
 rfl
set_option maxRecDepth 100000 in
set_option maxHeartbeats 1000000 in
theorem differCl_any (B1 B2 c d : Nat) (C D : CanT) (hw : C.wide = D.wide) (hh : C.high = D.high) (x y : Nat) (hx : x < 8 * C.wide) (hy : y < 8 * C.high) (w : World)
 (h1 : w.heap[B1]? = some (.cells #[.pointer (some ⟨c, 0, none⟩)] 28 (0, 0))) (h2 : w.heap[B2]? = some (.cells #[.pointer (some ⟨d, 0, none⟩)] 28 (0, 0))) (hC : CanAt w c C) (hD : CanAt w d D) :
 Calls Tryz.prog 77 #[.agg #[.int .i64 x, .int .i64 y], .pointer (some ⟨B1, 0, none⟩), .pointer (some ⟨B2, 0, none⟩)] w (Gives (.bool (decide (colC C x y ≠ colC D x y))) w) := by
 have HS := H7 (St.start w)
 have H1 := H7 (BlkA.mk h1)
 have H2 := H7 (BlkA.mk h2)
 have HA := H7 (fun w' h => at_on C c x y hx hy w' h)
 have HB := H7 (fun w' h => at_on D d x y (by omega) (by omega) w' h)
 have HC := H7 hC
 have HD := H7 hD
 obtain ⟨p, hp⟩ : ∃ p, colC C x y = p := ⟨_, rfl⟩
 obtain ⟨q, hq⟩ : ∃ q, colC D x y = q := ⟨_, rfl⟩
 rw [hp] at HA ⊢
 rw [hq] at HB ⊢
 obtain ⟨pr, pg, pb, pa⟩ := p
 obtain ⟨qr, qg, qb, qa⟩ := q
 unfold ColT.val at HA HB
 simp only at HA HB
 clear hw hh hx hy h1 h2 hC hD hp hq
 go_enter Tryz.func77, Tryz.ntmps77
 repeat ((fail_if_success (with_reducible refine stop_at (id := 1) ?_)); (first | go_values | go_skip | go_guarded | go_step | go_upon | go_back | (simp only [Int.not_lt, Int.not_le] at *; go_simp) | (go_values <;> (try go_simp)) | (go_ite <;> go_prune <;> (try go_simp)) | (split <;> (first | (rename_i hx; exact (hx _ rfl).elim) | go_prune))))
 have hs_ := HS.out.alloc (.cells #[.int .i64 x, .int .i64 y] 26)
 have hk_HC := HC.out.below ((B7 _ _).alloc (Nat.le_refl _) (.cells #[.int .i64 x, .int .i64 y] 26))
 have hk_HD := HD.out.below ((B7 _ _).alloc (Nat.le_refl _) (.cells #[.int .i64 x, .int .i64 y] 26))
 have hk_H1 := H1.out.below ((B7 _ _).alloc (Nat.le_refl _) (.cells #[.int .i64 x, .int .i64 y] 26))
 have hk_H2 := H2.out.below ((B7 _ _).alloc (Nat.le_refl _) (.cells #[.int .i64 x, .int .i64 y] 26))
 obtain ⟨w1, hw_⟩ : ∃ w1 : World, w.alloc (.cells #[.int .i64 x, .int .i64 y] 26) = w1 := ⟨_, rfl⟩
 rw [hw_] at hs_ hk_HC hk_HD hk_H1 hk_H2
 have HS := H7 hs_
 have HC := H7 hk_HC
 have HD := H7 hk_HD
 have H1 := H7 hk_H1
 have H2 := H7 hk_H2
 rw [hw_]
 clear hw_ hs_ hk_HC hk_HD hk_H1 hk_H2
 have b0 := c7b (k := 0) H1.out.at_ rfl
 have p0 := h7c HS 0 0 rfl rfl
 have p1 := h7c HS 0 1 rfl rfl
 go_wp2_with fail
 clear b0 p0 p1
 refine (HA.out _ HC.out).mono ?_
 rintro e w2 ⟨rfl, hb_⟩
 have HS := H7 (HS.out.below hb_)
 have HC := H7 (HC.out.below hb_)
 have HD := H7 (HD.out.below hb_)
 have H1 := H7 (H1.out.below hb_)
 have H2 := H7 (H2.out.below hb_)
 clear hb_
 repeat ((fail_if_success (with_reducible refine stop_at (id := 2) ?_)); (first | go_values | go_skip | go_guarded | go_step | go_upon | go_back | (simp only [Int.not_lt, Int.not_le] at *; go_simp) | (go_values <;> (try go_simp)) | (go_ite <;> go_prune <;> (try go_simp)) | (split <;> (first | (rename_i hx; exact (hx _ rfl).elim) | go_prune))))
 have hs_ := HS.out.alloc (.cells #[.int .u8 pr, .int .u8 pg, .int .u8 pb, .int .u8 pa] 34)
 have hk_HC := HC.out.below ((B7 _ _).alloc (Nat.le_refl _) (.cells #[.int .u8 pr, .int .u8 pg, .int .u8 pb, .int .u8 pa] 34))
 have hk_HD := HD.out.below ((B7 _ _).alloc (Nat.le_refl _) (.cells #[.int .u8 pr, .int .u8 pg, .int .u8 pb, .int .u8 pa] 34))
 have hk_H1 := H1.out.below ((B7 _ _).alloc (Nat.le_refl _) (.cells #[.int .u8 pr, .int .u8 pg, .int .u8 pb, .int .u8 pa] 34))
 have hk_H2 := H2.out.below ((B7 _ _).alloc (Nat.le_refl _) (.cells #[.int .u8 pr, .int .u8 pg, .int .u8 pb, .int .u8 pa] 34))
 obtain ⟨w3, hw_⟩ : ∃ w3 : World, w2.alloc (.cells #[.int .u8 pr, .int .u8 pg, .int .u8 pb, .int .u8 pa] 34) = w3 := ⟨_, rfl⟩
 rw [hw_] at hs_ hk_HC hk_HD hk_H1 hk_H2
 have HS := H7 hs_
 have HC := H7 hk_HC
 have HD := H7 hk_HD
 have H1 := H7 hk_H1
 have H2 := H7 hk_H2
 rw [hw_]
 clear hw_ hs_ hk_HC hk_HD hk_H1 hk_H2
 have b0 := c7b (k := 0) H2.out.at_ rfl
 have p0 := h7c HS 1 0 rfl rfl
 have p1 := h7c HS 1 1 rfl rfl
 go_wp2_with fail
 clear b0 p0 p1
 refine (HB.out _ HD.out).mono ?_
 rintro e w4 ⟨rfl, hb_⟩
 have HS := H7 (HS.out.below hb_)
 have HC := H7 (HC.out.below hb_)
 have HD := H7 (HD.out.below hb_)
 have H1 := H7 (H1.out.below hb_)
 have H2 := H7 (H2.out.below hb_)
 clear hb_
 repeat ((fail_if_success (with_reducible refine stop_at (id := 3) ?_)); (first | go_values | go_skip | go_guarded | go_step | go_upon | go_back | (simp only [Int.not_lt, Int.not_le] at *; go_simp) | (go_values <;> (try go_simp)) | (go_ite <;> go_prune <;> (try go_simp)) | (split <;> (first | (rename_i hx; exact (hx _ rfl).elim) | go_prune))))
 have hs_ := HS.out.alloc (.cells #[.int .u8 qr, .int .u8 qg, .int .u8 qb, .int .u8 qa] 34)
 have hk_HC := HC.out.below ((B7 _ _).alloc (Nat.le_refl _) (.cells #[.int .u8 qr, .int .u8 qg, .int .u8 qb, .int .u8 qa] 34))
 have hk_HD := HD.out.below ((B7 _ _).alloc (Nat.le_refl _) (.cells #[.int .u8 qr, .int .u8 qg, .int .u8 qb, .int .u8 qa] 34))
 have hk_H1 := H1.out.below ((B7 _ _).alloc (Nat.le_refl _) (.cells #[.int .u8 qr, .int .u8 qg, .int .u8 qb, .int .u8 qa] 34))
 have hk_H2 := H2.out.below ((B7 _ _).alloc (Nat.le_refl _) (.cells #[.int .u8 qr, .int .u8 qg, .int .u8 qb, .int .u8 qa] 34))
 obtain ⟨w5, hw_⟩ : ∃ w5 : World, w4.alloc (.cells #[.int .u8 qr, .int .u8 qg, .int .u8 qb, .int .u8 qa] 34) = w5 := ⟨_, rfl⟩
 rw [hw_] at hs_ hk_HC hk_HD hk_H1 hk_H2
 have HS := H7 hs_
 have HC := H7 hk_HC
 have HD := H7 hk_HD
 have H1 := H7 hk_H1
 have H2 := H7 hk_H2
 rw [hw_]
 clear hw_ hs_ hk_HC hk_HD hk_H1 hk_H2
 have q0 := h7c HS 0 0 rfl rfl
 have q1 := h7c HS 0 1 rfl rfl
 have q2 := h7c HS 0 2 rfl rfl
 have q3 := h7c HS 0 3 rfl rfl
 have p0 := h7c HS 1 0 rfl rfl
 have p1 := h7c HS 1 1 rfl rfl
 have p2 := h7c HS 1 2 rfl rfl
 have p3 := h7c HS 1 3 rfl rfl
 by_cases g1 : pr = qr <;> by_cases g2 : pg = qg <;> by_cases g3 : pb = qb <;> by_cases g4 : pa = qa <;> (
  go_wp2_with fail
  go_ret
  exact ⟨ret_bool (by simp [g1, g2, g3, g4]), HS.out.low⟩)
set_option maxRecDepth 100000 in
set_option maxHeartbeats 4000000 in
theorem differ_any (C D : CanT) (c d : Nat) (hw : C.wide = D.wide) (hh : C.high = D.high) (w : World) (hC : CanAt w c C) (hD : CanAt w d D) :
 Calls Tryz.prog 38 #[.pointer (some ⟨c, 0, none⟩), .pointer (some ⟨d, 0, none⟩)] w (GivesRow 26 2 (diffL C D).length ((diffL C D).flatMap encP) w) := by
 have HS := H7 (St.start w)
 have HC := H7 hC
 have HD := H7 hD
 have HCL := H7 (fun B1 B2 x y hx hy w' h1 h2 h3 h4 => differCl_any B1 B2 c d C D hw hh x y hx hy w' h1 h2 h3 h4)
 obtain ⟨wi, hwi⟩ : ∃ wi, C.wide = wi := ⟨_, rfl⟩
 obtain ⟨hi, hhi⟩ : ∃ hi, C.high = hi := ⟨_, rfl⟩
 obtain ⟨Wd, hWd⟩ : ∃ Wd, 8 * wi = Wd := ⟨_, rfl⟩
 obtain ⟨Hd, hHd⟩ : ∃ Hd, 8 * hi = Hd := ⟨_, rfl⟩
 have HWH := H7 (show wi ≤ 4 ∧ hi ≤ 4 ∧ 8 * wi = Wd ∧ 8 * hi = Hd ∧ 8 * C.wide = Wd ∧ 8 * C.high = Hd by have h1 := hC.ok.wide; have h2 := hC.ok.high; rw [hwi, hhi, hWd, hHd]; omega)
 have HT := H7 (fun w' (h : CanAt w' c C) => show w'.cell? ⟨c, 0, none⟩ = some (.int .i64 wi) ∧ w'.cell? ⟨c, 1, none⟩ = some (.int .i64 hi) by have := h.two; rw [hwi, hhi] at this; exact this)
 have HU := H7 (fun w' (h : CanAt w' d D) => show w'.cell? ⟨d, 0, none⟩ = some (.int .i64 wi) ∧ w'.cell? ⟨d, 1, none⟩ = some (.int .i64 hi) by have := h.two; rw [← hw, ← hh, hwi, hhi] at this; exact this)
 rw [HWH.out.2.2.2.2.1, HWH.out.2.2.2.2.2] at HCL
 obtain ⟨L, hL⟩ : ∃ L, diffL C D = L := ⟨_, rfl⟩
 obtain ⟨is, his⟩ : ∃ is, isD C D = is := ⟨_, rfl⟩
 have HL := H7 (show gathL Wd is (Hd * Wd) = L by rw [← hL, ← his]; unfold diffL; rw [HWH.out.2.2.2.2.1, HWH.out.2.2.2.2.2])
 have HIS := H7 (fun (x y : Nat) (hx : x < Wd) => show is (y * Wd + x) = decide (colC C x y ≠ colC D x y) by
  rw [← his]
  unfold isD
  rw [HWH.out.2.2.2.2.1, ptK_at hx]
  rfl)
 rw [hL]
 have HZW := H7 (show Hd * Wd ≤ 1024 from Nat.mul_le_mul (show Hd ≤ 32 by have := HWH.out; omega) (show Wd ≤ 32 by have := HWH.out; omega))
 clear hw hh hC hD hwi hhi hWd hHd hL his
 refine (callsIn_wide (n := 10)).1 ?_
 refine callsIn_of_wp_marks Tryz.func38 rfl trivial ?_ rfl
 simp only [Tryz.ntmps38, List.size_toArray, List.length_cons, List.length_nil, Nat.reduceAdd, Nat.reduceSub, Array.replicate_succ, Array.replicate_zero, List.push_toArray, List.append_toArray, List.nil_append, List.cons_append]
 repeat ((fail_if_success (with_reducible refine stop_atI (id := 1) ?_)); (first | go_values | gi_guarded | gi_step | gi_upon | gi_back | (simp only [Int.not_lt, Int.not_le] at *; go_simp) | (go_values <;> (try go_simp)) | (go_ite <;> go_prune <;> (try go_simp)) | (split <;> (first | (rename_i hx; exact (hx _ rfl).elim) | go_prune))))
 have hs_ := ((HS.out.alloc (.cells #[.pointer (some ⟨c, 0, none⟩)] 28)).alloc (.cells #[.pointer (some ⟨d, 0, none⟩)] 28))
 obtain ⟨w1, hw_⟩ : ∃ w1 : World, ((w.alloc (.cells #[.pointer (some ⟨c, 0, none⟩)] 28)).alloc (.cells #[.pointer (some ⟨d, 0, none⟩)] 28)) = w1 := ⟨_, rfl⟩
 rw [hw_] at hs_
 try simp only [World.size_alloc] at hs_
 have HS := H7 hs_
 rw [hw_]
 clear hw_ hs_
 have HC0 := HC
 have HD0 := HD
 have HC := H7 (HC.out.below HS.out.low)
 have HD := H7 (HD.out.below HS.out.low)
 apply w7v 17 (Rl := [(eqv _), (eqv _), (eqv _), (eqv _), (eqv _), (eqv _), (eqv _), (eqv _), (eqv _), (eqv _), (eqv _), (eqv _), (eqv _), (eqv _), (eqv _), (eqv _), (eqv _)]) (C := (fun x y => Below x.heap.size x y))
 case hm => kernel_rfl
 case hk => rfl
 case hCr => exact (fun _ => B7 _ _)
 case hCt => intro _ _ _; exact (fun h k => g7t h k)
 case hst => repeat (first | exact trivial | refine ⟨fun _ _ _ _ h => h, ?_⟩)
 case hfo => kernel_rfl
 case ht => kernel_rfl
 case hC0 => exact (g7d _)
 case hsteps =>
  refine ⟨?_, ?_, ?_, ?_, ?_, ?_, ?_, ?_, ?_, ?_, ?_, ?_, ?_, ?_, ?_, ?_, ?_, trivial⟩
  · intro a' w' hA hC hD; have s2 := hA.to 2 (by kernel_rfl) rfl
    have h1_ := (HS.out.below hC).blockAt 1 rfl; have c1_0 := c7b (k := 0) h1_ rfl; clear h1_
    clear hA hD; refine o7p rfl ?_; intro K hK; gi_wp2; exact hK _ _ rfl (B7 _ _)
  · intro a' w' hA hC hD; obtain ⟨u8, s8, rfl⟩ := hD ⟨0, .data⟩ (by simp) rfl _ rfl; clear hA hD; refine o7p rfl ?_; intro K hK; gi_wp2; exact hK _ _ rfl (B7 _ _)
  · intro a' w' hA hC hD; obtain ⟨u9, s9, rfl⟩ := hD ⟨1, .data⟩ (by simp) rfl _ rfl; clear hA hD; refine o7p rfl ?_; intro K hK; gi_wp2; exact hK _ _ rfl (B7 _ _)
  · intro a' w' hA hC hD; have s3 := hA.to 3 (by kernel_rfl) rfl; obtain ⟨u10, s10, rfl⟩ := hD ⟨2, .guard⟩ (by simp) rfl _ rfl
    have h1_ := (HS.out.below hC).blockAt 0 rfl; have c1_0 := c7b (k := 0) h1_ rfl; clear h1_
    clear hA hD; refine o7w rfl rfl s10 ?_; intro K hK; gi_wp2; exact hK _ _ rfl (B7 _ _)
  · intro a' w' hA hC hD; obtain ⟨u11, s11, rfl⟩ := hD ⟨3, .data⟩ (by simp) rfl _ rfl; obtain ⟨u10, s10, rfl⟩ := hD ⟨2, .guard⟩ (by simp) rfl _ rfl; clear hA hD; refine o7w rfl rfl s10 ?_; intro K hK; gi_wp2; exact hK _ _ rfl (B7 _ _)
  · intro a' w' hA hC hD; obtain ⟨u10, s10, rfl⟩ := hD ⟨2, .data⟩ (by simp) rfl _ rfl; obtain ⟨u12, s12, rfl⟩ := hD ⟨4, .data⟩ (by simp) rfl _ rfl; clear hA hD; refine o7p rfl ?_; intro K hK; gi_wp2; exact hK _ _ rfl (B7 _ _)
  · intro a' w' hA hC hD; obtain ⟨u13, s13, rfl⟩ := hD ⟨5, .data⟩ (by simp) rfl _ rfl; clear hA hD; refine o7p rfl ?_; intro K hK; gi_wp2; exact hK _ _ rfl (B7 _ _)
  · intro a' w' hA hC hD; have s2 := hA.to 2 (by kernel_rfl) rfl; obtain ⟨u14, s14, rfl⟩ := hD ⟨6, .guard⟩ (by simp) rfl _ rfl
    have h1_ := (HS.out.below hC).blockAt 1 rfl; have c1_0 := c7b (k := 0) h1_ rfl; clear h1_
    clear hA hD; refine o7w rfl rfl s14 ?_; intro K hK; gi_wp2; exact hK _ _ rfl (B7 _ _)
  · intro a' w' hA hC hD; obtain ⟨u15, s15, rfl⟩ := hD ⟨7, .data⟩ (by simp) rfl _ rfl; obtain ⟨u14, s14, rfl⟩ := hD ⟨6, .guard⟩ (by simp) rfl _ rfl; clear hA hD; refine o7w rfl rfl s14 ?_; intro K hK; gi_wp2; exact hK _ _ rfl (B7 _ _)
  · intro a' w' hA hC hD; obtain ⟨u16, s16, rfl⟩ := hD ⟨8, .data⟩ (by simp) rfl _ rfl; obtain ⟨u14, s14, rfl⟩ := hD ⟨6, .guard⟩ (by simp) rfl _ rfl; clear hA hD; refine o7w rfl rfl s14 ?_; intro K hK; gi_wp2; exact hK _ _ rfl (B7 _ _)
  · intro a' w' hA hC hD; obtain ⟨u17, s17, rfl⟩ := hD ⟨9, .data⟩ (by simp) rfl _ rfl; obtain ⟨u14, s14, rfl⟩ := hD ⟨6, .guard⟩ (by simp) rfl _ rfl
    have t0 := (HT.out w' (HC.out.below hC)).1; have t1 := (HT.out w' (HC.out.below hC)).2
    clear hA hD; refine o7w rfl rfl s14 ?_; intro K hK; gi_wp2; exact hK _ _ rfl (B7 _ _)
  · intro a' w' hA hC hD; have s3 := hA.to 3 (by kernel_rfl) rfl; obtain ⟨u14, s14, rfl⟩ := hD ⟨6, .guard⟩ (by simp) rfl _ rfl
    have h1_ := (HS.out.below hC).blockAt 0 rfl; have c1_0 := c7b (k := 0) h1_ rfl; clear h1_
    clear hA hD; refine o7w rfl rfl s14 ?_; intro K hK; gi_wp2; exact hK _ _ rfl (B7 _ _)
  · intro a' w' hA hC hD; obtain ⟨u19, s19, rfl⟩ := hD ⟨11, .data⟩ (by simp) rfl _ rfl; obtain ⟨u14, s14, rfl⟩ := hD ⟨6, .guard⟩ (by simp) rfl _ rfl; clear hA hD; refine o7w rfl rfl s14 ?_; intro K hK; gi_wp2; exact hK _ _ rfl (B7 _ _)
  · intro a' w' hA hC hD; obtain ⟨u20, s20, rfl⟩ := hD ⟨12, .data⟩ (by simp) rfl _ rfl; obtain ⟨u14, s14, rfl⟩ := hD ⟨6, .guard⟩ (by simp) rfl _ rfl; clear hA hD; refine o7w rfl rfl s14 ?_; intro K hK; gi_wp2; exact hK _ _ rfl (B7 _ _)
  · intro a' w' hA hC hD; obtain ⟨u21, s21, rfl⟩ := hD ⟨13, .data⟩ (by simp) rfl _ rfl; obtain ⟨u14, s14, rfl⟩ := hD ⟨6, .guard⟩ (by simp) rfl _ rfl
    have t0 := (HU.out w' (HD.out.below hC)).1; have t1 := (HU.out w' (HD.out.below hC)).2
    clear hA hD; refine o7w rfl rfl s14 ?_; intro K hK; gi_wp2; exact hK _ _ rfl (B7 _ _)
  · intro a' w' hA hC hD; obtain ⟨u18, s18, rfl⟩ := hD ⟨10, .data⟩ (by simp) rfl _ rfl; obtain ⟨u22, s22, rfl⟩ := hD ⟨14, .data⟩ (by simp) rfl _ rfl; obtain ⟨u14, s14, rfl⟩ := hD ⟨6, .guard⟩ (by simp) rfl _ rfl; clear hA hD; refine o7w rfl rfl s14 ?_; intro K hK; gi_wp2; exact hK _ _ rfl (B7 _ _)
  · intro a' w' hA hC hD; obtain ⟨u14, s14, rfl⟩ := hD ⟨6, .data⟩ (by simp) rfl _ rfl; obtain ⟨u23, s23, rfl⟩ := hD ⟨15, .data⟩ (by simp) rfl _ rfl; clear hA hD; refine o7p rfl ?_; intro K hK; gi_wp2; exact hK _ _ rfl (B7 _ _)
 case hend =>
  intro w2 hC
  simp only [EndFrom, eqv, forall_eq, Act.put, List.length_cons, List.length_nil, List.drop_succ_cons, List.drop_zero, Nat.reduceAdd, List.setIfInBounds_toArray, List.set_cons_succ, List.set_cons_zero]
  have HS := H7 (HS.out.below hC)
  have HC := H7 (HC.out.below hC)
  have HD := H7 (HD.out.below hC)
  clear hC
  clear HC HD
  repeat ((fail_if_success (with_reducible refine stop_atI (id := 5) ?_)); (first | go_values | gi_guarded | gi_step | gi_upon | gi_back | (simp only [Int.not_lt, Int.not_le] at *; go_simp) | (go_values <;> (try go_simp)) | (go_ite <;> go_prune <;> (try go_simp)) | (split <;> (first | (rename_i hx; exact (hx _ rfl).elim) | go_prune))))
  have hs_ := ((HS.out.alloc (.cells #[.func (.func 77) #[] #[.pointer (some ⟨w.heap.size, 0, none⟩), .pointer (some ⟨w.heap.size + 1, 0, none⟩)]] 44)).alloc (.cells #[.slice none 0 0] 39))
  obtain ⟨w3, hw_⟩ : ∃ w3 : World, ((w2.alloc (.cells #[.func (.func 77) #[] #[.pointer (some ⟨w.heap.size, 0, none⟩), .pointer (some ⟨w.heap.size + 1, 0, none⟩)]] 44)).alloc (.cells #[.slice none 0 0] 39)) = w3 := ⟨_, rfl⟩
  rw [hw_] at hs_
  try simp only [World.size_alloc] at hs_
  have HS := H7 hs_
  rw [hw_]
  clear hw_ hs_
  have b1 := h7c HS 3 0 rfl rfl
  have t0 := (HT.out w3 (HC0.out.below HS.out.low)).1
  have t1 := (HT.out w3 (HC0.out.below HS.out.low)).2
  gi_wp2_with fail
  clear b1 t0 t1
  refine (callsIn_wide.2 (points_cl wi hi w3)).mono ?_
  rintro e w' ⟨rfl, rfl⟩
  have hs_ := (HS.out.alloc (.cells #[.int .i64 wi, .int .i64 hi] 79))
  obtain ⟨w4, hw_⟩ : ∃ w4 : World, (w3.alloc (.cells #[.int .i64 wi, .int .i64 hi] 79)) = w4 := ⟨_, rfl⟩
  rw [hw_] at hs_
  try simp only [World.size_alloc] at hs_
  have HS := H7 hs_
  rw [hw_]
  clear hw_ hs_
  gi_wp2_with fail
  have hbx : BoxS w [.blk w2.heap.size (.cells #[.func (.func 77) #[] #[.pointer (some ⟨w.heap.size, 0, none⟩), .pointer (some ⟨w.heap.size + 1, 0, none⟩)]] 44 (0, 0)), .blk (w.heap.size + 1) (.cells #[.pointer (some ⟨d, 0, none⟩)] 28 (0, 0)), .blk w.heap.size (.cells #[.pointer (some ⟨c, 0, none⟩)] 28 (0, 0))] w4.heap.size (w2.heap.size + 1) 39 26 2 encP (.slice none 0 0) ([] : List PtT) w4 := by
   have h1 := HS.out.ord
   have h2 := HS.out.lt 1 rfl
   refine ⟨StO.start (HS.out.sub (.cons _ (.cons _ (List.Sublist.refl _)))) _ _ _, HS.out.blockAt 1 rfl, ?_, ?_, h2⟩
   · have h3 := h1.2.2.2.1
     simpa using h3
   · have := HS.out.low.size
     simp [ItOrd, It.top] at h1
     omega
  have hord : w2.heap.size + 1 < w3.heap.size ∧ w3.heap.size < w4.heap.size ∧ w.heap.size ≤ w4.heap.size := by
   have h1 := HS.out.ord
   have h2 := HS.out.lt 0 rfl
   have h3 := HS.out.size
   simp [ItOrd, It.top] at h1
   omega
  have HO := H7 hord
  have hbs : ∀ b ∈ [w3.heap.size], b < w4.heap.size := by intro b hb; rw [List.mem_singleton.1 hb]; exact hord.2.1
  have hit := points_iter (ownBox (w2.heap.size + 1) 39) w4 (ownSt_box (by omega)) hbx.wf w3.heap.size [w3.heap.size] wi hi Wd Hd HWH.out.2.2.1 HWH.out.2.2.2.1 HWH.out.1 HWH.out.2.1 hbs (by simp) (c7b (HS.out.blockAt 0 rfl) rfl) (c7b (HS.out.blockAt 0 rfl) rfl)
  have HBX := H7 hbx
  clear HS hbx
  apply with_actIn
  intro a0 ha0
  refine range_iterO hit (by omega) (ownSt_box (by omega)) (by rw [ha0]; rfl) (enters_of Tryz.func106 (by kernel_rfl) rfl) hbs (fun _ => rfl) (fun x => [(31, (ptK Wd x.1).val)]) (fun _ => by simp)
   (fun pre W => (∃ v, BoxS w [.blk w2.heap.size (.cells #[.func (.func 77) #[] #[.pointer (some ⟨w.heap.size, 0, none⟩), .pointer (some ⟨w.heap.size + 1, 0, none⟩)]] 44 (0, 0)), .blk (w.heap.size + 1) (.cells #[.pointer (some ⟨d, 0, none⟩)] 28 (0, 0)), .blk w.heap.size (.cells #[.pointer (some ⟨c, 0, none⟩)] 28 (0, 0))] w4.heap.size (w2.heap.size + 1) 39 26 2 encP v (takeD Wd is pre) W) ∧ w4.heap.size ≤ W.heap.size)
   (fun _ _ _ => False) (OwnFrom.and (ownFrom_BoxS _ HO.out.2.2 (by intro b o hb; simp at hb; rcases hb with ⟨_, rfl⟩ | ⟨_, rfl⟩ | ⟨_, rfl⟩ <;> rfl)) (ownFrom_size _)) (fun _ => ownFrom_pure _ _) ⟨⟨_, HBX.out⟩, Nat.le_refl _⟩
   (fun x a' W => ∃ p, a' = loopAct a0 [(31, (ptK Wd x.1).val), (7, .pointer (some ⟨p, 0, none⟩))] ∧ w4.heap.size ≤ p ∧ W.heap[p]? = some (.cells #[.int .i64 (ptK Wd x.1).x, .int .i64 (ptK Wd x.1).y] 26 (0, 0))) ?hAx ?assign ?body ?done ?stop
  case hAx =>
   rintro x a' s X Y row ⟨p, e, hge, hp⟩ hg hr
   exact ⟨p, e, hge, (grownBy_keeps_cells hg (fun r e => (hr r e).2) hp rfl).trans hp⟩
  case assign =>
   rintro ly pre x W K ⟨⟨v, hI⟩, hlt5⟩ hK
   have HK := H7 hK
   have HI := H7 hI
   clear hK hI
   rw [ha0] at HK ⊢
   unfold loopAct at HK ⊢
   simp only [PtT.val, List.foldl, List.setIfInBounds_toArray, List.set_cons_succ, List.set_cons_zero] at HK ⊢
   gi_wp2
   have hb := (B7 W.heap.size W).alloc (Nat.le_refl _) (.cells #[.int .i64 (ptK Wd x.1).x, .int .i64 (ptK Wd x.1).y] 26)
   exact HK.out _ _ (keepsFrom_below hb) (KO.of_below (ownSt_box (by omega)) hb hlt5 (fun c hc => Nat.lt_of_lt_of_le (hbs c hc) hlt5)) ⟨⟨v, HI.out.below hb⟩, Nat.le_trans hlt5 hb.size⟩ ⟨W.heap.size, rfl, hlt5, World.alloc_heap_new W _⟩
  case body =>
   rintro ly pre x a' W ⟨⟨v, hI⟩, hlt5⟩ ⟨p', rfl, hpp, hp⟩ hlen
   rw [ha0]
   unfold loopAct
   obtain ⟨k, hk⟩ : ∃ k, x.1 = k := ⟨_, rfl⟩
   have hkl : k < Hd * Wd := hk ▸ x.2
   have hWp : 0 < Wd := by
    rcases Nat.eq_zero_or_pos Wd with h | h
    · rw [h, Nat.mul_zero] at hkl; omega
    · exact h
   obtain ⟨X, hX⟩ : ∃ X, k % Wd = X := ⟨_, rfl⟩
   obtain ⟨Y, hY⟩ : ∃ Y, k / Wd = Y := ⟨_, rfl⟩
   have hX2 : X < Wd := by rw [← hX]; exact Nat.mod_lt _ hWp
   have hY2 : Y < Hd := by rw [← hY]; exact Nat.div_lt_of_lt_mul (by rw [Nat.mul_comm]; exact hkl)
   have hxy : x.1 = Y * Wd + X := by rw [hk, ← hX, ← hY, Nat.mul_comm]; exact (Nat.div_add_mod _ _).symm
   have hpt : ptK Wd x.1 = ⟨(X : Int), (Y : Int)⟩ := by rw [hxy]; exact ptK_at hX2
   have hsn := takeD_snoc Wd is pre x
   have hle := takeD_len Wd is pre
   rw [hpt] at hp hsn ⊢
   have hisx : is x.1 = decide (colC C X Y ≠ colC D X Y) := by rw [hxy]; exact HIS.out X Y hX2
   rw [hisx] at hsn
   obtain ⟨bv, hbv⟩ : ∃ bv, decide (colC C X Y ≠ colC D X Y) = bv := ⟨_, rfl⟩
   rw [hbv] at hsn
   have HSN := H7 hsn
   obtain ⟨L0, hL0⟩ : ∃ L0, takeD Wd is pre = L0 := ⟨_, rfl⟩
   rw [hL0] at hI hle
   have HL0 := H7 hL0
   obtain ⟨n0, hn0⟩ : ∃ n0, L0.length = n0 := ⟨_, rfl⟩
   have HN0 := H7 (And.intro hn0 (show n0 ≤ 1024 by have := HZW.out; omega))
   have HBX := H7 hI
   have HP := H7 (BlkA.mk hp)
   have hcl := HCL.out w.heap.size (w.heap.size + 1) X Y hX2 hY2 W (hI.o.st.blockAt 2 rfl) (hI.o.st.blockAt 1 rfl) (HC0.out.below hI.o.st.low) (HD0.out.below hI.o.st.low)
   rw [hbv] at hcl
   have HCA := H7 hcl
   have f5 := c7b (k := 0) (hI.o.st.blockAt 0 rfl) rfl
   have q0 := c7b (k := 0) hp rfl
   have q1 := c7b (k := 1) hp rfl
   simp only [PtT.val, List.foldl, List.setIfInBounds_toArray, List.set_cons_succ, List.set_cons_zero]
   clear hI hp hlen hk hkl hX hY hX2 hY2 hxy hpt hsn hle hisx hbv hL0 hn0 hcl hWp
   gi_wp2_with fail
   clear f5 q0 q1
   refine ((callsIn_wide.2 HCA.out).inRound ly).mono ?_
   rintro e W2 ⟨rfl, hb2⟩
   have HB2 := H7 hb2
   have HBX2 := H7 (HBX.out.below hb2)
   have HP2 := H7 (HP.out.below hb2)
   clear hb2
   cases bv with
   | false =>
    gi_wp2
    refine ⟨keepsFrom_below HB2.out, KO.of_below (ownSt_box (by omega)) HB2.out hlt5 (fun c hc => Nat.lt_of_lt_of_le (hbs c hc) hlt5), ⟨v, ?_⟩, Nat.le_trans hlt5 HB2.out.size⟩
    have h1 := HSN.out
    simp only [Bool.false_eq_true, if_false, List.append_nil] at h1
    rw [h1, HL0.out]
    exact HBX2.out
   | true =>
    have f6 := c7b (k := 0) HBX2.out.at_ rfl
    have q0 := c7b (k := 0) HP2.out.at_ rfl
    have q1 := c7b (k := 1) HP2.out.at_ rfl
    gi_wp2_with (gi_at_builtin; refine wpListIn_app1l rowP encP_len encP_one HBX2.out.o (B7 _ _) ⟨(X : Int), (Y : Int)⟩ n0 HN0.out.1 (by have := HN0.out.2; omega) (by decide) _ _ rfl rfl rfl _ rfl (by rfl) ?_; intro v' W3 ho3 hsh hg3 hl3; obtain ⟨ad3, cp3, rfl⟩ := hsh; have c3 := c7b (k := 0) ((hg3.block _ (b7t HBX2.out.at_) (fun e => HBX2.out.nb e.symm)).trans HBX2.out.at_) rfl; have f3 := f7b ((hg3.block _ (b7t HBX2.out.at_) (fun e => HBX2.out.nb e.symm)).trans HBX2.out.at_) 0; have HO3 := H7 ho3; have HG3 := H7 hg3; have HL3 := H7 hl3; clear ho3 hg3 hl3)
    clear f6 q0 q1 c3 f3
    refine ⟨(keepsFrom_below HB2.out).trans (HBX2.out.keepsFrom (B7 _ _) HG3.out), (KO.of_below (ownSt_box (by omega)) HB2.out hlt5 (fun c hc => Nat.lt_of_lt_of_le (hbs c hc) hlt5)).trans (HBX2.out.ko (B7 _ _) HO3.out HG3.out (HL3.out.imp_right fun ⟨b, h1, h2⟩ => ⟨b, h1, Nat.le_of_lt h2⟩) (by omega) (Nat.le_refl _) (Nat.le_trans hlt5 HB2.out.size) (fun b hb => by rw [List.mem_singleton.1 hb]; have := HO.out; omega)), ⟨.slice (some ad3) (n0 + 1) cp3, ?_⟩, ?_⟩
    · have h1 := HSN.out
      simp only [if_true] at h1
      rw [HL0.out] at h1
      rw [h1]
      exact HBX2.out.push (B7 _ _) HO3.out HG3.out
    · rw [World.size_setCell]
      exact Nat.le_trans (Nat.le_trans hlt5 HB2.out.size) HG3.out.size
  case done =>
   rintro D W hD ⟨⟨v, hI⟩, -⟩ hK
   have hall : takeD Wd is (List.finRange (Hd * Wd)) = L := (takeD_all Wd is (Hd * Wd)).trans HL.out
   rw [hall] at hI
   obtain ⟨ad, cap, rfl, -⟩ := hI.o.shape
   have c6 := c7b (k := 0) hI.at_ rfl
   have HI := H7 hI
   have HK := H7 hK
   have HDD := H7 (show w.heap.size ≤ D by have := HO.out; omega)
   rw [ha0]
   dsimp only
   clear hI hK hall hD
   gi_wp2
   refine ret_marked rfl HK.out (v := .slice ad L.length cap) (by simp [results, Tryz.results38, go_sem]) ⟨_, rfl, ownsRow_mono (HI.out.o.row.kept (grownBy_putObj' W D _) ?_) HO.out.2.2, below_putObj HI.out.o.st.low HK.out HDD.out _⟩
   cases hv : (Value.slice ad L.length cap).ownBlock with
   | none => exact .inl rfl
   | some b =>
    refine .inr fun e => ?_
    obtain ⟨cs, f, h1⟩ := ownsRow_typed HI.out.o.row b hv
    cases e
    rw [HK.out] at h1
    cases h1
  case stop =>
   intro D c pre W _ _ h
   exact h.elim
end Go.Proofs.YthcdkkmjnglmjaaGreatDoor
