/- Merged texts: FsM. -/
import Derived.Test.YteklfmacnnmomaaGreatM18
set_option linter.unusedSimpArgs false
set_option linter.unusedVariables false
/- Layer 18: the law FrontierMay. -/
namespace Go.Proofs.YteklfmacnnmomaaGreat
open Go.RowKit Go.Shelf
attribute [local go_sem] Oper.semAt_some
set_option maxRecDepth 100000 in
set_option maxHeartbeats 40000000 in
theorem frontierMay_false (f : Frt) (hok : f.okB = false) (h0 : 0 ≤ f.prop) (a1 : Option Addr) (n1 c1 : Nat) (X : Nat → Nat → Int) (a2 : Option Addr) (n2 c2 : Nat) (Z : List Int) (hZ : Z.length = n2) (h2c : n2 ≤ c2) (w : World) (he1 : Elems w (.slice a1 n1 c1) n1 9 (vecCells X)) (he2 : Elems w (.slice a2 n2 c2) n2 1 (rowC encZ Z)) :
 Calls Tryz.prog 6 #[.agg f.cells, .slice a1 n1 c1, .slice a2 n2 c2] w (Gives (.bool true) w) := by
 have HS := H7 (St.start w)
 have HE1 := H7 (fun w' (hb : Below w.heap.size w w') => he1.below hb)
 have HE2 := H7 (fun w' (hb : Below w.heap.size w w') => he2.below hb)
 have HL := H7 (And.intro hZ h2c)
 have H0 := H7 h0
 clear hZ h2c h0 he1 he2
 go_enter Tryz.func6, Tryz.ntmps6
 repeat ((fail_if_success (with_reducible refine stop_at (id := 1) ?_)); (first | go_values | go_skip | go_guarded | go_step | go_upon | go_back | (simp only [Int.not_lt, Int.not_le] at *; go_simp) | (go_values <;> (try go_simp)) | (go_ite <;> go_prune <;> (try go_simp)) | (split <;> (first | (rename_i hx; exact (hx _ rfl).elim) | go_prune))))
 have hs_ := (HS.out.alloc (.cells f.cells 29))
 obtain ⟨w1, hw_⟩ : ∃ w1 : World, (w.alloc (.cells f.cells 29)) = w1 := ⟨_, rfl⟩
 rw [hw_] at hs_
 try simp only [World.size_alloc] at hs_
 have HS := H7 hs_
 rw [hw_]
 clear hw_ hs_
 go_wp2_with fail
 refine (wakes18_any _).mono ?_
 rintro e w2 ⟨rfl, hb_⟩
 have HS := H7 (HS.out.below hb_)
 clear hb_
 repeat ((fail_if_success (with_reducible refine stop_at (id := 3) ?_)); (first | go_values | go_skip | go_guarded | go_step | go_upon | go_back | (simp only [Int.not_lt, Int.not_le] at *; go_simp) | (go_values <;> (try go_simp)) | (go_ite <;> go_prune <;> (try go_simp)) | (split <;> (first | (rename_i hx; exact (hx _ rfl).elim) | go_prune))))
 have HOK := H7 hok
 refine (wpIn_wide (n := 0)).1 ?_
 repeat (first | (refine ldF _ rfl rfl (HS.out.blockAt 0 rfl) ?_; simp only [Act.put, List.setIfInBounds_toArray, List.set_cons_succ, List.set_cons_zero]) | gi_step)
 refine (callsIn_wide.2 (r18Right_any f _)).mono ?_
 rintro e w3 ⟨rfl, hb_⟩
 have HS := H7 (HS.out.below hb_)
 clear hb_
 rw [hok]
 gi_wp2_with fail
 repeat ((fail_if_success (with_reducible refine stop_at (id := 4) ?_)); (first | go_values | go_skip | go_guarded | go_step | go_upon | go_back | (simp only [Int.not_lt, Int.not_le] at *; go_simp) | (go_values <;> (try go_simp)) | (go_ite <;> go_prune <;> (try go_simp)) | (split <;> (first | (rename_i hx; exact (hx _ rfl).elim) | go_prune))))
 refine (wpIn_wide (n := 0)).1 ?_
 repeat (first | (refine ldF _ rfl rfl (HS.out.blockAt 0 rfl) ?_; simp only [Act.put, List.setIfInBounds_toArray, List.set_cons_succ, List.set_cons_zero]) | gi_step)
 refine (callsIn_wide.2 (frCheck_any f _)).mono ?_
 rintro e w4 ⟨rfl, hb_⟩
 have HS := H7 (HS.out.below hb_)
 clear hb_
 rw [hok]
 clear hok
 gi_wp2_with fail
 repeat ((fail_if_success (with_reducible refine stop_at (id := 5) ?_)); (first | go_values | go_skip | go_guarded | go_step | go_upon | go_back | (simp only [Int.not_lt, Int.not_le] at *; go_simp) | (go_values <;> (try go_simp)) | (go_ite <;> go_prune <;> (try go_simp)) | (split <;> (first | (rename_i hx; exact (hx _ rfl).elim) | go_prune))))
 rw [show errOf false 280 = 280 from rfl]
 refine (wpIn_wide (n := 0)).1 ?_
 repeat (first | (exfalso; exact undefB (by assumption)) | (refine bdF _ rfl rfl ?_; simp only [Act.put, List.setIfInBounds_toArray, List.set_cons_succ, List.set_cons_zero]) | gi_step)
 refine (callsIn_wide.2 (frNew_any _)).mono ?_
 rintro e w5 ⟨rfl, hb_⟩
 have HS := H7 (HS.out.below hb_)
 clear hb_
 have hzz := frEq_self frZ
 simp only []; go_at_K
 repeat (first | (refine bdF _ rfl rfl ?_; simp only [Act.put, List.setIfInBounds_toArray, List.set_cons_succ, List.set_cons_zero]) | (refine neF' _ _ _ rfl rfl rfl hzz ?_; simp only [Act.put, List.setIfInBounds_toArray, List.set_cons_succ, List.set_cons_zero]) | gi_step)
 gi_wp2_with (exfalso; exact undefB (by assumption))
 clear hzz
 repeat ((fail_if_success (with_reducible refine stop_at (id := 7) ?_)); (first | go_values | go_skip | go_guarded | go_step | go_upon | go_back | (simp only [Int.not_lt, Int.not_le] at *; go_simp) | (go_values <;> (try go_simp)) | (go_ite <;> go_prune <;> (try go_simp)) | (split <;> (first | (rename_i hx; exact (hx _ rfl).elim) | go_prune))))
 go_wp2_with fail
 go_loopw [55] (fun i wr => ∃ k : Nat, k ≤ n1 ∧ k ≤ 5 ∧ i = .int .i64 (k : Int) ∧ St w [.blk w.heap.size (.cells f.cells 29 (0, 0))] wr) (fun i _ => n1 - (intOf i).toNat)
 case atStart => exact ⟨0, by omega, by omega, rfl, HS.out⟩
 case round =>
  obtain ⟨k, hk, hk5, rfl, hs⟩ := hrel
  clear HS
  have HS := H7 hs
  clear hs
  by_cases hlt : k < n1
  · by_cases h5 : k = 5
    · obtain ⟨b1, o1, rfl, hb1, hc1⟩ := vecRng (HE1.out wr HS.out.low) hlt
      have HC1 := H7 hc1
      clear hb1 hc1
      obtain ⟨S, hS⟩ : ∃ S, X k = S := ⟨_, rfl⟩
      rw [hS] at HC1
      clear hS
      have h5' : ((k : Int) == 5) = true := by rw [h5]; rfl
      clear h5 hk5
      repeat ((fail_if_success (with_reducible refine stop_at (id := 9) ?_)); (first | go_values | go_skip | go_guarded | go_step | go_upon | go_back | (simp only [Int.not_lt, Int.not_le] at *; go_simp) | (go_values <;> (try go_simp)) | (go_ite <;> go_prune <;> (try go_simp)) | (split <;> (first | (rename_i hx; exact (hx _ rfl).elim) | go_prune))))
      refine (wpIn_wide (n := 0)).1 ?_
      repeat (first | (refine ldVr _ rfl rfl HC1.out ?_; simp only [Act.put, List.setIfInBounds_toArray, List.set_cons_succ, List.set_cons_zero]) | (refine nwV rfl ?_; simp only [Act.put, List.setIfInBounds_toArray, List.set_cons_succ, List.set_cons_zero]) | (refine stNewV _ _ rfl rfl rfl rfl rfl ?_; simp only [Act.put, List.setIfInBounds_toArray, List.set_cons_succ, List.set_cons_zero]) | gi_step)
      gi_wp2_with fail
      have hs_ := (HS.out.alloc (.cells (lit9 S) 24))
      obtain ⟨w6, hw_⟩ : ∃ w6 : World, (wr.alloc (.cells (lit9 S) 24)) = w6 := ⟨_, rfl⟩
      rw [hw_] at hs_
      try simp only [World.size_alloc] at hs_
      have HS := H7 hs_
      rw [hw_]
      clear hw_ hs_
      clear HC1
      clear hlt hk
      go_wp2_with fail
      clear h5'
      obtain ⟨kk, hkk⟩ : ∃ x : Int, (k : Int) = x := ⟨_, rfl⟩
      rw [hkk]
      clear hkk
      have HS := H7 HS.out.tl
      go_loopw [23, 21] (fun i v wq => ∃ k : Nat, 1 ≤ k ∧ k ≤ 9 ∧ i = .int .i64 (k : Int) ∧ v = .slice none 0 0 ∧ St w [.blk w.heap.size (.cells f.cells 29 (0, 0))] wq) (fun i _ _ => 9 - (intOf i).toNat)
      case atStart => exact ⟨1, by omega, by omega, rfl, rfl, HS.out⟩
      case round =>
       obtain ⟨k, hk1, hk9, rfl, rfl, hs⟩ := hrel
       clear HS
       have HS := H7 hs
       clear hs
       by_cases hlt : k ≤ 8
       · repeat ((fail_if_success (with_reducible refine stop_at (id := 34) ?_)); (first | go_values | go_skip | go_guarded | go_step | go_upon | go_back | (simp only [Int.not_lt, Int.not_le] at *; go_simp) | (go_values <;> (try go_simp)) | (go_ite <;> go_prune <;> (try go_simp)) | (split <;> (first | (rename_i hx; exact (hx _ rfl).elim) | go_prune))))
         refine (wpIn_wide (n := 0)).1 ?_
         gi_wp2_with (exfalso; exact undefB (by assumption))
         go_wp2_with fail
         go_roundw
         case rel => exact ⟨k + 1, by omega, by omega, by simp, rfl, HS.out⟩
         case measure => simp [intOf]; omega
       · obtain rfl : k = 9 := by omega
         repeat ((fail_if_success (with_reducible refine stop_at (id := 36) ?_)); (first | go_values | go_skip | go_guarded | go_step | go_upon | go_back | (simp only [Int.not_lt, Int.not_le] at *; go_simp) | (go_values <;> (try go_simp)) | (go_ite <;> go_prune <;> (try go_simp)) | (split <;> (first | (rename_i hx; exact (hx _ rfl).elim) | go_prune))))
         obtain ⟨LA, hLA⟩ : ∃ LA : List Int, LA = [] := ⟨_, rfl⟩
         obtain ⟨nA, hnA⟩ : ∃ nA, nA = 0 := ⟨_, rfl⟩
         have HNA := H7 (show LA.length = nA ∧ nA ≤ 9 from by rw [hLA, hnA]; exact ⟨rfl, by omega⟩)
         have HSA := H7 (show sitesL f [] = LA from by rw [hLA]; exact sites_bad HOK.out [])
         have hs := HS.out.addRow (v := .slice none 0 0) (n := nA) (size := 1) (c := rowC encZ LA) (.inl ⟨rfl, hnA⟩)
         generalize wr.heap.size = t0 at hs
         have HS := H7 hs
         clear hs
         have hb1 : min (n2 : Int) 10 ≤ (c2 : Int) := by have := HL.out.2; omega
         have hb0 : 0 ≤ min (n2 : Int) 10 := by omega
         refine (wpIn_wide (n := 0)).1 ?_
         repeat gi_step
         obtain ⟨m, hm⟩ : ∃ m, (min (n2 : Int) 10).toNat = m := ⟨_, rfl⟩
         rw [hm]
         have hm5 : m ≤ n2 ∧ m ≤ 10 := by omega
         obtain ⟨L, hL⟩ : ∃ L, Z.take m = L := ⟨_, rfl⟩
         have hLm : L.length = m := by rw [← hL, List.length_take, HL.out.1]; omega
         have HEL := H7 (hL ▸ Elems.take encZ_len HL.out.1 (HE2.out wr HS.out.low) hm5.1)
         have HLM := H7 (And.intro hLm hm5.2)
         clear hb1 hb0 hm hm5 hL hLm
         refine (callsIn_wide.2 (cloneZn _ L m HLM.out.1 wr HEL.out (by have := HLM.out.2; omega))).mono ?_
         rintro e wp ⟨sv, rfl, hrow, -, hb_⟩
         have HS := H7 (HS.out.below hb_)
         clear hb_
         have HRL := H7 (RowH.mk HLM.out.1 hrow)
         clear hrow HEL
         obtain ⟨a3, c3, rfl⟩ := HRL.out.shape
         have hs := HS.out.addRow HRL.out.el
         generalize wp.heap.size = t1 at hs
         have HS := H7 hs
         clear hs HRL
         gi_wp2_with fail
         go_wp2_with fail
         go_loopw [152, 22] (fun i v wq => ∃ j : Nat, j ≤ m ∧ i = .int .i64 (j : Int) ∧ v = .slice none 0 0 ∧ St w [.row (.slice a3 m c3) m 1 (rowC encZ L) t1, .row (.slice none 0 0) nA 1 (rowC encZ LA) t0, .blk w.heap.size (.cells f.cells 29 (0, 0))] wq) (fun i _ _ => m - (intOf i).toNat)
         case atStart => exact ⟨0, by omega, rfl, rfl, HS.out⟩
         case round =>
          obtain ⟨j, hj, rfl, rfl, hs⟩ := hrel
          clear HS
          have HS := H7 hs
          clear hs
          by_cases hlt : j < m
          · obtain ⟨x, hx⟩ : ∃ x, L[j]? = some x := ⟨_, List.getElem?_eq_getElem (by rw [HLM.out.1]; exact hlt)⟩
            obtain ⟨b3, o3, rfl, hb3, hc3⟩ := zCells HLM.out.1 (HS.out.elems 0 rfl) j x hx
            clear hx hb3
            repeat ((fail_if_success (with_reducible refine stop_at (id := 40) ?_)); (first | go_values | go_skip | go_guarded | go_step | go_upon | go_back | (simp only [Int.not_lt, Int.not_le] at *; go_simp) | (go_values <;> (try go_simp)) | (go_ite <;> go_prune <;> (try go_simp)) | (split <;> (first | (rename_i hx; exact (hx _ rfl).elim) | go_prune))))
            clear hc3
            refine (wpIn_wide (n := 0)).1 ?_
            repeat gi_step
            refine (callsIn_wide.2 (conZ_any none 0 0 [] x rfl (by decide) wr (.inl ⟨rfl, rfl⟩))).mono ?_
            rintro e wc ⟨rfl, hb_⟩
            have HS := H7 (HS.out.below hb_)
            clear hb_
            rw [show decide (x ∈ ([] : List Int)) = false from by simp]
            gi_wp2_with fail
            have hm10 := HLM.out.2
            go_wp2_with fail
            go_roundw
            case rel => exact ⟨j + 1, hlt, by simp, rfl, HS.out⟩
            case measure => exact frM hlt (by simp)
          · obtain rfl : j = m := by omega
            obtain ⟨LS, hLS⟩ : ∃ LS : List Int, LS = [] := ⟨_, rfl⟩
            obtain ⟨nS, hnS⟩ : ∃ nS, nS = 0 := ⟨_, rfl⟩
            have HNS := H7 (show LS.length = nS ∧ nS ≤ 10 from by rw [hLS, hnS]; exact ⟨rfl, by omega⟩)
            have HSS := H7 (show sitesL f L = LS from by rw [hLS]; exact sites_bad HOK.out L)
            have hs := HS.out.addRow (v := .slice none 0 0) (n := nS) (size := 1) (c := rowC encZ LS) (.inl ⟨rfl, hnS⟩)
            have HS := H7 hs
            clear hs
            subst hnA hnS
            by_cases hm0 : j = 0
            case' pos =>
             subst hm0
             have e43 : (((0 : Nat) : Int) == 0) = true := rfl
             repeat ((fail_if_success (with_reducible refine stop_at (id := 45) ?_)); (first | go_values | go_skip | go_guarded | go_step | go_upon | go_back | (simp only [Int.not_lt, Int.not_le] at *; go_simp) | (go_values <;> (try go_simp)) | (go_ite <;> go_prune <;> (try go_simp)) | (split <;> (first | (rename_i hx; exact (hx _ rfl).elim) | go_prune))))
            case' neg =>
             have e43 : ((j : Int) == 0) = false := beq_eq_false_iff_ne.2 (by omega)
             repeat ((fail_if_success (with_reducible refine stop_at (id := 45) ?_)); (first | go_values | go_skip | go_guarded | go_step | go_upon | go_back | (simp only [Int.not_lt, Int.not_le] at *; go_simp) | (go_values <;> (try go_simp)) | (go_ite <;> go_prune <;> (try go_simp)) | (split <;> (first | (rename_i hx; exact (hx _ rfl).elim) | go_prune))))
            all_goals
             clear e43
             have HRI := H7 (fun w' => show Calls Tryz.prog 34 #[.agg f.cells] w' (Gives (.tuple #[.agg (frZ).cells, .int .i64 280]) w') from by have h := rise_any f w'; unfold trF trE at h; rw [HOK.out] at h; exact h)
             have HS1 := H7 (fun w' => sitesF_any f none 0 0 [] rfl (by decide) w' (.inl ⟨rfl, rfl⟩))
             refine (wpIn_wide (n := 0)).1 ?_
             repeat (first | (refine ldF _ rfl rfl (HS.out.blockAt 3 rfl) ?_; simp only [Act.put, List.setIfInBounds_toArray, List.set_cons_succ, List.set_cons_zero]) | gi_step)
             refine (callsIn_wide.2 (HRI.out _)).mono ?_
             rintro e wc ⟨rfl, hb_⟩
             have HS := H7 (HS.out.below hb_)
             clear hb_
             clear HRI
             simp only []; go_at_K
             repeat (first | (refine nwF rfl ?_; simp only [Act.put, List.setIfInBounds_toArray, List.set_cons_succ, List.set_cons_zero]) | (refine stNewF _ _ rfl rfl rfl rfl rfl ?_; simp only [Act.put, List.setIfInBounds_toArray, List.set_cons_succ, List.set_cons_zero]) | gi_step)
             gi_wp2_with fail
             have hs_ := (HS.out.alloc (.cells (frZ).cells 29))
             obtain ⟨wd, hw_⟩ : ∃ wd : World, (wc.alloc (.cells (frZ).cells 29)) = wd := ⟨_, rfl⟩
             rw [hw_] at hs_
             try simp only [World.size_alloc] at hs_
             have HS := H7 hs_
             rw [hw_]
             clear hw_ hs_
             repeat ((fail_if_success (with_reducible refine stop_at (id := 48) ?_)); (first | go_values | go_skip | go_guarded | go_step | go_upon | go_back | (simp only [Int.not_lt, Int.not_le] at *; go_simp) | (go_values <;> (try go_simp)) | (go_ite <;> go_prune <;> (try go_simp)) | (split <;> (first | (rename_i hx; exact (hx _ rfl).elim) | go_prune))))
             rw [zeroF]
             have hs_ := (HS.out.alloc (.cells frZ.cells 29))
             obtain ⟨we, hw_⟩ : ∃ we : World, (wd.alloc (.cells frZ.cells 29)) = we := ⟨_, rfl⟩
             rw [hw_] at hs_
             try simp only [World.size_alloc] at hs_
             have HS := H7 hs_
             rw [hw_]
             clear hw_ hs_
             repeat ((fail_if_success (with_reducible refine stop_at (id := 50) ?_)); (first | go_values | go_skip | go_guarded | go_step | go_upon | go_back | (simp only [Int.not_lt, Int.not_le] at *; go_simp) | (go_values <;> (try go_simp)) | (go_ite <;> go_prune <;> (try go_simp)) | (split <;> (first | (rename_i hx; exact (hx _ rfl).elim) | go_prune))))
             have hu := frEq_self (frZ)
             refine (wpIn_wide (n := 0)).1 ?_
             repeat (first | (refine ldF _ rfl rfl (HS.out.blockAt 1 rfl) ?_; simp only [Act.put, List.setIfInBounds_toArray, List.set_cons_succ, List.set_cons_zero]) | (refine ldF _ rfl rfl (HS.out.blockAt 0 rfl) ?_; simp only [Act.put, List.setIfInBounds_toArray, List.set_cons_succ, List.set_cons_zero]) | (refine eqF' _ _ _ rfl rfl rfl hu ?_; simp only [Act.put, List.setIfInBounds_toArray, List.set_cons_succ, List.set_cons_zero]) | (refine ldF _ rfl rfl (HS.out.blockAt 5 rfl) ?_; simp only [Act.put, List.setIfInBounds_toArray, List.set_cons_succ, List.set_cons_zero]) | gi_step)
             refine (callsIn_wide.2 (HS1.out _)).mono ?_
             rintro e wh ⟨sv, rfl, hrow, hb_⟩
             have HS := H7 (HS.out.below hb_)
             clear hb_
             rw [HSA.out, HNA.out.1] at hrow
             have HRX := H7 (RowH.mk HNA.out.1 hrow)
             clear hrow HS1
             obtain ⟨a5, c5, rfl⟩ := HRX.out.shape
             simp only []; go_at_K
             repeat gi_step
             refine (callsIn_wide.2 (eqZn a5 _ c5 _ _ HNA.out.1 (by have := HNA.out.2; omega) wh HRX.out.el (HS.out.elems 4 rfl))).mono ?_
             rintro e wi ⟨rfl, hb_⟩
             have HS := H7 (HS.out.below hb_)
             clear hb_
             clear HRX
             simp only []; go_at_K
             repeat (first | (refine ldF _ rfl rfl (HS.out.blockAt 5 rfl) ?_; simp only [Act.put, List.setIfInBounds_toArray, List.set_cons_succ, List.set_cons_zero]) | gi_step)
             refine (callsIn_wide.2 (sitesF_any f _ _ _ L HLM.out.1 (by have := HLM.out.2; omega) wi (HS.out.elems 3 rfl))).mono ?_
             rintro e wj ⟨sv, rfl, hrow, hb_⟩
             have HS := H7 (HS.out.below hb_)
             clear hb_
             rw [HSS.out, HNS.out.1] at hrow
             have HRX := H7 (RowH.mk HNS.out.1 hrow)
             clear hrow
             obtain ⟨a6, c6, rfl⟩ := HRX.out.shape
             simp only []; go_at_K
             repeat gi_step
             refine (callsIn_wide.2 (eqZn a6 _ c6 _ _ HNS.out.1 (by have := HNS.out.2; omega) wj HRX.out.el (HS.out.elems 2 rfl))).mono ?_
             rintro e wk ⟨rfl, hb_⟩
             have HS := H7 (HS.out.below hb_)
             clear hb_
             clear HRX
             gi_wp2_with fail
             go_wp2_with fail
             go_ret
             exact ⟨rfl, HS.out.low⟩
    · obtain ⟨b1, o1, rfl, hb1, hc1⟩ := vecRng (HE1.out wr HS.out.low) hlt
      have HC1 := H7 hc1
      clear hb1 hc1
      obtain ⟨S, hS⟩ : ∃ S, X k = S := ⟨_, rfl⟩
      rw [hS] at HC1
      clear hS
      have HLT := H7 (show k < n1 ∧ k + 1 ≤ 5 from ⟨hlt, by omega⟩)
      have h5' : ((k : Int) == 5) = false := beq_eq_false_iff_ne.2 (by omega)
      repeat ((fail_if_success (with_reducible refine stop_at (id := 9) ?_)); (first | go_values | go_skip | go_guarded | go_step | go_upon | go_back | (simp only [Int.not_lt, Int.not_le] at *; go_simp) | (go_values <;> (try go_simp)) | (go_ite <;> go_prune <;> (try go_simp)) | (split <;> (first | (rename_i hx; exact (hx _ rfl).elim) | go_prune))))
      refine (wpIn_wide (n := 0)).1 ?_
      repeat (first | (refine ldVr _ rfl rfl HC1.out ?_; simp only [Act.put, List.setIfInBounds_toArray, List.set_cons_succ, List.set_cons_zero]) | (refine nwV rfl ?_; simp only [Act.put, List.setIfInBounds_toArray, List.set_cons_succ, List.set_cons_zero]) | (refine stNewV _ _ rfl rfl rfl rfl rfl ?_; simp only [Act.put, List.setIfInBounds_toArray, List.set_cons_succ, List.set_cons_zero]) | gi_step)
      gi_wp2_with fail
      have hs_ := (HS.out.alloc (.cells (lit9 S) 24))
      obtain ⟨w6, hw_⟩ : ∃ w6 : World, (wr.alloc (.cells (lit9 S) 24)) = w6 := ⟨_, rfl⟩
      rw [hw_] at hs_
      try simp only [World.size_alloc] at hs_
      have HS := H7 hs_
      rw [hw_]
      clear hw_ hs_
      clear HC1
      clear hlt hk hk5 h5
      repeat ((fail_if_success (with_reducible refine stop_at (id := 11) ?_)); (first | go_values | go_skip | go_guarded | go_step | go_upon | go_back | (simp only [Int.not_lt, Int.not_le] at *; go_simp) | (go_values <;> (try go_simp)) | (go_ite <;> go_prune <;> (try go_simp)) | (split <;> (first | (rename_i hx; exact (hx _ rfl).elim) | go_prune))))
      clear h5'
      refine (wpIn_wide (n := 0)).1 ?_
      repeat (first | (exfalso; exact undefB (by assumption)) | (refine ldV _ rfl rfl (HS.out.blockAt 0 rfl) ?_; simp only [Act.put, List.setIfInBounds_toArray, List.set_cons_succ, List.set_cons_zero]) | gi_step)
      gi_wp2_with (exfalso; exact undefB (by assumption))
      have hm := may_bad1 HOK.out S
      have HR := H7 (fun w' => show Calls Tryz.prog 24 #[.agg f.cells, .agg (lit9 S)] w' (Gives (.tuple #[.agg (lit9 (fun _ => 0)), .bool false]) w') from by have h := ready_any f S w'; rw [hm.rb, hm.rv] at h; exact h)
      have HF := H7 (fun w' => show Calls Tryz.prog 25 #[.agg f.cells, .agg (lit9 S)] w' (Gives (.tuple #[.agg (frZ).cells, .int .i64 280]) w') from by have h := fold_any f S w'; rw [hm.nf, hm.e] at h; exact h)
      have HW := H7 (fun w' => show Calls Tryz.prog 31 #[.agg f.cells, .agg (lit9 S)] w' (GivesRow 3 1 ([] : List Int).length (([] : List Int).flatMap encZ) w') from by have h := waits_any f S w'; rw [hm.lw] at h; exact h)
      clear hm
      repeat ((fail_if_success (with_reducible refine stop_at (id := 12) ?_)); (first | go_values | go_skip | go_guarded | go_step | go_upon | go_back | (simp only [Int.not_lt, Int.not_le] at *; go_simp) | (go_values <;> (try go_simp)) | (go_ite <;> go_prune <;> (try go_simp)) | (split <;> (first | (rename_i hx; exact (hx _ rfl).elim) | go_prune))))
      refine (wpIn_wide (n := 0)).1 ?_
      repeat (first | (refine ldF _ rfl rfl (HS.out.blockAt 1 rfl) ?_; simp only [Act.put, List.setIfInBounds_toArray, List.set_cons_succ, List.set_cons_zero]) | (refine ldV _ rfl rfl (HS.out.blockAt 0 rfl) ?_; simp only [Act.put, List.setIfInBounds_toArray, List.set_cons_succ, List.set_cons_zero]) | gi_step)
      refine (callsIn_wide.2 (HR.out _)).mono ?_
      rintro e w7 ⟨rfl, hb_⟩
      have HS := H7 (HS.out.below hb_)
      clear hb_
      clear HR
      simp only []; go_at_K
      repeat (first | (refine nwV rfl ?_; simp only [Act.put, List.setIfInBounds_toArray, List.set_cons_succ, List.set_cons_zero]) | (refine stNewV _ _ rfl rfl rfl rfl rfl ?_; simp only [Act.put, List.setIfInBounds_toArray, List.set_cons_succ, List.set_cons_zero]) | gi_step)
      gi_wp2_with fail
      have hs_ := (HS.out.alloc (.cells (lit9 (fun _ => 0)) 24))
      obtain ⟨w8, hw_⟩ : ∃ w8 : World, (w7.alloc (.cells (lit9 (fun _ => 0)) 24)) = w8 := ⟨_, rfl⟩
      rw [hw_] at hs_
      try simp only [World.size_alloc] at hs_
      have HS := H7 hs_
      rw [hw_]
      clear hw_ hs_
      repeat ((fail_if_success (with_reducible refine stop_at (id := 13) ?_)); (first | go_values | go_skip | go_guarded | go_step | go_upon | go_back | (simp only [Int.not_lt, Int.not_le] at *; go_simp) | (go_values <;> (try go_simp)) | (go_ite <;> go_prune <;> (try go_simp)) | (split <;> (first | (rename_i hx; exact (hx _ rfl).elim) | go_prune))))
      refine (wpIn_wide (n := 0)).1 ?_
      repeat (first | (refine ldF _ rfl rfl (HS.out.blockAt 2 rfl) ?_; simp only [Act.put, List.setIfInBounds_toArray, List.set_cons_succ, List.set_cons_zero]) | (refine ldV _ rfl rfl (HS.out.blockAt 1 rfl) ?_; simp only [Act.put, List.setIfInBounds_toArray, List.set_cons_succ, List.set_cons_zero]) | gi_step)
      refine (callsIn_wide.2 (HF.out _)).mono ?_
      rintro e w9 ⟨rfl, hb_⟩
      have HS := H7 (HS.out.below hb_)
      clear hb_
      clear HF
      simp only []; go_at_K
      repeat (first | (refine nwF rfl ?_; simp only [Act.put, List.setIfInBounds_toArray, List.set_cons_succ, List.set_cons_zero]) | (refine stNewF _ _ rfl rfl rfl rfl rfl ?_; simp only [Act.put, List.setIfInBounds_toArray, List.set_cons_succ, List.set_cons_zero]) | gi_step)
      gi_wp2_with fail
      have hs_ := (HS.out.alloc (.cells (frZ).cells 29))
      obtain ⟨wa, hw_⟩ : ∃ wa : World, (w9.alloc (.cells (frZ).cells 29)) = wa := ⟨_, rfl⟩
      rw [hw_] at hs_
      try simp only [World.size_alloc] at hs_
      have HS := H7 hs_
      rw [hw_]
      clear hw_ hs_
      repeat ((fail_if_success (with_reducible refine stop_at (id := 18) ?_)); (first | go_values | go_skip | go_guarded | go_step | go_upon | go_back | (simp only [Int.not_lt, Int.not_le] at *; go_simp) | (go_values <;> (try go_simp)) | (go_ite <;> go_prune <;> (try go_simp)) | (split <;> (first | (rename_i hx; exact (hx _ rfl).elim) | go_prune))))
      rw [zeroF, litZ]
      have hs_ := ((HS.out.alloc (.cells (lit9 fun _ => 0) 24)).alloc (.cells frZ.cells 29))
      obtain ⟨wb, hw_⟩ : ∃ wb : World, ((wa.alloc (.cells (lit9 fun _ => 0) 24)).alloc (.cells frZ.cells 29)) = wb := ⟨_, rfl⟩
      rw [hw_] at hs_
      try simp only [World.size_alloc] at hs_
      have HS := H7 hs_
      rw [hw_]
      clear hw_ hs_
      repeat ((fail_if_success (with_reducible refine stop_at (id := 22) ?_)); (first | go_values | go_skip | go_guarded | go_step | go_upon | go_back | (simp only [Int.not_lt, Int.not_le] at *; go_simp) | (go_values <;> (try go_simp)) | (go_ite <;> go_prune <;> (try go_simp)) | (split <;> (first | (rename_i hx; exact (hx _ rfl).elim) | go_prune))))
      refine (wpIn_wide (n := 0)).1 ?_
      repeat (first | (exfalso; exact undefB (by assumption)) | (refine ldV _ rfl rfl (HS.out.blockAt 4 rfl) ?_; simp only [Act.put, List.setIfInBounds_toArray, List.set_cons_succ, List.set_cons_zero]) | gi_step)
      gi_wp2_with (exfalso; exact undefB (by assumption))
      repeat ((fail_if_success (with_reducible refine stop_at (id := 24) ?_)); (first | go_values | go_skip | go_guarded | go_step | go_upon | go_back | (simp only [Int.not_lt, Int.not_le] at *; go_simp) | (go_values <;> (try go_simp)) | (go_ite <;> go_prune <;> (try go_simp)) | (split <;> (first | (rename_i hx; exact (hx _ rfl).elim) | go_prune))))
      refine (wpIn_wide (n := 0)).1 ?_
      repeat (first | (exfalso; exact undefB (by assumption)) | (refine ldV _ rfl rfl (HS.out.blockAt 4 rfl) ?_; simp only [Act.put, List.setIfInBounds_toArray, List.set_cons_succ, List.set_cons_zero]) | gi_step)
      gi_wp2_with (exfalso; exact undefB (by assumption))
      repeat ((fail_if_success (with_reducible refine stop_at (id := 27) ?_)); (first | go_values | go_skip | go_guarded | go_step | go_upon | go_back | (simp only [Int.not_lt, Int.not_le] at *; go_simp) | (go_values <;> (try go_simp)) | (go_ite <;> go_prune <;> (try go_simp)) | (split <;> (first | (rename_i hx; exact (hx _ rfl).elim) | go_prune))))
      have hv1 := vecEq_self ((fun _ => 0))
      have hf1 := frEq_self (frZ)
      refine (wpIn_wide (n := 0)).1 ?_
      repeat (first | (exfalso; exact undefB (by assumption)) | (refine ldV _ rfl rfl (HS.out.blockAt 3 rfl) ?_; simp only [Act.put, List.setIfInBounds_toArray, List.set_cons_succ, List.set_cons_zero]) | (refine ldV _ rfl rfl (HS.out.blockAt 1 rfl) ?_; simp only [Act.put, List.setIfInBounds_toArray, List.set_cons_succ, List.set_cons_zero]) | (refine neV' _ _ _ rfl rfl rfl hv1 ?_; simp only [Act.put, List.setIfInBounds_toArray, List.set_cons_succ, List.set_cons_zero]) | (refine ldF _ rfl rfl (HS.out.blockAt 2 rfl) ?_; simp only [Act.put, List.setIfInBounds_toArray, List.set_cons_succ, List.set_cons_zero]) | (refine ldF _ rfl rfl (HS.out.blockAt 0 rfl) ?_; simp only [Act.put, List.setIfInBounds_toArray, List.set_cons_succ, List.set_cons_zero]) | (refine neF' _ _ _ rfl rfl rfl hf1 ?_; simp only [Act.put, List.setIfInBounds_toArray, List.set_cons_succ, List.set_cons_zero]) | (refine ldF _ rfl rfl (HS.out.blockAt 5 rfl) ?_; simp only [Act.put, List.setIfInBounds_toArray, List.set_cons_succ, List.set_cons_zero]) | (refine ldV _ rfl rfl (HS.out.blockAt 4 rfl) ?_; simp only [Act.put, List.setIfInBounds_toArray, List.set_cons_succ, List.set_cons_zero]) | gi_step)
      refine (callsIn_wide.2 (HW.out _)).mono ?_
      rintro e wd ⟨sv, rfl, hrow, hb_⟩
      have HS := H7 (HS.out.below hb_)
      clear hb_
      clear HW
      have HRX := H7 (RowH.mk (n := 0) rfl hrow)
      clear hrow
      obtain ⟨a5, c5, rfl⟩ := HRX.out.shape
      simp only []; go_at_K
      repeat gi_step
      refine (callsIn_wide.2 (eqZn a5 none c5 0 [] rfl (by decide) wd HRX.out.el (.inl ⟨rfl, rfl⟩))).mono ?_
      rintro e we ⟨rfl, hb_⟩
      have HS := H7 (HS.out.below hb_)
      clear hb_
      clear HRX hv1 hf1
      gi_wp2_with (exfalso; exact undefB (by assumption))
      have HS2 := H7 HS.out.tl.tl.tl.tl.tl
      have hlt := HLT.out.1
      have hk5 := HLT.out.2
      go_wp2_with fail
      refine ⟨?_, ?measure⟩
      repeat apply Exists.intro
      refine ⟨?rel, rfl⟩
      case rel =>
       refine ⟨k + 1, ?_⟩
       refine ⟨hlt, hk5, by simp, ?_⟩
       exact HS2.out
      case measure => exact frM hlt (by simp)
  · obtain rfl : k = n1 := by omega
    go_wp2_with fail
    go_loopw [23, 21] (fun i v wq => ∃ k : Nat, 1 ≤ k ∧ k ≤ 9 ∧ i = .int .i64 (k : Int) ∧ v = .slice none 0 0 ∧ St w [.blk w.heap.size (.cells f.cells 29 (0, 0))] wq) (fun i _ _ => 9 - (intOf i).toNat)
    case atStart => exact ⟨1, by omega, by omega, rfl, rfl, HS.out⟩
    case round =>
     obtain ⟨k, hk1, hk9, rfl, rfl, hs⟩ := hrel
     clear HS
     have HS := H7 hs
     clear hs
     by_cases hlt : k ≤ 8
     · repeat ((fail_if_success (with_reducible refine stop_at (id := 34) ?_)); (first | go_values | go_skip | go_guarded | go_step | go_upon | go_back | (simp only [Int.not_lt, Int.not_le] at *; go_simp) | (go_values <;> (try go_simp)) | (go_ite <;> go_prune <;> (try go_simp)) | (split <;> (first | (rename_i hx; exact (hx _ rfl).elim) | go_prune))))
       refine (wpIn_wide (n := 0)).1 ?_
       gi_wp2_with (exfalso; exact undefB (by assumption))
       go_wp2_with fail
       go_roundw
       case rel => exact ⟨k + 1, by omega, by omega, by simp, rfl, HS.out⟩
       case measure => simp [intOf]; omega
     · obtain rfl : k = 9 := by omega
       repeat ((fail_if_success (with_reducible refine stop_at (id := 36) ?_)); (first | go_values | go_skip | go_guarded | go_step | go_upon | go_back | (simp only [Int.not_lt, Int.not_le] at *; go_simp) | (go_values <;> (try go_simp)) | (go_ite <;> go_prune <;> (try go_simp)) | (split <;> (first | (rename_i hx; exact (hx _ rfl).elim) | go_prune))))
       obtain ⟨LA, hLA⟩ : ∃ LA : List Int, LA = [] := ⟨_, rfl⟩
       obtain ⟨nA, hnA⟩ : ∃ nA, nA = 0 := ⟨_, rfl⟩
       have HNA := H7 (show LA.length = nA ∧ nA ≤ 9 from by rw [hLA, hnA]; exact ⟨rfl, by omega⟩)
       have HSA := H7 (show sitesL f [] = LA from by rw [hLA]; exact sites_bad HOK.out [])
       have hs := HS.out.addRow (v := .slice none 0 0) (n := nA) (size := 1) (c := rowC encZ LA) (.inl ⟨rfl, hnA⟩)
       generalize wr.heap.size = t0 at hs
       have HS := H7 hs
       clear hs
       have hb1 : min (n2 : Int) 10 ≤ (c2 : Int) := by have := HL.out.2; omega
       have hb0 : 0 ≤ min (n2 : Int) 10 := by omega
       refine (wpIn_wide (n := 0)).1 ?_
       repeat gi_step
       obtain ⟨m, hm⟩ : ∃ m, (min (n2 : Int) 10).toNat = m := ⟨_, rfl⟩
       rw [hm]
       have hm5 : m ≤ n2 ∧ m ≤ 10 := by omega
       obtain ⟨L, hL⟩ : ∃ L, Z.take m = L := ⟨_, rfl⟩
       have hLm : L.length = m := by rw [← hL, List.length_take, HL.out.1]; omega
       have HEL := H7 (hL ▸ Elems.take encZ_len HL.out.1 (HE2.out wr HS.out.low) hm5.1)
       have HLM := H7 (And.intro hLm hm5.2)
       clear hb1 hb0 hm hm5 hL hLm
       refine (callsIn_wide.2 (cloneZn _ L m HLM.out.1 wr HEL.out (by have := HLM.out.2; omega))).mono ?_
       rintro e wp ⟨sv, rfl, hrow, -, hb_⟩
       have HS := H7 (HS.out.below hb_)
       clear hb_
       have HRL := H7 (RowH.mk HLM.out.1 hrow)
       clear hrow HEL
       obtain ⟨a3, c3, rfl⟩ := HRL.out.shape
       have hs := HS.out.addRow HRL.out.el
       generalize wp.heap.size = t1 at hs
       have HS := H7 hs
       clear hs HRL
       gi_wp2_with fail
       go_wp2_with fail
       go_loopw [152, 22] (fun i v wq => ∃ j : Nat, j ≤ m ∧ i = .int .i64 (j : Int) ∧ v = .slice none 0 0 ∧ St w [.row (.slice a3 m c3) m 1 (rowC encZ L) t1, .row (.slice none 0 0) nA 1 (rowC encZ LA) t0, .blk w.heap.size (.cells f.cells 29 (0, 0))] wq) (fun i _ _ => m - (intOf i).toNat)
       case atStart => exact ⟨0, by omega, rfl, rfl, HS.out⟩
       case round =>
        obtain ⟨j, hj, rfl, rfl, hs⟩ := hrel
        clear HS
        have HS := H7 hs
        clear hs
        by_cases hlt : j < m
        · obtain ⟨x, hx⟩ : ∃ x, L[j]? = some x := ⟨_, List.getElem?_eq_getElem (by rw [HLM.out.1]; exact hlt)⟩
          obtain ⟨b3, o3, rfl, hb3, hc3⟩ := zCells HLM.out.1 (HS.out.elems 0 rfl) j x hx
          clear hx hb3
          repeat ((fail_if_success (with_reducible refine stop_at (id := 40) ?_)); (first | go_values | go_skip | go_guarded | go_step | go_upon | go_back | (simp only [Int.not_lt, Int.not_le] at *; go_simp) | (go_values <;> (try go_simp)) | (go_ite <;> go_prune <;> (try go_simp)) | (split <;> (first | (rename_i hx; exact (hx _ rfl).elim) | go_prune))))
          clear hc3
          refine (wpIn_wide (n := 0)).1 ?_
          repeat gi_step
          refine (callsIn_wide.2 (conZ_any none 0 0 [] x rfl (by decide) wr (.inl ⟨rfl, rfl⟩))).mono ?_
          rintro e wc ⟨rfl, hb_⟩
          have HS := H7 (HS.out.below hb_)
          clear hb_
          rw [show decide (x ∈ ([] : List Int)) = false from by simp]
          gi_wp2_with fail
          have hm10 := HLM.out.2
          go_wp2_with fail
          go_roundw
          case rel => exact ⟨j + 1, hlt, by simp, rfl, HS.out⟩
          case measure => exact frM hlt (by simp)
        · obtain rfl : j = m := by omega
          obtain ⟨LS, hLS⟩ : ∃ LS : List Int, LS = [] := ⟨_, rfl⟩
          obtain ⟨nS, hnS⟩ : ∃ nS, nS = 0 := ⟨_, rfl⟩
          have HNS := H7 (show LS.length = nS ∧ nS ≤ 10 from by rw [hLS, hnS]; exact ⟨rfl, by omega⟩)
          have HSS := H7 (show sitesL f L = LS from by rw [hLS]; exact sites_bad HOK.out L)
          have hs := HS.out.addRow (v := .slice none 0 0) (n := nS) (size := 1) (c := rowC encZ LS) (.inl ⟨rfl, hnS⟩)
          have HS := H7 hs
          clear hs
          subst hnA hnS
          by_cases hm0 : j = 0
          case' pos =>
           subst hm0
           have e43 : (((0 : Nat) : Int) == 0) = true := rfl
           repeat ((fail_if_success (with_reducible refine stop_at (id := 45) ?_)); (first | go_values | go_skip | go_guarded | go_step | go_upon | go_back | (simp only [Int.not_lt, Int.not_le] at *; go_simp) | (go_values <;> (try go_simp)) | (go_ite <;> go_prune <;> (try go_simp)) | (split <;> (first | (rename_i hx; exact (hx _ rfl).elim) | go_prune))))
          case' neg =>
           have e43 : ((j : Int) == 0) = false := beq_eq_false_iff_ne.2 (by omega)
           repeat ((fail_if_success (with_reducible refine stop_at (id := 45) ?_)); (first | go_values | go_skip | go_guarded | go_step | go_upon | go_back | (simp only [Int.not_lt, Int.not_le] at *; go_simp) | (go_values <;> (try go_simp)) | (go_ite <;> go_prune <;> (try go_simp)) | (split <;> (first | (rename_i hx; exact (hx _ rfl).elim) | go_prune))))
          all_goals
           clear e43
           have HRI := H7 (fun w' => show Calls Tryz.prog 34 #[.agg f.cells] w' (Gives (.tuple #[.agg (frZ).cells, .int .i64 280]) w') from by have h := rise_any f w'; unfold trF trE at h; rw [HOK.out] at h; exact h)
           have HS1 := H7 (fun w' => sitesF_any f none 0 0 [] rfl (by decide) w' (.inl ⟨rfl, rfl⟩))
           refine (wpIn_wide (n := 0)).1 ?_
           repeat (first | (refine ldF _ rfl rfl (HS.out.blockAt 3 rfl) ?_; simp only [Act.put, List.setIfInBounds_toArray, List.set_cons_succ, List.set_cons_zero]) | gi_step)
           refine (callsIn_wide.2 (HRI.out _)).mono ?_
           rintro e wc ⟨rfl, hb_⟩
           have HS := H7 (HS.out.below hb_)
           clear hb_
           clear HRI
           simp only []; go_at_K
           repeat (first | (refine nwF rfl ?_; simp only [Act.put, List.setIfInBounds_toArray, List.set_cons_succ, List.set_cons_zero]) | (refine stNewF _ _ rfl rfl rfl rfl rfl ?_; simp only [Act.put, List.setIfInBounds_toArray, List.set_cons_succ, List.set_cons_zero]) | gi_step)
           gi_wp2_with fail
           have hs_ := (HS.out.alloc (.cells (frZ).cells 29))
           obtain ⟨wd, hw_⟩ : ∃ wd : World, (wc.alloc (.cells (frZ).cells 29)) = wd := ⟨_, rfl⟩
           rw [hw_] at hs_
           try simp only [World.size_alloc] at hs_
           have HS := H7 hs_
           rw [hw_]
           clear hw_ hs_
           repeat ((fail_if_success (with_reducible refine stop_at (id := 48) ?_)); (first | go_values | go_skip | go_guarded | go_step | go_upon | go_back | (simp only [Int.not_lt, Int.not_le] at *; go_simp) | (go_values <;> (try go_simp)) | (go_ite <;> go_prune <;> (try go_simp)) | (split <;> (first | (rename_i hx; exact (hx _ rfl).elim) | go_prune))))
           rw [zeroF]
           have hs_ := (HS.out.alloc (.cells frZ.cells 29))
           obtain ⟨we, hw_⟩ : ∃ we : World, (wd.alloc (.cells frZ.cells 29)) = we := ⟨_, rfl⟩
           rw [hw_] at hs_
           try simp only [World.size_alloc] at hs_
           have HS := H7 hs_
           rw [hw_]
           clear hw_ hs_
           repeat ((fail_if_success (with_reducible refine stop_at (id := 50) ?_)); (first | go_values | go_skip | go_guarded | go_step | go_upon | go_back | (simp only [Int.not_lt, Int.not_le] at *; go_simp) | (go_values <;> (try go_simp)) | (go_ite <;> go_prune <;> (try go_simp)) | (split <;> (first | (rename_i hx; exact (hx _ rfl).elim) | go_prune))))
           have hu := frEq_self (frZ)
           refine (wpIn_wide (n := 0)).1 ?_
           repeat (first | (refine ldF _ rfl rfl (HS.out.blockAt 1 rfl) ?_; simp only [Act.put, List.setIfInBounds_toArray, List.set_cons_succ, List.set_cons_zero]) | (refine ldF _ rfl rfl (HS.out.blockAt 0 rfl) ?_; simp only [Act.put, List.setIfInBounds_toArray, List.set_cons_succ, List.set_cons_zero]) | (refine eqF' _ _ _ rfl rfl rfl hu ?_; simp only [Act.put, List.setIfInBounds_toArray, List.set_cons_succ, List.set_cons_zero]) | (refine ldF _ rfl rfl (HS.out.blockAt 5 rfl) ?_; simp only [Act.put, List.setIfInBounds_toArray, List.set_cons_succ, List.set_cons_zero]) | gi_step)
           refine (callsIn_wide.2 (HS1.out _)).mono ?_
           rintro e wh ⟨sv, rfl, hrow, hb_⟩
           have HS := H7 (HS.out.below hb_)
           clear hb_
           rw [HSA.out, HNA.out.1] at hrow
           have HRX := H7 (RowH.mk HNA.out.1 hrow)
           clear hrow HS1
           obtain ⟨a5, c5, rfl⟩ := HRX.out.shape
           simp only []; go_at_K
           repeat gi_step
           refine (callsIn_wide.2 (eqZn a5 _ c5 _ _ HNA.out.1 (by have := HNA.out.2; omega) wh HRX.out.el (HS.out.elems 4 rfl))).mono ?_
           rintro e wi ⟨rfl, hb_⟩
           have HS := H7 (HS.out.below hb_)
           clear hb_
           clear HRX
           simp only []; go_at_K
           repeat (first | (refine ldF _ rfl rfl (HS.out.blockAt 5 rfl) ?_; simp only [Act.put, List.setIfInBounds_toArray, List.set_cons_succ, List.set_cons_zero]) | gi_step)
           refine (callsIn_wide.2 (sitesF_any f _ _ _ L HLM.out.1 (by have := HLM.out.2; omega) wi (HS.out.elems 3 rfl))).mono ?_
           rintro e wj ⟨sv, rfl, hrow, hb_⟩
           have HS := H7 (HS.out.below hb_)
           clear hb_
           rw [HSS.out, HNS.out.1] at hrow
           have HRX := H7 (RowH.mk HNS.out.1 hrow)
           clear hrow
           obtain ⟨a6, c6, rfl⟩ := HRX.out.shape
           simp only []; go_at_K
           repeat gi_step
           refine (callsIn_wide.2 (eqZn a6 _ c6 _ _ HNS.out.1 (by have := HNS.out.2; omega) wj HRX.out.el (HS.out.elems 2 rfl))).mono ?_
           rintro e wk ⟨rfl, hb_⟩
           have HS := H7 (HS.out.below hb_)
           clear hb_
           clear HRX
           gi_wp2_with fail
           go_wp2_with fail
           go_ret
           exact ⟨rfl, HS.out.low⟩
end Go.Proofs.YteklfmacnnmomaaGreat
