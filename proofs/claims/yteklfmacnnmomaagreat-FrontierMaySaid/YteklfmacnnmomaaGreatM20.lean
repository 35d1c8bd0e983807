/- Merged texts: FsN. -/
import Derived.Test.YteklfmacnnmomaaGreatM18
set_option linter.unusedSimpArgs false
set_option linter.unusedVariables false
/- Layer 18: the law FrontierMay. -/
namespace Go.Proofs.YteklfmacnnmomaaGreat
open Go.RowKit Go.Shelf
attribute [local go_sem] Oper.semAt_some
set_option maxRecDepth 100000 in
set_option maxHeartbeats 40000000 in
theorem frontierMay_true (f : Frt) (hok : f.okB = true) (h0 : 0 ≤ f.prop) (a1 : Option Addr) (n1 c1 : Nat) (X : Nat → Nat → Int) (a2 : Option Addr) (n2 c2 : Nat) (Z : List Int) (hZ : Z.length = n2) (h2c : n2 ≤ c2) (w : World) (he1 : Elems w (.slice a1 n1 c1) n1 9 (vecCells X)) (he2 : Elems w (.slice a2 n2 c2) n2 1 (rowC encZ Z)) :
 Calls Tryz.prog 6 #[.agg f.cells, .slice a1 n1 c1, .slice a2 n2 c2] w (Gives (.bool true) w) := by
 have HS := H7 (St.start w)
 have HE1 := H7 (fun w' (hb : Below w.heap.size w w') => he1.below hb)
 have HE2 := H7 (fun w' (hb : Below w.heap.size w w') => he2.below hb)
 have HL := H7 (And.intro hZ h2c)
 have H0 := H7 h0
 clear hZ h2c h0 he1 he2
 go_enter Tryz.func6, Tryz.ntmps6
 repeat ((fail_if_success (with_reducible refine stop_at (id := 1) ?_)); (first | go_values | go_skip | go_guarded | go_step | go_upon | go_back | (simp only [Int.not_lt, Int.not_le] at *; go_simp) | (go_values <;> (try go_simp)) | (go_ite <;> go_prune <;> (try go_simp)) | (split <;> (first | (rename_i hx; exact (hx _ rfl).elim) | go_prune))))
 have hs_ := (HS.out.alloc (.cells f.cells 29))
 obtain ⟨w1, hw_⟩ : ∃ w1 : World, (w.alloc (.cells f.cells 29)) = w1 := ⟨_, rfl⟩
 rw [hw_] at hs_
 try simp only [World.size_alloc] at hs_
 have HS := H7 hs_
 rw [hw_]
 clear hw_ hs_
 go_wp2_with fail
 refine (wakes18_any _).mono ?_
 rintro e w2 ⟨rfl, hb_⟩
 have HS := H7 (HS.out.below hb_)
 clear hb_
 repeat ((fail_if_success (with_reducible refine stop_at (id := 3) ?_)); (first | go_values | go_skip | go_guarded | go_step | go_upon | go_back | (simp only [Int.not_lt, Int.not_le] at *; go_simp) | (go_values <;> (try go_simp)) | (go_ite <;> go_prune <;> (try go_simp)) | (split <;> (first | (rename_i hx; exact (hx _ rfl).elim) | go_prune))))
 have HOK := H7 hok
 refine (wpIn_wide (n := 0)).1 ?_
 repeat (first | (refine ldF _ rfl rfl (HS.out.blockAt 0 rfl) ?_; simp only [Act.put, List.setIfInBounds_toArray, List.set_cons_succ, List.set_cons_zero]) | gi_step)
 refine (callsIn_wide.2 (r18Right_any f _)).mono ?_
 rintro e w3 ⟨rfl, hb_⟩
 have HS := H7 (HS.out.below hb_)
 clear hb_
 rw [hok]
 gi_wp2_with fail
 repeat ((fail_if_success (with_reducible refine stop_at (id := 4) ?_)); (first | go_values | go_skip | go_guarded | go_step | go_upon | go_back | (simp only [Int.not_lt, Int.not_le] at *; go_simp) | (go_values <;> (try go_simp)) | (go_ite <;> go_prune <;> (try go_simp)) | (split <;> (first | (rename_i hx; exact (hx _ rfl).elim) | go_prune))))
 refine (wpIn_wide (n := 0)).1 ?_
 repeat (first | (refine ldF _ rfl rfl (HS.out.blockAt 0 rfl) ?_; simp only [Act.put, List.setIfInBounds_toArray, List.set_cons_succ, List.set_cons_zero]) | gi_step)
 refine (callsIn_wide.2 (frCheck_any f _)).mono ?_
 rintro e w4 ⟨rfl, hb_⟩
 have HS := H7 (HS.out.below hb_)
 clear hb_
 rw [hok]
 clear hok
 gi_wp2_with fail
 repeat ((fail_if_success (with_reducible refine stop_at (id := 5) ?_)); (first | go_values | go_skip | go_guarded | go_step | go_upon | go_back | (simp only [Int.not_lt, Int.not_le] at *; go_simp) | (go_values <;> (try go_simp)) | (go_ite <;> go_prune <;> (try go_simp)) | (split <;> (first | (rename_i hx; exact (hx _ rfl).elim) | go_prune))))
 rw [show errOf true 280 = 0 from rfl]
 refine (wpIn_wide (n := 0)).1 ?_
 repeat (first | (exfalso; exact undefB (by assumption)) | (refine bdF _ rfl rfl ?_; simp only [Act.put, List.setIfInBounds_toArray, List.set_cons_succ, List.set_cons_zero]) | gi_step)
 refine (callsIn_wide.2 (frNew_any _)).mono ?_
 rintro e w5 ⟨rfl, hb_⟩
 have HS := H7 (HS.out.below hb_)
 clear hb_
 have hzz := frEq_self frZ
 simp only []; go_at_K
 repeat (first | (refine bdF _ rfl rfl ?_; simp only [Act.put, List.setIfInBounds_toArray, List.set_cons_succ, List.set_cons_zero]) | (refine neF' _ _ _ rfl rfl rfl hzz ?_; simp only [Act.put, List.setIfInBounds_toArray, List.set_cons_succ, List.set_cons_zero]) | gi_step)
 gi_wp2_with (exfalso; exact undefB (by assumption))
 clear hzz
 repeat ((fail_if_success (with_reducible refine stop_at (id := 7) ?_)); (first | go_values | go_skip | go_guarded | go_step | go_upon | go_back | (simp only [Int.not_lt, Int.not_le] at *; go_simp) | (go_values <;> (try go_simp)) | (go_ite <;> go_prune <;> (try go_simp)) | (split <;> (first | (rename_i hx; exact (hx _ rfl).elim) | go_prune))))
 go_wp2_with fail
 go_loopw [55] (fun i wr => ∃ k : Nat, k ≤ n1 ∧ k ≤ 5 ∧ i = .int .i64 (k : Int) ∧ St w [.blk w.heap.size (.cells f.cells 29 (0, 0))] wr) (fun i _ => n1 - (intOf i).toNat)
 case atStart => exact ⟨0, by omega, by omega, rfl, HS.out⟩
 case round =>
  obtain ⟨k, hk, hk5, rfl, hs⟩ := hrel
  clear HS
  have HS := H7 hs
  clear hs
  by_cases hlt : k < n1
  · by_cases h5 : k = 5
    · obtain ⟨b1, o1, rfl, hb1, hc1⟩ := vecRng (HE1.out wr HS.out.low) hlt
      have HC1 := H7 hc1
      clear hb1 hc1
      obtain ⟨S, hS⟩ : ∃ S, X k = S := ⟨_, rfl⟩
      rw [hS] at HC1
      clear hS
      have h5' : ((k : Int) == 5) = true := by rw [h5]; rfl
      clear h5 hk5
      repeat ((fail_if_success (with_reducible refine stop_at (id := 9) ?_)); (first | go_values | go_skip | go_guarded | go_step | go_upon | go_back | (simp only [Int.not_lt, Int.not_le] at *; go_simp) | (go_values <;> (try go_simp)) | (go_ite <;> go_prune <;> (try go_simp)) | (split <;> (first | (rename_i hx; exact (hx _ rfl).elim) | go_prune))))
      refine (wpIn_wide (n := 0)).1 ?_
      repeat (first | (refine ldVr _ rfl rfl HC1.out ?_; simp only [Act.put, List.setIfInBounds_toArray, List.set_cons_succ, List.set_cons_zero]) | (refine nwV rfl ?_; simp only [Act.put, List.setIfInBounds_toArray, List.set_cons_succ, List.set_cons_zero]) | (refine stNewV _ _ rfl rfl rfl rfl rfl ?_; simp only [Act.put, List.setIfInBounds_toArray, List.set_cons_succ, List.set_cons_zero]) | gi_step)
      gi_wp2_with fail
      have hs_ := (HS.out.alloc (.cells (lit9 S) 24))
      obtain ⟨w6, hw_⟩ : ∃ w6 : World, (wr.alloc (.cells (lit9 S) 24)) = w6 := ⟨_, rfl⟩
      rw [hw_] at hs_
      try simp only [World.size_alloc] at hs_
      have HS := H7 hs_
      rw [hw_]
      clear hw_ hs_
      clear HC1
      clear hlt hk
      go_wp2_with fail
      clear h5'
      obtain ⟨kk, hkk⟩ : ∃ x : Int, (k : Int) = x := ⟨_, rfl⟩
      rw [hkk]
      clear hkk
      have HS := H7 HS.out.tl
      go_loopw [23, 21] (fun i v wq => ∃ k : Nat, 1 ≤ k ∧ k ≤ 9 ∧ i = .int .i64 (k : Int) ∧ StO w [.blk w.heap.size (.cells f.cells 29 (0, 0))] w6.heap.size 3 1 encZ v (inTo f k) wq) (fun i _ _ => 9 - (intOf i).toNat)
      case atStart => exact ⟨1, by omega, by omega, rfl, by rw [inTo_one HOK.out]; exact StO.start HS.out _ _ _⟩
      case round =>
       obtain ⟨k, hk1, hk9, rfl, ho⟩ := hrel
       clear HS
       have HO := H7 ho
       have HS := H7 ho.st
       have HB := H7 (B7 wr.heap.size wr)
       clear ho
       by_cases hlt : k ≤ 8
       · have hk9' : k < 9 := by omega
         obtain ⟨n0, hn0⟩ : ∃ n0, (inTo f k).length = n0 := ⟨_, rfl⟩
         have HN := H7 (And.intro hn0 (show n0 ≤ 9 from by have := inTo_len f k; omega))
         clear hn0
         cases hi : (f.site k).inn
         · have c0 := Frt.cell0 (HS.out.blockAt 0 rfl) hk9' (show (f.site k).l[0]? = some (.bool false) from by rw [← hi]; rfl)
           repeat ((fail_if_success (with_reducible refine stop_at (id := 34) ?_)); (first | go_values | go_skip | go_guarded | go_step | go_upon | go_back | (simp only [Int.not_lt, Int.not_le] at *; go_simp) | (go_values <;> (try go_simp)) | (go_ite <;> go_prune <;> (try go_simp)) | (split <;> (first | (rename_i hx; exact (hx _ rfl).elim) | go_prune))))
           refine (wpIn_wide (n := 0)).1 ?_
           gi_wp2_with fail
           clear c0
           go_wp2_with fail
           go_roundw
           case rel => exact ⟨k + 1, by omega, by omega, by simp, by rw [inTo_no hi]; exact HO.out⟩
           case measure => simp [intOf]; omega
         · have c0 := Frt.cell0 (HS.out.blockAt 0 rfl) hk9' (show (f.site k).l[0]? = some (.bool true) from by rw [← hi]; rfl)
           repeat ((fail_if_success (with_reducible refine stop_at (id := 34) ?_)); (first | go_values | go_skip | go_guarded | go_step | go_upon | go_back | (simp only [Int.not_lt, Int.not_le] at *; go_simp) | (go_values <;> (try go_simp)) | (go_ite <;> go_prune <;> (try go_simp)) | (split <;> (first | (rename_i hx; exact (hx _ rfl).elim) | go_prune))))
           refine (wpIn_wide (n := 0)).1 ?_
           gi_wp2_with fail
           clear c0
           go_wp2_with (at_builtin; refine wpList_app1l rowZ encZ_len encZ_one HO.out HB.out (k : Int) n0 HN.out.1 (by have := HN.out.2; omega) (by decide) _ _ rfl rfl rfl _ rfl (by rfl) ?_; intro v' W3 ho3 hsh hg3 hl3; obtain ⟨ad3, cp3, rfl⟩ := hsh; have HO3 := H7 ho3; clear ho3 hg3 hl3)
           refine ⟨?_, ?measure⟩
           repeat apply Exists.intro
           refine ⟨?rel, rfl⟩
           case rel =>
            refine ⟨k + 1, ?_⟩
            refine ⟨by omega, by omega, ?_⟩
            rw [inTo_yes hi]
            refine ⟨by simp, ?_⟩
            exact HO3.out
           case measure => simp [intOf]; omega
       · obtain rfl : k = 9 := by omega
         obtain ⟨aA, cA, rfl, -⟩ := HO.out.shape
         repeat ((fail_if_success (with_reducible refine stop_at (id := 36) ?_)); (first | go_values | go_skip | go_guarded | go_step | go_upon | go_back | (simp only [Int.not_lt, Int.not_le] at *; go_simp) | (go_values <;> (try go_simp)) | (go_ite <;> go_prune <;> (try go_simp)) | (split <;> (first | (rename_i hx; exact (hx _ rfl).elim) | go_prune))))
         have hea := HO.out.elems encZ_len
         obtain ⟨LA, hLA⟩ : ∃ LA, inTo f 9 = LA := ⟨_, rfl⟩
         have hin := inTo_len f 9
         rw [hLA] at hea hin
         rw [hLA]
         obtain ⟨nA, hnA⟩ : ∃ nA, LA.length = nA := ⟨_, rfl⟩
         rw [hnA] at hea hin
         rw [hnA]
         have HNA := H7 (And.intro hnA hin)
         have HSA := H7 (show sitesL f [] = LA from by rw [← hLA]; exact sites_nil HOK.out)
         have HSN := H7 (show ∀ l, l.length ≠ 0 → sitesL f l = l.filter fun x => decide (x ∈ LA) from fun l hl => by rw [← hLA]; exact sites_some HOK.out hl)
         have hs := HO.out.st.addRow hea
         clear HO hea hin HB
         generalize wr.heap.size = t0 at hs
         have HS := H7 hs
         clear hs
         have hb1 : min (n2 : Int) 10 ≤ (c2 : Int) := by have := HL.out.2; omega
         have hb0 : 0 ≤ min (n2 : Int) 10 := by omega
         refine (wpIn_wide (n := 0)).1 ?_
         repeat gi_step
         obtain ⟨m, hm⟩ : ∃ m, (min (n2 : Int) 10).toNat = m := ⟨_, rfl⟩
         rw [hm]
         have hm5 : m ≤ n2 ∧ m ≤ 10 := by omega
         obtain ⟨L, hL⟩ : ∃ L, Z.take m = L := ⟨_, rfl⟩
         have hLm : L.length = m := by rw [← hL, List.length_take, HL.out.1]; omega
         have HEL := H7 (hL ▸ Elems.take encZ_len HL.out.1 (HE2.out wr HS.out.low) hm5.1)
         have HLM := H7 (And.intro hLm hm5.2)
         clear hb1 hb0 hm hm5 hL hLm
         refine (callsIn_wide.2 (cloneZn _ L m HLM.out.1 wr HEL.out (by have := HLM.out.2; omega))).mono ?_
         rintro e wp ⟨sv, rfl, hrow, -, hb_⟩
         have HS := H7 (HS.out.below hb_)
         clear hb_
         have HRL := H7 (RowH.mk HLM.out.1 hrow)
         clear hrow HEL
         obtain ⟨a3, c3, rfl⟩ := HRL.out.shape
         have hs := HS.out.addRow HRL.out.el
         generalize wp.heap.size = t1 at hs
         have HS := H7 hs
         clear hs HRL
         gi_wp2_with fail
         go_wp2_with fail
         go_loopw [152, 22] (fun i v wq => ∃ j : Nat, j ≤ m ∧ i = .int .i64 (j : Int) ∧ StO w [.row (.slice a3 m c3) m 1 (rowC encZ L) t1, .row (.slice aA nA cA) nA 1 (rowC encZ LA) t0, .blk w.heap.size (.cells f.cells 29 (0, 0))] wp.heap.size 3 1 encZ v ((L.take j).filter fun x => decide (x ∈ LA)) wq) (fun i _ _ => m - (intOf i).toNat)
         case atStart => exact ⟨0, by omega, rfl, StO.start HS.out _ _ _⟩
         case round =>
          obtain ⟨j, hj, rfl, ho⟩ := hrel
          clear HS
          have HO := H7 ho
          have HS := H7 ho.st
          clear ho
          by_cases hlt : j < m
          · obtain ⟨x, hx⟩ : ∃ x, L[j]? = some x := ⟨_, List.getElem?_eq_getElem (by rw [HLM.out.1]; exact hlt)⟩
            obtain ⟨b3, o3, rfl, hb3, hc3⟩ := zCells HLM.out.1 (HS.out.elems 0 rfl) j x hx
            have hft := filter_take (q := fun x => decide (x ∈ LA)) hx
            obtain ⟨n0, hn0⟩ : ∃ n0, ((L.take j).filter fun x => decide (x ∈ LA)).length = n0 := ⟨_, rfl⟩
            have HN := H7 (And.intro hn0 (show n0 ≤ 10 from by
             have h1 := List.length_filter_le (fun x => decide (x ∈ LA)) (L.take j)
             rw [List.length_take] at h1
             have := HLM.out.2
             omega))
            generalize ((L.take j).filter fun x => decide (x ∈ LA)) = L0 at hft hn0 HO HN
            have HFT := H7 hft
            clear hx hb3 hft hn0
            repeat ((fail_if_success (with_reducible refine stop_at (id := 40) ?_)); (first | go_values | go_skip | go_guarded | go_step | go_upon | go_back | (simp only [Int.not_lt, Int.not_le] at *; go_simp) | (go_values <;> (try go_simp)) | (go_ite <;> go_prune <;> (try go_simp)) | (split <;> (first | (rename_i hx; exact (hx _ rfl).elim) | go_prune))))
            clear hc3
            refine (wpIn_wide (n := 0)).1 ?_
            repeat gi_step
            refine (callsIn_wide.2 (conZ_any aA nA cA LA x HNA.out.1 (by have := HNA.out.2; omega) wr (HS.out.elems 1 rfl))).mono ?_
            rintro e wc ⟨rfl, hb_⟩
            have HB := H7 hb_
            clear hb_ HS
            cases hxa : decide (x ∈ LA)
            · have HT := H7 (show ((L.take (j + 1)).filter fun x => decide (x ∈ LA)) = L0 from by rw [HFT.out, if_neg (by rw [hxa]; simp), List.append_nil])
              clear hxa
              gi_wp2_with fail
              have hm10 := HLM.out.2
              go_wp2_with fail
              go_roundw
              case rel => exact ⟨j + 1, hlt, by simp, by rw [HT.out]; exact HO.out.below HB.out⟩
              case measure => exact frM hlt (by simp)
            · have HT := H7 (show ((L.take (j + 1)).filter fun x => decide (x ∈ LA)) = L0 ++ [x] from by rw [HFT.out, if_pos hxa])
              clear hxa
              gi_wp2_with fail
              have hm10 := HLM.out.2
              go_wp2_with (at_builtin; refine wpList_app1l rowZ encZ_len encZ_one HO.out HB.out x n0 HN.out.1 (by have := HN.out.2; omega) (by decide) _ _ rfl rfl rfl _ rfl (by rfl) ?_; intro v' W3 ho3 hsh hg3 hl3; obtain ⟨ad3, cp3, rfl⟩ := hsh; have HO3 := H7 ho3; clear ho3 hg3 hl3)
              go_roundw
              case rel => exact ⟨j + 1, hlt, by simp, by rw [HT.out]; exact HO3.out⟩
              case measure => exact frM hlt (by simp)
          · obtain rfl : j = m := by omega
            obtain ⟨aQ, cQ, rfl, -⟩ := HO.out.shape
            have heq := HO.out.elems encZ_len
            have hft : ((L.take j).filter fun x => decide (x ∈ LA)) = L.filter fun x => decide (x ∈ LA) := by rw [List.take_of_length_le (Nat.le_of_eq HLM.out.1)]
            rw [hft] at heq
            rw [hft]
            obtain ⟨LQ, hLQ⟩ : ∃ LQ, (L.filter fun x => decide (x ∈ LA)) = LQ := ⟨_, rfl⟩
            have hqn : LQ.length ≤ 10 := by rw [← hLQ]; have h1 := List.length_filter_le (fun x => decide (x ∈ LA)) L; have := HLM.out; omega
            have hsq := HSN.out L
            rw [hLQ] at heq hsq
            rw [hLQ]
            obtain ⟨nQ, hnQ⟩ : ∃ nQ, LQ.length = nQ := ⟨_, rfl⟩
            rw [hnQ] at heq hqn
            rw [hnQ]
            by_cases hm0 : j = 0
            case' pos =>
             subst hm0
             have HNS := H7 (show LA.length = nA ∧ nA ≤ 10 from ⟨HNA.out.1, by have := HNA.out.2; omega⟩)
             have HSS := H7 (show sitesL f L = LA from by
              have hz : L = [] := List.eq_nil_of_length_eq_zero HLM.out.1
              rw [hz]; exact HSA.out)
             have hs := HS.out.addRow (HS.out.elems 1 rfl)
             have HS := H7 hs
             have e43 : (((0 : Nat) : Int) == 0) = true := rfl
             clear hs heq hsq hqn hnQ hLQ hft
             repeat ((fail_if_success (with_reducible refine stop_at (id := 45) ?_)); (first | go_values | go_skip | go_guarded | go_step | go_upon | go_back | (simp only [Int.not_lt, Int.not_le] at *; go_simp) | (go_values <;> (try go_simp)) | (go_ite <;> go_prune <;> (try go_simp)) | (split <;> (first | (rename_i hx; exact (hx _ rfl).elim) | go_prune))))
            case' neg =>
             have HNS := H7 (And.intro hnQ hqn)
             have HSS := H7 (hsq (by rw [HLM.out.1]; exact hm0))
             have hs := HS.out.addRow heq
             have HS := H7 hs
             have e43 : ((j : Int) == 0) = false := beq_eq_false_iff_ne.2 (by omega)
             clear hs heq hsq hqn hnQ hLQ hft
             repeat ((fail_if_success (with_reducible refine stop_at (id := 45) ?_)); (first | go_values | go_skip | go_guarded | go_step | go_upon | go_back | (simp only [Int.not_lt, Int.not_le] at *; go_simp) | (go_values <;> (try go_simp)) | (go_ite <;> go_prune <;> (try go_simp)) | (split <;> (first | (rename_i hx; exact (hx _ rfl).elim) | go_prune))))
            all_goals
             clear e43 HO
             have HRI := H7 (fun w' => show Calls Tryz.prog 34 #[.agg f.cells] w' (Gives (.tuple #[.agg (riseF f).cells, .int .i64 0]) w') from by have h := rise_any f w'; unfold trF trE at h; rw [HOK.out] at h; exact h)
             have HS1 := H7 (fun w' => sitesF_any f none 0 0 [] rfl (by decide) w' (.inl ⟨rfl, rfl⟩))
             refine (wpIn_wide (n := 0)).1 ?_
             repeat (first | (refine ldF _ rfl rfl (HS.out.blockAt 3 rfl) ?_; simp only [Act.put, List.setIfInBounds_toArray, List.set_cons_succ, List.set_cons_zero]) | gi_step)
             refine (callsIn_wide.2 (HRI.out _)).mono ?_
             rintro e wc ⟨rfl, hb_⟩
             have HS := H7 (HS.out.below hb_)
             clear hb_
             clear HRI
             simp only []; go_at_K
             repeat (first | (refine nwF rfl ?_; simp only [Act.put, List.setIfInBounds_toArray, List.set_cons_succ, List.set_cons_zero]) | (refine stNewF _ _ rfl rfl rfl rfl rfl ?_; simp only [Act.put, List.setIfInBounds_toArray, List.set_cons_succ, List.set_cons_zero]) | gi_step)
             gi_wp2_with fail
             have HRR := H7 (fun w' => r18Rise_any f w')
             generalize riseF f = U at HRR ⊢
             have hs_ := (HS.out.alloc (.cells (U).cells 29))
             obtain ⟨wd, hw_⟩ : ∃ wd : World, (wc.alloc (.cells (U).cells 29)) = wd := ⟨_, rfl⟩
             rw [hw_] at hs_
             try simp only [World.size_alloc] at hs_
             have HS := H7 hs_
             rw [hw_]
             clear hw_ hs_
             repeat ((fail_if_success (with_reducible refine stop_at (id := 48) ?_)); (first | go_values | go_skip | go_guarded | go_step | go_upon | go_back | (simp only [Int.not_lt, Int.not_le] at *; go_simp) | (go_values <;> (try go_simp)) | (go_ite <;> go_prune <;> (try go_simp)) | (split <;> (first | (rename_i hx; exact (hx _ rfl).elim) | go_prune))))
             rw [zeroF]
             have hs_ := (HS.out.alloc (.cells frZ.cells 29))
             obtain ⟨we, hw_⟩ : ∃ we : World, (wd.alloc (.cells frZ.cells 29)) = we := ⟨_, rfl⟩
             rw [hw_] at hs_
             try simp only [World.size_alloc] at hs_
             have HS := H7 hs_
             rw [hw_]
             clear hw_ hs_
             repeat ((fail_if_success (with_reducible refine stop_at (id := 49) ?_)); (first | go_values | go_skip | go_guarded | go_step | go_upon | go_back | (simp only [Int.not_lt, Int.not_le] at *; go_simp) | (go_values <;> (try go_simp)) | (go_ite <;> go_prune <;> (try go_simp)) | (split <;> (first | (rename_i hx; exact (hx _ rfl).elim) | go_prune))))
             refine (wpIn_wide (n := 0)).1 ?_
             repeat (first | (refine ldF _ rfl rfl (HS.out.blockAt 5 rfl) ?_; simp only [Act.put, List.setIfInBounds_toArray, List.set_cons_succ, List.set_cons_zero]) | gi_step)
             refine (callsIn_wide.2 (HRR.out _)).mono ?_
             rintro e wf ⟨rfl, hb_⟩
             have HS := H7 (HS.out.below hb_)
             clear hb_
             clear HRR
             simp only []; go_at_K
             repeat (first | (refine stF _ _ rfl rfl (HS.out.blockAt 0 rfl) rfl rfl ?_; simp only [Act.put, List.setIfInBounds_toArray, List.set_cons_succ, List.set_cons_zero]) | gi_step)
             gi_wp2_with fail
             have hs := HS.out.putRow (c' := U.cells) (pre := []) (by intro i hi; cases hi)
             simp only [List.nil_append] at hs
             have HS := H7 hs
             clear hs
             generalize wf.setRow wd.heap.size U.cells = wg at HS ⊢
             repeat ((fail_if_success (with_reducible refine stop_at (id := 50) ?_)); (first | go_values | go_skip | go_guarded | go_step | go_upon | go_back | (simp only [Int.not_lt, Int.not_le] at *; go_simp) | (go_values <;> (try go_simp)) | (go_ite <;> go_prune <;> (try go_simp)) | (split <;> (first | (rename_i hx; exact (hx _ rfl).elim) | go_prune))))
             have hu := frEq_self (U)
             refine (wpIn_wide (n := 0)).1 ?_
             repeat (first | (refine ldF _ rfl rfl (HS.out.blockAt 1 rfl) ?_; simp only [Act.put, List.setIfInBounds_toArray, List.set_cons_succ, List.set_cons_zero]) | (refine ldF _ rfl rfl (HS.out.blockAt 0 rfl) ?_; simp only [Act.put, List.setIfInBounds_toArray, List.set_cons_succ, List.set_cons_zero]) | (refine eqF' _ _ _ rfl rfl rfl hu ?_; simp only [Act.put, List.setIfInBounds_toArray, List.set_cons_succ, List.set_cons_zero]) | (refine ldF _ rfl rfl (HS.out.blockAt 5 rfl) ?_; simp only [Act.put, List.setIfInBounds_toArray, List.set_cons_succ, List.set_cons_zero]) | gi_step)
             refine (callsIn_wide.2 (HS1.out _)).mono ?_
             rintro e wh ⟨sv, rfl, hrow, hb_⟩
             have HS := H7 (HS.out.below hb_)
             clear hb_
             rw [HSA.out, HNA.out.1] at hrow
             have HRX := H7 (RowH.mk HNA.out.1 hrow)
             clear hrow HS1
             obtain ⟨a5, c5, rfl⟩ := HRX.out.shape
             simp only []; go_at_K
             repeat gi_step
             refine (callsIn_wide.2 (eqZn a5 _ c5 _ _ HNA.out.1 (by have := HNA.out.2; omega) wh HRX.out.el (HS.out.elems 4 rfl))).mono ?_
             rintro e wi ⟨rfl, hb_⟩
             have HS := H7 (HS.out.below hb_)
             clear hb_
             clear HRX
             simp only []; go_at_K
             repeat (first | (refine ldF _ rfl rfl (HS.out.blockAt 5 rfl) ?_; simp only [Act.put, List.setIfInBounds_toArray, List.set_cons_succ, List.set_cons_zero]) | gi_step)
             refine (callsIn_wide.2 (sitesF_any f _ _ _ L HLM.out.1 (by have := HLM.out.2; omega) wi (HS.out.elems 3 rfl))).mono ?_
             rintro e wj ⟨sv, rfl, hrow, hb_⟩
             have HS := H7 (HS.out.below hb_)
             clear hb_
             rw [HSS.out, HNS.out.1] at hrow
             have HRX := H7 (RowH.mk HNS.out.1 hrow)
             clear hrow
             obtain ⟨a6, c6, rfl⟩ := HRX.out.shape
             simp only []; go_at_K
             repeat gi_step
             refine (callsIn_wide.2 (eqZn a6 _ c6 _ _ HNS.out.1 (by have := HNS.out.2; omega) wj HRX.out.el (HS.out.elems 2 rfl))).mono ?_
             rintro e wk ⟨rfl, hb_⟩
             have HS := H7 (HS.out.below hb_)
             clear hb_
             clear HRX
             gi_wp2_with fail
             go_wp2_with fail
             go_ret
             exact ⟨rfl, HS.out.low⟩
    · obtain ⟨b1, o1, rfl, hb1, hc1⟩ := vecRng (HE1.out wr HS.out.low) hlt
      have HC1 := H7 hc1
      clear hb1 hc1
      obtain ⟨S, hS⟩ : ∃ S, X k = S := ⟨_, rfl⟩
      rw [hS] at HC1
      clear hS
      have HLT := H7 (show k < n1 ∧ k + 1 ≤ 5 from ⟨hlt, by omega⟩)
      have h5' : ((k : Int) == 5) = false := beq_eq_false_iff_ne.2 (by omega)
      repeat ((fail_if_success (with_reducible refine stop_at (id := 9) ?_)); (first | go_values | go_skip | go_guarded | go_step | go_upon | go_back | (simp only [Int.not_lt, Int.not_le] at *; go_simp) | (go_values <;> (try go_simp)) | (go_ite <;> go_prune <;> (try go_simp)) | (split <;> (first | (rename_i hx; exact (hx _ rfl).elim) | go_prune))))
      refine (wpIn_wide (n := 0)).1 ?_
      repeat (first | (refine ldVr _ rfl rfl HC1.out ?_; simp only [Act.put, List.setIfInBounds_toArray, List.set_cons_succ, List.set_cons_zero]) | (refine nwV rfl ?_; simp only [Act.put, List.setIfInBounds_toArray, List.set_cons_succ, List.set_cons_zero]) | (refine stNewV _ _ rfl rfl rfl rfl rfl ?_; simp only [Act.put, List.setIfInBounds_toArray, List.set_cons_succ, List.set_cons_zero]) | gi_step)
      gi_wp2_with fail
      have hs_ := (HS.out.alloc (.cells (lit9 S) 24))
      obtain ⟨w6, hw_⟩ : ∃ w6 : World, (wr.alloc (.cells (lit9 S) 24)) = w6 := ⟨_, rfl⟩
      rw [hw_] at hs_
      try simp only [World.size_alloc] at hs_
      have HS := H7 hs_
      rw [hw_]
      clear hw_ hs_
      clear HC1
      clear hlt hk hk5 h5
      repeat ((fail_if_success (with_reducible refine stop_at (id := 11) ?_)); (first | go_values | go_skip | go_guarded | go_step | go_upon | go_back | (simp only [Int.not_lt, Int.not_le] at *; go_simp) | (go_values <;> (try go_simp)) | (go_ite <;> go_prune <;> (try go_simp)) | (split <;> (first | (rename_i hx; exact (hx _ rfl).elim) | go_prune))))
      clear h5'
      refine (wpIn_wide (n := 0)).1 ?_
      repeat (first | (refine ldV _ rfl rfl (HS.out.blockAt 0 rfl) ?_; simp only [Act.put, List.setIfInBounds_toArray, List.set_cons_succ, List.set_cons_zero]) | gi_step)
      refine (callsIn_wide.2 (right_any S _)).mono ?_
      rintro e w6b ⟨rfl, hb_⟩
      have HS := H7 (HS.out.below hb_)
      clear hb_
      cases hvo : vecOk S
      · skip
        gi_wp2_with (exfalso; exact undefB (by assumption))
        have hm := may_bad2 HOK.out hvo
        have HR := H7 (fun w' => show Calls Tryz.prog 24 #[.agg f.cells, .agg (lit9 S)] w' (Gives (.tuple #[.agg (lit9 (fun _ => 0)), .bool false]) w') from by have h := ready_any f S w'; rw [hm.rb, hm.rv] at h; exact h)
        have HF := H7 (fun w' => show Calls Tryz.prog 25 #[.agg f.cells, .agg (lit9 S)] w' (Gives (.tuple #[.agg (frZ).cells, .int .i64 2]) w') from by have h := fold_any f S w'; rw [hm.nf, hm.e] at h; exact h)
        have HW := H7 (fun w' => show Calls Tryz.prog 31 #[.agg f.cells, .agg (lit9 S)] w' (GivesRow 3 1 ([] : List Int).length (([] : List Int).flatMap encZ) w') from by have h := waits_any f S w'; rw [hm.lw] at h; exact h)
        clear hm
        repeat ((fail_if_success (with_reducible refine stop_at (id := 12) ?_)); (first | go_values | go_skip | go_guarded | go_step | go_upon | go_back | (simp only [Int.not_lt, Int.not_le] at *; go_simp) | (go_values <;> (try go_simp)) | (go_ite <;> go_prune <;> (try go_simp)) | (split <;> (first | (rename_i hx; exact (hx _ rfl).elim) | go_prune))))
        refine (wpIn_wide (n := 0)).1 ?_
        repeat (first | (refine ldF _ rfl rfl (HS.out.blockAt 1 rfl) ?_; simp only [Act.put, List.setIfInBounds_toArray, List.set_cons_succ, List.set_cons_zero]) | (refine ldV _ rfl rfl (HS.out.blockAt 0 rfl) ?_; simp only [Act.put, List.setIfInBounds_toArray, List.set_cons_succ, List.set_cons_zero]) | gi_step)
        refine (callsIn_wide.2 (HR.out _)).mono ?_
        rintro e w7 ⟨rfl, hb_⟩
        have HS := H7 (HS.out.below hb_)
        clear hb_
        clear HR
        simp only []; go_at_K
        repeat (first | (refine nwV rfl ?_; simp only [Act.put, List.setIfInBounds_toArray, List.set_cons_succ, List.set_cons_zero]) | (refine stNewV _ _ rfl rfl rfl rfl rfl ?_; simp only [Act.put, List.setIfInBounds_toArray, List.set_cons_succ, List.set_cons_zero]) | gi_step)
        gi_wp2_with fail
        have hs_ := (HS.out.alloc (.cells (lit9 (fun _ => 0)) 24))
        obtain ⟨w8, hw_⟩ : ∃ w8 : World, (w7.alloc (.cells (lit9 (fun _ => 0)) 24)) = w8 := ⟨_, rfl⟩
        rw [hw_] at hs_
        try simp only [World.size_alloc] at hs_
        have HS := H7 hs_
        rw [hw_]
        clear hw_ hs_
        repeat ((fail_if_success (with_reducible refine stop_at (id := 13) ?_)); (first | go_values | go_skip | go_guarded | go_step | go_upon | go_back | (simp only [Int.not_lt, Int.not_le] at *; go_simp) | (go_values <;> (try go_simp)) | (go_ite <;> go_prune <;> (try go_simp)) | (split <;> (first | (rename_i hx; exact (hx _ rfl).elim) | go_prune))))
        refine (wpIn_wide (n := 0)).1 ?_
        repeat (first | (refine ldF _ rfl rfl (HS.out.blockAt 2 rfl) ?_; simp only [Act.put, List.setIfInBounds_toArray, List.set_cons_succ, List.set_cons_zero]) | (refine ldV _ rfl rfl (HS.out.blockAt 1 rfl) ?_; simp only [Act.put, List.setIfInBounds_toArray, List.set_cons_succ, List.set_cons_zero]) | gi_step)
        refine (callsIn_wide.2 (HF.out _)).mono ?_
        rintro e w9 ⟨rfl, hb_⟩
        have HS := H7 (HS.out.below hb_)
        clear hb_
        clear HF
        simp only []; go_at_K
        repeat (first | (refine nwF rfl ?_; simp only [Act.put, List.setIfInBounds_toArray, List.set_cons_succ, List.set_cons_zero]) | (refine stNewF _ _ rfl rfl rfl rfl rfl ?_; simp only [Act.put, List.setIfInBounds_toArray, List.set_cons_succ, List.set_cons_zero]) | gi_step)
        gi_wp2_with fail
        have hs_ := (HS.out.alloc (.cells (frZ).cells 29))
        obtain ⟨wa, hw_⟩ : ∃ wa : World, (w9.alloc (.cells (frZ).cells 29)) = wa := ⟨_, rfl⟩
        rw [hw_] at hs_
        try simp only [World.size_alloc] at hs_
        have HS := H7 hs_
        rw [hw_]
        clear hw_ hs_
        repeat ((fail_if_success (with_reducible refine stop_at (id := 18) ?_)); (first | go_values | go_skip | go_guarded | go_step | go_upon | go_back | (simp only [Int.not_lt, Int.not_le] at *; go_simp) | (go_values <;> (try go_simp)) | (go_ite <;> go_prune <;> (try go_simp)) | (split <;> (first | (rename_i hx; exact (hx _ rfl).elim) | go_prune))))
        rw [zeroF, litZ]
        have hs_ := ((HS.out.alloc (.cells (lit9 fun _ => 0) 24)).alloc (.cells frZ.cells 29))
        obtain ⟨wb, hw_⟩ : ∃ wb : World, ((wa.alloc (.cells (lit9 fun _ => 0) 24)).alloc (.cells frZ.cells 29)) = wb := ⟨_, rfl⟩
        rw [hw_] at hs_
        try simp only [World.size_alloc] at hs_
        have HS := H7 hs_
        rw [hw_]
        clear hw_ hs_
        repeat ((fail_if_success (with_reducible refine stop_at (id := 22) ?_)); (first | go_values | go_skip | go_guarded | go_step | go_upon | go_back | (simp only [Int.not_lt, Int.not_le] at *; go_simp) | (go_values <;> (try go_simp)) | (go_ite <;> go_prune <;> (try go_simp)) | (split <;> (first | (rename_i hx; exact (hx _ rfl).elim) | go_prune))))
        refine (wpIn_wide (n := 0)).1 ?_
        repeat (first | (exfalso; exact undefB (by assumption)) | (refine ldV _ rfl rfl (HS.out.blockAt 4 rfl) ?_; simp only [Act.put, List.setIfInBounds_toArray, List.set_cons_succ, List.set_cons_zero]) | gi_step)
        gi_wp2_with (exfalso; exact undefB (by assumption))
        repeat ((fail_if_success (with_reducible refine stop_at (id := 24) ?_)); (first | go_values | go_skip | go_guarded | go_step | go_upon | go_back | (simp only [Int.not_lt, Int.not_le] at *; go_simp) | (go_values <;> (try go_simp)) | (go_ite <;> go_prune <;> (try go_simp)) | (split <;> (first | (rename_i hx; exact (hx _ rfl).elim) | go_prune))))
        refine (wpIn_wide (n := 0)).1 ?_
        repeat (first | (exfalso; exact undefB (by assumption)) | (refine ldV _ rfl rfl (HS.out.blockAt 4 rfl) ?_; simp only [Act.put, List.setIfInBounds_toArray, List.set_cons_succ, List.set_cons_zero]) | gi_step)
        gi_wp2_with (exfalso; exact undefB (by assumption))
        repeat ((fail_if_success (with_reducible refine stop_at (id := 27) ?_)); (first | go_values | go_skip | go_guarded | go_step | go_upon | go_back | (simp only [Int.not_lt, Int.not_le] at *; go_simp) | (go_values <;> (try go_simp)) | (go_ite <;> go_prune <;> (try go_simp)) | (split <;> (first | (rename_i hx; exact (hx _ rfl).elim) | go_prune))))
        have hv1 := vecEq_self ((fun _ => 0))
        have hf1 := frEq_self (frZ)
        refine (wpIn_wide (n := 0)).1 ?_
        repeat (first | (exfalso; exact undefB (by assumption)) | (refine ldV _ rfl rfl (HS.out.blockAt 3 rfl) ?_; simp only [Act.put, List.setIfInBounds_toArray, List.set_cons_succ, List.set_cons_zero]) | (refine ldV _ rfl rfl (HS.out.blockAt 1 rfl) ?_; simp only [Act.put, List.setIfInBounds_toArray, List.set_cons_succ, List.set_cons_zero]) | (refine neV' _ _ _ rfl rfl rfl hv1 ?_; simp only [Act.put, List.setIfInBounds_toArray, List.set_cons_succ, List.set_cons_zero]) | (refine ldF _ rfl rfl (HS.out.blockAt 2 rfl) ?_; simp only [Act.put, List.setIfInBounds_toArray, List.set_cons_succ, List.set_cons_zero]) | (refine ldF _ rfl rfl (HS.out.blockAt 0 rfl) ?_; simp only [Act.put, List.setIfInBounds_toArray, List.set_cons_succ, List.set_cons_zero]) | (refine neF' _ _ _ rfl rfl rfl hf1 ?_; simp only [Act.put, List.setIfInBounds_toArray, List.set_cons_succ, List.set_cons_zero]) | (refine ldF _ rfl rfl (HS.out.blockAt 5 rfl) ?_; simp only [Act.put, List.setIfInBounds_toArray, List.set_cons_succ, List.set_cons_zero]) | (refine ldV _ rfl rfl (HS.out.blockAt 4 rfl) ?_; simp only [Act.put, List.setIfInBounds_toArray, List.set_cons_succ, List.set_cons_zero]) | gi_step)
        refine (callsIn_wide.2 (HW.out _)).mono ?_
        rintro e wd ⟨sv, rfl, hrow, hb_⟩
        have HS := H7 (HS.out.below hb_)
        clear hb_
        clear HW
        have HRX := H7 (RowH.mk (n := 0) rfl hrow)
        clear hrow
        obtain ⟨a5, c5, rfl⟩ := HRX.out.shape
        simp only []; go_at_K
        repeat gi_step
        refine (callsIn_wide.2 (eqZn a5 none c5 0 [] rfl (by decide) wd HRX.out.el (.inl ⟨rfl, rfl⟩))).mono ?_
        rintro e we ⟨rfl, hb_⟩
        have HS := H7 (HS.out.below hb_)
        clear hb_
        clear HRX hv1 hf1
        gi_wp2_with (exfalso; exact undefB (by assumption))
        have HS2 := H7 HS.out.tl.tl.tl.tl.tl
        have hlt := HLT.out.1
        have hk5 := HLT.out.2
        go_wp2_with fail
        refine ⟨?_, ?measure⟩
        repeat apply Exists.intro
        refine ⟨?rel, rfl⟩
        case rel =>
         refine ⟨k + 1, ?_⟩
         refine ⟨hlt, hk5, by simp, ?_⟩
         exact HS2.out
        case measure => exact frM hlt (by simp)
      · skip
        gi_wp2_with (exfalso; exact undefB (by assumption))
        by_cases hp : f.prop = 0
        · skip
          have hm := may_bad3 HOK.out hvo hp
          have hgp : decide (f.prop > 0) = false := decide_eq_false (by omega)
          have HR := H7 (fun w' => show Calls Tryz.prog 24 #[.agg f.cells, .agg (lit9 S)] w' (Gives (.tuple #[.agg (lit9 (fun _ => 0)), .bool false]) w') from by have h := ready_any f S w'; rw [hm.rb, hm.rv] at h; exact h)
          have HF := H7 (fun w' => show Calls Tryz.prog 25 #[.agg f.cells, .agg (lit9 S)] w' (Gives (.tuple #[.agg (frZ).cells, .int .i64 4]) w') from by have h := fold_any f S w'; rw [hm.nf, hm.e] at h; exact h)
          have HW := H7 (fun w' => show Calls Tryz.prog 31 #[.agg f.cells, .agg (lit9 S)] w' (GivesRow 3 1 ([] : List Int).length (([] : List Int).flatMap encZ) w') from by have h := waits_any f S w'; rw [hm.lw] at h; exact h)
          clear hm
          repeat ((fail_if_success (with_reducible refine stop_at (id := 12) ?_)); (first | go_values | go_skip | go_guarded | go_step | go_upon | go_back | (simp only [Int.not_lt, Int.not_le] at *; go_simp) | (go_values <;> (try go_simp)) | (go_ite <;> go_prune <;> (try go_simp)) | (split <;> (first | (rename_i hx; exact (hx _ rfl).elim) | go_prune))))
          refine (wpIn_wide (n := 0)).1 ?_
          repeat (first | (refine ldF _ rfl rfl (HS.out.blockAt 1 rfl) ?_; simp only [Act.put, List.setIfInBounds_toArray, List.set_cons_succ, List.set_cons_zero]) | (refine ldV _ rfl rfl (HS.out.blockAt 0 rfl) ?_; simp only [Act.put, List.setIfInBounds_toArray, List.set_cons_succ, List.set_cons_zero]) | gi_step)
          refine (callsIn_wide.2 (HR.out _)).mono ?_
          rintro e w7 ⟨rfl, hb_⟩
          have HS := H7 (HS.out.below hb_)
          clear hb_
          clear HR
          simp only []; go_at_K
          repeat (first | (refine nwV rfl ?_; simp only [Act.put, List.setIfInBounds_toArray, List.set_cons_succ, List.set_cons_zero]) | (refine stNewV _ _ rfl rfl rfl rfl rfl ?_; simp only [Act.put, List.setIfInBounds_toArray, List.set_cons_succ, List.set_cons_zero]) | gi_step)
          gi_wp2_with fail
          have hs_ := (HS.out.alloc (.cells (lit9 (fun _ => 0)) 24))
          obtain ⟨w8, hw_⟩ : ∃ w8 : World, (w7.alloc (.cells (lit9 (fun _ => 0)) 24)) = w8 := ⟨_, rfl⟩
          rw [hw_] at hs_
          try simp only [World.size_alloc] at hs_
          have HS := H7 hs_
          rw [hw_]
          clear hw_ hs_
          repeat ((fail_if_success (with_reducible refine stop_at (id := 13) ?_)); (first | go_values | go_skip | go_guarded | go_step | go_upon | go_back | (simp only [Int.not_lt, Int.not_le] at *; go_simp) | (go_values <;> (try go_simp)) | (go_ite <;> go_prune <;> (try go_simp)) | (split <;> (first | (rename_i hx; exact (hx _ rfl).elim) | go_prune))))
          refine (wpIn_wide (n := 0)).1 ?_
          repeat (first | (refine ldF _ rfl rfl (HS.out.blockAt 2 rfl) ?_; simp only [Act.put, List.setIfInBounds_toArray, List.set_cons_succ, List.set_cons_zero]) | (refine ldV _ rfl rfl (HS.out.blockAt 1 rfl) ?_; simp only [Act.put, List.setIfInBounds_toArray, List.set_cons_succ, List.set_cons_zero]) | gi_step)
          refine (callsIn_wide.2 (HF.out _)).mono ?_
          rintro e w9 ⟨rfl, hb_⟩
          have HS := H7 (HS.out.below hb_)
          clear hb_
          clear HF
          simp only []; go_at_K
          repeat (first | (refine nwF rfl ?_; simp only [Act.put, List.setIfInBounds_toArray, List.set_cons_succ, List.set_cons_zero]) | (refine stNewF _ _ rfl rfl rfl rfl rfl ?_; simp only [Act.put, List.setIfInBounds_toArray, List.set_cons_succ, List.set_cons_zero]) | gi_step)
          gi_wp2_with fail
          have hs_ := (HS.out.alloc (.cells (frZ).cells 29))
          obtain ⟨wa, hw_⟩ : ∃ wa : World, (w9.alloc (.cells (frZ).cells 29)) = wa := ⟨_, rfl⟩
          rw [hw_] at hs_
          try simp only [World.size_alloc] at hs_
          have HS := H7 hs_
          rw [hw_]
          clear hw_ hs_
          repeat ((fail_if_success (with_reducible refine stop_at (id := 18) ?_)); (first | go_values | go_skip | go_guarded | go_step | go_upon | go_back | (simp only [Int.not_lt, Int.not_le] at *; go_simp) | (go_values <;> (try go_simp)) | (go_ite <;> go_prune <;> (try go_simp)) | (split <;> (first | (rename_i hx; exact (hx _ rfl).elim) | go_prune))))
          rw [zeroF, litZ]
          have hs_ := ((HS.out.alloc (.cells (lit9 fun _ => 0) 24)).alloc (.cells frZ.cells 29))
          obtain ⟨wb, hw_⟩ : ∃ wb : World, ((wa.alloc (.cells (lit9 fun _ => 0) 24)).alloc (.cells frZ.cells 29)) = wb := ⟨_, rfl⟩
          rw [hw_] at hs_
          try simp only [World.size_alloc] at hs_
          have HS := H7 hs_
          rw [hw_]
          clear hw_ hs_
          have c22 := Frt.propC (HS.out.blockAt 5 rfl)
          repeat ((fail_if_success (with_reducible refine stop_at (id := 22) ?_)); (first | go_values | go_skip | go_guarded | go_step | go_upon | go_back | (simp only [Int.not_lt, Int.not_le] at *; go_simp) | (go_values <;> (try go_simp)) | (go_ite <;> go_prune <;> (try go_simp)) | (split <;> (first | (rename_i hx; exact (hx _ rfl).elim) | go_prune))))
          refine (wpIn_wide (n := 0)).1 ?_
          repeat (first | (exfalso; exact undefB (by assumption)) | (refine ldV _ rfl rfl (HS.out.blockAt 4 rfl) ?_; simp only [Act.put, List.setIfInBounds_toArray, List.set_cons_succ, List.set_cons_zero]) | gi_step)
          gi_wp2_with (exfalso; exact undefB (by assumption))
          clear c22
          repeat ((fail_if_success (with_reducible refine stop_at (id := 24) ?_)); (first | go_values | go_skip | go_guarded | go_step | go_upon | go_back | (simp only [Int.not_lt, Int.not_le] at *; go_simp) | (go_values <;> (try go_simp)) | (go_ite <;> go_prune <;> (try go_simp)) | (split <;> (first | (rename_i hx; exact (hx _ rfl).elim) | go_prune))))
          have hrr := fun w' => r18Ready_any f S w'
          rw [hgp, Bool.false_and] at hrr
          clear hgp
          refine (wpIn_wide (n := 0)).1 ?_
          repeat (first | (refine ldF _ rfl rfl (HS.out.blockAt 5 rfl) ?_; simp only [Act.put, List.setIfInBounds_toArray, List.set_cons_succ, List.set_cons_zero]) | (refine ldV _ rfl rfl (HS.out.blockAt 4 rfl) ?_; simp only [Act.put, List.setIfInBounds_toArray, List.set_cons_succ, List.set_cons_zero]) | gi_step)
          refine (callsIn_wide.2 (hrr _)).mono ?_
          rintro e wc ⟨rfl, hb_⟩
          have HS := H7 (HS.out.below hb_)
          clear hb_
          clear hrr
          gi_wp2_with (exfalso; exact undefB (by assumption))
          repeat ((fail_if_success (with_reducible refine stop_at (id := 27) ?_)); (first | go_values | go_skip | go_guarded | go_step | go_upon | go_back | (simp only [Int.not_lt, Int.not_le] at *; go_simp) | (go_values <;> (try go_simp)) | (go_ite <;> go_prune <;> (try go_simp)) | (split <;> (first | (rename_i hx; exact (hx _ rfl).elim) | go_prune))))
          have hv1 := vecEq_self ((fun _ => 0))
          have hf1 := frEq_self (frZ)
          refine (wpIn_wide (n := 0)).1 ?_
          repeat (first | (exfalso; exact undefB (by assumption)) | (refine ldV _ rfl rfl (HS.out.blockAt 3 rfl) ?_; simp only [Act.put, List.setIfInBounds_toArray, List.set_cons_succ, List.set_cons_zero]) | (refine ldV _ rfl rfl (HS.out.blockAt 1 rfl) ?_; simp only [Act.put, List.setIfInBounds_toArray, List.set_cons_succ, List.set_cons_zero]) | (refine neV' _ _ _ rfl rfl rfl hv1 ?_; simp only [Act.put, List.setIfInBounds_toArray, List.set_cons_succ, List.set_cons_zero]) | (refine ldF _ rfl rfl (HS.out.blockAt 2 rfl) ?_; simp only [Act.put, List.setIfInBounds_toArray, List.set_cons_succ, List.set_cons_zero]) | (refine ldF _ rfl rfl (HS.out.blockAt 0 rfl) ?_; simp only [Act.put, List.setIfInBounds_toArray, List.set_cons_succ, List.set_cons_zero]) | (refine neF' _ _ _ rfl rfl rfl hf1 ?_; simp only [Act.put, List.setIfInBounds_toArray, List.set_cons_succ, List.set_cons_zero]) | (refine ldF _ rfl rfl (HS.out.blockAt 5 rfl) ?_; simp only [Act.put, List.setIfInBounds_toArray, List.set_cons_succ, List.set_cons_zero]) | (refine ldV _ rfl rfl (HS.out.blockAt 4 rfl) ?_; simp only [Act.put, List.setIfInBounds_toArray, List.set_cons_succ, List.set_cons_zero]) | gi_step)
          refine (callsIn_wide.2 (HW.out _)).mono ?_
          rintro e wd ⟨sv, rfl, hrow, hb_⟩
          have HS := H7 (HS.out.below hb_)
          clear hb_
          clear HW
          have HRX := H7 (RowH.mk (n := 0) rfl hrow)
          clear hrow
          obtain ⟨a5, c5, rfl⟩ := HRX.out.shape
          simp only []; go_at_K
          repeat gi_step
          refine (callsIn_wide.2 (eqZn a5 none c5 0 [] rfl (by decide) wd HRX.out.el (.inl ⟨rfl, rfl⟩))).mono ?_
          rintro e we ⟨rfl, hb_⟩
          have HS := H7 (HS.out.below hb_)
          clear hb_
          clear HRX hv1 hf1
          gi_wp2_with (exfalso; exact undefB (by assumption))
          have HS2 := H7 HS.out.tl.tl.tl.tl.tl
          have hlt := HLT.out.1
          have hk5 := HLT.out.2
          go_wp2_with fail
          refine ⟨?_, ?measure⟩
          repeat apply Exists.intro
          refine ⟨?rel, rfl⟩
          case rel =>
           refine ⟨k + 1, ?_⟩
           refine ⟨hlt, hk5, by simp, ?_⟩
           exact HS2.out
          case measure => exact frM hlt (by simp)
        · skip
          have hp0 : 0 < f.prop := by have := H0.out; omega
          have hgp : decide (f.prop > 0) = true := decide_eq_true hp0
          cases hie : (wTo f S 9).isEmpty
          · skip
            have hm := may_bad4 HOK.out hvo hp0 hie
            have HR := H7 (fun w' => show Calls Tryz.prog 24 #[.agg f.cells, .agg (lit9 S)] w' (Gives (.tuple #[.agg (lit9 (fun _ => 0)), .bool false]) w') from by have h := ready_any f S w'; rw [hm.rb, hm.rv] at h; exact h)
            have HF := H7 (fun w' => show Calls Tryz.prog 25 #[.agg f.cells, .agg (lit9 S)] w' (Gives (.tuple #[.agg (frZ).cells, .int .i64 4]) w') from by have h := fold_any f S w'; rw [hm.nf, hm.e] at h; exact h)
            have HW := H7 (fun w' => show Calls Tryz.prog 31 #[.agg f.cells, .agg (lit9 S)] w' (GivesRow 3 1 (wTo f S 9).length ((wTo f S 9).flatMap encZ) w') from by have h := waits_any f S w'; rw [hm.lw] at h; exact h)
            clear hm
            repeat ((fail_if_success (with_reducible refine stop_at (id := 12) ?_)); (first | go_values | go_skip | go_guarded | go_step | go_upon | go_back | (simp only [Int.not_lt, Int.not_le] at *; go_simp) | (go_values <;> (try go_simp)) | (go_ite <;> go_prune <;> (try go_simp)) | (split <;> (first | (rename_i hx; exact (hx _ rfl).elim) | go_prune))))
            refine (wpIn_wide (n := 0)).1 ?_
            repeat (first | (refine ldF _ rfl rfl (HS.out.blockAt 1 rfl) ?_; simp only [Act.put, List.setIfInBounds_toArray, List.set_cons_succ, List.set_cons_zero]) | (refine ldV _ rfl rfl (HS.out.blockAt 0 rfl) ?_; simp only [Act.put, List.setIfInBounds_toArray, List.set_cons_succ, List.set_cons_zero]) | gi_step)
            refine (callsIn_wide.2 (HR.out _)).mono ?_
            rintro e w7 ⟨rfl, hb_⟩
            have HS := H7 (HS.out.below hb_)
            clear hb_
            clear HR
            simp only []; go_at_K
            repeat (first | (refine nwV rfl ?_; simp only [Act.put, List.setIfInBounds_toArray, List.set_cons_succ, List.set_cons_zero]) | (refine stNewV _ _ rfl rfl rfl rfl rfl ?_; simp only [Act.put, List.setIfInBounds_toArray, List.set_cons_succ, List.set_cons_zero]) | gi_step)
            gi_wp2_with fail
            have hs_ := (HS.out.alloc (.cells (lit9 (fun _ => 0)) 24))
            obtain ⟨w8, hw_⟩ : ∃ w8 : World, (w7.alloc (.cells (lit9 (fun _ => 0)) 24)) = w8 := ⟨_, rfl⟩
            rw [hw_] at hs_
            try simp only [World.size_alloc] at hs_
            have HS := H7 hs_
            rw [hw_]
            clear hw_ hs_
            repeat ((fail_if_success (with_reducible refine stop_at (id := 13) ?_)); (first | go_values | go_skip | go_guarded | go_step | go_upon | go_back | (simp only [Int.not_lt, Int.not_le] at *; go_simp) | (go_values <;> (try go_simp)) | (go_ite <;> go_prune <;> (try go_simp)) | (split <;> (first | (rename_i hx; exact (hx _ rfl).elim) | go_prune))))
            refine (wpIn_wide (n := 0)).1 ?_
            repeat (first | (refine ldF _ rfl rfl (HS.out.blockAt 2 rfl) ?_; simp only [Act.put, List.setIfInBounds_toArray, List.set_cons_succ, List.set_cons_zero]) | (refine ldV _ rfl rfl (HS.out.blockAt 1 rfl) ?_; simp only [Act.put, List.setIfInBounds_toArray, List.set_cons_succ, List.set_cons_zero]) | gi_step)
            refine (callsIn_wide.2 (HF.out _)).mono ?_
            rintro e w9 ⟨rfl, hb_⟩
            have HS := H7 (HS.out.below hb_)
            clear hb_
            clear HF
            simp only []; go_at_K
            repeat (first | (refine nwF rfl ?_; simp only [Act.put, List.setIfInBounds_toArray, List.set_cons_succ, List.set_cons_zero]) | (refine stNewF _ _ rfl rfl rfl rfl rfl ?_; simp only [Act.put, List.setIfInBounds_toArray, List.set_cons_succ, List.set_cons_zero]) | gi_step)
            gi_wp2_with fail
            have hs_ := (HS.out.alloc (.cells (frZ).cells 29))
            obtain ⟨wa, hw_⟩ : ∃ wa : World, (w9.alloc (.cells (frZ).cells 29)) = wa := ⟨_, rfl⟩
            rw [hw_] at hs_
            try simp only [World.size_alloc] at hs_
            have HS := H7 hs_
            rw [hw_]
            clear hw_ hs_
            repeat ((fail_if_success (with_reducible refine stop_at (id := 18) ?_)); (first | go_values | go_skip | go_guarded | go_step | go_upon | go_back | (simp only [Int.not_lt, Int.not_le] at *; go_simp) | (go_values <;> (try go_simp)) | (go_ite <;> go_prune <;> (try go_simp)) | (split <;> (first | (rename_i hx; exact (hx _ rfl).elim) | go_prune))))
            rw [zeroF, litZ]
            have hs_ := ((HS.out.alloc (.cells (lit9 fun _ => 0) 24)).alloc (.cells frZ.cells 29))
            obtain ⟨wb, hw_⟩ : ∃ wb : World, ((wa.alloc (.cells (lit9 fun _ => 0) 24)).alloc (.cells frZ.cells 29)) = wb := ⟨_, rfl⟩
            rw [hw_] at hs_
            try simp only [World.size_alloc] at hs_
            have HS := H7 hs_
            rw [hw_]
            clear hw_ hs_
            have c22 := Frt.propC (HS.out.blockAt 5 rfl)
            repeat ((fail_if_success (with_reducible refine stop_at (id := 22) ?_)); (first | go_values | go_skip | go_guarded | go_step | go_upon | go_back | (simp only [Int.not_lt, Int.not_le] at *; go_simp) | (go_values <;> (try go_simp)) | (go_ite <;> go_prune <;> (try go_simp)) | (split <;> (first | (rename_i hx; exact (hx _ rfl).elim) | go_prune))))
            refine (wpIn_wide (n := 0)).1 ?_
            repeat (first | (exfalso; exact undefB (by assumption)) | (refine ldV _ rfl rfl (HS.out.blockAt 4 rfl) ?_; simp only [Act.put, List.setIfInBounds_toArray, List.set_cons_succ, List.set_cons_zero]) | gi_step)
            gi_wp2_with (exfalso; exact undefB (by assumption))
            clear c22
            have hww := fun w' => show Calls Tryz.prog 26 #[.agg f.cells, .agg (lit9 S)] w' (GivesRow 3 1 (wTo f S 9).length ((wTo f S 9).flatMap encZ) w') from r18Waits_any f S w'
            have hrr := fun w' => r18Ready_any f S w'
            rw [hgp, hie, Bool.true_and] at hrr
            have hnl := wTo_len f S 9
            generalize wTo f S 9 = LW at hww HW hnl
            obtain ⟨nW, hnW⟩ : ∃ m, LW.length = m := ⟨_, rfl⟩
            have HNW := H7 hnW
            have HNB := H7 (show nW ≤ 1000000 from by omega)
            rw [hnW] at hww
            clear hnW hnl hgp hie
            repeat ((fail_if_success (with_reducible refine stop_at (id := 23) ?_)); (first | go_values | go_skip | go_guarded | go_step | go_upon | go_back | (simp only [Int.not_lt, Int.not_le] at *; go_simp) | (go_values <;> (try go_simp)) | (go_ite <;> go_prune <;> (try go_simp)) | (split <;> (first | (rename_i hx; exact (hx _ rfl).elim) | go_prune))))
            refine (wpIn_wide (n := 0)).1 ?_
            repeat (first | (refine ldF _ rfl rfl (HS.out.blockAt 5 rfl) ?_; simp only [Act.put, List.setIfInBounds_toArray, List.set_cons_succ, List.set_cons_zero]) | (refine ldV _ rfl rfl (HS.out.blockAt 4 rfl) ?_; simp only [Act.put, List.setIfInBounds_toArray, List.set_cons_succ, List.set_cons_zero]) | gi_step)
            refine (callsIn_wide.2 (hww _)).mono ?_
            rintro e wc ⟨sv, rfl, hrow, hb_⟩
            have HS := H7 (HS.out.below hb_)
            clear hb_
            have HRW := H7 (RowH.mk HNW.out hrow)
            clear hww hrow
            obtain ⟨a4, c4, rfl⟩ := HRW.out.shape
            gi_wp2_with fail
            repeat ((fail_if_success (with_reducible refine stop_at (id := 24) ?_)); (first | go_values | go_skip | go_guarded | go_step | go_upon | go_back | (simp only [Int.not_lt, Int.not_le] at *; go_simp) | (go_values <;> (try go_simp)) | (go_ite <;> go_prune <;> (try go_simp)) | (split <;> (first | (rename_i hx; exact (hx _ rfl).elim) | go_prune))))
            refine (wpIn_wide (n := 0)).1 ?_
            repeat (first | (refine ldF _ rfl rfl (HS.out.blockAt 5 rfl) ?_; simp only [Act.put, List.setIfInBounds_toArray, List.set_cons_succ, List.set_cons_zero]) | (refine ldV _ rfl rfl (HS.out.blockAt 4 rfl) ?_; simp only [Act.put, List.setIfInBounds_toArray, List.set_cons_succ, List.set_cons_zero]) | gi_step)
            refine (callsIn_wide.2 (hrr _)).mono ?_
            rintro e wc2 ⟨rfl, hb_⟩
            have HS := H7 (HS.out.below hb_)
            have HRW := H7 (HRW.out.below hb_)
            clear hb_
            clear hrr
            gi_wp2_with (exfalso; exact undefB (by assumption))
            repeat ((fail_if_success (with_reducible refine stop_at (id := 27) ?_)); (first | go_values | go_skip | go_guarded | go_step | go_upon | go_back | (simp only [Int.not_lt, Int.not_le] at *; go_simp) | (go_values <;> (try go_simp)) | (go_ite <;> go_prune <;> (try go_simp)) | (split <;> (first | (rename_i hx; exact (hx _ rfl).elim) | go_prune))))
            have hv1 := vecEq_self ((fun _ => 0))
            have hf1 := frEq_self (frZ)
            refine (wpIn_wide (n := 0)).1 ?_
            repeat (first | (exfalso; exact undefB (by assumption)) | (refine ldV _ rfl rfl (HS.out.blockAt 3 rfl) ?_; simp only [Act.put, List.setIfInBounds_toArray, List.set_cons_succ, List.set_cons_zero]) | (refine ldV _ rfl rfl (HS.out.blockAt 1 rfl) ?_; simp only [Act.put, List.setIfInBounds_toArray, List.set_cons_succ, List.set_cons_zero]) | (refine neV' _ _ _ rfl rfl rfl hv1 ?_; simp only [Act.put, List.setIfInBounds_toArray, List.set_cons_succ, List.set_cons_zero]) | (refine ldF _ rfl rfl (HS.out.blockAt 2 rfl) ?_; simp only [Act.put, List.setIfInBounds_toArray, List.set_cons_succ, List.set_cons_zero]) | (refine ldF _ rfl rfl (HS.out.blockAt 0 rfl) ?_; simp only [Act.put, List.setIfInBounds_toArray, List.set_cons_succ, List.set_cons_zero]) | (refine neF' _ _ _ rfl rfl rfl hf1 ?_; simp only [Act.put, List.setIfInBounds_toArray, List.set_cons_succ, List.set_cons_zero]) | (refine ldF _ rfl rfl (HS.out.blockAt 5 rfl) ?_; simp only [Act.put, List.setIfInBounds_toArray, List.set_cons_succ, List.set_cons_zero]) | (refine ldV _ rfl rfl (HS.out.blockAt 4 rfl) ?_; simp only [Act.put, List.setIfInBounds_toArray, List.set_cons_succ, List.set_cons_zero]) | gi_step)
            refine (callsIn_wide.2 (HW.out _)).mono ?_
            rintro e wd ⟨sv, rfl, hrow, hb_⟩
            have HS := H7 (HS.out.below hb_)
            have HRW := H7 (HRW.out.below hb_)
            clear hb_
            clear HW
            rw [HNW.out] at hrow
            have HRX := H7 (RowH.mk HNW.out hrow)
            clear hrow
            obtain ⟨a5, c5, rfl⟩ := HRX.out.shape
            simp only []; go_at_K
            repeat gi_step
            refine (callsIn_wide.2 (eqZn a5 a4 c5 c4 _ HNW.out HNB.out wd HRX.out.el HRW.out.el)).mono ?_
            rintro e we ⟨rfl, hb_⟩
            have HS := H7 (HS.out.below hb_)
            clear hb_
            clear HRX hv1 hf1 HRW HNW HNB
            gi_wp2_with (exfalso; exact undefB (by assumption))
            have HS2 := H7 HS.out.tl.tl.tl.tl.tl
            have hlt := HLT.out.1
            have hk5 := HLT.out.2
            go_wp2_with fail
            refine ⟨?_, ?measure⟩
            repeat apply Exists.intro
            refine ⟨?rel, rfl⟩
            case rel =>
             refine ⟨k + 1, ?_⟩
             refine ⟨hlt, hk5, by simp, ?_⟩
             exact HS2.out
            case measure => exact frM hlt (by simp)
          · skip
            have hm := may_good HOK.out hvo hp0 hie
            have HR := H7 (fun w' => show Calls Tryz.prog 24 #[.agg f.cells, .agg (lit9 S)] w' (Gives (.tuple #[.agg (lit9 (askF f)), .bool true]) w') from by have h := ready_any f S w'; rw [hm.rb, hm.rv] at h; exact h)
            have HF := H7 (fun w' => show Calls Tryz.prog 25 #[.agg f.cells, .agg (lit9 S)] w' (Gives (.tuple #[.agg (foldF f).cells, .int .i64 0]) w') from by have h := fold_any f S w'; rw [hm.nf, hm.e] at h; exact h)
            have HW := H7 (fun w' => show Calls Tryz.prog 31 #[.agg f.cells, .agg (lit9 S)] w' (GivesRow 3 1 (wTo f S 9).length ((wTo f S 9).flatMap encZ) w') from by have h := waits_any f S w'; rw [hm.lw] at h; exact h)
            clear hm
            repeat ((fail_if_success (with_reducible refine stop_at (id := 12) ?_)); (first | go_values | go_skip | go_guarded | go_step | go_upon | go_back | (simp only [Int.not_lt, Int.not_le] at *; go_simp) | (go_values <;> (try go_simp)) | (go_ite <;> go_prune <;> (try go_simp)) | (split <;> (first | (rename_i hx; exact (hx _ rfl).elim) | go_prune))))
            refine (wpIn_wide (n := 0)).1 ?_
            repeat (first | (refine ldF _ rfl rfl (HS.out.blockAt 1 rfl) ?_; simp only [Act.put, List.setIfInBounds_toArray, List.set_cons_succ, List.set_cons_zero]) | (refine ldV _ rfl rfl (HS.out.blockAt 0 rfl) ?_; simp only [Act.put, List.setIfInBounds_toArray, List.set_cons_succ, List.set_cons_zero]) | gi_step)
            refine (callsIn_wide.2 (HR.out _)).mono ?_
            rintro e w7 ⟨rfl, hb_⟩
            have HS := H7 (HS.out.below hb_)
            clear hb_
            clear HR
            simp only []; go_at_K
            repeat (first | (refine nwV rfl ?_; simp only [Act.put, List.setIfInBounds_toArray, List.set_cons_succ, List.set_cons_zero]) | (refine stNewV _ _ rfl rfl rfl rfl rfl ?_; simp only [Act.put, List.setIfInBounds_toArray, List.set_cons_succ, List.set_cons_zero]) | gi_step)
            gi_wp2_with fail
            have hs_ := (HS.out.alloc (.cells (lit9 (askF f)) 24))
            obtain ⟨w8, hw_⟩ : ∃ w8 : World, (w7.alloc (.cells (lit9 (askF f)) 24)) = w8 := ⟨_, rfl⟩
            rw [hw_] at hs_
            try simp only [World.size_alloc] at hs_
            have HS := H7 hs_
            rw [hw_]
            clear hw_ hs_
            repeat ((fail_if_success (with_reducible refine stop_at (id := 13) ?_)); (first | go_values | go_skip | go_guarded | go_step | go_upon | go_back | (simp only [Int.not_lt, Int.not_le] at *; go_simp) | (go_values <;> (try go_simp)) | (go_ite <;> go_prune <;> (try go_simp)) | (split <;> (first | (rename_i hx; exact (hx _ rfl).elim) | go_prune))))
            refine (wpIn_wide (n := 0)).1 ?_
            repeat (first | (refine ldF _ rfl rfl (HS.out.blockAt 2 rfl) ?_; simp only [Act.put, List.setIfInBounds_toArray, List.set_cons_succ, List.set_cons_zero]) | (refine ldV _ rfl rfl (HS.out.blockAt 1 rfl) ?_; simp only [Act.put, List.setIfInBounds_toArray, List.set_cons_succ, List.set_cons_zero]) | gi_step)
            refine (callsIn_wide.2 (HF.out _)).mono ?_
            rintro e w9 ⟨rfl, hb_⟩
            have HS := H7 (HS.out.below hb_)
            clear hb_
            clear HF
            simp only []; go_at_K
            repeat (first | (refine nwF rfl ?_; simp only [Act.put, List.setIfInBounds_toArray, List.set_cons_succ, List.set_cons_zero]) | (refine stNewF _ _ rfl rfl rfl rfl rfl ?_; simp only [Act.put, List.setIfInBounds_toArray, List.set_cons_succ, List.set_cons_zero]) | gi_step)
            gi_wp2_with fail
            have hs_ := (HS.out.alloc (.cells (foldF f).cells 29))
            obtain ⟨wa, hw_⟩ : ∃ wa : World, (w9.alloc (.cells (foldF f).cells 29)) = wa := ⟨_, rfl⟩
            rw [hw_] at hs_
            try simp only [World.size_alloc] at hs_
            have HS := H7 hs_
            rw [hw_]
            clear hw_ hs_
            repeat ((fail_if_success (with_reducible refine stop_at (id := 18) ?_)); (first | go_values | go_skip | go_guarded | go_step | go_upon | go_back | (simp only [Int.not_lt, Int.not_le] at *; go_simp) | (go_values <;> (try go_simp)) | (go_ite <;> go_prune <;> (try go_simp)) | (split <;> (first | (rename_i hx; exact (hx _ rfl).elim) | go_prune))))
            rw [zeroF, litZ]
            have hs_ := ((HS.out.alloc (.cells (lit9 fun _ => 0) 24)).alloc (.cells frZ.cells 29))
            obtain ⟨wb, hw_⟩ : ∃ wb : World, ((wa.alloc (.cells (lit9 fun _ => 0) 24)).alloc (.cells frZ.cells 29)) = wb := ⟨_, rfl⟩
            rw [hw_] at hs_
            try simp only [World.size_alloc] at hs_
            have HS := H7 hs_
            rw [hw_]
            clear hw_ hs_
            have c22 := Frt.propC (HS.out.blockAt 5 rfl)
            repeat ((fail_if_success (with_reducible refine stop_at (id := 22) ?_)); (first | go_values | go_skip | go_guarded | go_step | go_upon | go_back | (simp only [Int.not_lt, Int.not_le] at *; go_simp) | (go_values <;> (try go_simp)) | (go_ite <;> go_prune <;> (try go_simp)) | (split <;> (first | (rename_i hx; exact (hx _ rfl).elim) | go_prune))))
            refine (wpIn_wide (n := 0)).1 ?_
            repeat (first | (exfalso; exact undefB (by assumption)) | (refine ldV _ rfl rfl (HS.out.blockAt 4 rfl) ?_; simp only [Act.put, List.setIfInBounds_toArray, List.set_cons_succ, List.set_cons_zero]) | gi_step)
            gi_wp2_with (exfalso; exact undefB (by assumption))
            clear c22
            have hww := fun w' => show Calls Tryz.prog 26 #[.agg f.cells, .agg (lit9 S)] w' (GivesRow 3 1 (wTo f S 9).length ((wTo f S 9).flatMap encZ) w') from r18Waits_any f S w'
            have hrr := fun w' => r18Ready_any f S w'
            rw [hgp, hie, Bool.true_and] at hrr
            have hnl := wTo_len f S 9
            generalize wTo f S 9 = LW at hww HW hnl
            obtain ⟨nW, hnW⟩ : ∃ m, LW.length = m := ⟨_, rfl⟩
            have HNW := H7 hnW
            have HNB := H7 (show nW ≤ 1000000 from by omega)
            rw [hnW] at hww
            clear hnW hnl hgp hie
            repeat ((fail_if_success (with_reducible refine stop_at (id := 23) ?_)); (first | go_values | go_skip | go_guarded | go_step | go_upon | go_back | (simp only [Int.not_lt, Int.not_le] at *; go_simp) | (go_values <;> (try go_simp)) | (go_ite <;> go_prune <;> (try go_simp)) | (split <;> (first | (rename_i hx; exact (hx _ rfl).elim) | go_prune))))
            refine (wpIn_wide (n := 0)).1 ?_
            repeat (first | (refine ldF _ rfl rfl (HS.out.blockAt 5 rfl) ?_; simp only [Act.put, List.setIfInBounds_toArray, List.set_cons_succ, List.set_cons_zero]) | (refine ldV _ rfl rfl (HS.out.blockAt 4 rfl) ?_; simp only [Act.put, List.setIfInBounds_toArray, List.set_cons_succ, List.set_cons_zero]) | gi_step)
            refine (callsIn_wide.2 (hww _)).mono ?_
            rintro e wc ⟨sv, rfl, hrow, hb_⟩
            have HS := H7 (HS.out.below hb_)
            clear hb_
            have HRW := H7 (RowH.mk HNW.out hrow)
            clear hww hrow
            obtain ⟨a4, c4, rfl⟩ := HRW.out.shape
            gi_wp2_with fail
            repeat ((fail_if_success (with_reducible refine stop_at (id := 24) ?_)); (first | go_values | go_skip | go_guarded | go_step | go_upon | go_back | (simp only [Int.not_lt, Int.not_le] at *; go_simp) | (go_values <;> (try go_simp)) | (go_ite <;> go_prune <;> (try go_simp)) | (split <;> (first | (rename_i hx; exact (hx _ rfl).elim) | go_prune))))
            refine (wpIn_wide (n := 0)).1 ?_
            repeat (first | (refine ldF _ rfl rfl (HS.out.blockAt 5 rfl) ?_; simp only [Act.put, List.setIfInBounds_toArray, List.set_cons_succ, List.set_cons_zero]) | (refine ldV _ rfl rfl (HS.out.blockAt 4 rfl) ?_; simp only [Act.put, List.setIfInBounds_toArray, List.set_cons_succ, List.set_cons_zero]) | gi_step)
            refine (callsIn_wide.2 (hrr _)).mono ?_
            rintro e wc2 ⟨rfl, hb_⟩
            have HS := H7 (HS.out.below hb_)
            have HRW := H7 (HRW.out.below hb_)
            clear hb_
            clear hrr
            gi_wp2_with (exfalso; exact undefB (by assumption))
            repeat ((fail_if_success (with_reducible refine stop_at (id := 26) ?_)); (first | go_values | go_skip | go_guarded | go_step | go_upon | go_back | (simp only [Int.not_lt, Int.not_le] at *; go_simp) | (go_values <;> (try go_simp)) | (go_ite <;> go_prune <;> (try go_simp)) | (split <;> (first | (rename_i hx; exact (hx _ rfl).elim) | go_prune))))
            have HAK := H7 (ask_lit HOK.out)
            have HFC := H7 (fold_cells HOK.out)
            have HAA := H7 (fun w' => show Calls Tryz.prog 28 #[.agg f.cells] w' (Gives (.agg (lit9 (askF f))) w') from by rw [← HAK.out]; exact r18Asked_any f w')
            have HFF := H7 (fun w' => show Calls Tryz.prog 29 #[.agg f.cells] w' (Gives (.agg (foldF f).cells) w') from by rw [← HFC.out]; exact r18Fold_any f w')
            clear HAK HFC
            generalize foldF f = NF at HS HFF ⊢
            generalize askF f = RV at HS HAA ⊢
            refine (wpIn_wide (n := 0)).1 ?_
            apply w7v 4 (Rl := [(eqv _), (eqv _), (eqv _), (eqv _)]) (C := (fun x y => Below x.heap.size x y))
            case hm => kernel_rfl
            case hk => rfl
            case hCr => exact (fun _ => B7 _ _)
            case hCt => intro _ _ _; exact (fun h k => g7t h k)
            case hst => repeat (first | exact trivial | refine ⟨fun _ _ _ _ h => h, ?_⟩)
            case hfo => kernel_rfl
            case ht => kernel_rfl
            case hC0 => exact (g7d _)
            case hsteps =>
             refine ⟨?_, ?_, ?_, ?_, trivial⟩
             · intro a' w' hA hC hD; have s3 := hA.to 3 (by kernel_rfl) rfl; clear hA hD; refine o7p rfl ?_; intro K hK
               refine ldF _ rfl (by simp [Act.eval, s3]) ((HS.out.below hC).blockAt 5 rfl) ?_; exact hK _ _ rfl (B7 _ _)
             · intro a' w' hA hC hD; obtain ⟨u97, s97, rfl⟩ := hD ⟨0, .data⟩ (by simp) rfl _ rfl; clear hA hD; refine o7p rfl ?_; intro K hK
               gi_wp2_with fail; refine (callsIn_wide.2 (HAA.out _)).mono ?_; rintro e w2 ⟨rfl, hb⟩
               exact hK _ _ rfl hb
             · intro a' w' hA hC hD; have s3 := hA.to 3 (by kernel_rfl) rfl; clear hA hD; refine o7p rfl ?_; intro K hK
               refine ldF _ rfl (by simp [Act.eval, s3]) ((HS.out.below hC).blockAt 5 rfl) ?_; exact hK _ _ rfl (B7 _ _)
             · intro a' w' hA hC hD; obtain ⟨u99, s99, rfl⟩ := hD ⟨2, .data⟩ (by simp) rfl _ rfl; clear hA hD; refine o7p rfl ?_; intro K hK
               gi_wp2_with fail; refine (callsIn_wide.2 (HFF.out _)).mono ?_; rintro e w2 ⟨rfl, hb⟩
               exact hK _ _ rfl hb
            case' hend =>
             intro wx hC
             simp only [EndFrom, eqv, forall_eq, Act.put, List.length_cons, List.length_nil, List.drop_succ_cons, List.drop_zero, Nat.reduceAdd, List.setIfInBounds_toArray, List.set_cons_succ, List.set_cons_zero]
             have HS := H7 (HS.out.below hC)
             have HRW := H7 (HRW.out.below hC)
             clear hC
             clear HAA HFF
             gi_step
             refine stV (f := RV) _ _ rfl rfl (HS.out.blockAt 1 rfl) rfl rfl ?_
             simp only [Act.put, List.setIfInBounds_toArray, List.set_cons_succ, List.set_cons_zero]
             rename_i hK_
             refine hK_ _ _ ?_
             clear hK_
             have hs := HS.out.putRow (c' := lit9 RV) (pre := [.blk _ _]) (by intro i hi; exact ⟨_, _, List.mem_singleton.1 hi⟩)
             simp only [List.cons_append, List.nil_append] at hs
             have HRW := H7 (HRW.out.setRow (HS.out.blockAt 1 rfl) (by decide) (lit9 RV))
             have HS := H7 hs
             clear hs
             gi_step
             refine stF (f := NF) _ _ rfl rfl (HS.out.blockAt 0 rfl) rfl rfl ?_
             simp only [Act.put, List.setIfInBounds_toArray, List.set_cons_succ, List.set_cons_zero]
             rename_i hK_
             refine hK_ _ _ ?_
             clear hK_
             have hs := HS.out.putRow (c' := NF.cells) (pre := []) (by intro i hi; cases hi)
             simp only [List.nil_append] at hs
             have HRW := H7 (HRW.out.setRow (HS.out.blockAt 0 rfl) (by decide) NF.cells)
             have HS := H7 hs
             clear hs
             generalize World.setRow _ (wa.heap.size + 1) NF.cells = wy at HS HRW ⊢
             gi_wp2_with fail
            repeat ((fail_if_success (with_reducible refine stop_at (id := 27) ?_)); (first | go_values | go_skip | go_guarded | go_step | go_upon | go_back | (simp only [Int.not_lt, Int.not_le] at *; go_simp) | (go_values <;> (try go_simp)) | (go_ite <;> go_prune <;> (try go_simp)) | (split <;> (first | (rename_i hx; exact (hx _ rfl).elim) | go_prune))))
            have hv1 := vecEq_self (RV)
            have hf1 := frEq_self (NF)
            refine (wpIn_wide (n := 0)).1 ?_
            repeat (first | (exfalso; exact undefB (by assumption)) | (refine ldV _ rfl rfl (HS.out.blockAt 3 rfl) ?_; simp only [Act.put, List.setIfInBounds_toArray, List.set_cons_succ, List.set_cons_zero]) | (refine ldV _ rfl rfl (HS.out.blockAt 1 rfl) ?_; simp only [Act.put, List.setIfInBounds_toArray, List.set_cons_succ, List.set_cons_zero]) | (refine neV' _ _ _ rfl rfl rfl hv1 ?_; simp only [Act.put, List.setIfInBounds_toArray, List.set_cons_succ, List.set_cons_zero]) | (refine ldF _ rfl rfl (HS.out.blockAt 2 rfl) ?_; simp only [Act.put, List.setIfInBounds_toArray, List.set_cons_succ, List.set_cons_zero]) | (refine ldF _ rfl rfl (HS.out.blockAt 0 rfl) ?_; simp only [Act.put, List.setIfInBounds_toArray, List.set_cons_succ, List.set_cons_zero]) | (refine neF' _ _ _ rfl rfl rfl hf1 ?_; simp only [Act.put, List.setIfInBounds_toArray, List.set_cons_succ, List.set_cons_zero]) | (refine ldF _ rfl rfl (HS.out.blockAt 5 rfl) ?_; simp only [Act.put, List.setIfInBounds_toArray, List.set_cons_succ, List.set_cons_zero]) | (refine ldV _ rfl rfl (HS.out.blockAt 4 rfl) ?_; simp only [Act.put, List.setIfInBounds_toArray, List.set_cons_succ, List.set_cons_zero]) | gi_step)
            refine (callsIn_wide.2 (HW.out _)).mono ?_
            rintro e wd ⟨sv, rfl, hrow, hb_⟩
            have HS := H7 (HS.out.below hb_)
            have HRW := H7 (HRW.out.below hb_)
            clear hb_
            clear HW
            rw [HNW.out] at hrow
            have HRX := H7 (RowH.mk HNW.out hrow)
            clear hrow
            obtain ⟨a5, c5, rfl⟩ := HRX.out.shape
            simp only []; go_at_K
            repeat gi_step
            refine (callsIn_wide.2 (eqZn a5 a4 c5 c4 _ HNW.out HNB.out wd HRX.out.el HRW.out.el)).mono ?_
            rintro e we ⟨rfl, hb_⟩
            have HS := H7 (HS.out.below hb_)
            clear hb_
            clear HRX hv1 hf1 HRW HNW HNB
            gi_wp2_with (exfalso; exact undefB (by assumption))
            have HS2 := H7 HS.out.tl.tl.tl.tl.tl
            have hlt := HLT.out.1
            have hk5 := HLT.out.2
            go_wp2_with fail
            refine ⟨?_, ?measure⟩
            repeat apply Exists.intro
            refine ⟨?rel, rfl⟩
            case rel =>
             refine ⟨k + 1, ?_⟩
             refine ⟨hlt, hk5, by simp, ?_⟩
             exact HS2.out
            case measure => exact frM hlt (by simp)
  · obtain rfl : k = n1 := by omega
    go_wp2_with fail
    go_loopw [23, 21] (fun i v wq => ∃ k : Nat, 1 ≤ k ∧ k ≤ 9 ∧ i = .int .i64 (k : Int) ∧ StO w [.blk w.heap.size (.cells f.cells 29 (0, 0))] wr.heap.size 3 1 encZ v (inTo f k) wq) (fun i _ _ => 9 - (intOf i).toNat)
    case atStart => exact ⟨1, by omega, by omega, rfl, by rw [inTo_one HOK.out]; exact StO.start HS.out _ _ _⟩
    case round =>
     obtain ⟨k, hk1, hk9, rfl, ho⟩ := hrel
     clear HS
     have HO := H7 ho
     have HS := H7 ho.st
     have HB := H7 (B7 wr.heap.size wr)
     clear ho
     by_cases hlt : k ≤ 8
     · have hk9' : k < 9 := by omega
       obtain ⟨n0, hn0⟩ : ∃ n0, (inTo f k).length = n0 := ⟨_, rfl⟩
       have HN := H7 (And.intro hn0 (show n0 ≤ 9 from by have := inTo_len f k; omega))
       clear hn0
       cases hi : (f.site k).inn
       · have c0 := Frt.cell0 (HS.out.blockAt 0 rfl) hk9' (show (f.site k).l[0]? = some (.bool false) from by rw [← hi]; rfl)
         repeat ((fail_if_success (with_reducible refine stop_at (id := 34) ?_)); (first | go_values | go_skip | go_guarded | go_step | go_upon | go_back | (simp only [Int.not_lt, Int.not_le] at *; go_simp) | (go_values <;> (try go_simp)) | (go_ite <;> go_prune <;> (try go_simp)) | (split <;> (first | (rename_i hx; exact (hx _ rfl).elim) | go_prune))))
         refine (wpIn_wide (n := 0)).1 ?_
         gi_wp2_with fail
         clear c0
         go_wp2_with fail
         go_roundw
         case rel => exact ⟨k + 1, by omega, by omega, by simp, by rw [inTo_no hi]; exact HO.out⟩
         case measure => simp [intOf]; omega
       · have c0 := Frt.cell0 (HS.out.blockAt 0 rfl) hk9' (show (f.site k).l[0]? = some (.bool true) from by rw [← hi]; rfl)
         repeat ((fail_if_success (with_reducible refine stop_at (id := 34) ?_)); (first | go_values | go_skip | go_guarded | go_step | go_upon | go_back | (simp only [Int.not_lt, Int.not_le] at *; go_simp) | (go_values <;> (try go_simp)) | (go_ite <;> go_prune <;> (try go_simp)) | (split <;> (first | (rename_i hx; exact (hx _ rfl).elim) | go_prune))))
         refine (wpIn_wide (n := 0)).1 ?_
         gi_wp2_with fail
         clear c0
         go_wp2_with (at_builtin; refine wpList_app1l rowZ encZ_len encZ_one HO.out HB.out (k : Int) n0 HN.out.1 (by have := HN.out.2; omega) (by decide) _ _ rfl rfl rfl _ rfl (by rfl) ?_; intro v' W3 ho3 hsh hg3 hl3; obtain ⟨ad3, cp3, rfl⟩ := hsh; have HO3 := H7 ho3; clear ho3 hg3 hl3)
         refine ⟨?_, ?measure⟩
         repeat apply Exists.intro
         refine ⟨?rel, rfl⟩
         case rel =>
          refine ⟨k + 1, ?_⟩
          refine ⟨by omega, by omega, ?_⟩
          rw [inTo_yes hi]
          refine ⟨by simp, ?_⟩
          exact HO3.out
         case measure => simp [intOf]; omega
     · obtain rfl : k = 9 := by omega
       obtain ⟨aA, cA, rfl, -⟩ := HO.out.shape
       repeat ((fail_if_success (with_reducible refine stop_at (id := 36) ?_)); (first | go_values | go_skip | go_guarded | go_step | go_upon | go_back | (simp only [Int.not_lt, Int.not_le] at *; go_simp) | (go_values <;> (try go_simp)) | (go_ite <;> go_prune <;> (try go_simp)) | (split <;> (first | (rename_i hx; exact (hx _ rfl).elim) | go_prune))))
       have hea := HO.out.elems encZ_len
       obtain ⟨LA, hLA⟩ : ∃ LA, inTo f 9 = LA := ⟨_, rfl⟩
       have hin := inTo_len f 9
       rw [hLA] at hea hin
       rw [hLA]
       obtain ⟨nA, hnA⟩ : ∃ nA, LA.length = nA := ⟨_, rfl⟩
       rw [hnA] at hea hin
       rw [hnA]
       have HNA := H7 (And.intro hnA hin)
       have HSA := H7 (show sitesL f [] = LA from by rw [← hLA]; exact sites_nil HOK.out)
       have HSN := H7 (show ∀ l, l.length ≠ 0 → sitesL f l = l.filter fun x => decide (x ∈ LA) from fun l hl => by rw [← hLA]; exact sites_some HOK.out hl)
       have hs := HO.out.st.addRow hea
       clear HO hea hin HB
       generalize wr.heap.size = t0 at hs
       have HS := H7 hs
       clear hs
       have hb1 : min (n2 : Int) 10 ≤ (c2 : Int) := by have := HL.out.2; omega
       have hb0 : 0 ≤ min (n2 : Int) 10 := by omega
       refine (wpIn_wide (n := 0)).1 ?_
       repeat gi_step
       obtain ⟨m, hm⟩ : ∃ m, (min (n2 : Int) 10).toNat = m := ⟨_, rfl⟩
       rw [hm]
       have hm5 : m ≤ n2 ∧ m ≤ 10 := by omega
       obtain ⟨L, hL⟩ : ∃ L, Z.take m = L := ⟨_, rfl⟩
       have hLm : L.length = m := by rw [← hL, List.length_take, HL.out.1]; omega
       have HEL := H7 (hL ▸ Elems.take encZ_len HL.out.1 (HE2.out wr HS.out.low) hm5.1)
       have HLM := H7 (And.intro hLm hm5.2)
       clear hb1 hb0 hm hm5 hL hLm
       refine (callsIn_wide.2 (cloneZn _ L m HLM.out.1 wr HEL.out (by have := HLM.out.2; omega))).mono ?_
       rintro e wp ⟨sv, rfl, hrow, -, hb_⟩
       have HS := H7 (HS.out.below hb_)
       clear hb_
       have HRL := H7 (RowH.mk HLM.out.1 hrow)
       clear hrow HEL
       obtain ⟨a3, c3, rfl⟩ := HRL.out.shape
       have hs := HS.out.addRow HRL.out.el
       generalize wp.heap.size = t1 at hs
       have HS := H7 hs
       clear hs HRL
       gi_wp2_with fail
       go_wp2_with fail
       go_loopw [152, 22] (fun i v wq => ∃ j : Nat, j ≤ m ∧ i = .int .i64 (j : Int) ∧ StO w [.row (.slice a3 m c3) m 1 (rowC encZ L) t1, .row (.slice aA nA cA) nA 1 (rowC encZ LA) t0, .blk w.heap.size (.cells f.cells 29 (0, 0))] wp.heap.size 3 1 encZ v ((L.take j).filter fun x => decide (x ∈ LA)) wq) (fun i _ _ => m - (intOf i).toNat)
       case atStart => exact ⟨0, by omega, rfl, StO.start HS.out _ _ _⟩
       case round =>
        obtain ⟨j, hj, rfl, ho⟩ := hrel
        clear HS
        have HO := H7 ho
        have HS := H7 ho.st
        clear ho
        by_cases hlt : j < m
        · obtain ⟨x, hx⟩ : ∃ x, L[j]? = some x := ⟨_, List.getElem?_eq_getElem (by rw [HLM.out.1]; exact hlt)⟩
          obtain ⟨b3, o3, rfl, hb3, hc3⟩ := zCells HLM.out.1 (HS.out.elems 0 rfl) j x hx
          have hft := filter_take (q := fun x => decide (x ∈ LA)) hx
          obtain ⟨n0, hn0⟩ : ∃ n0, ((L.take j).filter fun x => decide (x ∈ LA)).length = n0 := ⟨_, rfl⟩
          have HN := H7 (And.intro hn0 (show n0 ≤ 10 from by
           have h1 := List.length_filter_le (fun x => decide (x ∈ LA)) (L.take j)
           rw [List.length_take] at h1
           have := HLM.out.2
           omega))
          generalize ((L.take j).filter fun x => decide (x ∈ LA)) = L0 at hft hn0 HO HN
          have HFT := H7 hft
          clear hx hb3 hft hn0
          repeat ((fail_if_success (with_reducible refine stop_at (id := 40) ?_)); (first | go_values | go_skip | go_guarded | go_step | go_upon | go_back | (simp only [Int.not_lt, Int.not_le] at *; go_simp) | (go_values <;> (try go_simp)) | (go_ite <;> go_prune <;> (try go_simp)) | (split <;> (first | (rename_i hx; exact (hx _ rfl).elim) | go_prune))))
          clear hc3
          refine (wpIn_wide (n := 0)).1 ?_
          repeat gi_step
          refine (callsIn_wide.2 (conZ_any aA nA cA LA x HNA.out.1 (by have := HNA.out.2; omega) wr (HS.out.elems 1 rfl))).mono ?_
          rintro e wc ⟨rfl, hb_⟩
          have HB := H7 hb_
          clear hb_ HS
          cases hxa : decide (x ∈ LA)
          · have HT := H7 (show ((L.take (j + 1)).filter fun x => decide (x ∈ LA)) = L0 from by rw [HFT.out, if_neg (by rw [hxa]; simp), List.append_nil])
            clear hxa
            gi_wp2_with fail
            have hm10 := HLM.out.2
            go_wp2_with fail
            go_roundw
            case rel => exact ⟨j + 1, hlt, by simp, by rw [HT.out]; exact HO.out.below HB.out⟩
            case measure => exact frM hlt (by simp)
          · have HT := H7 (show ((L.take (j + 1)).filter fun x => decide (x ∈ LA)) = L0 ++ [x] from by rw [HFT.out, if_pos hxa])
            clear hxa
            gi_wp2_with fail
            have hm10 := HLM.out.2
            go_wp2_with (at_builtin; refine wpList_app1l rowZ encZ_len encZ_one HO.out HB.out x n0 HN.out.1 (by have := HN.out.2; omega) (by decide) _ _ rfl rfl rfl _ rfl (by rfl) ?_; intro v' W3 ho3 hsh hg3 hl3; obtain ⟨ad3, cp3, rfl⟩ := hsh; have HO3 := H7 ho3; clear ho3 hg3 hl3)
            go_roundw
            case rel => exact ⟨j + 1, hlt, by simp, by rw [HT.out]; exact HO3.out⟩
            case measure => exact frM hlt (by simp)
        · obtain rfl : j = m := by omega
          obtain ⟨aQ, cQ, rfl, -⟩ := HO.out.shape
          have heq := HO.out.elems encZ_len
          have hft : ((L.take j).filter fun x => decide (x ∈ LA)) = L.filter fun x => decide (x ∈ LA) := by rw [List.take_of_length_le (Nat.le_of_eq HLM.out.1)]
          rw [hft] at heq
          rw [hft]
          obtain ⟨LQ, hLQ⟩ : ∃ LQ, (L.filter fun x => decide (x ∈ LA)) = LQ := ⟨_, rfl⟩
          have hqn : LQ.length ≤ 10 := by rw [← hLQ]; have h1 := List.length_filter_le (fun x => decide (x ∈ LA)) L; have := HLM.out; omega
          have hsq := HSN.out L
          rw [hLQ] at heq hsq
          rw [hLQ]
          obtain ⟨nQ, hnQ⟩ : ∃ nQ, LQ.length = nQ := ⟨_, rfl⟩
          rw [hnQ] at heq hqn
          rw [hnQ]
          by_cases hm0 : j = 0
          case' pos =>
           subst hm0
           have HNS := H7 (show LA.length = nA ∧ nA ≤ 10 from ⟨HNA.out.1, by have := HNA.out.2; omega⟩)
           have HSS := H7 (show sitesL f L = LA from by
            have hz : L = [] := List.eq_nil_of_length_eq_zero HLM.out.1
            rw [hz]; exact HSA.out)
           have hs := HS.out.addRow (HS.out.elems 1 rfl)
           have HS := H7 hs
           have e43 : (((0 : Nat) : Int) == 0) = true := rfl
           clear hs heq hsq hqn hnQ hLQ hft
           repeat ((fail_if_success (with_reducible refine stop_at (id := 45) ?_)); (first | go_values | go_skip | go_guarded | go_step | go_upon | go_back | (simp only [Int.not_lt, Int.not_le] at *; go_simp) | (go_values <;> (try go_simp)) | (go_ite <;> go_prune <;> (try go_simp)) | (split <;> (first | (rename_i hx; exact (hx _ rfl).elim) | go_prune))))
          case' neg =>
           have HNS := H7 (And.intro hnQ hqn)
           have HSS := H7 (hsq (by rw [HLM.out.1]; exact hm0))
           have hs := HS.out.addRow heq
           have HS := H7 hs
           have e43 : ((j : Int) == 0) = false := beq_eq_false_iff_ne.2 (by omega)
           clear hs heq hsq hqn hnQ hLQ hft
           repeat ((fail_if_success (with_reducible refine stop_at (id := 45) ?_)); (first | go_values | go_skip | go_guarded | go_step | go_upon | go_back | (simp only [Int.not_lt, Int.not_le] at *; go_simp) | (go_values <;> (try go_simp)) | (go_ite <;> go_prune <;> (try go_simp)) | (split <;> (first | (rename_i hx; exact (hx _ rfl).elim) | go_prune))))
          all_goals
           clear e43 HO
           have HRI := H7 (fun w' => show Calls Tryz.prog 34 #[.agg f.cells] w' (Gives (.tuple #[.agg (riseF f).cells, .int .i64 0]) w') from by have h := rise_any f w'; unfold trF trE at h; rw [HOK.out] at h; exact h)
           have HS1 := H7 (fun w' => sitesF_any f none 0 0 [] rfl (by decide) w' (.inl ⟨rfl, rfl⟩))
           refine (wpIn_wide (n := 0)).1 ?_
           repeat (first | (refine ldF _ rfl rfl (HS.out.blockAt 3 rfl) ?_; simp only [Act.put, List.setIfInBounds_toArray, List.set_cons_succ, List.set_cons_zero]) | gi_step)
           refine (callsIn_wide.2 (HRI.out _)).mono ?_
           rintro e wc ⟨rfl, hb_⟩
           have HS := H7 (HS.out.below hb_)
           clear hb_
           clear HRI
           simp only []; go_at_K
           repeat (first | (refine nwF rfl ?_; simp only [Act.put, List.setIfInBounds_toArray, List.set_cons_succ, List.set_cons_zero]) | (refine stNewF _ _ rfl rfl rfl rfl rfl ?_; simp only [Act.put, List.setIfInBounds_toArray, List.set_cons_succ, List.set_cons_zero]) | gi_step)
           gi_wp2_with fail
           have HRR := H7 (fun w' => r18Rise_any f w')
           generalize riseF f = U at HRR ⊢
           have hs_ := (HS.out.alloc (.cells (U).cells 29))
           obtain ⟨wd, hw_⟩ : ∃ wd : World, (wc.alloc (.cells (U).cells 29)) = wd := ⟨_, rfl⟩
           rw [hw_] at hs_
           try simp only [World.size_alloc] at hs_
           have HS := H7 hs_
           rw [hw_]
           clear hw_ hs_
           repeat ((fail_if_success (with_reducible refine stop_at (id := 48) ?_)); (first | go_values | go_skip | go_guarded | go_step | go_upon | go_back | (simp only [Int.not_lt, Int.not_le] at *; go_simp) | (go_values <;> (try go_simp)) | (go_ite <;> go_prune <;> (try go_simp)) | (split <;> (first | (rename_i hx; exact (hx _ rfl).elim) | go_prune))))
           rw [zeroF]
           have hs_ := (HS.out.alloc (.cells frZ.cells 29))
           obtain ⟨we, hw_⟩ : ∃ we : World, (wd.alloc (.cells frZ.cells 29)) = we := ⟨_, rfl⟩
           rw [hw_] at hs_
           try simp only [World.size_alloc] at hs_
           have HS := H7 hs_
           rw [hw_]
           clear hw_ hs_
           repeat ((fail_if_success (with_reducible refine stop_at (id := 49) ?_)); (first | go_values | go_skip | go_guarded | go_step | go_upon | go_back | (simp only [Int.not_lt, Int.not_le] at *; go_simp) | (go_values <;> (try go_simp)) | (go_ite <;> go_prune <;> (try go_simp)) | (split <;> (first | (rename_i hx; exact (hx _ rfl).elim) | go_prune))))
           refine (wpIn_wide (n := 0)).1 ?_
           repeat (first | (refine ldF _ rfl rfl (HS.out.blockAt 5 rfl) ?_; simp only [Act.put, List.setIfInBounds_toArray, List.set_cons_succ, List.set_cons_zero]) | gi_step)
           refine (callsIn_wide.2 (HRR.out _)).mono ?_
           rintro e wf ⟨rfl, hb_⟩
           have HS := H7 (HS.out.below hb_)
           clear hb_
           clear HRR
           simp only []; go_at_K
           repeat (first | (refine stF _ _ rfl rfl (HS.out.blockAt 0 rfl) rfl rfl ?_; simp only [Act.put, List.setIfInBounds_toArray, List.set_cons_succ, List.set_cons_zero]) | gi_step)
           gi_wp2_with fail
           have hs := HS.out.putRow (c' := U.cells) (pre := []) (by intro i hi; cases hi)
           simp only [List.nil_append] at hs
           have HS := H7 hs
           clear hs
           generalize wf.setRow wd.heap.size U.cells = wg at HS ⊢
           repeat ((fail_if_success (with_reducible refine stop_at (id := 50) ?_)); (first | go_values | go_skip | go_guarded | go_step | go_upon | go_back | (simp only [Int.not_lt, Int.not_le] at *; go_simp) | (go_values <;> (try go_simp)) | (go_ite <;> go_prune <;> (try go_simp)) | (split <;> (first | (rename_i hx; exact (hx _ rfl).elim) | go_prune))))
           have hu := frEq_self (U)
           refine (wpIn_wide (n := 0)).1 ?_
           repeat (first | (refine ldF _ rfl rfl (HS.out.blockAt 1 rfl) ?_; simp only [Act.put, List.setIfInBounds_toArray, List.set_cons_succ, List.set_cons_zero]) | (refine ldF _ rfl rfl (HS.out.blockAt 0 rfl) ?_; simp only [Act.put, List.setIfInBounds_toArray, List.set_cons_succ, List.set_cons_zero]) | (refine eqF' _ _ _ rfl rfl rfl hu ?_; simp only [Act.put, List.setIfInBounds_toArray, List.set_cons_succ, List.set_cons_zero]) | (refine ldF _ rfl rfl (HS.out.blockAt 5 rfl) ?_; simp only [Act.put, List.setIfInBounds_toArray, List.set_cons_succ, List.set_cons_zero]) | gi_step)
           refine (callsIn_wide.2 (HS1.out _)).mono ?_
           rintro e wh ⟨sv, rfl, hrow, hb_⟩
           have HS := H7 (HS.out.below hb_)
           clear hb_
           rw [HSA.out, HNA.out.1] at hrow
           have HRX := H7 (RowH.mk HNA.out.1 hrow)
           clear hrow HS1
           obtain ⟨a5, c5, rfl⟩ := HRX.out.shape
           simp only []; go_at_K
           repeat gi_step
           refine (callsIn_wide.2 (eqZn a5 _ c5 _ _ HNA.out.1 (by have := HNA.out.2; omega) wh HRX.out.el (HS.out.elems 4 rfl))).mono ?_
           rintro e wi ⟨rfl, hb_⟩
           have HS := H7 (HS.out.below hb_)
           clear hb_
           clear HRX
           simp only []; go_at_K
           repeat (first | (refine ldF _ rfl rfl (HS.out.blockAt 5 rfl) ?_; simp only [Act.put, List.setIfInBounds_toArray, List.set_cons_succ, List.set_cons_zero]) | gi_step)
           refine (callsIn_wide.2 (sitesF_any f _ _ _ L HLM.out.1 (by have := HLM.out.2; omega) wi (HS.out.elems 3 rfl))).mono ?_
           rintro e wj ⟨sv, rfl, hrow, hb_⟩
           have HS := H7 (HS.out.below hb_)
           clear hb_
           rw [HSS.out, HNS.out.1] at hrow
           have HRX := H7 (RowH.mk HNS.out.1 hrow)
           clear hrow
           obtain ⟨a6, c6, rfl⟩ := HRX.out.shape
           simp only []; go_at_K
           repeat gi_step
           refine (callsIn_wide.2 (eqZn a6 _ c6 _ _ HNS.out.1 (by have := HNS.out.2; omega) wj HRX.out.el (HS.out.elems 2 rfl))).mono ?_
           rintro e wk ⟨rfl, hb_⟩
           have HS := H7 (HS.out.below hb_)
           clear hb_
           clear HRX
           gi_wp2_with fail
           go_wp2_with fail
           go_ret
           exact ⟨rfl, HS.out.low⟩
end Go.Proofs.YteklfmacnnmomaaGreat
