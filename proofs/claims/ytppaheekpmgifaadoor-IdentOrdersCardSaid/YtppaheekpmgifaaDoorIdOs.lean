/- gessolaw11.IdentOrders: which ids there are, and how they stand. -/
import Derived.Test.YtppaheekpmgifaaDoorIdOr
import Derived.Test.YtppaheekpmgifaaDoorIdTo
namespace Go.Proofs.YtppaheekpmgifaaDoor
set_option linter.unusedSimpArgs false
set_option linter.unusedVariables false
open Go.RowKit Go.Shelf Go.Lib

/-- What an element's first cell is, is some number. -/
def Firsts (cur : Array Value) (m : Nat) : Prop := ∀ k, k < m → ∃ t : Int, cur[k * 3]? = some (.int .u64 t)
theorem Firsts.set {cur : Array Value} {m : Nat} (h : Firsts cur m) (j : Nat) (x : Int) : Firsts (cur.setIfInBounds (j * 3) (.int .u64 x)) m := by
  intro k hk
  obtain ⟨t, ht⟩ := h k hk
  by_cases e : k = j
  · subst e
    have hl := (Array.getElem?_eq_some_iff.1 ht).1
    exact ⟨x, by rw [Array.getElem?_setIfInBounds_self]; simp [hl]⟩
  · exact ⟨t, by rw [Array.getElem?_setIfInBounds_ne (by omega)]; exact ht⟩
theorem firsts_of {L : List IdT} {cur : Array Value} {m : Nat} (hm : L.length = m) (h : cur.toList.take (m * 3) = L.flatMap encId) : Firsts cur m := by
  intro k hk
  have h1 := flat_get encId_len L k 0 (by omega)
  have hx : L[k]? = some (L[k]'(by omega)) := List.getElem?_eq_getElem (by omega)
  rw [hx] at h1
  refine ⟨(L[k]'(by omega)).time, ?_⟩
  have h2 : (cur.toList.take (m * 3))[k * 3 + 0]? = some (.int .u64 (L[k]'(by omega)).time) := by rw [h, h1]; rfl
  rw [List.getElem?_take] at h2
  split at h2
  · simpa using h2
  · cases h2

set_option maxRecDepth 100000 in
set_option maxHeartbeats 4000000 in
theorem identOrders_any (l : List IdT) (a : Option Addr) (cap : Nat) (hcap : l.length ≤ cap) (hmax : cap ≤ maxLen) (w : World) (ht : Tab w) (he : Elems w (.slice a l.length cap) l.length 3 (rowC encId l)) :
    Calls Tryd.prog 7 #[.slice a l.length cap] w (Gives (.bool true) w) := by
  obtain ⟨n, hn⟩ : ∃ n, l.length = n := ⟨_, rfl⟩
  rw [hn] at he hcap ⊢
  obtain ⟨m, hm⟩ : ∃ m, min n 14 = m := ⟨_, rfl⟩
  have hm14 : m ≤ 14 := by omega
  have hmn : m ≤ n := by omega
  have hmin : min (n : Int) 14 = (m : Int) := by omega
  have Hn := Lib.hid hn
  have HT := Lib.hid ht
  unfold maxLen at hmax
  have HS := Lib.hid ((St.start w).addRow he)
  have hel := he.take encId_len hn hmn
  have hLl : (l.take m).length = m := by rw [List.length_take, hn]; omega
  obtain ⟨L, hL⟩ : ∃ L, l.take m = L := ⟨_, rfl⟩
  rw [hL] at hel hLl
  have HLl := Lib.hid hLl
  have HEL := Lib.hid hel
  clear hn hm ht he hel hLl hL
  go_enter Tryd.func7, Tryd.ntmps7
  go_wp2_with fail
  refine (wakes_any _ HT.out).mono ?_
  rintro e w1 ⟨rfl, hb_⟩
  have HS := Lib.hid (HS.out.below hb_)
  clear hb_
  go_wp2_with fail
  refine (cloneId_any _ L _ (by rw [HLl.out]; exact HEL.out.below HS.out.low) (by rw [HLl.out]; omega)).mono ?_
  rintro e w2 ⟨sv, rfl, hrow, _, hb⟩
  have HS := Lib.hid ((HS.out.below hb).addRow (ownsRow_rows encId_len hrow))
  clear hb hrow hmin
  obtain ⟨sa, sc, rfl⟩ : ∃ sa sc, sv = .slice sa L.length sc := by
    obtain ⟨sa, sc, e, _⟩ := (HS.out.elems 0 rfl).shape
    exact ⟨sa, sc, e⟩
  rw [HLl.out] at HS ⊢
  go_wp2_with fail
  go_loopw [22] (fun i wr => ∃ k : Nat, k ≤ m ∧ i = .int .i64 (k : Int) ∧ St w [.row (.slice sa m sc) m 3 (rowC encId L) w2.heap.size, .row (.slice a n cap) n 3 (rowC encId l) w.heap.size] wr) (fun i _ => m - (intOf i).toNat)
  case atStart => exact ⟨0, by omega, rfl, HS.out⟩
  case round =>
    obtain ⟨k, hk, rfl, hs⟩ := hrel
    have HS := Lib.hid hs
    clear hs
    by_cases hlt : k < m
    · have wk : wrap64 ((k : Int) + 1) = ((k + 1 : Nat) : Int) := by unfold wrap64; omega
      obtain ⟨x, hx⟩ : ∃ x, L[k]? = some x := ⟨_, List.getElem?_eq_getElem (by rw [HLl.out]; exact hlt)⟩
      have hee : Elems wr (.slice sa L.length sc) L.length 3 (rowC encId L) := by rw [HLl.out]; exact HS.out.elems 0 rfl
      obtain ⟨bb, off, rfl, c0, c1, c2⟩ := idCellsX hee k x hx
      obtain ⟨x1, x2, x3⟩ := x
      simp only at c0 c1 c2
      clear hx hee
      repeat ((fail_if_success (with_reducible refine stop_at (id := 7) ?_)); (first | go_values | go_skip | go_guarded | go_step | go_upon | go_back | (simp only [Int.not_lt, Int.not_le] at *; go_simp) | (go_values <;> (try go_simp)) | (go_ite <;> go_prune <;> (try go_simp)) | (split <;> (first | (rename_i hx; exact (hx _ rfl).elim) | go_prune))))
      clear c0 c1 c2
      have hs_ := (HS.out.alloc (.cells #[.int .u64 x1, .int .i64 x2, .int .u64 x3] 27))
      obtain ⟨w3, hw_⟩ : ∃ w3 : World, (wr.alloc (.cells #[.int .u64 x1, .int .i64 x2, .int .u64 x3] 27)) = w3 := ⟨_, rfl⟩
      rw [hw_] at hs_
      try simp only [World.size_alloc] at hs_
      have HS := Lib.hid hs_
      rw [hw_]
      clear hw_ hs_
      obtain ⟨bx, hbx⟩ : ∃ bx, wr.heap.size = bx := ⟨_, rfl⟩
      rw [hbx] at HS ⊢
      clear hbx
      have k0 := cell_of_block (k := 0) (HS.out.blockAt 0 rfl) rfl
      have k1 := cell_of_block (k := 1) (HS.out.blockAt 0 rfl) rfl
      have k2 := cell_of_block (k := 2) (HS.out.blockAt 0 rfl) rfl
      go_wp2_with fail
      clear k0 k1 k2
      refine (idCheck_any ⟨x1, x2, x3⟩ _).mono ?_
      rintro e w4 ⟨rfl, hb_⟩
      have HS := Lib.hid (HS.out.below hb_)
      clear hb_
      have k0 := cell_of_block (k := 0) (HS.out.blockAt 0 rfl) rfl
      have k1 := cell_of_block (k := 1) (HS.out.blockAt 0 rfl) rfl
      have k2 := cell_of_block (k := 2) (HS.out.blockAt 0 rfl) rfl
      cases hok : idOk ⟨x1, x2, x3⟩
      case' false =>
        have HOK := Lib.hid hok
        clear hok
        simp only [errOf, Bool.false_eq_true, if_false]
        go_wp2_with fail
        clear k0 k1 k2
        refine (refIdRight_any ⟨x1, x2, x3⟩ _).mono ?_
        rintro e w5 ⟨rfl, hb_⟩
        have HS := Lib.hid (HS.out.below hb_)
        clear hb_
        rw [HOK.out]
        go_wp2_with fail
      case' true =>
        have HOK := Lib.hid hok
        clear hok
        simp only [errOf, if_true]
        go_wp2_with fail
        clear k0 k1 k2
        refine (refIdRight_any ⟨x1, x2, x3⟩ _).mono ?_
        rintro e w5 ⟨rfl, hb_⟩
        have HS := Lib.hid (HS.out.below hb_)
        clear hb_
        rw [HOK.out]
        go_wp2_with fail
      all_goals
        go_loopw [43] (fun i wr => ∃ j : Nat, j ≤ m ∧ i = .int .i64 (j : Int) ∧ St w [.blk bx (.cells #[.int .u64 x1, .int .i64 x2, .int .u64 x3] 27), .row (.slice (some ⟨bb, off, none⟩) m sc) m 3 (rowC encId L) w2.heap.size, .row (.slice a n cap) n 3 (rowC encId l) w.heap.size] wr) (fun i _ => m - (intOf i).toNat)
        case atStart => exact ⟨0, by omega, rfl, HS.out⟩
        case round =>
          obtain ⟨j, hj, rfl, hs⟩ := hrel
          have HS := Lib.hid hs
          clear hs HOK
          by_cases hlt2 : j < m
          · have wj : wrap64 ((j : Int) + 1) = ((j + 1 : Nat) : Int) := by unfold wrap64; omega
            obtain ⟨y, hy⟩ : ∃ y, L[j]? = some y := ⟨_, List.getElem?_eq_getElem (by rw [HLl.out]; exact hlt2)⟩
            have hee : Elems wr (.slice (some ⟨bb, off, none⟩) L.length sc) L.length 3 (rowC encId L) := by rw [HLl.out]; exact HS.out.elems 1 rfl
            obtain ⟨bb2, off2, e2, c0, c1, c2⟩ := idCellsX hee j y hy
            cases e2
            obtain ⟨y1, y2, y3⟩ := y
            simp only at c0 c1 c2
            clear hy hee
            repeat ((fail_if_success (with_reducible refine stop_at (id := 14) ?_)); (first | go_values | go_skip | go_guarded | go_step | go_upon | go_back | (simp only [Int.not_lt, Int.not_le] at *; go_simp) | (go_values <;> (try go_simp)) | (go_ite <;> go_prune <;> (try go_simp)) | (split <;> (first | (rename_i hx; exact (hx _ rfl).elim) | go_prune))))
            clear c0 c1 c2
            have hs_ := (HS.out.alloc (.cells #[.int .u64 y1, .int .i64 y2, .int .u64 y3] 27))
            obtain ⟨w6, hw_⟩ : ∃ w6 : World, (wr.alloc (.cells #[.int .u64 y1, .int .i64 y2, .int .u64 y3] 27)) = w6 := ⟨_, rfl⟩
            rw [hw_] at hs_
            try simp only [World.size_alloc] at hs_
            have HS := Lib.hid hs_
            rw [hw_]
            clear hw_ hs_
            obtain ⟨l1, hl1⟩ : ∃ l1, idLess ⟨x1, x2, x3⟩ ⟨y1, y2, y3⟩ = l1 := ⟨_, rfl⟩
            obtain ⟨l2, hl2⟩ : ∃ l2, idLess ⟨y1, y2, y3⟩ ⟨x1, x2, x3⟩ = l2 := ⟨_, rfl⟩
            have HC1 := Lib.hid (fun w => refLess_any ⟨x1, x2, x3⟩ ⟨y1, y2, y3⟩ w); simp only [hl1] at HC1
            have HC2 := Lib.hid (fun w => refLess_any ⟨y1, y2, y3⟩ ⟨x1, x2, x3⟩ w); simp only [hl2] at HC2
            have HLT := Lib.hid (fun w => identLess_any ⟨x1, x2, x3⟩ ⟨y1, y2, y3⟩ w); simp only [cmpId_lt, hl1] at HLT
            have hkv := cmpId_val ⟨x1, x2, x3⟩ ⟨y1, y2, y3⟩
            rw [hl1, hl2] at hkv
            have HK := Lib.hid hkv
            clear hl1 hl2 hkv
            unfold IdT.val at HC1 HC2 HLT
            have p0 := cell_of_block (k := 0) (HS.out.blockAt 1 rfl) rfl
            have p1 := cell_of_block (k := 1) (HS.out.blockAt 1 rfl) rfl
            have p2 := cell_of_block (k := 2) (HS.out.blockAt 1 rfl) rfl
            have q0 := cell_of_block (k := 0) (HS.out.blockAt 0 rfl) rfl
            have q1 := cell_of_block (k := 1) (HS.out.blockAt 0 rfl) rfl
            have q2 := cell_of_block (k := 2) (HS.out.blockAt 0 rfl) rfl
            go_wp2_with fail
            clear p0 p1 p2 q0 q1 q2
            refine (HC1.out _).mono ?_
            rintro e w7 ⟨rfl, hb_⟩
            have HS := Lib.hid (HS.out.below hb_)
            clear hb_
            cases l1
            · simp only [Bool.false_eq_true, if_false] at HK
              have p0 := cell_of_block (k := 0) (HS.out.blockAt 1 rfl) rfl
              have p1 := cell_of_block (k := 1) (HS.out.blockAt 1 rfl) rfl
              have p2 := cell_of_block (k := 2) (HS.out.blockAt 1 rfl) rfl
              have q0 := cell_of_block (k := 0) (HS.out.blockAt 0 rfl) rfl
              have q1 := cell_of_block (k := 1) (HS.out.blockAt 0 rfl) rfl
              have q2 := cell_of_block (k := 2) (HS.out.blockAt 0 rfl) rfl
              go_wp2_with fail
              clear p0 p1 p2 q0 q1 q2
              refine (HC2.out _).mono ?_
              rintro e w8 ⟨rfl, hb_⟩
              have HS := Lib.hid (HS.out.below hb_)
              clear hb_
              cases l2
              · simp only [Bool.false_eq_true, if_false] at HK
                have p0 := cell_of_block (k := 0) (HS.out.blockAt 1 rfl) rfl
                have p1 := cell_of_block (k := 1) (HS.out.blockAt 1 rfl) rfl
                have p2 := cell_of_block (k := 2) (HS.out.blockAt 1 rfl) rfl
                have q0 := cell_of_block (k := 0) (HS.out.blockAt 0 rfl) rfl
                have q1 := cell_of_block (k := 1) (HS.out.blockAt 0 rfl) rfl
                have q2 := cell_of_block (k := 2) (HS.out.blockAt 0 rfl) rfl
                go_wp2_with fail
                refine (compare_any ⟨x1, x2, x3⟩ ⟨y1, y2, y3⟩ _).mono ?_
                rintro e w9 hg
                obtain ⟨rfl, hb_⟩ := hg.gives
                have HS := Lib.hid (HS.out.below hb_)
                clear hb_ hg p0 p1 p2 q0 q1 q2
                rw [HK.out]
                have p0 := cell_of_block (k := 0) (HS.out.blockAt 1 rfl) rfl
                have p1 := cell_of_block (k := 1) (HS.out.blockAt 1 rfl) rfl
                have p2 := cell_of_block (k := 2) (HS.out.blockAt 1 rfl) rfl
                have q0 := cell_of_block (k := 0) (HS.out.blockAt 0 rfl) rfl
                have q1 := cell_of_block (k := 1) (HS.out.blockAt 0 rfl) rfl
                have q2 := cell_of_block (k := 2) (HS.out.blockAt 0 rfl) rfl
                go_wp2_with fail
                clear p0 p1 p2 q0 q1 q2
                refine (HLT.out _).mono ?_
                rintro e w10 ⟨rfl, hb_⟩
                have HS := Lib.hid (HS.out.below hb_)
                clear hb_
                go_wp2_with fail
                go_roundw
                case rel => exact ⟨j + 1, hlt2, by simp, HS.out.drop1⟩
                case measure => simp [intOf]; omega
              · simp only [if_true] at HK
                have p0 := cell_of_block (k := 0) (HS.out.blockAt 1 rfl) rfl
                have p1 := cell_of_block (k := 1) (HS.out.blockAt 1 rfl) rfl
                have p2 := cell_of_block (k := 2) (HS.out.blockAt 1 rfl) rfl
                have q0 := cell_of_block (k := 0) (HS.out.blockAt 0 rfl) rfl
                have q1 := cell_of_block (k := 1) (HS.out.blockAt 0 rfl) rfl
                have q2 := cell_of_block (k := 2) (HS.out.blockAt 0 rfl) rfl
                go_wp2_with fail
                refine (compare_any ⟨x1, x2, x3⟩ ⟨y1, y2, y3⟩ _).mono ?_
                rintro e w9 hg
                obtain ⟨rfl, hb_⟩ := hg.gives
                have HS := Lib.hid (HS.out.below hb_)
                clear hb_ hg p0 p1 p2 q0 q1 q2
                rw [HK.out]
                have p0 := cell_of_block (k := 0) (HS.out.blockAt 1 rfl) rfl
                have p1 := cell_of_block (k := 1) (HS.out.blockAt 1 rfl) rfl
                have p2 := cell_of_block (k := 2) (HS.out.blockAt 1 rfl) rfl
                have q0 := cell_of_block (k := 0) (HS.out.blockAt 0 rfl) rfl
                have q1 := cell_of_block (k := 1) (HS.out.blockAt 0 rfl) rfl
                have q2 := cell_of_block (k := 2) (HS.out.blockAt 0 rfl) rfl
                go_wp2_with fail
                clear p0 p1 p2 q0 q1 q2
                refine (HLT.out _).mono ?_
                rintro e w10 ⟨rfl, hb_⟩
                have HS := Lib.hid (HS.out.below hb_)
                clear hb_
                go_wp2_with fail
                go_roundw
                case rel => exact ⟨j + 1, hlt2, by simp, HS.out.drop1⟩
                case measure => simp [intOf]; omega
            · simp only [if_true] at HK
              have p0 := cell_of_block (k := 0) (HS.out.blockAt 1 rfl) rfl
              have p1 := cell_of_block (k := 1) (HS.out.blockAt 1 rfl) rfl
              have p2 := cell_of_block (k := 2) (HS.out.blockAt 1 rfl) rfl
              have q0 := cell_of_block (k := 0) (HS.out.blockAt 0 rfl) rfl
              have q1 := cell_of_block (k := 1) (HS.out.blockAt 0 rfl) rfl
              have q2 := cell_of_block (k := 2) (HS.out.blockAt 0 rfl) rfl
              go_wp2_with fail
              refine (compare_any ⟨x1, x2, x3⟩ ⟨y1, y2, y3⟩ _).mono ?_
              rintro e w9 hg
              obtain ⟨rfl, hb_⟩ := hg.gives
              have HS := Lib.hid (HS.out.below hb_)
              clear hb_ hg p0 p1 p2 q0 q1 q2
              rw [HK.out]
              have p0 := cell_of_block (k := 0) (HS.out.blockAt 1 rfl) rfl
              have p1 := cell_of_block (k := 1) (HS.out.blockAt 1 rfl) rfl
              have p2 := cell_of_block (k := 2) (HS.out.blockAt 1 rfl) rfl
              have q0 := cell_of_block (k := 0) (HS.out.blockAt 0 rfl) rfl
              have q1 := cell_of_block (k := 1) (HS.out.blockAt 0 rfl) rfl
              have q2 := cell_of_block (k := 2) (HS.out.blockAt 0 rfl) rfl
              go_wp2_with fail
              clear p0 p1 p2 q0 q1 q2
              refine (HLT.out _).mono ?_
              rintro e w10 ⟨rfl, hb_⟩
              have HS := Lib.hid (HS.out.below hb_)
              clear hb_
              go_wp2_with fail
              go_roundw
              case rel => exact ⟨j + 1, hlt2, by simp, HS.out.drop1⟩
              case measure => simp [intOf]; omega
          · obtain rfl : j = m := by omega
            clear hj hlt2
            go_wp2_with fail
            go_roundw
            case rel => exact ⟨k + 1, hlt, by simp, HS.out.drop1⟩
            case measure => simp [intOf]; omega
    · obtain rfl : m = k := by omega
      clear hk hlt
      have HE4 := Lib.hid (show Elems wr (.slice sa m sc) m 3 (rowC encId L) from HS.out.elems 0 rfl)
      have HB4 := Lib.hid HS.out.low
      go_wp2_with fail
      refine (sorted_any _ L _ (by rw [HLl.out]; exact HE4.out) (by rw [HLl.out]; omega)).mono ?_
      rintro e w5 ⟨tv, rfl, hrow, hb⟩
      have hsl : (sortIds L).length = m := by rw [sortIds_length, HLl.out]
      obtain ⟨S, hS⟩ : ∃ S, sortIds L = S := ⟨_, rfl⟩
      rw [hS] at hrow hsl
      rw [HLl.out] at hrow
      have hSe : Elems w5 tv S.length 3 (rowC encId S) := ownsRow_rows encId_len (by rw [hsl]; exact hrow)
      have HSL := Lib.hid hsl
      have HSS := Lib.hid hS
      have HB5 := Lib.hid hb
      obtain ⟨ta, tc, rfl, _⟩ := hSe.shape
      have HSE := Lib.hid hSe
      obtain ⟨g, hg⟩ : ∃ g, m = 0 ∨ ∃ cur, ta = some ⟨g, 0, none⟩ ∧ wr.heap.size ≤ g ∧ w5.heap[g]? = some (.cells cur 27 (0, 0)) ∧ Firsts cur m := by
        rcases hrow.2 with ⟨_, h⟩ | ⟨g, c, cur, e, h1, h2, _, _, _, h3⟩
        · exact ⟨0, .inl h⟩
        · cases e
          exact ⟨g, .inr ⟨cur, rfl, h1, h2, firsts_of hsl h3⟩⟩
      have HG := Lib.hid hg
      clear hrow hb hSe hsl hS hg
      rw [HSL.out] at HSE ⊢
      go_wp2_with fail
      refine (refSorted_any _ L _ (by rw [HLl.out]; exact HE4.out.below HB5.out) (by rw [HLl.out]; omega)).mono ?_
      rintro e w6 ⟨uv, rfl, hrow, hb⟩
      rw [HSS.out] at hrow
      have hue : Elems w6 uv S.length 3 (rowC encId S) := ownsRow_rows encId_len (by rw [HSL.out]; rw [HLl.out] at hrow; exact hrow)
      have HUE := Lib.hid hue
      have HB6 := Lib.hid (HB5.out.trans (hb.mono HB5.out.size))
      have HSE6 := Lib.hid (HSE.out.below hb)
      have HK6 := Lib.hid hb
      clear hrow hb hue
      go_wp2_with fail
      refine (eqId_any _ _ S S _ (by rw [HSL.out]; exact HSE6.out) HUE.out (by rw [HSL.out]; omega)).mono ?_
      rintro e w7 ⟨rfl, hb⟩
      rw [show sameB S S = true from by simp [sameB]]
      have HB7 := Lib.hid (HB6.out.trans (hb.mono HB6.out.size))
      have HK7 := Lib.hid (HK6.out.trans (hb.mono HK6.out.size))
      clear hb
      obtain ⟨R1, hR1⟩ : ∃ R1, risesB L = R1 := ⟨_, rfl⟩
      obtain ⟨R2, hR2⟩ : ∃ R2, risesB S = R2 := ⟨_, rfl⟩
      have HR1 := Lib.hid hR1
      have HR2 := Lib.hid hR2
      clear hR1 hR2
      go_wp2_with fail
      refine (rising_any _ L (by rw [HLl.out]; omega) _ (by rw [HLl.out]; exact HE4.out.below HB7.out)).mono ?_
      rintro e w8 ⟨rfl, hb⟩
      rw [HR1.out]
      have HB8 := Lib.hid (HB7.out.trans (hb.mono HB7.out.size))
      have HK8 := Lib.hid (HK7.out.trans (hb.mono HK7.out.size))
      clear hb
      go_wp2_with fail
      refine ((show _ from by have h := refRising_any sa sc L (by rw [HLl.out]; omega) w8 (by rw [HLl.out]; exact HE4.out.below HB8.out); rw [HLl.out] at h; exact h) : Calls Tryd.prog 34 #[.slice sa m sc] w8 (Gives (.bool (risesB L)) w8)).mono ?_
      rintro e w9 ⟨rfl, hb⟩
      rw [HR1.out]
      have HB9 := Lib.hid (HB8.out.trans (hb.mono HB8.out.size))
      have HK9 := Lib.hid (HK8.out.trans (hb.mono HK8.out.size))
      clear hb
      go_wp2_with fail
      refine (rising_any _ S (by rw [HSL.out]; omega) _ (by rw [HSL.out]; exact HSE.out.below HK9.out)).mono ?_
      rintro e w10 ⟨rfl, hb⟩
      rw [HR2.out]
      have HB10 := Lib.hid (HB9.out.trans (hb.mono HB9.out.size))
      have HK10 := Lib.hid (HK9.out.trans (hb.mono HK9.out.size))
      clear hb
      go_wp2_with fail
      refine ((show _ from by have h := refRising_any ta tc S (by rw [HSL.out]; omega) w10 (by rw [HSL.out]; exact HSE.out.below HK10.out); rw [HSL.out] at h; exact h) : Calls Tryd.prog 34 #[.slice ta m tc] w10 (Gives (.bool (risesB S)) w10)).mono ?_
      rintro e w11 ⟨rfl, hb⟩
      rw [HR2.out]
      have HB11 := Lib.hid (HB10.out.trans (hb.mono HB10.out.size))
      have HK11 := Lib.hid (HK10.out.trans (hb.mono HK10.out.size))
      clear hb
      go_wp2_with fail
      go_loopw [93] (fun i wx => ∃ k : Nat, k ≤ m ∧ i = .int .i64 (k : Int) ∧ Below wr.heap.size wr wx ∧ (m = 0 ∨ ∃ cur, ta = some ⟨g, 0, none⟩ ∧ wr.heap.size ≤ g ∧ wx.heap[g]? = some (.cells cur 27 (0, 0)) ∧ Firsts cur m)) (fun i _ => m - (intOf i).toNat)
      case atStart =>
        refine ⟨0, by omega, rfl, HB11.out, ?_⟩
        rcases HG.out with h | ⟨cur, h1, h2, h3, h4⟩
        · exact .inl h
        · exact .inr ⟨cur, h1, h2, (HK11.out.block _ (block_lt h3)).trans h3, h4⟩
      case round =>
        obtain ⟨k, hk, rfl, hb, hg⟩ := hrel
        have HBX := Lib.hid hb
        clear hb
        by_cases hlt : k < m
        · have wk : wrap64 ((k : Int) + 1) = ((k + 1 : Nat) : Int) := by unfold wrap64; omega
          obtain ⟨cur, rfl, hge, hcur, hf⟩ := hg.resolve_left (by omega)
          obtain ⟨t, htk⟩ := hf k hlt
          have c0 := cell_of_block hcur htk
          have f0 := free_of_block hcur (k * 3)
          have HGE := Lib.hid hge
          have HCUR := Lib.hid hcur
          have HF := Lib.hid hf
          clear hg hge hcur hf htk
          go_wp2_with fail
          go_roundw
          case rel =>
            exact ⟨k + 1, hlt, by simp, HBX.out.setCell (p := ⟨g, k * 3, none⟩) HGE.out _, .inr ⟨_, trivial, HGE.out, heap_set_same HCUR.out _, HF.out.set k _⟩⟩
          case measure => simp [intOf]; omega
        · obtain rfl : m = k := by omega
          clear hk hlt hg
          go_wp2_with fail
          refine (eqId_any _ _ L L _ (by rw [HLl.out]; exact HE4.out.below HBX.out) (by rw [HLl.out]; exact HEL.out.below (HB4.out.trans (HBX.out.mono HB4.out.size))) (by rw [HLl.out]; omega)).mono ?_
          rintro e w13 ⟨rfl, hb⟩
          rw [show sameB L L = true from by simp [sameB]]
          have HB13 := Lib.hid ((HB4.out.trans (HBX.out.mono HB4.out.size)).trans (hb.mono (Nat.le_trans HB4.out.size HBX.out.size)))
          clear hb
          go_wp2_with fail
          go_ret
          exact ⟨rfl, HB13.out⟩
end Go.Proofs.YtppaheekpmgifaaDoor
