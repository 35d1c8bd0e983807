/- gessolaw11.IdentClocks: what clocks give, and see. -/
import Derived.Test.YtppaheekpmgifaaDoorIdCa
namespace Go.Proofs.YtppaheekpmgifaaDoor
set_option linter.unusedSimpArgs false
set_option linter.unusedVariables false
open Go.RowKit Go.Shelf

def encC (c : ClkT) : List Value := [.int .i64 c.site, .int .u64 c.time, .int .u64 c.seq]
theorem encC_len (c : ClkT) : (encC c).length = 3 := rfl
theorem clkCellsX {w : World} {a : Option Addr} {cap : Nat} {l : List ClkT} (h : Elems w (.slice a l.length cap) l.length 3 (rowC encC l)) (k : Nat) (x : ClkT) (hx : l[k]? = some x) :
    ∃ b off, a = some ⟨b, off, none⟩ ∧ w.cell? ⟨b, off + k * 3, none⟩ = some (.int .i64 x.site) ∧ w.cell? ⟨b, off + k * 3 + 1, none⟩ = some (.int .u64 x.time) ∧ w.cell? ⟨b, off + k * 3 + 2, none⟩ = some (.int .u64 x.seq) := by
  have hk := (List.getElem?_eq_some_iff.1 hx).1
  rcases h with ⟨e, h0⟩ | ⟨b, off, cap', e, hlt, hc⟩
  · omega
  · cases e
    have h := rowElem encC_len hc hx
    exact ⟨b, off, rfl, by simpa using h 0 _ rfl, h 1 _ rfl, h 2 _ rfl⟩

set_option maxRecDepth 100000 in
set_option maxHeartbeats 4000000 in
theorem identClocks_any (l : List ClkT) (hf : ∀ c ∈ l, c.Fits) (a : Option Addr) (cap : Nat) (hlm : l.length ≤ maxLen) (X : List Int) (b : Option Addr) (cap2 : Nat) (hcap2 : X.length ≤ cap2) (hmax2 : cap2 ≤ maxLen) (w : World) (ht : Tab w)
    (he : Elems w (.slice a l.length cap) l.length 3 (rowC encC l)) (he2 : Elems w (.slice b X.length cap2) X.length 1 (rowC encU X)) :
    Calls Tryd.prog 5 #[.slice a l.length cap, .slice b X.length cap2] w (Gives (.bool true) w) := by
  obtain ⟨N, hN⟩ : ∃ N, l.length = N := ⟨_, rfl⟩
  obtain ⟨n, hn⟩ : ∃ n, X.length = n := ⟨_, rfl⟩
  rw [hN] at he hlm ⊢
  rw [hn] at he2 hcap2 ⊢
  obtain ⟨m, hm⟩ : ∃ m, min n 6 = m := ⟨_, rfl⟩
  have hm6 : m ≤ 6 := by omega
  have hmn : m ≤ n := by omega
  have hmin : min (n : Int) 6 = (m : Int) := by omega
  have HN := Lib.hid hN
  have HT := Lib.hid ht
  have HFA := Lib.hid hf
  unfold maxLen at hmax2 hlm
  have HS := Lib.hid (((St.start w).addRow he).addRow he2)
  have hel := he2.take encU_len hn hmn
  have hLl : (X.take m).length = m := by rw [List.length_take, hn]; omega
  obtain ⟨U, hU⟩ : ∃ U, X.take m = U := ⟨_, rfl⟩
  rw [hU] at hel hLl
  have HUL := Lib.hid hLl
  have HEL := Lib.hid hel
  clear hn hm ht he he2 hel hLl hU hN hf
  go_enter Tryd.func5, Tryd.ntmps5
  go_wp2_with fail
  refine (wakes_any _ HT.out).mono ?_
  rintro e w1 ⟨rfl, hb_⟩
  have HS := Lib.hid (HS.out.below hb_)
  clear hb_
  go_wp2_with fail
  refine (cloneU_any _ U _ (by rw [HUL.out]; exact HEL.out.below HS.out.low) (by rw [HUL.out]; omega)).mono ?_
  rintro e w2 ⟨sv, rfl, hrow, _, hb⟩
  have HS := Lib.hid ((HS.out.below hb).addRow (ownsRow_rows encU_len hrow))
  clear hb hrow hmin
  obtain ⟨sa, sc, rfl⟩ : ∃ sa sc, sv = .slice sa U.length sc := by
    obtain ⟨sa, sc, e, _⟩ := (HS.out.elems 0 rfl).shape
    exact ⟨sa, sc, e⟩
  rw [HUL.out] at HS ⊢
  go_wp2_with fail
  go_loopw [36] (fun i wr => ∃ k : Nat, k ≤ N ∧ i = .int .i64 (k : Int) ∧ St w [.row (.slice sa m sc) m 1 (rowC encU U) w2.heap.size, .row (.slice b n cap2) n 1 (rowC encU X) w.heap.size, .row (.slice a N cap) N 3 (rowC encC l) w.heap.size] wr) (fun i _ => N - (intOf i).toNat)
  case atStart => exact ⟨0, by omega, rfl, HS.out⟩
  case round =>
    obtain ⟨k, hk, rfl, hs⟩ := hrel
    have HS := Lib.hid hs
    clear hs
    by_cases hlt : k < N
    · have wk : wrap64 ((k : Int) + 1) = ((k + 1 : Nat) : Int) := by unfold wrap64; omega
      obtain ⟨c, hc⟩ : ∃ c, l[k]? = some c := ⟨_, List.getElem?_eq_getElem (by rw [HN.out]; exact hlt)⟩
      have HF := Lib.hid (HFA.out c (List.mem_of_getElem? hc))
      have hee : Elems wr (.slice a l.length cap) l.length 3 (rowC encC l) := by rw [HN.out]; exact HS.out.elems 2 rfl
      obtain ⟨bb, off, rfl, c0, c1, c2⟩ := clkCellsX hee k c hc
      obtain ⟨x1, x2, x3⟩ := c
      simp only at c0 c1 c2
      clear hc hee
      by_cases h10 : k = 10
      · have hq : ((k : Int) == 10) = true := by simp [h10]
        clear h10
        go_wp2_with fail
        have HS := Lib.hid (HS.out.alloc (.cells #[.int .i64 x1, .int .u64 x2, .int .u64 x3] 41))
        clear c0 c1 c2
        refine (show Calls _ _ #[.slice sa m sc, .slice b m cap2] _ _ from by have h := eqU_self sa b sc cap2 U _ (by rw [HUL.out]; exact HS.out.elems 1 rfl) (by rw [HUL.out]; exact HEL.out.below HS.out.low) (by rw [HUL.out]; omega); rw [HUL.out] at h; exact h).mono ?_
        rintro e w13 ⟨rfl, hb⟩
        have HB13 := Lib.hid (HS.out.low.trans (hb.mono HS.out.size))
        clear hb
        go_wp2_with fail
        go_ret
        exact ⟨rfl, HB13.out⟩
      · have hq : ((k : Int) == 10) = false := by simp; omega
        have HLT := Lib.hid hlt
        clear h10
        repeat ((fail_if_success (with_reducible refine stop_at (id := 8) ?_)); (first | go_values | go_skip | go_guarded | go_step | go_upon | go_back | (simp only [Int.not_lt, Int.not_le] at *; go_simp) | (go_values <;> (try go_simp)) | (go_ite <;> go_prune <;> (try go_simp)) | (split <;> (first | (rename_i hx; exact (hx _ rfl).elim) | go_prune))))
        clear c0 c1 c2
        have hs_ := (HS.out.alloc (.cells #[.int .i64 x1, .int .u64 x2, .int .u64 x3] 41))
        obtain ⟨w3, hw_⟩ : ∃ w3 : World, (wr.alloc (.cells #[.int .i64 x1, .int .u64 x2, .int .u64 x3] 41)) = w3 := ⟨_, rfl⟩
        rw [hw_] at hs_
        try simp only [World.size_alloc] at hs_
        have HS := Lib.hid hs_
        rw [hw_]
        clear hw_ hs_
        obtain ⟨ok, hok⟩ : ∃ ok, clkOk ⟨x1, x2, x3⟩ = ok := ⟨_, rfl⟩
        obtain ⟨so, hso⟩ : ∃ so, siteOk x1 = so := ⟨_, rfl⟩
        obtain ⟨⟨n1, n2, n3⟩, hNC⟩ : ∃ q, nxC ⟨x1, x2, x3⟩ = q := ⟨_, rfl⟩
        obtain ⟨⟨i1, i2, i3⟩, hNI⟩ : ∃ q, nxI ⟨x1, x2, x3⟩ = q := ⟨_, rfl⟩
        obtain ⟨NE, hNE⟩ : ∃ q, nxE ⟨x1, x2, x3⟩ = q := ⟨_, rfl⟩
        obtain ⟨⟨s1, s2, s3⟩, hSC⟩ : ∃ q, seC (tsOf U) m ⟨x1, x2, x3⟩ = q := ⟨_, rfl⟩
        obtain ⟨SE, hSE⟩ : ∃ q, seE (tsOf U) m ⟨x1, x2, x3⟩ = q := ⟨_, rfl⟩
        obtain ⟨⟨b1, b2, b3⟩, hBC⟩ : ∃ q, (if siteOk x1 then (⟨x1, 0, 0⟩ : ClkT) else clk0) = q := ⟨_, rfl⟩
        obtain ⟨BE, hBE⟩ : ∃ q : Int, (if siteOk x1 then (0 : Int) else 2) = q := ⟨_, rfl⟩
        have HRC := Lib.hid (fun w => refClock_any ⟨x1, x2, x3⟩ w); simp only [hok] at HRC
        have HCC := Lib.hid (fun w => checkClock_any ⟨x1, x2, x3⟩ w); simp only [hok] at HCC
        have HNW := Lib.hid (fun w => identNew_any x1 w); simp only [hBC, hBE] at HNW
        have HRS := Lib.hid (fun w => refSite_any x1 w); simp only [hso] at HRS
        have HNX := Lib.hid (fun w => identNext_any ⟨x1, x2, x3⟩ HF.out w); simp only [hNC, hNI, hNE] at HNX
        have HSE := Lib.hid (fun w hE => identSee_any ⟨x1, x2, x3⟩ (tsOf U) m (.slice sa m sc) (by omega) w hE); simp only [hSC, hSE] at HSE
        have HOK := Lib.hid hok
        have HSO := Lib.hid hso
        rw [hso] at hBC hBE
        have HBC := Lib.hid hBC
        have HBE := Lib.hid hBE
        have HNCd := Lib.hid hNC
        have HNId := Lib.hid hNI
        have HNEd := Lib.hid hNE
        have HSCd := Lib.hid hSC
        have HSEd := Lib.hid hSE
        clear hok hso hNC hNI hNE hSC hSE hBC hBE
        unfold ClkT.val IdT.val at *
        have k0 := cell_of_block (k := 0) (HS.out.blockAt 0 rfl) rfl
        have k1 := cell_of_block (k := 1) (HS.out.blockAt 0 rfl) rfl
        have k2 := cell_of_block (k := 2) (HS.out.blockAt 0 rfl) rfl
        go_wp2_with fail
        refine (HRC.out _).mono ?_
        rintro e w4 ⟨rfl, hb_⟩
        have HS := Lib.hid (HS.out.below hb_)
        clear hb_
        clear k0 k1 k2
        have k0 := cell_of_block (k := 0) (HS.out.blockAt 0 rfl) rfl
        have k1 := cell_of_block (k := 1) (HS.out.blockAt 0 rfl) rfl
        have k2 := cell_of_block (k := 2) (HS.out.blockAt 0 rfl) rfl
        go_wp2_with fail
        refine (HCC.out _).mono ?_
        rintro e w5 hg
        obtain ⟨rfl, hb_⟩ := hg.gives
        have HS := Lib.hid (HS.out.below hb_)
        clear hb_ hg k0 k1 k2
        have k0 := cell_of_block (k := 0) (HS.out.blockAt 0 rfl) rfl
        have k1 := cell_of_block (k := 1) (HS.out.blockAt 0 rfl) rfl
        have k2 := cell_of_block (k := 2) (HS.out.blockAt 0 rfl) rfl
        have he1 : ok = false → (errOf ok 211 == 0) = false ∧ (errOf ok 211 != 0) = true ∧ (errOf ok 211 != 211) = false := fun h => by subst h; decide
        have he2 : ok = true → (errOf ok 211 == 0) = true ∧ (errOf ok 211 != 0) = false := fun h => by subst h; decide
        cases ok
        · clear he1 he2
          simp only [errOf, Bool.false_eq_true, if_false, if_true]
          go_wp2_with fail
          refine (HNW.out _).mono ?_
          rintro e w6 ⟨rfl, hb_⟩
          have HS := Lib.hid (HS.out.below hb_)
          clear hb_
          clear k0 k1 k2
          repeat ((fail_if_success (with_reducible refine stop_at (id := 13) ?_)); (first | go_values | go_skip | go_guarded | go_step | go_upon | go_back | (simp only [Int.not_lt, Int.not_le] at *; go_simp) | (go_values <;> (try go_simp)) | (go_ite <;> go_prune <;> (try go_simp)) | (split <;> (first | (rename_i hx; exact (hx _ rfl).elim) | go_prune))))
          have hs_ := (HS.out.alloc (.cells #[.int .i64 b1, .int .u64 b2, .int .u64 b3] 41))
          obtain ⟨w7, hw_⟩ : ∃ w7 : World, (w6.alloc (.cells #[.int .i64 b1, .int .u64 b2, .int .u64 b3] 41)) = w7 := ⟨_, rfl⟩
          rw [hw_] at hs_
          try simp only [World.size_alloc] at hs_
          have HS := Lib.hid hs_
          rw [hw_]
          clear hw_ hs_
          have k0 := cell_of_block (k := 0) (HS.out.blockAt 1 rfl) rfl
          have k1 := cell_of_block (k := 1) (HS.out.blockAt 1 rfl) rfl
          have k2 := cell_of_block (k := 2) (HS.out.blockAt 1 rfl) rfl
          go_wp2_with fail
          refine (HRS.out _).mono ?_
          rintro e w8 ⟨rfl, rfl⟩
          clear k0 k1 k2
          have k0 := cell_of_block (k := 0) (HS.out.blockAt 1 rfl) rfl
          have k1 := cell_of_block (k := 1) (HS.out.blockAt 1 rfl) rfl
          have k2 := cell_of_block (k := 2) (HS.out.blockAt 1 rfl) rfl
          have m0 := cell_of_block (k := 0) (HS.out.blockAt 0 rfl) rfl
          have m1 := cell_of_block (k := 1) (HS.out.blockAt 0 rfl) rfl
          have m2 := cell_of_block (k := 2) (HS.out.blockAt 0 rfl) rfl
          cases so
          case' false =>
            have h1 := HBC.out
            have h2 := HBE.out
            simp only [Bool.false_eq_true, if_false, clk0, ClkT.mk.injEq] at h1 h2
            obtain ⟨rfl, rfl, rfl⟩ := h1
            subst h2
            have hr := clk_neq 0 0 0
            go_wp2_with fail
          case' true =>
            have h1 := HBC.out
            have h2 := HBE.out
            simp only [if_true, ClkT.mk.injEq] at h1 h2
            obtain ⟨rfl, rfl, rfl⟩ := h1
            subst h2
            have hr := clk_neq x1 0 0
            go_wp2_with fail
          all_goals
            clear hr k0 k1 k2 m0 m1 m2
            refine (HNX.out _).mono ?_
            rintro e w9 ⟨rfl, hb_⟩
            have HS := Lib.hid (HS.out.below hb_)
            clear hb_
            repeat ((fail_if_success (with_reducible refine stop_at (id := 19) ?_)); (first | go_values | go_skip | go_guarded | go_step | go_upon | go_back | (simp only [Int.not_lt, Int.not_le] at *; go_simp) | (go_values <;> (try go_simp)) | (go_ite <;> go_prune <;> (try go_simp)) | (split <;> (first | (rename_i hx; exact (hx _ rfl).elim) | go_prune))))
            have hs_ := ((HS.out.alloc (.cells #[.int .i64 n1, .int .u64 n2, .int .u64 n3] 41)).alloc (.cells #[.int .u64 i1, .int .i64 i2, .int .u64 i3] 27))
            obtain ⟨w10, hw_⟩ : ∃ w10 : World, ((w9.alloc (.cells #[.int .i64 n1, .int .u64 n2, .int .u64 n3] 41)).alloc (.cells #[.int .u64 i1, .int .i64 i2, .int .u64 i3] 27)) = w10 := ⟨_, rfl⟩
            rw [hw_] at hs_
            try simp only [World.size_alloc] at hs_
            have HS := Lib.hid hs_
            rw [hw_]
            clear hw_ hs_
            have k0 := cell_of_block (k := 0) (HS.out.blockAt 3 rfl) rfl
            have k1 := cell_of_block (k := 1) (HS.out.blockAt 3 rfl) rfl
            have k2 := cell_of_block (k := 2) (HS.out.blockAt 3 rfl) rfl
            go_wp2_with fail
            refine (HSE.out _ (Elems.times HUL.out (HS.out.elems 4 rfl))).mono ?_
            rintro e w11 ⟨rfl, hb_⟩
            have HS := Lib.hid (HS.out.below hb_)
            clear hb_
            clear k0 k1 k2
            repeat ((fail_if_success (with_reducible refine stop_at (id := 22) ?_)); (first | go_values | go_skip | go_guarded | go_step | go_upon | go_back | (simp only [Int.not_lt, Int.not_le] at *; go_simp) | (go_values <;> (try go_simp)) | (go_ite <;> go_prune <;> (try go_simp)) | (split <;> (first | (rename_i hx; exact (hx _ rfl).elim) | go_prune))))
            have hs_ := ((((HS.out.alloc (.cells #[.int .i64 s1, .int .u64 s2, .int .u64 s3] 41)).alloc (.cells #[.int .i64 0, .int .u64 0, .int .u64 0] 41)).alloc (.cells #[.int .i64 0, .int .u64 0, .int .u64 0] 41)).alloc (.cells #[.int .u64 0, .int .i64 0, .int .u64 0] 27))
            obtain ⟨w12, hw_⟩ : ∃ w12 : World, ((((w11.alloc (.cells #[.int .i64 s1, .int .u64 s2, .int .u64 s3] 41)).alloc (.cells #[.int .i64 0, .int .u64 0, .int .u64 0] 41)).alloc (.cells #[.int .i64 0, .int .u64 0, .int .u64 0] 41)).alloc (.cells #[.int .u64 0, .int .i64 0, .int .u64 0] 27)) = w12 := ⟨_, rfl⟩
            rw [hw_] at hs_
            try simp only [World.size_alloc] at hs_
            have HS := Lib.hid hs_
            rw [hw_]
            clear hw_ hs_
            have h := HNCd.out
            simp only [nxC, HOK.out, Bool.false_and, Bool.and_false, Bool.true_and, Bool.and_true, Bool.and_self, Bool.false_eq_true, if_false, if_true, clk0, id0, ClkT.mk.injEq, IdT.mk.injEq] at h
            obtain ⟨rfl, rfl, rfl⟩ := h
            have h := HNId.out
            simp only [nxI, HOK.out, Bool.false_and, Bool.and_false, Bool.true_and, Bool.and_true, Bool.and_self, Bool.false_eq_true, if_false, if_true, clk0, id0, ClkT.mk.injEq, IdT.mk.injEq] at h
            obtain ⟨rfl, rfl, rfl⟩ := h
            have h := HNEd.out
            simp only [nxE, HOK.out, Bool.false_and, Bool.and_false, Bool.true_and, Bool.and_true, Bool.and_self, Bool.false_eq_true, if_false, if_true, clk0, id0, ClkT.mk.injEq, IdT.mk.injEq] at h
            subst h
            have h := HSCd.out
            simp only [seC, HOK.out, Bool.false_and, Bool.and_false, Bool.true_and, Bool.and_true, Bool.and_self, Bool.false_eq_true, if_false, if_true, clk0, id0, ClkT.mk.injEq, IdT.mk.injEq] at h
            obtain ⟨rfl, rfl, rfl⟩ := h
            have h := HSEd.out
            simp only [seE, HOK.out, Bool.false_and, Bool.and_false, Bool.true_and, Bool.and_true, Bool.and_self, Bool.false_eq_true, if_false, if_true, clk0, id0, ClkT.mk.injEq, IdT.mk.injEq] at h
            subst h
            have p0 := cell_of_block (k := 0) (HS.out.blockAt 5 rfl) rfl
            have p1 := cell_of_block (k := 1) (HS.out.blockAt 5 rfl) rfl
            have p2 := cell_of_block (k := 2) (HS.out.blockAt 5 rfl) rfl
            have q0 := cell_of_block (k := 0) (HS.out.blockAt 2 rfl) rfl
            have q1 := cell_of_block (k := 1) (HS.out.blockAt 2 rfl) rfl
            have q2 := cell_of_block (k := 2) (HS.out.blockAt 2 rfl) rfl
            have r0 := cell_of_block (k := 0) (HS.out.blockAt 4 rfl) rfl
            have r1 := cell_of_block (k := 1) (HS.out.blockAt 4 rfl) rfl
            have r2 := cell_of_block (k := 2) (HS.out.blockAt 4 rfl) rfl
            have s0 := cell_of_block (k := 0) (HS.out.blockAt 0 rfl) rfl
            have s1 := cell_of_block (k := 1) (HS.out.blockAt 0 rfl) rfl
            have s2 := cell_of_block (k := 2) (HS.out.blockAt 0 rfl) rfl
            have t0 := cell_of_block (k := 0) (HS.out.blockAt 3 rfl) rfl
            have t1 := cell_of_block (k := 1) (HS.out.blockAt 3 rfl) rfl
            have t2 := cell_of_block (k := 2) (HS.out.blockAt 3 rfl) rfl
            have u0 := cell_of_block (k := 0) (HS.out.blockAt 1 rfl) rfl
            have u1 := cell_of_block (k := 1) (HS.out.blockAt 1 rfl) rfl
            have u2 := cell_of_block (k := 2) (HS.out.blockAt 1 rfl) rfl
            have e1 := clk_neq 0 0 0
            have e2 := id_neq 0 0 0
            go_wp2_with fail
            go_roundw
            case rel => exact ⟨k + 1, HLT.out, by simp, HS.out.drop1.drop1.drop1.drop1.drop1.drop1.drop1.drop1⟩
            case measure => have := HLT.out; simp [intOf]; omega
        · clear he1 he2
          simp only [errOf, Bool.false_eq_true, if_false, if_true]
          go_wp2_with fail
          refine (HNW.out _).mono ?_
          rintro e w6 ⟨rfl, hb_⟩
          have HS := Lib.hid (HS.out.below hb_)
          clear hb_
          clear k0 k1 k2
          repeat ((fail_if_success (with_reducible refine stop_at (id := 13) ?_)); (first | go_values | go_skip | go_guarded | go_step | go_upon | go_back | (simp only [Int.not_lt, Int.not_le] at *; go_simp) | (go_values <;> (try go_simp)) | (go_ite <;> go_prune <;> (try go_simp)) | (split <;> (first | (rename_i hx; exact (hx _ rfl).elim) | go_prune))))
          have hs_ := (HS.out.alloc (.cells #[.int .i64 b1, .int .u64 b2, .int .u64 b3] 41))
          obtain ⟨w7, hw_⟩ : ∃ w7 : World, (w6.alloc (.cells #[.int .i64 b1, .int .u64 b2, .int .u64 b3] 41)) = w7 := ⟨_, rfl⟩
          rw [hw_] at hs_
          try simp only [World.size_alloc] at hs_
          have HS := Lib.hid hs_
          rw [hw_]
          clear hw_ hs_
          have k0 := cell_of_block (k := 0) (HS.out.blockAt 1 rfl) rfl
          have k1 := cell_of_block (k := 1) (HS.out.blockAt 1 rfl) rfl
          have k2 := cell_of_block (k := 2) (HS.out.blockAt 1 rfl) rfl
          go_wp2_with fail
          refine (HRS.out _).mono ?_
          rintro e w8 ⟨rfl, rfl⟩
          clear k0 k1 k2
          have k0 := cell_of_block (k := 0) (HS.out.blockAt 1 rfl) rfl
          have k1 := cell_of_block (k := 1) (HS.out.blockAt 1 rfl) rfl
          have k2 := cell_of_block (k := 2) (HS.out.blockAt 1 rfl) rfl
          have m0 := cell_of_block (k := 0) (HS.out.blockAt 0 rfl) rfl
          have m1 := cell_of_block (k := 1) (HS.out.blockAt 0 rfl) rfl
          have m2 := cell_of_block (k := 2) (HS.out.blockAt 0 rfl) rfl
          cases so
          case' false =>
            have h1 := HBC.out
            have h2 := HBE.out
            simp only [Bool.false_eq_true, if_false, clk0, ClkT.mk.injEq] at h1 h2
            obtain ⟨rfl, rfl, rfl⟩ := h1
            subst h2
            have hr := clk_neq 0 0 0
            go_wp2_with fail
          case' true =>
            have h1 := HBC.out
            have h2 := HBE.out
            simp only [if_true, ClkT.mk.injEq] at h1 h2
            obtain ⟨rfl, rfl, rfl⟩ := h1
            subst h2
            have hr := clk_neq x1 0 0
            go_wp2_with fail
          all_goals
            clear hr k0 k1 k2 m0 m1 m2
            refine (HNX.out _).mono ?_
            rintro e w9 ⟨rfl, hb_⟩
            have HS := Lib.hid (HS.out.below hb_)
            clear hb_
            repeat ((fail_if_success (with_reducible refine stop_at (id := 19) ?_)); (first | go_values | go_skip | go_guarded | go_step | go_upon | go_back | (simp only [Int.not_lt, Int.not_le] at *; go_simp) | (go_values <;> (try go_simp)) | (go_ite <;> go_prune <;> (try go_simp)) | (split <;> (first | (rename_i hx; exact (hx _ rfl).elim) | go_prune))))
            have hs_ := ((HS.out.alloc (.cells #[.int .i64 n1, .int .u64 n2, .int .u64 n3] 41)).alloc (.cells #[.int .u64 i1, .int .i64 i2, .int .u64 i3] 27))
            obtain ⟨w10, hw_⟩ : ∃ w10 : World, ((w9.alloc (.cells #[.int .i64 n1, .int .u64 n2, .int .u64 n3] 41)).alloc (.cells #[.int .u64 i1, .int .i64 i2, .int .u64 i3] 27)) = w10 := ⟨_, rfl⟩
            rw [hw_] at hs_
            try simp only [World.size_alloc] at hs_
            have HS := Lib.hid hs_
            rw [hw_]
            clear hw_ hs_
            have k0 := cell_of_block (k := 0) (HS.out.blockAt 3 rfl) rfl
            have k1 := cell_of_block (k := 1) (HS.out.blockAt 3 rfl) rfl
            have k2 := cell_of_block (k := 2) (HS.out.blockAt 3 rfl) rfl
            go_wp2_with fail
            refine (HSE.out _ (Elems.times HUL.out (HS.out.elems 4 rfl))).mono ?_
            rintro e w11 ⟨rfl, hb_⟩
            have HS := Lib.hid (HS.out.below hb_)
            clear hb_
            clear k0 k1 k2
            repeat ((fail_if_success (with_reducible refine stop_at (id := 22) ?_)); (first | go_values | go_skip | go_guarded | go_step | go_upon | go_back | (simp only [Int.not_lt, Int.not_le] at *; go_simp) | (go_values <;> (try go_simp)) | (go_ite <;> go_prune <;> (try go_simp)) | (split <;> (first | (rename_i hx; exact (hx _ rfl).elim) | go_prune))))
            have hs_ := ((((HS.out.alloc (.cells #[.int .i64 s1, .int .u64 s2, .int .u64 s3] 41)).alloc (.cells #[.int .i64 0, .int .u64 0, .int .u64 0] 41)).alloc (.cells #[.int .i64 0, .int .u64 0, .int .u64 0] 41)).alloc (.cells #[.int .u64 0, .int .i64 0, .int .u64 0] 27))
            obtain ⟨w12, hw_⟩ : ∃ w12 : World, ((((w11.alloc (.cells #[.int .i64 s1, .int .u64 s2, .int .u64 s3] 41)).alloc (.cells #[.int .i64 0, .int .u64 0, .int .u64 0] 41)).alloc (.cells #[.int .i64 0, .int .u64 0, .int .u64 0] 41)).alloc (.cells #[.int .u64 0, .int .i64 0, .int .u64 0] 27)) = w12 := ⟨_, rfl⟩
            rw [hw_] at hs_
            try simp only [World.size_alloc] at hs_
            have HS := Lib.hid hs_
            rw [hw_]
            clear hw_ hs_
            have k0 := cell_of_block (k := 0) (HS.out.blockAt 7 rfl) rfl
            have k1 := cell_of_block (k := 1) (HS.out.blockAt 7 rfl) rfl
            have k2 := cell_of_block (k := 2) (HS.out.blockAt 7 rfl) rfl
            go_wp2_with fail
            clear k0 k1 k2
            cases hnx : nextOk ⟨x1, x2, x3⟩
            · have h := HNCd.out
              simp only [nxC, HOK.out, hnx, Bool.false_and, Bool.and_false, Bool.true_and, Bool.and_true, Bool.and_self, Bool.false_eq_true, if_false, if_true, clk0, id0, ClkT.mk.injEq, IdT.mk.injEq] at h
              obtain ⟨rfl, rfl, rfl⟩ := h
              have h := HNId.out
              simp only [nxI, HOK.out, hnx, Bool.false_and, Bool.and_false, Bool.true_and, Bool.and_true, Bool.and_self, Bool.false_eq_true, if_false, if_true, clk0, id0, ClkT.mk.injEq, IdT.mk.injEq] at h
              obtain ⟨rfl, rfl, rfl⟩ := h
              have h := HNEd.out
              simp only [nxE, HOK.out, hnx, Bool.false_and, Bool.and_false, Bool.true_and, Bool.and_true, Bool.and_self, Bool.false_eq_true, if_false, if_true, clk0, id0, ClkT.mk.injEq, IdT.mk.injEq] at h
              subst h
              refine (refNext_no ⟨x1, x2, x3⟩ HOK.out hnx _).mono ?_
              rintro e w13 ⟨rfl, hb_⟩
              have HS := Lib.hid (HS.out.below hb_)
              clear hb_
              unfold clk0 id0 ClkT.val IdT.val
              clear hnx
              repeat ((fail_if_success (with_reducible refine stop_at (id := 26) ?_)); (first | go_values | go_skip | go_guarded | go_step | go_upon | go_back | (simp only [Int.not_lt, Int.not_le] at *; go_simp) | (go_values <;> (try go_simp)) | (go_ite <;> go_prune <;> (try go_simp)) | (split <;> (first | (rename_i hx; exact (hx _ rfl).elim) | go_prune))))
              have hs_ := ((HS.out.alloc (.cells #[.int .i64 0, .int .u64 0, .int .u64 0] 41)).alloc (.cells #[.int .u64 0, .int .i64 0, .int .u64 0] 27))
              obtain ⟨w14, hw_⟩ : ∃ w14 : World, ((w13.alloc (.cells #[.int .i64 0, .int .u64 0, .int .u64 0] 41)).alloc (.cells #[.int .u64 0, .int .i64 0, .int .u64 0] 27)) = w14 := ⟨_, rfl⟩
              rw [hw_] at hs_
              try simp only [World.size_alloc] at hs_
              have HS := Lib.hid hs_
              rw [hw_]
              clear hw_ hs_
              have HE1 := Lib.hid (clk_neq 0 0 0)
              have HE2 := Lib.hid (id_neq 0 0 0)
              have k0 := cell_of_block (k := 0) (HS.out.blockAt 9 rfl) rfl
              have k1 := cell_of_block (k := 1) (HS.out.blockAt 9 rfl) rfl
              have k2 := cell_of_block (k := 2) (HS.out.blockAt 9 rfl) rfl
              go_wp2_with fail
              clear k0 k1 k2
              refine (refSee_any ⟨x1, x2, x3⟩ (tsOf U) m (.slice sa m sc) (by omega) _ (Elems.times HUL.out (HS.out.elems 10 rfl))).mono ?_
              rintro e w20 ⟨rfl, hb_⟩
              have HS := Lib.hid (HS.out.below hb_)
              clear hb_
              cases htb : timesB (tsOf U) m
              · have h := HSCd.out
                simp only [seC, HOK.out, htb, Bool.false_and, Bool.and_false, Bool.true_and, Bool.and_true, Bool.and_self, Bool.false_eq_true, if_false, if_true, clk0, id0, ClkT.mk.injEq, IdT.mk.injEq] at h
                obtain ⟨rfl, rfl, rfl⟩ := h
                have h := HSEd.out
                simp only [seE, HOK.out, htb, Bool.false_and, Bool.and_false, Bool.true_and, Bool.and_true, Bool.and_self, Bool.false_eq_true, if_false, if_true, clk0, id0, ClkT.mk.injEq, IdT.mk.injEq] at h
                subst h
                simp only [Bool.false_eq_true, if_false, clk0, ClkT.val]
                clear htb
                repeat ((fail_if_success (with_reducible refine stop_at (id := 29) ?_)); (first | go_values | go_skip | go_guarded | go_step | go_upon | go_back | (simp only [Int.not_lt, Int.not_le] at *; go_simp) | (go_values <;> (try go_simp)) | (go_ite <;> go_prune <;> (try go_simp)) | (split <;> (first | (rename_i hx; exact (hx _ rfl).elim) | go_prune))))
                have hs_ := (HS.out.alloc (.cells #[.int .i64 0, .int .u64 0, .int .u64 0] 41))
                obtain ⟨w21, hw_⟩ : ∃ w21 : World, (w20.alloc (.cells #[.int .i64 0, .int .u64 0, .int .u64 0] 41)) = w21 := ⟨_, rfl⟩
                rw [hw_] at hs_
                try simp only [World.size_alloc] at hs_
                have HS := Lib.hid hs_
                rw [hw_]
                clear hw_ hs_
                have p0 := cell_of_block (k := 0) (HS.out.blockAt 8 rfl) rfl
                have p1 := cell_of_block (k := 1) (HS.out.blockAt 8 rfl) rfl
                have p2 := cell_of_block (k := 2) (HS.out.blockAt 8 rfl) rfl
                have q0 := cell_of_block (k := 0) (HS.out.blockAt 5 rfl) rfl
                have q1 := cell_of_block (k := 1) (HS.out.blockAt 5 rfl) rfl
                have q2 := cell_of_block (k := 2) (HS.out.blockAt 5 rfl) rfl
                have r0 := cell_of_block (k := 0) (HS.out.blockAt 7 rfl) rfl
                have r1 := cell_of_block (k := 1) (HS.out.blockAt 7 rfl) rfl
                have r2 := cell_of_block (k := 2) (HS.out.blockAt 7 rfl) rfl
                have v0 := cell_of_block (k := 0) (HS.out.blockAt 3 rfl) rfl
                have v1 := cell_of_block (k := 1) (HS.out.blockAt 3 rfl) rfl
                have v2 := cell_of_block (k := 2) (HS.out.blockAt 3 rfl) rfl
                have t0 := cell_of_block (k := 0) (HS.out.blockAt 6 rfl) rfl
                have t1 := cell_of_block (k := 1) (HS.out.blockAt 6 rfl) rfl
                have t2 := cell_of_block (k := 2) (HS.out.blockAt 6 rfl) rfl
                have u0 := cell_of_block (k := 0) (HS.out.blockAt 4 rfl) rfl
                have u1 := cell_of_block (k := 1) (HS.out.blockAt 4 rfl) rfl
                have u2 := cell_of_block (k := 2) (HS.out.blockAt 4 rfl) rfl
                have e1 := HE1.out
                have e2 := HE2.out
                have e3 := clk_neq 0 0 0
                go_wp2_with fail
                go_roundw
                case rel => exact ⟨k + 1, HLT.out, by simp, HS.out.drop1.drop1.drop1.drop1.drop1.drop1.drop1.drop1.drop1.drop1.drop1⟩
                case measure => have := HLT.out; simp [intOf]; omega
              · have h := HSCd.out
                simp only [seC, HOK.out, htb, Bool.false_and, Bool.and_false, Bool.true_and, Bool.and_true, Bool.and_self, Bool.false_eq_true, if_false, if_true, clk0, id0, ClkT.mk.injEq, IdT.mk.injEq] at h
                obtain ⟨rfl, rfl, rfl⟩ := h
                have h := HSEd.out
                simp only [seE, HOK.out, htb, Bool.false_and, Bool.and_false, Bool.true_and, Bool.and_true, Bool.and_self, Bool.false_eq_true, if_false, if_true, clk0, id0, ClkT.mk.injEq, IdT.mk.injEq] at h
                subst h
                simp only [if_true, ClkT.val]
                obtain ⟨s2, hs2⟩ : ∃ q, seeTo (tsOf U) x2 m = q := ⟨_, rfl⟩
                simp only [hs2] at HS ⊢
                clear hs2
                clear htb
                repeat ((fail_if_success (with_reducible refine stop_at (id := 29) ?_)); (first | go_values | go_skip | go_guarded | go_step | go_upon | go_back | (simp only [Int.not_lt, Int.not_le] at *; go_simp) | (go_values <;> (try go_simp)) | (go_ite <;> go_prune <;> (try go_simp)) | (split <;> (first | (rename_i hx; exact (hx _ rfl).elim) | go_prune))))
                have hs_ := (HS.out.alloc (.cells #[.int .i64 x1, .int .u64 s2, .int .u64 x3] 41))
                obtain ⟨w21, hw_⟩ : ∃ w21 : World, (w20.alloc (.cells #[.int .i64 x1, .int .u64 s2, .int .u64 x3] 41)) = w21 := ⟨_, rfl⟩
                rw [hw_] at hs_
                try simp only [World.size_alloc] at hs_
                have HS := Lib.hid hs_
                rw [hw_]
                clear hw_ hs_
                have k0 := cell_of_block (k := 0) (HS.out.blockAt 0 rfl) rfl
                have k1 := cell_of_block (k := 1) (HS.out.blockAt 0 rfl) rfl
                have k2 := cell_of_block (k := 2) (HS.out.blockAt 0 rfl) rfl
                have u0 := cell_of_block (k := 0) (HS.out.blockAt 4 rfl) rfl
                have u1 := cell_of_block (k := 1) (HS.out.blockAt 4 rfl) rfl
                have u2 := cell_of_block (k := 2) (HS.out.blockAt 4 rfl) rfl
                have uf := free_of_block (HS.out.blockAt 4 rfl)
                repeat ((fail_if_success (with_reducible refine stop_at (id := 31) ?_)); (first | go_values | go_skip | go_guarded | go_step | go_upon | go_back | (simp only [Int.not_lt, Int.not_le] at *; go_simp) | (go_values <;> (try go_simp)) | (go_ite <;> go_prune <;> (try go_simp)) | (split <;> (first | (rename_i hx; exact (hx _ rfl).elim) | go_prune))))
                clear k0 k1 k2 u0 u1 u2 uf
                have hs_ := St.set3 (a' := .int .i64 x1) (b' := .int .u64 s2) (c' := .int .u64 x3) (pre := [_, _, _, _]) HS.out (by intro i hi; simp at hi; rcases hi with rfl | rfl | rfl | rfl <;> exact ⟨_, _, rfl⟩)
                generalize (World.setCell (World.setCell (World.setCell w21 _ _) _ _) _ _) = w22 at hs_ ⊢
                have HS := Lib.hid hs_
                clear hs_
                try simp only [List.cons_append, List.nil_append] at HS
                have p0 := cell_of_block (k := 0) (HS.out.blockAt 8 rfl) rfl
                have p1 := cell_of_block (k := 1) (HS.out.blockAt 8 rfl) rfl
                have p2 := cell_of_block (k := 2) (HS.out.blockAt 8 rfl) rfl
                have q0 := cell_of_block (k := 0) (HS.out.blockAt 5 rfl) rfl
                have q1 := cell_of_block (k := 1) (HS.out.blockAt 5 rfl) rfl
                have q2 := cell_of_block (k := 2) (HS.out.blockAt 5 rfl) rfl
                have r0 := cell_of_block (k := 0) (HS.out.blockAt 7 rfl) rfl
                have r1 := cell_of_block (k := 1) (HS.out.blockAt 7 rfl) rfl
                have r2 := cell_of_block (k := 2) (HS.out.blockAt 7 rfl) rfl
                have v0 := cell_of_block (k := 0) (HS.out.blockAt 3 rfl) rfl
                have v1 := cell_of_block (k := 1) (HS.out.blockAt 3 rfl) rfl
                have v2 := cell_of_block (k := 2) (HS.out.blockAt 3 rfl) rfl
                have t0 := cell_of_block (k := 0) (HS.out.blockAt 6 rfl) rfl
                have t1 := cell_of_block (k := 1) (HS.out.blockAt 6 rfl) rfl
                have t2 := cell_of_block (k := 2) (HS.out.blockAt 6 rfl) rfl
                have u0 := cell_of_block (k := 0) (HS.out.blockAt 4 rfl) rfl
                have u1 := cell_of_block (k := 1) (HS.out.blockAt 4 rfl) rfl
                have u2 := cell_of_block (k := 2) (HS.out.blockAt 4 rfl) rfl
                have e1 := HE1.out
                have e2 := HE2.out
                have e3 := clk_neq x1 s2 x3
                go_wp2_with fail
                go_roundw
                case rel => exact ⟨k + 1, HLT.out, by simp, HS.out.drop1.drop1.drop1.drop1.drop1.drop1.drop1.drop1.drop1.drop1.drop1⟩
                case measure => have := HLT.out; simp [intOf]; omega
            · have hcn : clkOn ⟨x1, x2, x3⟩ = ⟨n1, n2, n3⟩ := by have h := HNCd.out; simp only [nxC, HOK.out, hnx, Bool.and_self, if_true] at h; exact h
              have hci : clkId (clkOn ⟨x1, x2, x3⟩) = ⟨i1, i2, i3⟩ := by have h := HNId.out; simp only [nxI, HOK.out, hnx, Bool.and_self, if_true] at h; exact h
              have h := HNEd.out
              simp only [nxE, HOK.out, hnx, Bool.false_and, Bool.and_false, Bool.true_and, Bool.and_true, Bool.and_self, Bool.false_eq_true, if_false, if_true, clk0, id0, ClkT.mk.injEq, IdT.mk.injEq] at h
              subst h
              refine (refNext_ok ⟨x1, x2, x3⟩ HF.out hnx _).mono ?_
              rintro e w13 ⟨rfl, hb_⟩
              have HS := Lib.hid (HS.out.below hb_)
              rw [hci, hcn]
              clear hb_ hcn hci hnx
              unfold ClkT.val IdT.val
              repeat ((fail_if_success (with_reducible refine stop_at (id := 26) ?_)); (first | go_values | go_skip | go_guarded | go_step | go_upon | go_back | (simp only [Int.not_lt, Int.not_le] at *; go_simp) | (go_values <;> (try go_simp)) | (go_ite <;> go_prune <;> (try go_simp)) | (split <;> (first | (rename_i hx; exact (hx _ rfl).elim) | go_prune))))
              have hs_ := ((HS.out.alloc (.cells #[.int .i64 n1, .int .u64 n2, .int .u64 n3] 41)).alloc (.cells #[.int .u64 i1, .int .i64 i2, .int .u64 i3] 27))
              obtain ⟨w14, hw_⟩ : ∃ w14 : World, ((w13.alloc (.cells #[.int .i64 n1, .int .u64 n2, .int .u64 n3] 41)).alloc (.cells #[.int .u64 i1, .int .i64 i2, .int .u64 i3] 27)) = w14 := ⟨_, rfl⟩
              rw [hw_] at hs_
              try simp only [World.size_alloc] at hs_
              have HS := Lib.hid hs_
              rw [hw_]
              clear hw_ hs_
              have HE1 := Lib.hid (clk_neq n1 n2 n3)
              have HE2 := Lib.hid (id_neq i1 i2 i3)
              repeat ((fail_if_success (with_reducible refine stop_at (id := 27) ?_)); (first | go_values | go_skip | go_guarded | go_step | go_upon | go_back | (simp only [Int.not_lt, Int.not_le] at *; go_simp) | (go_values <;> (try go_simp)) | (go_ite <;> go_prune <;> (try go_simp)) | (split <;> (first | (rename_i hx; exact (hx _ rfl).elim) | go_prune))))
              have HNE : Hid (w13.heap.size ≠ w11.heap.size + 1 ∧ w13.heap.size + 1 ≠ w11.heap.size + 1) := by
                have h := HS.out.ord.2.2.2.1 _ (List.mem_cons_of_mem _ (List.mem_cons_of_mem _ (List.mem_cons_self ..)))
                simp only [It.top] at h
                exact Lib.hid ⟨by omega, by omega⟩
              refine (wpIn_wide (n := 0)).1 ?_
              apply wp_region_vals 3 (Rl := [(eqv _), (eqv _), (fun v_ w_ => w_.heap[w11.heap.size + 1]? = some (.cells #[.int .i64 n1, .int .u64 n2, .int .u64 n3] 41 (0, 0)))]) (C := (fun x y => FillAt (w11.heap.size + 1) (.cells #[.int .i64 0, .int .u64 0, .int .u64 0] 41 (0, 0)) (.cells #[.int .i64 n1, .int .u64 n2, .int .u64 n3] 41 (0, 0)) x y))
              case hm => kernel_rfl
              case hk => rfl
              case hCr => exact (fun x => FillAt.refl _ _ _ x)
              case hCt => intro _ _ _; exact (fun h k => FillAt.trans h k)
              case hst => exact ⟨fun _ _ _ _ h => h, fun _ _ _ _ h => h, fun _ _ _ hC h => hC.done h, trivial⟩
              case hfo => kernel_rfl
              case ht => kernel_rfl
              case hC0 => exact (FillAt.drew _ _ _ _)
              case hsteps =>
                refine ⟨?_, ?_, ?_, trivial⟩
                · -- 0
                  intro a' w' hA hC hD
                  have s21 : a'.tmps[21]? = some _ := (hA.at 21 (by kernel_rfl)).trans rfl
                  have hi := hC.other _ _ HNE.out.1 (HS.out.blockAt 1 rfl); have d0 := cell_of_block (k := 0) hi rfl; have d1 := cell_of_block (k := 1) hi rfl; have d2 := cell_of_block (k := 2) hi rfl; clear hi
                  clear hA hD
                  refine stepOk_plain rfl ?_
                  intro K hK
                  gi_wp2
                  exact hK _ _ rfl ((fun x => FillAt.refl _ _ _ x) _)
                · -- 1
                  intro a' w' hA hC hD
                  have s22 : a'.tmps[22]? = some _ := (hA.at 22 (by kernel_rfl)).trans rfl
                  have hi := hC.other _ _ HNE.out.2 (HS.out.blockAt 0 rfl); have d0 := cell_of_block (k := 0) hi rfl; have d1 := cell_of_block (k := 1) hi rfl; have d2 := cell_of_block (k := 2) hi rfl; clear hi
                  clear hA hD
                  refine stepOk_plain rfl ?_
                  intro K hK
                  gi_wp2
                  exact hK _ _ rfl ((fun x => FillAt.refl _ _ _ x) _)
                · -- 2
                  intro a' w' hA hC hD
                  have s16 : a'.tmps[16]? = some _ := (hA.at 16 (by kernel_rfl)).trans rfl
                  obtain ⟨u104, s104, r104⟩ := hD ⟨0, .data⟩ (by simp) rfl _ rfl
                  replace r104 : u104 = _ := r104
                  subst r104
                  have he := hC.fill (HS.out.blockAt 4 rfl); have HE := Lib.hid he; obtain ⟨y0, y1, y2, hy⟩ := either3 he; have d0 := cell_of_block (k := 0) (v := y0) hy rfl; have d1 := cell_of_block (k := 1) (v := y1) hy rfl; have d2 := cell_of_block (k := 2) (v := y2) hy rfl; have fr := free_of_block hy; clear he hy
                  clear hA hD
                  refine stepOk_plain rfl ?_
                  intro K hK
                  gi_wp2
                  exact hK undef _ (fillAt3 HE.out).2 (fillAt3 HE.out).1
              case' hend =>
                intro w15 hC
                simp only [EndFrom, eqv, forall_eq, Act.put, List.length_cons, List.length_nil, List.drop_succ_cons, List.drop_zero, Nat.reduceAdd, List.setIfInBounds_toArray, List.set_cons_succ, List.set_cons_zero]
                intro v9 h9
                have hs_ := St.set' (pre := [_, _, _, _]) HS.out (by intro i hi; simp at hi; rcases hi with rfl | rfl | rfl | rfl <;> exact ⟨_, _, rfl⟩) h9 hC.other hC.low
                have HS := Lib.hid hs_
                clear hs_ h9 hC
                try simp only [List.cons_append, List.nil_append] at HS
                have k0 := cell_of_block (k := 0) (HS.out.blockAt 2 rfl) rfl
                have k1 := cell_of_block (k := 1) (HS.out.blockAt 2 rfl) rfl
                have k2 := cell_of_block (k := 2) (HS.out.blockAt 2 rfl) rfl
                have kf := free_of_block (HS.out.blockAt 2 rfl)
                gi_wp2
                repeat ((fail_if_success (with_reducible refine stop_at (id := 28) ?_)); (first | go_values | go_skip | go_guarded | go_step | go_upon | go_back | (simp only [Int.not_lt, Int.not_le] at *; go_simp) | (go_values <;> (try go_simp)) | (go_ite <;> go_prune <;> (try go_simp)) | (split <;> (first | (rename_i hx; exact (hx _ rfl).elim) | go_prune))))
                clear k0 k1 k2 kf
                have hs_ := St.set3 (a' := .int .u64 i1) (b' := .int .i64 i2) (c' := .int .u64 i3) (pre := [_, _]) HS.out (by intro i hi; simp at hi; rcases hi with rfl | rfl <;> exact ⟨_, _, rfl⟩)
                generalize (World.setCell (World.setCell (World.setCell w15 _ _) _ _) _ _) = w16 at hs_ ⊢
                have HS := Lib.hid hs_
                clear hs_
                try simp only [List.cons_append, List.nil_append] at HS
                have k0 := cell_of_block (k := 0) (HS.out.blockAt 9 rfl) rfl
                have k1 := cell_of_block (k := 1) (HS.out.blockAt 9 rfl) rfl
                have k2 := cell_of_block (k := 2) (HS.out.blockAt 9 rfl) rfl
                go_wp2_with fail
                clear k0 k1 k2
                refine (refSee_any ⟨x1, x2, x3⟩ (tsOf U) m (.slice sa m sc) (by omega) _ (Elems.times HUL.out (HS.out.elems 10 rfl))).mono ?_
                rintro e w20 ⟨rfl, hb_⟩
                have HS := Lib.hid (HS.out.below hb_)
                clear hb_
                cases htb : timesB (tsOf U) m
                · have h := HSCd.out
                  simp only [seC, HOK.out, htb, Bool.false_and, Bool.and_false, Bool.true_and, Bool.and_true, Bool.and_self, Bool.false_eq_true, if_false, if_true, clk0, id0, ClkT.mk.injEq, IdT.mk.injEq] at h
                  obtain ⟨rfl, rfl, rfl⟩ := h
                  have h := HSEd.out
                  simp only [seE, HOK.out, htb, Bool.false_and, Bool.and_false, Bool.true_and, Bool.and_true, Bool.and_self, Bool.false_eq_true, if_false, if_true, clk0, id0, ClkT.mk.injEq, IdT.mk.injEq] at h
                  subst h
                  simp only [Bool.false_eq_true, if_false, clk0, ClkT.val]
                  clear htb
                  repeat ((fail_if_success (with_reducible refine stop_at (id := 29) ?_)); (first | go_values | go_skip | go_guarded | go_step | go_upon | go_back | (simp only [Int.not_lt, Int.not_le] at *; go_simp) | (go_values <;> (try go_simp)) | (go_ite <;> go_prune <;> (try go_simp)) | (split <;> (first | (rename_i hx; exact (hx _ rfl).elim) | go_prune))))
                  have hs_ := (HS.out.alloc (.cells #[.int .i64 0, .int .u64 0, .int .u64 0] 41))
                  obtain ⟨w21, hw_⟩ : ∃ w21 : World, (w20.alloc (.cells #[.int .i64 0, .int .u64 0, .int .u64 0] 41)) = w21 := ⟨_, rfl⟩
                  rw [hw_] at hs_
                  try simp only [World.size_alloc] at hs_
                  have HS := Lib.hid hs_
                  rw [hw_]
                  clear hw_ hs_
                  have p0 := cell_of_block (k := 0) (HS.out.blockAt 8 rfl) rfl
                  have p1 := cell_of_block (k := 1) (HS.out.blockAt 8 rfl) rfl
                  have p2 := cell_of_block (k := 2) (HS.out.blockAt 8 rfl) rfl
                  have q0 := cell_of_block (k := 0) (HS.out.blockAt 5 rfl) rfl
                  have q1 := cell_of_block (k := 1) (HS.out.blockAt 5 rfl) rfl
                  have q2 := cell_of_block (k := 2) (HS.out.blockAt 5 rfl) rfl
                  have r0 := cell_of_block (k := 0) (HS.out.blockAt 7 rfl) rfl
                  have r1 := cell_of_block (k := 1) (HS.out.blockAt 7 rfl) rfl
                  have r2 := cell_of_block (k := 2) (HS.out.blockAt 7 rfl) rfl
                  have v0 := cell_of_block (k := 0) (HS.out.blockAt 3 rfl) rfl
                  have v1 := cell_of_block (k := 1) (HS.out.blockAt 3 rfl) rfl
                  have v2 := cell_of_block (k := 2) (HS.out.blockAt 3 rfl) rfl
                  have t0 := cell_of_block (k := 0) (HS.out.blockAt 6 rfl) rfl
                  have t1 := cell_of_block (k := 1) (HS.out.blockAt 6 rfl) rfl
                  have t2 := cell_of_block (k := 2) (HS.out.blockAt 6 rfl) rfl
                  have u0 := cell_of_block (k := 0) (HS.out.blockAt 4 rfl) rfl
                  have u1 := cell_of_block (k := 1) (HS.out.blockAt 4 rfl) rfl
                  have u2 := cell_of_block (k := 2) (HS.out.blockAt 4 rfl) rfl
                  have e1 := HE1.out
                  have e2 := HE2.out
                  have e3 := clk_neq 0 0 0
                  go_wp2_with fail
                  go_roundw
                  case rel => exact ⟨k + 1, HLT.out, by simp, HS.out.drop1.drop1.drop1.drop1.drop1.drop1.drop1.drop1.drop1.drop1.drop1⟩
                  case measure => have := HLT.out; simp [intOf]; omega
                · have h := HSCd.out
                  simp only [seC, HOK.out, htb, Bool.false_and, Bool.and_false, Bool.true_and, Bool.and_true, Bool.and_self, Bool.false_eq_true, if_false, if_true, clk0, id0, ClkT.mk.injEq, IdT.mk.injEq] at h
                  obtain ⟨rfl, rfl, rfl⟩ := h
                  have h := HSEd.out
                  simp only [seE, HOK.out, htb, Bool.false_and, Bool.and_false, Bool.true_and, Bool.and_true, Bool.and_self, Bool.false_eq_true, if_false, if_true, clk0, id0, ClkT.mk.injEq, IdT.mk.injEq] at h
                  subst h
                  simp only [if_true, ClkT.val]
                  obtain ⟨s2, hs2⟩ : ∃ q, seeTo (tsOf U) x2 m = q := ⟨_, rfl⟩
                  simp only [hs2] at HS ⊢
                  clear hs2
                  clear htb
                  repeat ((fail_if_success (with_reducible refine stop_at (id := 29) ?_)); (first | go_values | go_skip | go_guarded | go_step | go_upon | go_back | (simp only [Int.not_lt, Int.not_le] at *; go_simp) | (go_values <;> (try go_simp)) | (go_ite <;> go_prune <;> (try go_simp)) | (split <;> (first | (rename_i hx; exact (hx _ rfl).elim) | go_prune))))
                  have hs_ := (HS.out.alloc (.cells #[.int .i64 x1, .int .u64 s2, .int .u64 x3] 41))
                  obtain ⟨w21, hw_⟩ : ∃ w21 : World, (w20.alloc (.cells #[.int .i64 x1, .int .u64 s2, .int .u64 x3] 41)) = w21 := ⟨_, rfl⟩
                  rw [hw_] at hs_
                  try simp only [World.size_alloc] at hs_
                  have HS := Lib.hid hs_
                  rw [hw_]
                  clear hw_ hs_
                  have k0 := cell_of_block (k := 0) (HS.out.blockAt 0 rfl) rfl
                  have k1 := cell_of_block (k := 1) (HS.out.blockAt 0 rfl) rfl
                  have k2 := cell_of_block (k := 2) (HS.out.blockAt 0 rfl) rfl
                  have u0 := cell_of_block (k := 0) (HS.out.blockAt 4 rfl) rfl
                  have u1 := cell_of_block (k := 1) (HS.out.blockAt 4 rfl) rfl
                  have u2 := cell_of_block (k := 2) (HS.out.blockAt 4 rfl) rfl
                  have uf := free_of_block (HS.out.blockAt 4 rfl)
                  repeat ((fail_if_success (with_reducible refine stop_at (id := 31) ?_)); (first | go_values | go_skip | go_guarded | go_step | go_upon | go_back | (simp only [Int.not_lt, Int.not_le] at *; go_simp) | (go_values <;> (try go_simp)) | (go_ite <;> go_prune <;> (try go_simp)) | (split <;> (first | (rename_i hx; exact (hx _ rfl).elim) | go_prune))))
                  clear k0 k1 k2 u0 u1 u2 uf
                  have hs_ := St.set3 (a' := .int .i64 x1) (b' := .int .u64 s2) (c' := .int .u64 x3) (pre := [_, _, _, _]) HS.out (by intro i hi; simp at hi; rcases hi with rfl | rfl | rfl | rfl <;> exact ⟨_, _, rfl⟩)
                  generalize (World.setCell (World.setCell (World.setCell w21 _ _) _ _) _ _) = w22 at hs_ ⊢
                  have HS := Lib.hid hs_
                  clear hs_
                  try simp only [List.cons_append, List.nil_append] at HS
                  have p0 := cell_of_block (k := 0) (HS.out.blockAt 8 rfl) rfl
                  have p1 := cell_of_block (k := 1) (HS.out.blockAt 8 rfl) rfl
                  have p2 := cell_of_block (k := 2) (HS.out.blockAt 8 rfl) rfl
                  have q0 := cell_of_block (k := 0) (HS.out.blockAt 5 rfl) rfl
                  have q1 := cell_of_block (k := 1) (HS.out.blockAt 5 rfl) rfl
                  have q2 := cell_of_block (k := 2) (HS.out.blockAt 5 rfl) rfl
                  have r0 := cell_of_block (k := 0) (HS.out.blockAt 7 rfl) rfl
                  have r1 := cell_of_block (k := 1) (HS.out.blockAt 7 rfl) rfl
                  have r2 := cell_of_block (k := 2) (HS.out.blockAt 7 rfl) rfl
                  have v0 := cell_of_block (k := 0) (HS.out.blockAt 3 rfl) rfl
                  have v1 := cell_of_block (k := 1) (HS.out.blockAt 3 rfl) rfl
                  have v2 := cell_of_block (k := 2) (HS.out.blockAt 3 rfl) rfl
                  have t0 := cell_of_block (k := 0) (HS.out.blockAt 6 rfl) rfl
                  have t1 := cell_of_block (k := 1) (HS.out.blockAt 6 rfl) rfl
                  have t2 := cell_of_block (k := 2) (HS.out.blockAt 6 rfl) rfl
                  have u0 := cell_of_block (k := 0) (HS.out.blockAt 4 rfl) rfl
                  have u1 := cell_of_block (k := 1) (HS.out.blockAt 4 rfl) rfl
                  have u2 := cell_of_block (k := 2) (HS.out.blockAt 4 rfl) rfl
                  have e1 := HE1.out
                  have e2 := HE2.out
                  have e3 := clk_neq x1 s2 x3
                  go_wp2_with fail
                  go_roundw
                  case rel => exact ⟨k + 1, HLT.out, by simp, HS.out.drop1.drop1.drop1.drop1.drop1.drop1.drop1.drop1.drop1.drop1.drop1⟩
                  case measure => have := HLT.out; simp [intOf]; omega
    · obtain rfl : N = k := by omega
      clear hk hlt
      go_wp2_with fail
      refine (show Calls _ _ #[.slice sa m sc, .slice b m cap2] _ _ from by have h := eqU_self sa b sc cap2 U _ (by rw [HUL.out]; exact HS.out.elems 0 rfl) (by rw [HUL.out]; exact HEL.out.below HS.out.low) (by rw [HUL.out]; omega); rw [HUL.out] at h; exact h).mono ?_
      rintro e w13 ⟨rfl, hb⟩
      have HB13 := Lib.hid (HS.out.low.trans (hb.mono HS.out.size))
      clear hb
      go_wp2_with fail
      go_ret
      exact ⟨rfl, HB13.out⟩
end Go.Proofs.YtppaheekpmgifaaDoor
