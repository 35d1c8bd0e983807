/- Merged texts: FlPa. -/
import Derived.Test.YtlnjgdnnpkloeaaM20
import Derived.Test.YtlnjgdnnpkloeaaM21
/- Layer 8: FloodParts. -/
namespace Go.Proofs.Ytlnjgdnnpkloeaa
set_option linter.unusedSimpArgs false
set_option linter.unusedVariables false
open Go.RowKit Go.Shelf
attribute [local go_sem] Oper.semAt_some
theorem belowOwn {α : Type} {w0 x y : World} {its : List It} {base : Nat} {e : TypeId} {k : Nat} {enc : α → List Value} {v : Value} {L : List α} (h : StO w0 its base e k enc v L x) (hg : x.grownBy y v.ownBlock) : Below base x y :=
  ⟨(Turned.of_grown hg).os, (Turned.of_grown hg).tape, (Turned.of_grown hg).output, (Turned.of_grown hg).size, fun j hj => by
    have hx : j < x.heap.size := Nat.lt_of_lt_of_le hj h.hi
    exact (Turned.of_grown hg).block j hx fun hd => by
      have := (h.row.lt j hd.symm).1
      omega⟩
theorem grownGives : GrownGives := fun C hC v p t mb h1 h2 h3 w hv => refGrown_any C hC v p t mb h1 h2 h3 w hv

set_option maxRecDepth 100000 in
set_option maxHeartbeats 4000000 in
theorem floodParts_any (wide high : Int) (a : Option Addr) (n cap : Nat) (ts : List TileT) (hl : ts.length = n) (hc : n ≤ cap) (hc2 : cap ≤ 9223372036854775807) (hcol : ∀ t ∈ ts, ∀ c ∈ t.1, okC c) (la : Option Addr) (nl cl : Nat) (l : List Int) (hll : l.length = nl) (hcl : nl ≤ cl) (w : World) (he : Elems w (.slice a n cap) n 256 (rowC encT ts)) (hel : Elems w (.slice la nl cl) nl 1 (rowC encI l)) :
    Calls Try.prog 3 #[.agg #[.int .i64 wide, .int .i64 high, .slice a n cap], .slice la nl cl] w (Gives (.bool true) w) := by
  have HS := Lib.hid (St.start w)
  have HOF := Lib.hid (fun w' (hb : Below w.heap.size w w') => lawOf_doc wide high a n cap ts hl hc hc2 hcol w' (he.below hb))
  obtain ⟨ok, hok⟩ : ∃ ok, okE wide high (ts.take 17).length = ok := ⟨_, rfl⟩
  obtain ⟨C, hC⟩ : ∃ C : CanT, (⟨wide.toNat, high.toNat, ts.take 17⟩ : CanT) = C := ⟨_, rfl⟩
  rw [hok, hC] at HOF
  obtain ⟨m, hm⟩ : ∃ m, min nl 3 = m := ⟨_, rfl⟩
  obtain ⟨ks, hks⟩ : ∃ ks, l.take 3 = ks := ⟨_, rfl⟩
  have hlm : ks.length = m := by rw [← hks, List.length_take, hll, Nat.min_comm]; exact hm
  have htk : ks = l.take m := by
    rw [← hks, ← hm]
    rcases Nat.le_total nl 3 with h | h
    · rw [Nat.min_eq_left h, List.take_of_length_le (by omega), List.take_of_length_le (by omega)]
    · rw [Nat.min_eq_right h]
  have hek : Elems w (.slice la m cl) m 1 (rowC encI ks) := by rw [htk]; exact Elems.take encI_len hll hel (by omega)
  have HCL := Lib.hid (fun w' (hb : Below w.heap.size w w') => (cloneI_any (.slice la m cl) ks w' (by rw [hlm]; exact hek.below hb) (by omega)).mono fun e w'' h => Cloned.read encI_len hlm h)
  have HLM := Lib.hid hlm
  have HMB := Lib.hid (show m ≤ nl ∧ m ≤ cl ∧ m ≤ 3 ∧ min (nl : Int) 3 = (m : Int) by omega)
  clear hl hc hc2 hcol he hel hok hC hm hks hlm htk hek hll hcl
  go_enter Try.func3, Try.ntmps3
  repeat ((fail_if_success (with_reducible refine stop_at (id := 1) ?_)); (first | go_values | go_skip | go_guarded | go_step | go_upon | go_back | (simp only [Int.not_lt, Int.not_le] at *; go_simp) | (go_values <;> (try go_simp)) | (go_ite <;> go_prune <;> (try go_simp)) | (split <;> (first | (rename_i hx; exact (hx _ rfl).elim) | go_prune))))
  have hs_ := (HS.out.alloc (.cells #[.int .i64 wide, .int .i64 high, .slice a n cap] 24))
  obtain ⟨w1, hw_⟩ : ∃ w1 : World, (w.alloc (.cells #[.int .i64 wide, .int .i64 high, .slice a n cap] 24)) = w1 := ⟨_, rfl⟩
  rw [hw_] at hs_
  try simp only [World.size_alloc] at hs_
  have HS := Lib.hid hs_
  rw [hw_]
  clear hw_ hs_
  go_wp2_with fail
  refine (flWakes_any _).mono ?_
  rintro e w2 ⟨rfl, hb_⟩
  have HS := Lib.hid (HS.out.below hb_)
  clear hb_
  have k0 := cell_of_block (k := 0) (HS.out.blockAt 0 rfl) rfl
  have k1 := cell_of_block (k := 1) (HS.out.blockAt 0 rfl) rfl
  have k2 := cell_of_block (k := 2) (HS.out.blockAt 0 rfl) rfl
  go_wp2_with fail
  clear k0 k1 k2
  refine (HOF.out _ HS.out.low).mono ?_
  rintro e w3 ⟨v, wi, hi, a3, c3, rfl, hb, hv0, hv1⟩
  have HS := Lib.hid (HS.out.below hb)
  clear hb HOF
  cases ok with
  | false =>
    obtain rfl := hv0 rfl
    clear hv0 hv1
    repeat ((fail_if_success (with_reducible refine stop_at (id := 4) ?_)); (first | go_values | go_skip | go_guarded | go_step | go_upon | go_back | (simp only [Int.not_lt, Int.not_le] at *; go_simp) | (go_values <;> (try go_simp)) | (go_ite <;> go_prune <;> (try go_simp)) | (split <;> (first | (rename_i hx; exact (hx _ rfl).elim) | go_prune))))
    have hs_ := (HS.out.alloc (.cells #[.int .i64 wi, .int .i64 hi, .slice a3 C.tiles.length c3] 24))
    obtain ⟨w4, hw_⟩ : ∃ w4 : World, (w3.alloc (.cells #[.int .i64 wi, .int .i64 hi, .slice a3 C.tiles.length c3] 24)) = w4 := ⟨_, rfl⟩
    rw [hw_] at hs_
    try simp only [World.size_alloc] at hs_
    have HS := Lib.hid hs_
    rw [hw_]
    clear hw_ hs_
    go_wp2_with fail
    go_ret
    exact ⟨rfl, HS.out.low⟩
  | true =>
    obtain ⟨⟨p, rfl, hcp⟩, rfl, rfl, hcv⟩ := hv1 rfl
    have HC := Lib.hid hcp
    have HV := Lib.hid hcv
    clear hcp hcv hv0 hv1
    repeat ((fail_if_success (with_reducible refine stop_at (id := 4) ?_)); (first | go_values | go_skip | go_guarded | go_step | go_upon | go_back | (simp only [Int.not_lt, Int.not_le] at *; go_simp) | (go_values <;> (try go_simp)) | (go_ite <;> go_prune <;> (try go_simp)) | (split <;> (first | (rename_i hx; exact (hx _ rfl).elim) | go_prune))))
    have hs_ := HS.out.alloc (.cells #[.int .i64 C.wide, .int .i64 C.high, .slice a3 C.tiles.length c3] 24)
    have hk_HC := HC.out.below ((Below.refl _ _).alloc (Nat.le_refl _) (.cells #[.int .i64 C.wide, .int .i64 C.high, .slice a3 C.tiles.length c3] 24))
    have hk_HV := HV.out.below ((Below.refl _ _).alloc (Nat.le_refl _) (.cells #[.int .i64 C.wide, .int .i64 C.high, .slice a3 C.tiles.length c3] 24))
    obtain ⟨w4, hw_⟩ : ∃ w4 : World, w3.alloc (.cells #[.int .i64 C.wide, .int .i64 C.high, .slice a3 C.tiles.length c3] 24) = w4 := ⟨_, rfl⟩
    rw [hw_] at hs_ hk_HC hk_HV
    have HS := Lib.hid hs_
    have HC := Lib.hid hk_HC
    have HV := Lib.hid hk_HV
    rw [hw_]
    clear hw_ hs_ hk_HC hk_HV
    have e1 := HMB.out.2.2.2
    have e2 := HMB.out.1
    have e3 := HMB.out.2.1
    go_wp2_with fail
    clear e1 e2 e3
    refine (HCL.out _ HS.out.low).mono ?_
    rintro e w5 ⟨a5, c5, rfl, hc5, he5, hb5⟩
    have HS := Lib.hid ((HS.out.below hb5).addRow he5)
    have HC := Lib.hid (HC.out.below hb5)
    have HV := Lib.hid (HV.out.below hb5)
    clear hb5 he5 hc5
    go_wp2_with fail
    refine (flParts_any C p a5 m c5 ks HLM.out (by have := HMB.out; omega) _ HC.out (HS.out.elems 0 rfl)).mono ?_
    intro e w6 hg
    obtain ⟨hl6, a6, c6, rfl, he6, hb6⟩ := hg.got encI_len
    obtain ⟨R, hR⟩ : ∃ R, partsR C ks = R := ⟨_, rfl⟩
    obtain ⟨nr, hnr⟩ : ∃ nr, R.length = nr := ⟨_, rfl⟩
    rw [hR, hnr] at he6
    rw [hR, hnr]
    have HR := Lib.hid (And.intro hR hnr)
    have HS := Lib.hid ((HS.out.below hb6).addRow he6)
    have HC := Lib.hid (HC.out.below hb6)
    have HV := Lib.hid (HV.out.below hb6)
    clear hb6 he6 hl6 hR hnr
    go_wp2_with fail
    have HK := Lib.hid (show Kp w6 w6 from Below.refl _ _)
    go_loopw [11, 42] (fun no i wr => ∃ j : Nat, j ≤ m ∧ i = .int .i64 (j : Int) ∧ no = .int .i64 (errOf ((ks.take j).all tolB) 2) ∧ Kp w6 wr) (fun _ i _ => m - (intOf i).toNat)
    case atStart => exact ⟨0, by omega, rfl, rfl, HK.out⟩
    case round =>
      obtain ⟨j, hj, rfl, rfl, hb⟩ := hrel
      have HS := Lib.hid (HS.out.below hb)
      have HC := Lib.hid (HC.out.below hb)
      have HV := Lib.hid (HV.out.below hb)
      have HK := Lib.hid hb
      clear hb
      by_cases hlt : j < m
      · obtain ⟨x, hx⟩ : ∃ x, ks[j]? = some x := ⟨_, List.getElem?_eq_getElem (by rw [HLM.out]; exact hlt)⟩
        obtain ⟨bb, off, rfl, hbb, c0⟩ := intCells HLM.out (HS.out.elems 1 rfl) j x hx
        have HLT := Lib.hid hlt
        have HE := Lib.hid (wrap_succ (n := j) (by have := HMB.out; omega))
        have htk : (ks.take (j + 1)).all tolB = ((ks.take j).all tolB && tolB x) := by rw [List.take_add_one, hx]; simp
        have HTK := Lib.hid htk
        obtain ⟨tb, htb⟩ : ∃ tb, tolB x = tb := ⟨_, rfl⟩
        have HTB := Lib.hid (refTol_any x)
        rw [htb] at HTB HTK
        clear hx hlt htk htb hbb
        cases tb with
        | true =>
          go_wp2_with fail
          clear c0
          refine (HTB.out _).mono ?_
          rintro e w7 ⟨rfl, hb_⟩
          have HS := Lib.hid (HS.out.below hb_)
          have HC := Lib.hid (HC.out.below hb_)
          have HV := Lib.hid (HV.out.below hb_)
          have HK := Lib.hid (HK.out.below hb_)
          clear hb_
          go_wp2_with fail
          go_roundw
          case rel => exact ⟨j + 1, HLT.out, congrArg (Value.int .i64) HE.out, by rw [HTK.out, Bool.and_true], HK.out⟩
          case measure => rw [HE.out]; have := HLT.out; simp only [intOf]; omega
        | false =>
          go_wp2_with fail
          clear c0
          refine (HTB.out _).mono ?_
          rintro e w7 ⟨rfl, hb_⟩
          have HS := Lib.hid (HS.out.below hb_)
          have HC := Lib.hid (HC.out.below hb_)
          have HV := Lib.hid (HV.out.below hb_)
          have HK := Lib.hid (HK.out.below hb_)
          clear hb_
          go_wp2_with fail
          go_roundw
          case rel => exact ⟨j + 1, HLT.out, congrArg (Value.int .i64) HE.out, by rw [HTK.out, Bool.and_false]; rfl, HK.out⟩
          case measure => rw [HE.out]; have := HLT.out; simp only [intOf]; omega
      · have hjm : j = m := by omega
        have htm : ks.take j = ks := by rw [hjm]; exact List.take_of_length_le (by rw [HLM.out]; exact Nat.le_refl _)
        rw [htm]
        clear htm hj HK
        obtain ⟨ab, hab⟩ : ∃ ab, ks.all tolB = ab := ⟨_, rfl⟩
        rw [hab]
        have HAB := Lib.hid hab
        have HRR := Lib.hid (show (bif ab then ks.map (partsN C) else []) = R by rw [← HR.out.1, ← hab]; rfl)
        clear hab hjm
        obtain ⟨N1, hN1⟩ : ∃ N1, wr.heap.size = N1 := ⟨_, rfl⟩
        have HO := Lib.hid (StO.start HS.out 3 1 encI)
        rw [hN1] at HO
        obtain ⟨wa, hwa⟩ : ∃ x, wr = x := ⟨_, rfl⟩
        rw [hwa] at HO HC HV hN1 ⊢
        have HN1 := Lib.hid hN1
        clear HS hN1 hwa
        cases ab with
        | true =>
          rw [show errOf true 2 = 0 from rfl]
          have hall := List.all_eq_true.1 HAB.out
          have HALL := Lib.hid hall
          clear hall
          repeat ((fail_if_success (with_reducible refine stop_at (id := 17) ?_)); (first | go_values | go_skip | go_guarded | go_step | go_upon | go_back | (simp only [Int.not_lt, Int.not_le] at *; go_simp) | (go_values <;> (try go_simp)) | (go_ite <;> go_prune <;> (try go_simp)) | (split <;> (first | (rename_i hx; exact (hx _ rfl).elim) | go_prune))))
          clear hlt
          go_loopw [10, 52] (fun out i wx => ∃ j : Nat, j ≤ m ∧ i = .int .i64 (j : Int) ∧ StO w [.row (.slice a6 nr c6) nr 1 (rowC encI R) w6.heap.size, .row (.slice a5 m c5) m 1 (rowC encI ks) w5.heap.size, .blk w3.heap.size (.cells #[.int .i64 C.wide, .int .i64 C.high, .slice a3 C.tiles.length c3] 24 (0, 0)), .blk w.heap.size (.cells #[.int .i64 wide, .int .i64 high, .slice a n cap] 24 (0, 0))] N1 3 1 encI out ((ks.take j).map (partsN C)) wx ∧ Kp wa wx) (fun _ i _ => m - (intOf i).toNat)
          case atStart => exact ⟨0, by omega, rfl, HO.out, Below.refl _ _⟩
          case round =>
            obtain ⟨j2, hj2, rfl, ho, hb⟩ := hrel
            have HO := Lib.hid ho
            have HC := Lib.hid (HC.out.below hb)
            have HV := Lib.hid (HV.out.below hb)
            have HB := Lib.hid hb
            clear ho hb
            by_cases hlt : j2 < m
            · obtain ⟨x, hx⟩ : ∃ x, ks[j2]? = some x := ⟨_, List.getElem?_eq_getElem (by rw [HLM.out]; exact hlt)⟩
              obtain ⟨bb, off, rfl, hbb, c0⟩ := intCells HLM.out (HO.out.st.elems 1 rfl) j2 x hx
              have HLT := Lib.hid hlt
              have HE := Lib.hid (wrap_succ (n := j2) (by have := HMB.out; omega))
              have htx : 0 ≤ x := (of_decide_eq_true (HALL.out x (List.mem_of_getElem? hx))).1
              have HTK := Lib.hid (show (ks.take (j2 + 1)).map (partsN C) = (ks.take j2).map (partsN C) ++ [partsN C x] by rw [List.take_add_one, hx, List.map_append]; rfl)
              have HPA := Lib.hid (refParts_any grownGives C HC.out.ok _ x htx _ HV.out)
              have HLL := Lib.hid (show ((ks.take j2).map (partsN C)).length < 1000000000 by rw [List.length_map, List.length_take]; have := HLM.out; have := HMB.out; omega)
              obtain ⟨pn, hpn⟩ : ∃ pn, partsN C x = pn := ⟨_, rfl⟩
              rw [hpn] at HTK HPA
              obtain ⟨O, hO⟩ : ∃ O, (ks.take j2).map (partsN C) = O := ⟨_, rfl⟩
              rw [hO] at HO HTK HLL
              clear hx hlt htx hbb hpn hO
              have v0 := cell_of_block (k := 0) (HO.out.st.blockAt 2 rfl) rfl
              have v1 := cell_of_block (k := 1) (HO.out.st.blockAt 2 rfl) rfl
              have v2 := cell_of_block (k := 2) (HO.out.st.blockAt 2 rfl) rfl
              go_wp2_with fail
              clear c0 v0 v1 v2
              refine HPA.out.mono ?_
              rintro e w8 ⟨rfl, hb8⟩
              have HO := Lib.hid (HO.out.below hb8)
              have HB := Lib.hid (HB.out.trans (hb8.mono HB.out.size))
              clear hb8 HPA
              go_wp2_with (at_builtin; refine wpList_app1l rowI encI_len encI_one HO.out (Below.refl _ _) pn _ rfl HLL.out (by decide) _ _ rfl rfl rfl _ rfl (by simp) ?_; intro v' w9 ho9 hsh9 hgr9 hloc9; have HO9 := Lib.hid ho9; have HG9 := Lib.hid hgr9; clear ho9 hsh9 hgr9 hloc9)
              go_roundw
              case rel => exact ⟨j2 + 1, HLT.out, congrArg (Value.int .i64) HE.out, by rw [HTK.out]; exact HO9.out, HB.out.trans (show Below wa.heap.size _ _ by rw [HN1.out]; exact belowOwn HO.out HG9.out)⟩
              case measure => rw [HE.out]; have := HLT.out; simp only [intOf]; omega
            · have hjm : j2 = m := by omega
              have htm : ks.take j2 = ks := by rw [hjm]; exact List.take_of_length_le (by rw [HLM.out]; exact Nat.le_refl _)
              rw [htm] at HO
              have hrr := HRR.out
              simp only [cond_true] at hrr
              rw [hrr] at HO
              have HS := Lib.hid HO.out.st
              have hel := HO.out.elems encI_len
              obtain ⟨ao, co, rfl, -⟩ := HO.out.shape
              rw [HR.out.2] at hel ⊢
              have HEL := Lib.hid hel
              clear htm hjm hrr hel hj2
              go_wp2_with fail
              clear hlt
              have HSE := Lib.hid (St.start wr)
              refine (flParts_nil _ _).mono ?_
              rintro e w21 ⟨rfl, hb_⟩
              have HS := Lib.hid (HS.out.below hb_)
              have HEL := Lib.hid (HEL.out.below hb_)
              clear hb_ HSE
              go_wp2_with fail
              refine (eqI_same _ _ _ _ _ R HR.out.2 _ (HS.out.elems 0 rfl) HEL.out (by have h1 := congrArg List.length HRR.out; have := HR.out.2; have := HLM.out; have := HMB.out; simp only [cond_true, List.length_map] at h1; omega)).mono ?_
              rintro e w22 ⟨rfl, hb_⟩
              have HS := Lib.hid (HS.out.below hb_)
              clear hb_
              go_wp2_with fail
              go_ret
              exact ⟨rfl, HS.out.low⟩
        | false =>
          rw [show errOf false 2 = 2 from rfl]
          have hrr := HRR.out
          simp only [cond_false] at hrr
          have hnr : nr = 0 := by rw [← HR.out.2, ← hrr]; rfl
          subst hnr
          repeat ((fail_if_success (with_reducible refine stop_at (id := 17) ?_)); (first | go_values | go_skip | go_guarded | go_step | go_upon | go_back | (simp only [Int.not_lt, Int.not_le] at *; go_simp) | (go_values <;> (try go_simp)) | (go_ite <;> go_prune <;> (try go_simp)) | (split <;> (first | (rename_i hx; exact (hx _ rfl).elim) | go_prune))))
          clear hlt
          go_loopw [10, 52] (fun out i wx => ∃ j : Nat, j ≤ m ∧ i = .int .i64 (j : Int) ∧ out = .slice none 0 0 ∧ StO w [.row (.slice a6 0 c6) 0 1 (rowC encI R) w6.heap.size, .row (.slice a5 m c5) m 1 (rowC encI ks) w5.heap.size, .blk w3.heap.size (.cells #[.int .i64 C.wide, .int .i64 C.high, .slice a3 C.tiles.length c3] 24 (0, 0)), .blk w.heap.size (.cells #[.int .i64 wide, .int .i64 high, .slice a n cap] 24 (0, 0))] N1 3 1 encI (.slice none 0 0) ([] : List Int) wx) (fun _ i _ => m - (intOf i).toNat)
          case atStart => exact ⟨0, by omega, rfl, rfl, HO.out⟩
          case round =>
            obtain ⟨j2, hj2, rfl, rfl, ho⟩ := hrel
            have HO := Lib.hid ho
            clear ho
            by_cases hlt : j2 < m
            · obtain ⟨x, hx⟩ : ∃ x, ks[j2]? = some x := ⟨_, List.getElem?_eq_getElem (by rw [HLM.out]; exact hlt)⟩
              obtain ⟨bb, off, rfl, hbb, c0⟩ := intCells HLM.out (HO.out.st.elems 1 rfl) j2 x hx
              have HLT := Lib.hid hlt
              have HE := Lib.hid (wrap_succ (n := j2) (by have := HMB.out; omega))
              clear hx hlt hbb
              go_wp2_with fail
              go_roundw
              case rel => exact ⟨j2 + 1, HLT.out, congrArg (Value.int .i64) HE.out, rfl, HO.out⟩
              case measure => rw [HE.out]; have := HLT.out; simp only [intOf]; omega
            · have HS := Lib.hid HO.out.st
              clear hj2
              go_wp2_with fail
              clear hlt
              refine (flParts_nil _ _).mono ?_
              rintro e w21 ⟨rfl, hb_⟩
              have HS := Lib.hid (HS.out.below hb_)
              clear hb_
              go_wp2_with fail
              have hR0 : R = [] := by rw [← HRR.out]; rfl
              have hq1 : Elems w21 (.slice a6 0 c6) 0 1 (rowC encI ([] : List Int)) := by
                have h := HS.out.elems 0 rfl
                rw [hR0] at h
                exact h
              have hq2 : Elems w21 (.slice none 0 0) 0 1 (rowC encI ([] : List Int)) := elems_nil _
              have HQ := Lib.hid (eqI_same a6 none 0 c6 0 ([] : List Int) rfl w21 hq1 hq2 (by omega))
              clear hq1 hq2 hR0
              refine HQ.out.mono ?_
              rintro e w22 ⟨rfl, hb_⟩
              have HS := Lib.hid (HS.out.below hb_)
              clear hb_
              go_wp2_with fail
              go_ret
              exact ⟨rfl, HS.out.low⟩
end Go.Proofs.Ytlnjgdnnpkloeaa
