/- Merged texts: FlRi. -/
import Derived.Test.YtodpkgbpcpfamaaM20
import Derived.Test.YtodpkgbpcpfamaaM21
import Derived.Test.YtodpkgbpcpfamaaM22
/- Layer 8: FloodRims. -/
namespace Go.Proofs.Ytodpkgbpcpfamaa
set_option linter.unusedSimpArgs false
set_option linter.unusedVariables false
open Go.RowKit Go.Shelf
attribute [local go_sem] Oper.semAt_some
/-- A rim, or why there is none. -/
theorem rim_got (C : CanT) (c : Nat) (a : Option Addr) (n cap : Nat) (l : List SpT) (hl : l.length = n) (hn : n ≤ 900) (w : World) (hC : CanAt w c C) (he : Elems w (.slice a n cap) n 3 (rowC encS l)) :
 Calls Try.prog 8 #[.pointer (some ⟨c, 0, none⟩), .slice a n cap] w fun e w' => ∃ (b : Option Addr) (k bc : Nat), e = .returned (.tuple #[.slice b k bc, .int .i64 (rimE C l)]) ∧ (rimR C l).length = k ∧ k ≤ 1024 ∧ Elems w' (.slice b k bc) k 2 (rowC encP (rimR C l)) ∧ Below w.heap.size w w' := by
 cases hr : rightB l with
 | false =>
  refine (rim_wrong c a n cap l hl (by omega) hr w he).mono fun e w' h => ?_
  obtain ⟨rfl, hb⟩ := h
  have h0 : rimR C l = [] := by unfold rimR rimOk; rw [hr]; rfl
  refine ⟨none, 0, 0, by unfold rimE; rw [hr]; rfl, by rw [h0]; rfl, by omega, by rw [h0]; exact elems_nil _, hb⟩
 | true =>
  have hp := ptsL_le hr
  rw [hl] at hp
  refine (rim_any C c a n cap l hl (by omega) (by omega) w hC he).mono fun e w' h => ?_
  obtain ⟨_, b, bc, rfl, hel, hb⟩ := h.got encP_len
  refine ⟨b, _, bc, rfl, rfl, ?_, hel, hb⟩
  unfold rimR
  cases rimOk C l with
  | false => simp
  | true =>
   refine Nat.le_trans (gathL_len _ _ _) ?_
   have h1 := hC.ok.wide
   have h2 := hC.ok.high
   have h3 : 8 * C.high * (8 * C.wide) ≤ 32 * 32 := Nat.mul_le_mul (by omega) (by omega)
   omega
structure I5 where
 a : Int
 b : Int
 c : Int
 d : Int
 t : Int
def encI5 (x : I5) : List Value := [.int .i64 x.a, .int .i64 x.b, .int .i64 x.c, .int .i64 x.d, .int .i64 x.t]
theorem encI5_len (x : I5) : (encI5 x).length = 5 := rfl
theorem i5Cells {w : World} {a : Option Addr} {n cap : Nat} {l : List I5} (hn : l.length = n) (h : Elems w (.slice a n cap) n 5 (rowC encI5 l)) (k : Nat) (x : I5) (hx : l[k]? = some x) :
 ∃ b off, a = some ⟨b, off, none⟩ ∧ b < w.heap.size ∧ w.cell? ⟨b, off + k * 5, none⟩ = some (.int .i64 x.a) ∧ w.cell? ⟨b, off + k * 5 + 1, none⟩ = some (.int .i64 x.b) ∧ w.cell? ⟨b, off + k * 5 + 2, none⟩ = some (.int .i64 x.c) ∧ w.cell? ⟨b, off + k * 5 + 3, none⟩ = some (.int .i64 x.d) ∧ w.cell? ⟨b, off + k * 5 + 4, none⟩ = some (.int .i64 x.t) := by
 subst hn
 have hk := (List.getElem?_eq_some_iff.1 hx).1
 obtain ⟨e, h0⟩ | ⟨b, off, cap', e, hlt, hc⟩ := h
 · omega
 · cases e
   have g := rowElem encI5_len hc hx
   exact ⟨b, off, rfl, hlt, by simpa using g 0 _ rfl, g 1 _ rfl, g 2 _ rfl, g 3 _ rfl, g 4 _ rfl⟩

set_option maxRecDepth 100000 in
set_option maxHeartbeats 4000000 in
theorem floodRims_any (wide high : Int) (a : Option Addr) (n cap : Nat) (ts : List TileT) (hl : ts.length = n) (hc : n ≤ cap) (hc2 : cap ≤ 9223372036854775807) (hcol : ∀ t ∈ ts, ∀ c ∈ t.1, okC c) (la : Option Addr) (nl cl : Nat) (l : List SpT) (hll : l.length = nl) (hcl : nl ≤ cl)
 (fa : Option Addr) (nf cf : Nat) (fs : List I5) (hfl : fs.length = nf)
 (w : World) (he : Elems w (.slice a n cap) n 256 (rowC encT ts)) (hel : Elems w (.slice la nl cl) nl 3 (rowC encS l)) (hef : Elems w (.slice fa nf cf) nf 5 (rowC encI5 fs)) :
 Calls Try.prog 3 #[.agg #[.int .i64 wide, .int .i64 high, .slice a n cap], .slice la nl cl, .slice fa nf cf] w (Gives (.bool true) w) := by
 have HS := Lib.hid ((St.start w).addRow hef)
 have HFL := Lib.hid hfl
 have HOF := Lib.hid (fun w' (hb : Below w.heap.size w w') => lawOf_doc wide high a n cap ts hl hc hc2 hcol w' (he.below hb))
 obtain ⟨ok, hok⟩ : ∃ ok, okE wide high (ts.take 17).length = ok := ⟨_, rfl⟩
 obtain ⟨C, hC⟩ : ∃ C : CanT, (⟨wide.toNat, high.toNat, ts.take 17⟩ : CanT) = C := ⟨_, rfl⟩
 rw [hok, hC] at HOF
 obtain ⟨m, hm⟩ : ∃ m, min nl 40 = m := ⟨_, rfl⟩
 obtain ⟨ks, hks⟩ : ∃ ks, l.take 40 = ks := ⟨_, rfl⟩
 have hlm : ks.length = m := by rw [← hks, List.length_take, hll, Nat.min_comm]; exact hm
 have htk : ks = l.take m := by
  rw [← hks, ← hm]
  rcases Nat.le_total nl 40 with h | h
  · rw [Nat.min_eq_left h, List.take_of_length_le (by omega), List.take_of_length_le (by omega)]
  · rw [Nat.min_eq_right h]
 have hek : Elems w (.slice la m cl) m 3 (rowC encS ks) := by rw [htk]; exact Elems.take encS_len hll hel (by omega)
 have HCL := Lib.hid (fun w' (hb : Below w.heap.size w w') => (cloneS_any (.slice la m cl) ks w' (by rw [hlm]; exact hek.below hb) (by omega)).mono fun e w'' h => Cloned.read encS_len hlm h)
 have HLM := Lib.hid hlm
 have HMB := Lib.hid (show m ≤ nl ∧ m ≤ cl ∧ m ≤ 40 ∧ min (nl : Int) 40 = (m : Int) by omega)
 clear hl hc hc2 hcol he hel hef hok hC hm hks hlm htk hek hll hcl hfl
 go_enter Try.func3, Try.ntmps3
 repeat ((fail_if_success (with_reducible refine stop_at (id := 1) ?_)); (first | go_values | go_skip | go_guarded | go_step | go_upon | go_back | (simp only [Int.not_lt, Int.not_le] at *; go_simp) | (go_values <;> (try go_simp)) | (go_ite <;> go_prune <;> (try go_simp)) | (split <;> (first | (rename_i hx; exact (hx _ rfl).elim) | go_prune))))
 have hs_ := (HS.out.alloc (.cells #[.int .i64 wide, .int .i64 high, .slice a n cap] 24))
 obtain ⟨w1, hw_⟩ : ∃ w1 : World, (w.alloc (.cells #[.int .i64 wide, .int .i64 high, .slice a n cap] 24)) = w1 := ⟨_, rfl⟩
 rw [hw_] at hs_
 try simp only [World.size_alloc] at hs_
 have HS := Lib.hid hs_
 rw [hw_]
 clear hw_ hs_
 go_wp2_with fail
 refine (flWakes_any _).mono ?_
 rintro e w2 ⟨rfl, hb_⟩
 have HS := Lib.hid (HS.out.below hb_)
 clear hb_
 have k0 := cell_of_block (k := 0) (HS.out.blockAt 0 rfl) rfl
 have k1 := cell_of_block (k := 1) (HS.out.blockAt 0 rfl) rfl
 have k2 := cell_of_block (k := 2) (HS.out.blockAt 0 rfl) rfl
 go_wp2_with fail
 clear k0 k1 k2
 refine (HOF.out _ HS.out.low).mono ?_
 rintro e w3 ⟨v, wi, hi, a3, c3, rfl, hb, hv0, hv1⟩
 have HS := Lib.hid (HS.out.below hb)
 clear hb HOF
 cases ok with
 | false =>
  obtain rfl := hv0 rfl
  clear hv0 hv1
  repeat ((fail_if_success (with_reducible refine stop_at (id := 4) ?_)); (first | go_values | go_skip | go_guarded | go_step | go_upon | go_back | (simp only [Int.not_lt, Int.not_le] at *; go_simp) | (go_values <;> (try go_simp)) | (go_ite <;> go_prune <;> (try go_simp)) | (split <;> (first | (rename_i hx; exact (hx _ rfl).elim) | go_prune))))
  have hs_ := (HS.out.alloc (.cells #[.int .i64 wi, .int .i64 hi, .slice a3 C.tiles.length c3] 24))
  obtain ⟨w4, hw_⟩ : ∃ w4 : World, (w3.alloc (.cells #[.int .i64 wi, .int .i64 hi, .slice a3 C.tiles.length c3] 24)) = w4 := ⟨_, rfl⟩
  rw [hw_] at hs_
  try simp only [World.size_alloc] at hs_
  have HS := Lib.hid hs_
  rw [hw_]
  clear hw_ hs_
  go_wp2_with fail
  go_ret
  exact ⟨rfl, HS.out.low⟩
 | true =>
  obtain ⟨⟨p, rfl, hcp⟩, rfl, rfl, hcv⟩ := hv1 rfl
  have HC := Lib.hid hcp
  have HV := Lib.hid hcv
  clear hcp hcv hv0 hv1
  repeat ((fail_if_success (with_reducible refine stop_at (id := 4) ?_)); (first | go_values | go_skip | go_guarded | go_step | go_upon | go_back | (simp only [Int.not_lt, Int.not_le] at *; go_simp) | (go_values <;> (try go_simp)) | (go_ite <;> go_prune <;> (try go_simp)) | (split <;> (first | (rename_i hx; exact (hx _ rfl).elim) | go_prune))))
  have hs_ := HS.out.alloc (.cells #[.int .i64 C.wide, .int .i64 C.high, .slice a3 C.tiles.length c3] 24)
  have hk_HC := HC.out.below ((Below.refl _ _).alloc (Nat.le_refl _) (.cells #[.int .i64 C.wide, .int .i64 C.high, .slice a3 C.tiles.length c3] 24))
  have hk_HV := HV.out.below ((Below.refl _ _).alloc (Nat.le_refl _) (.cells #[.int .i64 C.wide, .int .i64 C.high, .slice a3 C.tiles.length c3] 24))
  obtain ⟨w4, hw_⟩ : ∃ w4 : World, w3.alloc (.cells #[.int .i64 C.wide, .int .i64 C.high, .slice a3 C.tiles.length c3] 24) = w4 := ⟨_, rfl⟩
  rw [hw_] at hs_ hk_HC hk_HV
  have HS := Lib.hid hs_
  have HC := Lib.hid hk_HC
  have HV := Lib.hid hk_HV
  rw [hw_]
  clear hw_ hs_ hk_HC hk_HV
  have e1 := HMB.out.2.2.2
  have e2 := HMB.out.1
  have e3 := HMB.out.2.1
  go_wp2_with fail
  clear e1 e2 e3
  refine (HCL.out _ HS.out.low).mono ?_
  rintro e w5 ⟨a5, c5, rfl, hc5, he5, hb5⟩
  have HS := Lib.hid ((HS.out.below hb5).addRow he5)
  have HC := Lib.hid (HC.out.below hb5)
  have HV := Lib.hid (HV.out.below hb5)
  clear hb5 he5 hc5
  go_wp2_with fail
  refine (rim_got C p a5 m c5 ks HLM.out (by have := HMB.out; omega) _ HC.out (HS.out.elems 0 rfl)).mono ?_
  rintro e w6 ⟨a6, nr, c6, rfl, hl6, hl7, he6, hb6⟩
  obtain ⟨R, hR⟩ : ∃ R, rimR C ks = R := ⟨_, rfl⟩
  obtain ⟨er, her⟩ : ∃ er, rimE C ks = er := ⟨_, rfl⟩
  rw [hR] at he6 hl6
  rw [her]
  have HR := Lib.hid (And.intro hR (And.intro her (And.intro hl6 hl7)))
  have HS := Lib.hid ((HS.out.below hb6).addRow he6)
  have HC := Lib.hid (HC.out.below hb6)
  have HV := Lib.hid (HV.out.below hb6)
  clear hb6 he6 hl6 hl7 hR her
  go_wp2_with fail
  have HRT := Lib.hid (refRight_any a5 m c5 ks HLM.out (by have := HMB.out; omega) _ (HS.out.elems 1 rfl))
  obtain ⟨rb, hrb⟩ : ∃ rb, rightB ks = rb := ⟨_, rfl⟩
  rw [hrb] at HRT
  have HRB := Lib.hid hrb
  clear hrb
  refine (HRT.out).mono ?_
  rintro e w7 ⟨rfl, hb_⟩
  have HS := Lib.hid (HS.out.below hb_)
  have HC := Lib.hid (HC.out.below hb_)
  have HV := Lib.hid (HV.out.below hb_)
  clear hb_
  cases rb with
  | false =>
   obtain ⟨e1, e2, e3, e4⟩ := HR.out
   have her : er = 160 := by rw [← e2]; unfold rimE; rw [HRB.out]; rfl
   have hR0 : R = [] := by rw [← e1]; unfold rimR rimOk; rw [HRB.out]; rfl
   have hnr : nr = 0 := by rw [← e3, hR0]; rfl
   subst her hnr hR0
   clear e1 e2 e3 e4
   go_wp2_with fail
   refine (eqP_same _ _ [] 0 rfl _ (HS.out.elems 0 rfl) (elems_nil _)).mono ?_
   rintro e w8 ⟨rfl, hb_⟩
   have HS := Lib.hid (HS.out.below hb_)
   have HC := Lib.hid (HC.out.below hb_)
   have HV := Lib.hid (HV.out.below hb_)
   clear hb_
   go_wp2_with fail
   have HON := Lib.hid (fun q w' h => refOn_any C HC.out.ok (.agg #[.int .i64 C.wide, .int .i64 C.high, .slice a3 C.tiles.length c3]) q w' h)
   have HK := Lib.hid (show Kp w8 w8 from Below.refl _ _)
   go_loopw [96] (fun i wr => ∃ j : Nat, j ≤ 5 ∧ i = .int .i64 (j : Int) ∧ Kp w8 wr) (fun i _ => 6 - (intOf i).toNat)
   case atStart => exact ⟨0, by omega, rfl, HK.out⟩
   case round =>
    obtain ⟨j, hj, rfl, hb⟩ := hrel
    have HS := Lib.hid (HS.out.below hb)
    have HC := Lib.hid (HC.out.below hb)
    have HV := Lib.hid (HV.out.below hb)
    have HK := Lib.hid hb
    clear hb
    by_cases hlt : j < nf
    · obtain ⟨x, hx⟩ : ∃ x, fs[j]? = some x := ⟨_, List.getElem?_eq_getElem (by rw [HFL.out]; exact hlt)⟩
      obtain ⟨bb, off, rfl, hbb, c0, c1, c2, c3, c4⟩ := i5Cells HFL.out (HS.out.elems 4 rfl) j x hx
      obtain ⟨fx, fy, tx, ty, tt⟩ := x
      simp only at c0 c1 c2 c3 c4
      clear hx hbb
      repeat ((fail_if_success (with_reducible refine stop_at (id := 25) ?_)); (first | go_values | go_skip | go_guarded | go_step | go_upon | go_back | (simp only [Int.not_lt, Int.not_le] at *; go_simp) | (go_values <;> (try go_simp)) | (go_ite <;> go_prune <;> (try go_simp)) | (split <;> (first | (rename_i hx; exact (hx _ rfl).elim) | go_prune))))
      clear c0 c1 c2 c3 c4 hlt
      have hs_ := HS.out.alloc (.cells #[.int .i64 fx, .int .i64 fy, .int .i64 tx, .int .i64 ty, .int .i64 tt] 44)
      have hk_HC := HC.out.below ((Below.refl _ _).alloc (Nat.le_refl _) (.cells #[.int .i64 fx, .int .i64 fy, .int .i64 tx, .int .i64 ty, .int .i64 tt] 44))
      have hk_HV := HV.out.below ((Below.refl _ _).alloc (Nat.le_refl _) (.cells #[.int .i64 fx, .int .i64 fy, .int .i64 tx, .int .i64 ty, .int .i64 tt] 44))
      have hk_HK := HK.out.below ((Below.refl _ _).alloc (Nat.le_refl _) (.cells #[.int .i64 fx, .int .i64 fy, .int .i64 tx, .int .i64 ty, .int .i64 tt] 44))
      obtain ⟨w19, hw_⟩ : ∃ w19 : World, wr.alloc (.cells #[.int .i64 fx, .int .i64 fy, .int .i64 tx, .int .i64 ty, .int .i64 tt] 44) = w19 := ⟨_, rfl⟩
      rw [hw_] at hs_ hk_HC hk_HV hk_HK
      have HS := Lib.hid hs_
      have HC := Lib.hid hk_HC
      have HV := Lib.hid hk_HV
      have HK := Lib.hid hk_HK
      rw [hw_]
      clear hw_ hs_ hk_HC hk_HV hk_HK
      by_cases h5 : j = 5
      · subst h5
        go_wp2_with fail
        refine (rim_nil _ _).mono ?_
        rintro e w20 ⟨rfl, hb_⟩
        have HS := Lib.hid (HS.out.below hb_)
        clear hb_
        go_wp2_with fail
        refine (steps_nil ⟨0, 0⟩ ⟨0, 0⟩ 0 _).mono ?_
        rintro e w21 ⟨rfl, hb_⟩
        have HS := Lib.hid (HS.out.below hb_)
        clear hb_
        go_wp2_with fail
        go_ret
        exact ⟨rfl, HS.out.low⟩
      · have HJ := Lib.hid (show j + 1 ≤ 5 by omega)
        have HE := Lib.hid (wrap_succ (n := j) (by omega))
        have hd : decide ((j : Int) = 5) = false := decide_eq_false (by omega)
        have h5' : ¬ ((j : Int) = 5) := by omega
        repeat ((fail_if_success (with_reducible refine stop_at (id := 26) ?_)); (first | go_values | go_skip | go_guarded | go_step | go_upon | go_back | (simp only [Int.not_lt, Int.not_le] at *; go_simp) | (go_values <;> (try go_simp)) | (go_ite <;> go_prune <;> (try go_simp)) | (split <;> (first | (rename_i hx; exact (hx _ rfl).elim) | go_prune))))
        clear hd h5 h5' hj
        refine (wpIn_wide (n := 0)).1 ?_
        apply wp_region_slots 16 [⟨12, 14, 19, .cells #[.int .i64 0, .int .i64 0] 41 (0, 0), .cells #[.int .i64 fx, .int .i64 fy] 41 (0, 0)⟩, ⟨13, 15, 20, .cells #[.int .i64 0, .int .i64 0] 41 (0, 0), .cells #[.int .i64 tx, .int .i64 ty] 41 (0, 0)⟩] _ (Rl := [(eqv _), (eqv _), (eqv _), (eqv _), (eqv _), (eqv _), (eqv _), (eqv _), (eqv _), (eqv _), (eqv _), (eqv _), (fun _ _ => True), (fun _ _ => True), (fun _ _ => True), (fun _ _ => True)])
        case hm => kernel_rfl
        case hk => rfl
        case hst => exact ⟨fun _ _ _ _ h => h, fun _ _ _ _ h => h, fun _ _ _ _ h => h, fun _ _ _ _ h => h, fun _ _ _ _ h => h, fun _ _ _ _ h => h, fun _ _ _ _ h => h, fun _ _ _ _ h => h, fun _ _ _ _ h => h, fun _ _ _ _ h => h, fun _ _ _ _ h => h, fun _ _ _ _ h => h, fun _ _ _ _ h => h, fun _ _ _ _ h => h, fun _ _ _ _ h => h, fun _ _ _ _ h => h, trivial⟩
        case hfo => kernel_rfl
        case ht => kernel_rfl
        case hN => exact Nat.le_refl _
        case hok => kernel_rfl
        case hsk => intro s hs; simp only [List.mem_cons, List.not_mem_nil, or_false] at hs; rcases hs with rfl | rfl <;> exact ⟨Nat.le_of_ble_eq_true rfl, Nat.le_of_ble_eq_true rfl⟩
        case hsteps =>
         refine ⟨?_, ?_, ?_, ?_, ?_, ?_, ?_, ?_, ?_, ?_, ?_, ?_, ?_, ?_, ?_, ?_, trivial⟩
         · intro l_ a' w' hA hC hJ hN hB hD; have s18 : a'.tmps[18]? = some _ := (hA.at 18 (by kernel_rfl)).trans rfl; clear hA hD; refine stepOkT_plain rfl ?_; intro K hK; gi_wp2; exact hK _ _ rfl (Below.refl _ _) (SlT.plainB rfl (Below.refl _ _))
         · intro l_ a' w' hA hC hJ hN hB hD; obtain ⟨u103, s103, r103⟩ := hD ⟨0, .data⟩ (by simp) rfl _ rfl; replace r103 : u103 = _ := r103; subst r103
           have z0 := cell_of_block (k := 0) ((HS.out.below hC).blockAt 0 rfl) rfl
           clear hA hD; refine stepOkT_plain rfl ?_; intro K hK; gi_wp2; exact hK _ _ rfl (Below.refl _ _) (SlT.plainB rfl (Below.refl _ _))
         · intro l_ a' w' hA hC hJ hN hB hD; have s18 : a'.tmps[18]? = some _ := (hA.at 18 (by kernel_rfl)).trans rfl; clear hA hD; refine stepOkT_plain rfl ?_; intro K hK; gi_wp2; exact hK _ _ rfl (Below.refl _ _) (SlT.plainB rfl (Below.refl _ _))
         · intro l_ a' w' hA hC hJ hN hB hD; obtain ⟨u105, s105, r105⟩ := hD ⟨2, .data⟩ (by simp) rfl _ rfl; replace r105 : u105 = _ := r105; subst r105
           have z0 := cell_of_block (k := 1) ((HS.out.below hC).blockAt 0 rfl) rfl
           clear hA hD; refine stepOkT_plain rfl ?_; intro K hK; gi_wp2; exact hK _ _ rfl (Below.refl _ _) (SlT.plainB rfl (Below.refl _ _))
         · intro l_ a' w' hA hC hJ hN hB hD; obtain ⟨u104, s104, r104⟩ := hD ⟨1, .data⟩ (by simp) rfl _ rfl; replace r104 : u104 = _ := r104; subst r104; obtain ⟨u106, s106, r106⟩ := hD ⟨3, .data⟩ (by simp) rfl _ rfl; replace r106 : u106 = _ := r106; subst r106; clear hA hD; refine stepOkT_plain rfl ?_; intro K hK; gi_wp2; exact hK _ _ rfl (Below.refl _ _) (SlT.plainB rfl (Below.refl _ _))
         · intro l_ a' w' hA hC hJ hN hB hD; have s18 : a'.tmps[18]? = some _ := (hA.at 18 (by kernel_rfl)).trans rfl; clear hA hD; refine stepOkT_plain rfl ?_; intro K hK; gi_wp2; exact hK _ _ rfl (Below.refl _ _) (SlT.plainB rfl (Below.refl _ _))
         · intro l_ a' w' hA hC hJ hN hB hD; obtain ⟨u108, s108, r108⟩ := hD ⟨5, .data⟩ (by simp) rfl _ rfl; replace r108 : u108 = _ := r108; subst r108
           have z0 := cell_of_block (k := 2) ((HS.out.below hC).blockAt 0 rfl) rfl
           clear hA hD; refine stepOkT_plain rfl ?_; intro K hK; gi_wp2; exact hK _ _ rfl (Below.refl _ _) (SlT.plainB rfl (Below.refl _ _))
         · intro l_ a' w' hA hC hJ hN hB hD; have s18 : a'.tmps[18]? = some _ := (hA.at 18 (by kernel_rfl)).trans rfl; clear hA hD; refine stepOkT_plain rfl ?_; intro K hK; gi_wp2; exact hK _ _ rfl (Below.refl _ _) (SlT.plainB rfl (Below.refl _ _))
         · intro l_ a' w' hA hC hJ hN hB hD; obtain ⟨u110, s110, r110⟩ := hD ⟨7, .data⟩ (by simp) rfl _ rfl; replace r110 : u110 = _ := r110; subst r110
           have z0 := cell_of_block (k := 3) ((HS.out.below hC).blockAt 0 rfl) rfl
           clear hA hD; refine stepOkT_plain rfl ?_; intro K hK; gi_wp2; exact hK _ _ rfl (Below.refl _ _) (SlT.plainB rfl (Below.refl _ _))
         · intro l_ a' w' hA hC hJ hN hB hD; obtain ⟨u109, s109, r109⟩ := hD ⟨6, .data⟩ (by simp) rfl _ rfl; replace r109 : u109 = _ := r109; subst r109; obtain ⟨u111, s111, r111⟩ := hD ⟨8, .data⟩ (by simp) rfl _ rfl; replace r111 : u111 = _ := r111; subst r111; clear hA hD; refine stepOkT_plain rfl ?_; intro K hK; gi_wp2; exact hK _ _ rfl (Below.refl _ _) (SlT.plainB rfl (Below.refl _ _))
         · intro l_ a' w' hA hC hJ hN hB hD; have s18 : a'.tmps[18]? = some _ := (hA.at 18 (by kernel_rfl)).trans rfl; clear hA hD; refine stepOkT_plain rfl ?_; intro K hK; gi_wp2; exact hK _ _ rfl (Below.refl _ _) (SlT.plainB rfl (Below.refl _ _))
         · intro l_ a' w' hA hC hJ hN hB hD; obtain ⟨u113, s113, r113⟩ := hD ⟨10, .data⟩ (by simp) rfl _ rfl; replace r113 : u113 = _ := r113; subst r113
           have z0 := cell_of_block (k := 4) ((HS.out.below hC).blockAt 0 rfl) rfl
           clear hA hD; refine stepOkT_plain rfl ?_; intro K hK; gi_wp2; exact hK _ _ rfl (Below.refl _ _) (SlT.plainB rfl (Below.refl _ _))
         · intro l_ a' w' hA hC hJ hN hB hD; clear hA hD; refine stepOkT_plain rfl ?_; intro K hK; gi_wp2; exact hK _ _ trivial ((Below.refl _ _).alloc hC.size _) (SlT.alloc (by intro t ht e; simp only [List.mem_cons, List.not_mem_nil, or_false] at ht; rcases ht with rfl | rfl <;> first | rfl | (exact absurd e (Nat.ne_of_beq_eq_false rfl))) (by intro t ht; simp only [List.mem_cons, List.not_mem_nil, or_false] at ht; rcases ht with rfl | rfl <;> exact Nat.ne_of_beq_eq_false rfl))
         · intro l_ a' w' hA hC hJ hN hB hD; clear hA hD; refine stepOkT_plain rfl ?_; intro K hK; gi_wp2; exact hK _ _ trivial ((Below.refl _ _).alloc hC.size _) (SlT.alloc (by intro t ht e; simp only [List.mem_cons, List.not_mem_nil, or_false] at ht; rcases ht with rfl | rfl <;> first | rfl | (exact absurd e (Nat.ne_of_beq_eq_false rfl))) (by intro t ht; simp only [List.mem_cons, List.not_mem_nil, or_false] at ht; rcases ht with rfl | rfl <;> exact Nat.ne_of_beq_eq_false rfl))
         · intro l_ a' w' hA hC hJ hN hB hD; obtain ⟨u19, s19, r19⟩ := hD ⟨12, .data⟩ (by simp) rfl _ rfl; replace r19 : (fun _ _ => True) u19 w' := r19; obtain ⟨u107, s107, r107⟩ := hD ⟨4, .data⟩ (by simp) rfl _ rfl; replace r107 : u107 = _ := r107; subst r107
           obtain ⟨b19, n19, t19, o19⟩ := hJ.at_ _ (List.mem_of_getElem? (i := 0) rfl) (hB ⟨12, .data⟩ (by simp) rfl)
           rw [show l_.getD 14 false = false from hN] at o19
           replace o19 : w'.heap[b19]? = some (.cells #[.int .i64 0, .int .i64 0] 41 (0, 0)) := o19
           obtain rfl : u19 = ptrB b19 := Option.some.inj (s19.symm.trans t19)
           clear r19
           obtain ⟨b20, n20, t20, o20⟩ := hJ.at_ _ (List.mem_of_getElem? (i := 1) rfl) (hB ⟨13, .phase⟩ (by simp) rfl)
           clear hA hD; refine stepOkT_plain rfl ?_; intro K hK
           have f19 := free_of_block o19
           have c19_0 := cell_of_block (k := 0) o19 rfl
           have c19_1 := cell_of_block (k := 1) o19 rfl
           have f19_0 := f19 0
           have f19_1 := f19 1
           clear f19; unfold ptrB at s19 t19; gi_wp2; exact hK undef _ trivial (by repeat (first | exact Below.refl _ _ | refine Below.setCell ?_ (by omega) _)) (SlT.store _ (by intro t ht e; simp only [List.mem_cons, List.not_mem_nil, or_false] at ht; rcases ht with rfl | rfl <;> first | rfl | (exact absurd e (Nat.ne_of_beq_eq_false rfl))) (by intro t ht; simp only [List.mem_cons, List.not_mem_nil, or_false] at ht; rcases ht with rfl | rfl <;> exact Nat.ne_of_beq_eq_false rfl) (List.mem_of_getElem? (i := 0) rfl) rfl b19 (by unfold envOf; rw [t19]; rfl) (heap_set_same (heap_set_same o19 _) _) (by intro k hk; repeat (first | rfl | refine (Below.heap_setCell _ _ _ k (by simpa using hk)).trans ?_)))
         · intro l_ a' w' hA hC hJ hN hB hD; obtain ⟨u20, s20, r20⟩ := hD ⟨13, .data⟩ (by simp) rfl _ rfl; replace r20 : (fun _ _ => True) u20 w' := r20; obtain ⟨u112, s112, r112⟩ := hD ⟨9, .data⟩ (by simp) rfl _ rfl; replace r112 : u112 = _ := r112; subst r112
           obtain ⟨b19, n19, t19, o19⟩ := hJ.at_ _ (List.mem_of_getElem? (i := 0) rfl) (hB ⟨12, .phase⟩ (by simp) rfl)
           obtain ⟨b20, n20, t20, o20⟩ := hJ.at_ _ (List.mem_of_getElem? (i := 1) rfl) (hB ⟨13, .data⟩ (by simp) rfl)
           rw [show l_.getD 15 false = false from hN] at o20
           replace o20 : w'.heap[b20]? = some (.cells #[.int .i64 0, .int .i64 0] 41 (0, 0)) := o20
           obtain rfl : u20 = ptrB b20 := Option.some.inj (s20.symm.trans t20)
           clear r20
           clear hA hD; refine stepOkT_plain rfl ?_; intro K hK
           have f20 := free_of_block o20
           have c20_0 := cell_of_block (k := 0) o20 rfl
           have c20_1 := cell_of_block (k := 1) o20 rfl
           have f20_0 := f20 0
           have f20_1 := f20 1
           clear f20; unfold ptrB at s20 t20; gi_wp2; exact hK undef _ trivial (by repeat (first | exact Below.refl _ _ | refine Below.setCell ?_ (by omega) _)) (SlT.store _ (by intro t ht e; simp only [List.mem_cons, List.not_mem_nil, or_false] at ht; rcases ht with rfl | rfl <;> first | rfl | (exact absurd e (Nat.ne_of_beq_eq_false rfl))) (by intro t ht; simp only [List.mem_cons, List.not_mem_nil, or_false] at ht; rcases ht with rfl | rfl <;> exact Nat.ne_of_beq_eq_false rfl) (List.mem_of_getElem? (i := 1) rfl) rfl b20 (by unfold envOf; rw [t20]; rfl) (heap_set_same (heap_set_same o20 _) _) (by intro k hk; repeat (first | rfl | refine (Below.heap_setCell _ _ _ k (by simpa using hk)).trans ?_)))
        case hend =>
         intro w20 hC
         simp only [EndFrom, eqv, forall_eq, Act.put, List.length_cons, List.length_nil, List.drop_succ_cons, List.drop_zero, Nat.reduceAdd, List.setIfInBounds_toArray, List.set_cons_succ, List.set_cons_zero]
         have HS := Lib.hid (HS.out.below hC)
         have HC := Lib.hid (HC.out.below hC)
         have HV := Lib.hid (HV.out.below hC)
         have HK := Lib.hid (HK.out.below hC)
         clear hC
         intro p19 _ p20 _ p21 _ p22 _ hE
         obtain ⟨b19, -, hb19, ho19⟩ := hE.1 _ (List.mem_of_getElem? (i := 0) rfl)
         obtain ⟨b20, -, hb20, ho20⟩ := hE.1 _ (List.mem_of_getElem? (i := 1) rfl)
         obtain rfl : p19 = ptrB b19 := Option.some.inj hb19
         obtain rfl : p20 = ptrB b20 := Option.some.inj hb20
         have HP := Lib.hid (BlkAt.mk ho19)
         have HQ := Lib.hid (BlkAt.mk ho20)
         clear hE hb19 hb20 ho19 ho20
         unfold ptrB
         gi_wp2
         have q0 := cell_of_block (k := 0) HP.out.at_ rfl
         have q1 := cell_of_block (k := 1) HP.out.at_ rfl
         have r0 := cell_of_block (k := 0) HQ.out.at_ rfl
         have r1 := cell_of_block (k := 1) HQ.out.at_ rfl
         have HST := Lib.hid (steps_any C p ⟨fx, fy⟩ ⟨tx, ty⟩ tt w20 HC.out)
         obtain ⟨s1, hs1⟩ : ∃ s1, (stepsR C ⟨fx, fy⟩ ⟨tx, ty⟩ tt).1 = s1 := ⟨_, rfl⟩
         obtain ⟨s2, hs2⟩ : ∃ s2, (stepsR C ⟨fx, fy⟩ ⟨tx, ty⟩ tt).2 = s2 := ⟨_, rfl⟩
         rw [hs1, hs2] at HST
         have HSS := Lib.hid (And.intro hs1 hs2)
         simp only [PtT.val] at HST
         clear hs1 hs2
         go_wp2_with fail
         clear q0 q1 r0 r1
         refine (HST.out).mono ?_
         rintro e w21 ⟨rfl, hb_⟩
         have HS := Lib.hid (HS.out.below hb_)
         have HC := Lib.hid (HC.out.below hb_)
         have HV := Lib.hid (HV.out.below hb_)
         have HK := Lib.hid (HK.out.below hb_)
         have HP := Lib.hid (HP.out.below hb_)
         have HQ := Lib.hid (HQ.out.below hb_)
         clear hb_
         go_wp2_with fail
         have HTT := Lib.hid (refTol_any tt w21)
         obtain ⟨tb, htb⟩ : ∃ tb, tolB tt = tb := ⟨_, rfl⟩
         rw [htb] at HTT
         have HTB := Lib.hid htb
         clear htb
         refine (HTT.out).mono ?_
         rintro e w22 ⟨rfl, hb_⟩
         have HS := Lib.hid (HS.out.below hb_)
         have HC := Lib.hid (HC.out.below hb_)
         have HV := Lib.hid (HV.out.below hb_)
         have HK := Lib.hid (HK.out.below hb_)
         have HP := Lib.hid (HP.out.below hb_)
         have HQ := Lib.hid (HQ.out.below hb_)
         clear hb_
         cases tb with
         | false =>
          have hss := HSS.out
          unfold stepsR at hss
          rw [HTB.out] at hss
          simp only [cond_false] at hss
          obtain ⟨rfl, rfl⟩ := hss
          go_wp2_with fail
          go_roundw
          case rel => exact ⟨j + 1, HJ.out, congrArg (Value.int .i64) HE.out, HK.out⟩
          case measure => rw [HE.out]; have := HJ.out; simp only [intOf]; omega
         | true =>
          have HTN := Lib.hid (of_decide_eq_true (show decide (0 ≤ tt ∧ tt ≤ 1020) = true from HTB.out)).1
          have HO1 := Lib.hid (HON.out ⟨fx, fy⟩)
          have HO2 := Lib.hid (HON.out ⟨tx, ty⟩)
          obtain ⟨b1, hb1⟩ : ∃ b1, onC C ⟨fx, fy⟩ = b1 := ⟨_, rfl⟩
          obtain ⟨b2, hb2⟩ : ∃ b2, onC C ⟨tx, ty⟩ = b2 := ⟨_, rfl⟩
          have HB1 := Lib.hid hb1
          have HB2 := Lib.hid hb2
          unfold onC at hb1 hb2
          rw [hb1] at HO1
          rw [hb2] at HO2
          simp only [PtT.val] at HO1 HO2
          clear hb1 hb2
          have v0 := cell_of_block (k := 0) (HS.out.blockAt 3 rfl) rfl
          have v1 := cell_of_block (k := 1) (HS.out.blockAt 3 rfl) rfl
          have v2 := cell_of_block (k := 2) (HS.out.blockAt 3 rfl) rfl
          have q0 := cell_of_block (k := 0) HP.out.at_ rfl
          have q1 := cell_of_block (k := 1) HP.out.at_ rfl
          go_wp2_with fail
          clear v0 v1 v2 q0 q1
          refine (HO1.out _ HV.out).mono ?_
          rintro e w23 ⟨rfl, hb_⟩
          have HS := Lib.hid (HS.out.below hb_)
          have HC := Lib.hid (HC.out.below hb_)
          have HV := Lib.hid (HV.out.below hb_)
          have HK := Lib.hid (HK.out.below hb_)
          have HP := Lib.hid (HP.out.below hb_)
          have HQ := Lib.hid (HQ.out.below hb_)
          clear hb_
          cases b1 with
          | false =>
           have hss := HSS.out
           unfold stepsR at hss
           rw [HTB.out, HB1.out] at hss
           simp only [cond_true, Bool.false_and, cond_false] at hss
           obtain ⟨rfl, rfl⟩ := hss
           go_wp2_with fail
           go_roundw
           case rel => exact ⟨j + 1, HJ.out, congrArg (Value.int .i64) HE.out, HK.out⟩
           case measure => rw [HE.out]; have := HJ.out; simp only [intOf]; omega
          | true =>
           have v0 := cell_of_block (k := 0) (HS.out.blockAt 3 rfl) rfl
           have v1 := cell_of_block (k := 1) (HS.out.blockAt 3 rfl) rfl
           have v2 := cell_of_block (k := 2) (HS.out.blockAt 3 rfl) rfl
           have q0 := cell_of_block (k := 0) HQ.out.at_ rfl
           have q1 := cell_of_block (k := 1) HQ.out.at_ rfl
           go_wp2_with fail
           clear v0 v1 v2 q0 q1
           refine (HO2.out _ HV.out).mono ?_
           rintro e w24 ⟨rfl, hb_⟩
           have HS := Lib.hid (HS.out.below hb_)
           have HC := Lib.hid (HC.out.below hb_)
           have HV := Lib.hid (HV.out.below hb_)
           have HK := Lib.hid (HK.out.below hb_)
           have HP := Lib.hid (HP.out.below hb_)
           have HQ := Lib.hid (HQ.out.below hb_)
           clear hb_
           cases b2 with
           | false =>
            have hss := HSS.out
            unfold stepsR at hss
            rw [HTB.out, HB1.out, HB2.out] at hss
            simp only [cond_true, Bool.false_and, Bool.and_false, cond_false] at hss
            obtain ⟨rfl, rfl⟩ := hss
            go_wp2_with fail
            go_roundw
            case rel => exact ⟨j + 1, HJ.out, congrArg (Value.int .i64) HE.out, HK.out⟩
            case measure => rw [HE.out]; have := HJ.out; simp only [intOf]; omega
           | true =>
            obtain ⟨X, Y, hX, hY, hX2, hY2⟩ : ∃ X Y : Nat, tx = (X : Int) ∧ ty = (Y : Int) ∧ X < 32 ∧ Y < 32 := by
             have h1 := onB_iff.1 HB2.out
             have h2 := HC.out.ok.wide
             have h3 := HC.out.ok.high
             simp only at h1
             exact ⟨tx.toNat, ty.toNat, by omega, by omega, by omega, by omega⟩
            subst hX hY
            have hgr := fun w' h => refGrown_any C HC.out.ok (.agg #[.int .i64 C.wide, .int .i64 C.high, .slice a3 C.tiles.length c3]) ⟨fx, fy⟩ tt (fun _ => 0) HB1.out rfl HTN.out w' h
            rw [pastB_zero] at hgr
            have HGR := Lib.hid (show ∀ w', CanV w' C (.agg #[.int .i64 C.wide, .int .i64 C.high, .slice a3 C.tiles.length c3]) → Calls Try.prog 15 #[.agg #[.int .i64 C.wide, .int .i64 C.high, .slice a3 C.tiles.length c3], .agg #[.int .i64 fx, .int .i64 fy], .int .i64 tt, .agg (fldA fun _ => 0)] w' (Gives (.agg (fldA (metC C ⟨fx, fy⟩ tt))) w') from hgr)
            clear hgr
            have hmle := metC_le HC.out.ok HB1.out HTN.out (Y * 32 + X)
            have hix : ixP ⟨(X : Int), (Y : Int)⟩ = Y * 32 + X := by unfold ixP; simp only; omega
            have hss := HSS.out
            unfold stepsR at hss
            rw [HTB.out, HB1.out, HB2.out, hix] at hss
            simp only [cond_true, Bool.true_and] at hss
            obtain ⟨m, hm⟩ : ∃ m, metC C ⟨fx, fy⟩ tt = m := ⟨_, rfl⟩
            obtain ⟨mv, hmv⟩ : ∃ mv, m (Y * 32 + X) = mv := ⟨_, rfl⟩
            rw [hm] at HGR hmle hss
            rw [hmv] at hmle hss
            have HM := Lib.hid (And.intro hmle hss)
            have HIX := Lib.hid (And.intro (fun w => run_index_row m Y hY2 w) (fun w => show (Instr.index 48 (.agg (fldRow m Y)) (.int .i64 (X : Int))).run Try.prog w = .ok (.int .i64 mv) w by have h := run_index_cell m Y X hY2 hX2 w; rw [hmv] at h; exact h))
            clear hmle hss hm hmv hix hX2 hY2
            go_wp2_with fail
            refine (wpIn_wide (n := 0)).1 ?_
            apply wp_region_vals 11 (Rl := [(eqv _), (eqv _), (eqv _), (eqv _), (eqv _), (eqv _), (eqv _), (eqv _), (eqv _), (eqv _), (eqv _)]) (C := (fun x y => Below x.heap.size x y))
            case hm => kernel_rfl
            case hk => rfl
            case hCr => exact (fun _ => Below.refl _ _)
            case hCt => intro _ _ _; exact (fun h k => grows_trans h k)
            case hst => exact ⟨fun _ _ _ _ h => h, fun _ _ _ _ h => h, fun _ _ _ _ h => h, fun _ _ _ _ h => h, fun _ _ _ _ h => h, fun _ _ _ _ h => h, fun _ _ _ _ h => h, fun _ _ _ _ h => h, fun _ _ _ _ h => h, fun _ _ _ _ h => h, fun _ _ _ _ h => h, trivial⟩
            case hfo => kernel_rfl
            case ht => kernel_rfl
            case hC0 => exact (grows_drew _)
            case hsteps =>
             refine ⟨?_, ?_, ?_, ?_, ?_, ?_, ?_, ?_, ?_, ?_, ?_, trivial⟩
             · intro a' w' hA hC hD; have s8 : a'.tmps[8]? = some _ := (hA.at 8 (by kernel_rfl)).trans rfl
               have v0 := cell_of_block (k := 0) ((HS.out.below hC).blockAt 3 rfl) rfl; have v1 := cell_of_block (k := 1) ((HS.out.below hC).blockAt 3 rfl) rfl; have v2 := cell_of_block (k := 2) ((HS.out.below hC).blockAt 3 rfl) rfl
               clear hA hD; refine stepOk_plain rfl ?_; intro K hK; gi_wp2; exact hK _ _ rfl ((fun _ => Below.refl _ _) _)
             · intro a' w' hA hC hD; have s19 : a'.tmps[19]? = some _ := (hA.at 19 (by kernel_rfl)).trans rfl
               have q0 := cell_of_block (k := 0) (HP.out.below hC).at_ rfl; have q1 := cell_of_block (k := 1) (HP.out.below hC).at_ rfl
               clear hA hD; refine stepOk_plain rfl ?_; intro K hK; gi_wp2; exact hK _ _ rfl ((fun _ => Below.refl _ _) _)
             · intro a' w' hA hC hD; have s21 : a'.tmps[21]? = some _ := (hA.at 21 (by kernel_rfl)).trans rfl; clear hA hD; refine stepOk_plain rfl ?_; intro K hK; gi_wp2; exact hK _ _ rfl ((fun _ => Below.refl _ _) _)
             · intro a' w' hA hC hD; clear hA hD; refine stepOk_plain rfl ?_; intro K hK
               refine opIn_build _ _ rfl _ (by simpa using built_field0) ?_; exact hK _ _ rfl (Below.refl _ _)
             · intro a' w' hA hC hD; obtain ⟨u133, s133, r133⟩ := hD ⟨0, .data⟩ (by simp) rfl _ rfl; replace r133 : u133 = _ := r133; subst r133; obtain ⟨u134, s134, r134⟩ := hD ⟨1, .data⟩ (by simp) rfl _ rfl; replace r134 : u134 = _ := r134; subst r134; obtain ⟨u135, s135, r135⟩ := hD ⟨2, .data⟩ (by simp) rfl _ rfl; replace r135 : u135 = _ := r135; subst r135; obtain ⟨u136, s136, r136⟩ := hD ⟨3, .data⟩ (by simp) rfl _ rfl; replace r136 : u136 = _ := r136; subst r136; clear hA hD; refine stepOk_plain rfl ?_; intro K hK
               gi_wp2_with fail; refine (callsIn_wide.2 (HGR.out _ (HV.out.below hC))).mono ?_; rintro e w2 ⟨rfl, hb⟩
               exact hK _ _ rfl hb
             · intro a' w' hA hC hD; have s20 : a'.tmps[20]? = some _ := (hA.at 20 (by kernel_rfl)).trans rfl; clear hA hD; refine stepOk_plain rfl ?_; intro K hK; gi_wp2; exact hK _ _ rfl ((fun _ => Below.refl _ _) _)
             · intro a' w' hA hC hD; obtain ⟨u138, s138, r138⟩ := hD ⟨5, .data⟩ (by simp) rfl _ rfl; replace r138 : u138 = _ := r138; subst r138
               have q1 := cell_of_block (k := 1) (HQ.out.below hC).at_ rfl
               clear hA hD; refine stepOk_plain rfl ?_; intro K hK; gi_wp2; exact hK _ _ rfl ((fun _ => Below.refl _ _) _)
             · intro a' w' hA hC hD; obtain ⟨u137, s137, r137⟩ := hD ⟨4, .data⟩ (by simp) rfl _ rfl; replace r137 : u137 = _ := r137; subst r137; obtain ⟨u139, s139, r139⟩ := hD ⟨6, .data⟩ (by simp) rfl _ rfl; replace r139 : u139 = _ := r139; subst r139
               have hg := HIX.out.1
               clear hA hD; refine stepOk_plain rfl ?_; intro K hK; gi_wp2; exact hK _ _ rfl ((fun _ => Below.refl _ _) _)
             · intro a' w' hA hC hD; have s20 : a'.tmps[20]? = some _ := (hA.at 20 (by kernel_rfl)).trans rfl; clear hA hD; refine stepOk_plain rfl ?_; intro K hK; gi_wp2; exact hK _ _ rfl ((fun _ => Below.refl _ _) _)
             · intro a' w' hA hC hD; obtain ⟨u141, s141, r141⟩ := hD ⟨8, .data⟩ (by simp) rfl _ rfl; replace r141 : u141 = _ := r141; subst r141
               have q1 := cell_of_block (k := 0) (HQ.out.below hC).at_ rfl
               clear hA hD; refine stepOk_plain rfl ?_; intro K hK; gi_wp2; exact hK _ _ rfl ((fun _ => Below.refl _ _) _)
             · intro a' w' hA hC hD; obtain ⟨u140, s140, r140⟩ := hD ⟨7, .data⟩ (by simp) rfl _ rfl; replace r140 : u140 = _ := r140; subst r140; obtain ⟨u142, s142, r142⟩ := hD ⟨9, .data⟩ (by simp) rfl _ rfl; replace r142 : u142 = _ := r142; subst r142
               have hg := HIX.out.2
               clear hA hD; refine stepOk_plain rfl ?_; intro K hK; gi_wp2; exact hK _ _ rfl ((fun _ => Below.refl _ _) _)
            case hend =>
             intro w25 hC
             simp only [EndFrom, eqv, forall_eq, Act.put, List.length_cons, List.length_nil, List.drop_succ_cons, List.drop_zero, Nat.reduceAdd, List.setIfInBounds_toArray, List.set_cons_succ, List.set_cons_zero]
             have HS := Lib.hid (HS.out.below hC)
             have HC := Lib.hid (HC.out.below hC)
             have HV := Lib.hid (HV.out.below hC)
             have HK := Lib.hid (HK.out.below hC)
             clear hC HP HQ
             gi_wp2
             by_cases hmp : 0 < mv
             · have h1 : (0 : Int) < (mv : Int) := by omega
               have h2 : wrap64 ((mv : Int) - 1) = (mv : Int) - 1 := by have := HM.out.1; unfold wrap64; omega
               have hss := HM.out.2
               rw [decide_eq_true hmp] at hss
               simp only [cond_true] at hss
               obtain ⟨rfl, rfl⟩ := hss
               clear hmp
               go_wp2_with fail
               clear h1 h2
               go_roundw
               case rel => exact ⟨j + 1, HJ.out, congrArg (Value.int .i64) HE.out, HK.out⟩
               case measure => rw [HE.out]; have := HJ.out; simp only [intOf]; omega
             · obtain rfl : mv = 0 := by omega
               have hss := HM.out.2
               rw [decide_eq_false hmp] at hss
               simp only [cond_false] at hss
               obtain ⟨rfl, rfl⟩ := hss
               clear hmp
               go_wp2_with fail
               go_roundw
               case rel => exact ⟨j + 1, HJ.out, congrArg (Value.int .i64) HE.out, HK.out⟩
               case measure => rw [HE.out]; have := HJ.out; simp only [intOf]; omega
    · go_wp2_with fail
      clear hlt
      refine (rim_nil _ _).mono ?_
      rintro e w20 ⟨rfl, hb_⟩
      have HS := Lib.hid (HS.out.below hb_)
      clear hb_
      go_wp2_with fail
      refine (steps_nil ⟨0, 0⟩ ⟨0, 0⟩ 0 _).mono ?_
      rintro e w21 ⟨rfl, hb_⟩
      have HS := Lib.hid (HS.out.below hb_)
      clear hb_
      go_wp2_with fail
      go_ret
      exact ⟨rfl, HS.out.low⟩
  | true =>
   have HON := Lib.hid (fun q w' h => refOn_any C HC.out.ok (.agg #[.int .i64 C.wide, .int .i64 C.high, .slice a3 C.tiles.length c3]) q w' h)
   repeat ((fail_if_success (with_reducible refine stop_at (id := 13) ?_)); (first | go_values | go_skip | go_guarded | go_step | go_upon | go_back | (simp only [Int.not_lt, Int.not_le] at *; go_simp) | (go_values <;> (try go_simp)) | (go_ite <;> go_prune <;> (try go_simp)) | (split <;> (first | (rename_i hx; exact (hx _ rfl).elim) | go_prune))))
   have HK := Lib.hid (show Kp w7 w7 from Below.refl _ _)
   go_loopw [14, 57] (fun no i wr => ∃ j : Nat, j ≤ m ∧ i = .int .i64 (j : Int) ∧ no = .int .i64 (bif (ks.take j).all (endsB C) then 0 else 4) ∧ Kp w7 wr) (fun _ i _ => m - (intOf i).toNat)
   case atStart => exact ⟨0, by omega, rfl, rfl, HK.out⟩
   case round =>
    obtain ⟨j, hj, rfl, rfl, hb⟩ := hrel
    have HS := Lib.hid (HS.out.below hb)
    have HC := Lib.hid (HC.out.below hb)
    have HV := Lib.hid (HV.out.below hb)
    have HK := Lib.hid hb
    clear hb
    by_cases hlt : j < m
    · obtain ⟨s, hs⟩ : ∃ s, ks[j]? = some s := ⟨_, List.getElem?_eq_getElem (by rw [HLM.out]; exact hlt)⟩
      obtain ⟨bb, off, rfl, hbb, c0, c1, c2⟩ := spCells HLM.out (HS.out.elems 1 rfl) j s hs
      have HLT := Lib.hid hlt
      have HE := Lib.hid (wrap_succ (n := j) (by have := HMB.out; omega))
      have htk : (ks.take (j + 1)).all (endsB C) = ((ks.take j).all (endsB C) && (onC C ⟨s.f, s.y⟩ && onC C ⟨s.t, s.y⟩)) := by
       rw [List.take_add_one, hs]
       simp [endsB]
      obtain ⟨b1, hb1⟩ : ∃ b1, onC C ⟨s.f, s.y⟩ = b1 := ⟨_, rfl⟩
      obtain ⟨b2, hb2⟩ : ∃ b2, onC C ⟨s.t, s.y⟩ = b2 := ⟨_, rfl⟩
      have HO1 := Lib.hid (HON.out ⟨s.f, s.y⟩)
      have HO2 := Lib.hid (HON.out ⟨s.t, s.y⟩)
      unfold onC at hb1 hb2
      rw [hb1] at HO1
      rw [hb2] at HO2
      unfold onC at htk
      rw [hb1, hb2] at htk
      have HTK := Lib.hid htk
      obtain ⟨sy, sf, st⟩ := s
      simp only at c0 c1 c2
      simp only [PtT.val] at HO1 HO2
      clear hs hlt htk hb1 hb2 hbb
      obtain ⟨no, hno⟩ : ∃ no : Int, (bif (ks.take j).all (endsB C) then 0 else 4) = no := ⟨_, rfl⟩
      rw [hno]
      have HNO := Lib.hid hno
      clear hno
      repeat ((fail_if_success (with_reducible refine stop_at (id := 15) ?_)); (first | go_values | go_skip | go_guarded | go_step | go_upon | go_back | (simp only [Int.not_lt, Int.not_le] at *; go_simp) | (go_values <;> (try go_simp)) | (go_ite <;> go_prune <;> (try go_simp)) | (split <;> (first | (rename_i hx; exact (hx _ rfl).elim) | go_prune))))
      clear c0 c1 c2
      have hs_ := HS.out.alloc (.cells #[.int .i64 sy, .int .i64 sf, .int .i64 st] 33)
      have hk_HC := HC.out.below ((Below.refl _ _).alloc (Nat.le_refl _) (.cells #[.int .i64 sy, .int .i64 sf, .int .i64 st] 33))
      have hk_HV := HV.out.below ((Below.refl _ _).alloc (Nat.le_refl _) (.cells #[.int .i64 sy, .int .i64 sf, .int .i64 st] 33))
      have hk_HK := HK.out.below ((Below.refl _ _).alloc (Nat.le_refl _) (.cells #[.int .i64 sy, .int .i64 sf, .int .i64 st] 33))
      obtain ⟨w9, hw_⟩ : ∃ w9 : World, wr.alloc (.cells #[.int .i64 sy, .int .i64 sf, .int .i64 st] 33) = w9 := ⟨_, rfl⟩
      rw [hw_] at hs_ hk_HC hk_HV hk_HK
      have HS := Lib.hid hs_
      have HC := Lib.hid hk_HC
      have HV := Lib.hid hk_HV
      have HK := Lib.hid hk_HK
      rw [hw_]
      clear hw_ hs_ hk_HC hk_HV hk_HK
      have s0 := cell_of_block (k := 0) (HS.out.blockAt 0 rfl) rfl
      have s1 := cell_of_block (k := 1) (HS.out.blockAt 0 rfl) rfl
      have s2 := cell_of_block (k := 2) (HS.out.blockAt 0 rfl) rfl
      have v0 := cell_of_block (k := 0) (HS.out.blockAt 3 rfl) rfl
      have v1 := cell_of_block (k := 1) (HS.out.blockAt 3 rfl) rfl
      have v2 := cell_of_block (k := 2) (HS.out.blockAt 3 rfl) rfl
      go_wp2_with fail
      clear s0 s1 s2 v0 v1 v2
      refine (HO1.out _ HV.out).mono ?_
      rintro e w10 ⟨rfl, hb_⟩
      have HS := Lib.hid (HS.out.below hb_)
      have HC := Lib.hid (HC.out.below hb_)
      have HV := Lib.hid (HV.out.below hb_)
      have HK := Lib.hid (HK.out.below hb_)
      clear hb_
      cases b1 with
      | false =>
       go_wp2_with fail
       go_roundw
       case rel => exact ⟨j + 1, HLT.out, congrArg (Value.int .i64) HE.out, by rw [HTK.out]; simp, HK.out⟩
       case measure => rw [HE.out]; have := HLT.out; simp only [intOf]; omega
      | true =>
       have s0 := cell_of_block (k := 0) (HS.out.blockAt 0 rfl) rfl
       have s1 := cell_of_block (k := 1) (HS.out.blockAt 0 rfl) rfl
       have s2 := cell_of_block (k := 2) (HS.out.blockAt 0 rfl) rfl
       have v0 := cell_of_block (k := 0) (HS.out.blockAt 3 rfl) rfl
       have v1 := cell_of_block (k := 1) (HS.out.blockAt 3 rfl) rfl
       have v2 := cell_of_block (k := 2) (HS.out.blockAt 3 rfl) rfl
       go_wp2_with fail
       clear s0 s1 s2 v0 v1 v2
       refine (HO2.out _ HV.out).mono ?_
       rintro e w11 ⟨rfl, hb_⟩
       have HS := Lib.hid (HS.out.below hb_)
       have HC := Lib.hid (HC.out.below hb_)
       have HV := Lib.hid (HV.out.below hb_)
       have HK := Lib.hid (HK.out.below hb_)
       clear hb_
       cases b2 with
       | false =>
        go_wp2_with fail
        go_roundw
        case rel => exact ⟨j + 1, HLT.out, congrArg (Value.int .i64) HE.out, by rw [HTK.out]; simp, HK.out⟩
        case measure => rw [HE.out]; have := HLT.out; simp only [intOf]; omega
       | true =>
        go_wp2_with fail
        go_roundw
        case rel => exact ⟨j + 1, HLT.out, congrArg (Value.int .i64) HE.out, by rw [HTK.out, Bool.and_self, Bool.and_true, HNO.out], HK.out⟩
        case measure => rw [HE.out]; have := HLT.out; simp only [intOf]; omega
    · have hjm : j = m := by omega
      rw [hjm, List.take_of_length_le (by rw [HLM.out]; exact Nat.le_refl _), ends_all HRB.out]
      obtain ⟨e1, e2, e3, e4⟩ := HR.out
      obtain ⟨ab, hab⟩ : ∃ ab, (ptsL ks).all (onC C) = ab := ⟨_, rfl⟩
      rw [hab]
      have her : er = bif ab then 0 else 4 := by rw [← e2]; unfold rimE; rw [HRB.out, hab]; rfl
      subst her
      have HRR := Lib.hid (And.intro e1 (And.intro e3 e4))
      have HAB := Lib.hid hab
      clear e1 e2 e3 e4 hab hjm hj
      cases ab with
      | false =>
       have hR0 : R = [] := by rw [← HRR.out.1]; unfold rimR rimOk; rw [HRB.out, HAB.out]; rfl
       have hnr : nr = 0 := by rw [← HRR.out.2.1, hR0]; rfl
       subst hnr hR0
       simp only [cond_false]
       go_wp2_with fail
       clear hlt
       refine (eqP_same _ _ [] 0 rfl _ (HS.out.elems 0 rfl) (elems_nil _)).mono ?_
       rintro e w12 ⟨rfl, hb_⟩
       have HS := Lib.hid (HS.out.below hb_)
       have HC := Lib.hid (HC.out.below hb_)
       have HV := Lib.hid (HV.out.below hb_)
       clear hb_
       go_wp2_with fail
       have HON := Lib.hid (fun q w' h => refOn_any C HC.out.ok (.agg #[.int .i64 C.wide, .int .i64 C.high, .slice a3 C.tiles.length c3]) q w' h)
       have HK := Lib.hid (show Kp w12 w12 from Below.refl _ _)
       go_loopw [96] (fun i wr => ∃ j : Nat, j ≤ 5 ∧ i = .int .i64 (j : Int) ∧ Kp w12 wr) (fun i _ => 6 - (intOf i).toNat)
       case atStart => exact ⟨0, by omega, rfl, HK.out⟩
       case round =>
        obtain ⟨j, hj, rfl, hb⟩ := hrel
        have HS := Lib.hid (HS.out.below hb)
        have HC := Lib.hid (HC.out.below hb)
        have HV := Lib.hid (HV.out.below hb)
        have HK := Lib.hid hb
        clear hb
        by_cases hlt : j < nf
        · obtain ⟨x, hx⟩ : ∃ x, fs[j]? = some x := ⟨_, List.getElem?_eq_getElem (by rw [HFL.out]; exact hlt)⟩
          obtain ⟨bb, off, rfl, hbb, c0, c1, c2, c3, c4⟩ := i5Cells HFL.out (HS.out.elems 4 rfl) j x hx
          obtain ⟨fx, fy, tx, ty, tt⟩ := x
          simp only at c0 c1 c2 c3 c4
          clear hx hbb
          repeat ((fail_if_success (with_reducible refine stop_at (id := 25) ?_)); (first | go_values | go_skip | go_guarded | go_step | go_upon | go_back | (simp only [Int.not_lt, Int.not_le] at *; go_simp) | (go_values <;> (try go_simp)) | (go_ite <;> go_prune <;> (try go_simp)) | (split <;> (first | (rename_i hx; exact (hx _ rfl).elim) | go_prune))))
          clear c0 c1 c2 c3 c4 hlt
          have hs_ := HS.out.alloc (.cells #[.int .i64 fx, .int .i64 fy, .int .i64 tx, .int .i64 ty, .int .i64 tt] 44)
          have hk_HC := HC.out.below ((Below.refl _ _).alloc (Nat.le_refl _) (.cells #[.int .i64 fx, .int .i64 fy, .int .i64 tx, .int .i64 ty, .int .i64 tt] 44))
          have hk_HV := HV.out.below ((Below.refl _ _).alloc (Nat.le_refl _) (.cells #[.int .i64 fx, .int .i64 fy, .int .i64 tx, .int .i64 ty, .int .i64 tt] 44))
          have hk_HK := HK.out.below ((Below.refl _ _).alloc (Nat.le_refl _) (.cells #[.int .i64 fx, .int .i64 fy, .int .i64 tx, .int .i64 ty, .int .i64 tt] 44))
          obtain ⟨w19, hw_⟩ : ∃ w19 : World, wr.alloc (.cells #[.int .i64 fx, .int .i64 fy, .int .i64 tx, .int .i64 ty, .int .i64 tt] 44) = w19 := ⟨_, rfl⟩
          rw [hw_] at hs_ hk_HC hk_HV hk_HK
          have HS := Lib.hid hs_
          have HC := Lib.hid hk_HC
          have HV := Lib.hid hk_HV
          have HK := Lib.hid hk_HK
          rw [hw_]
          clear hw_ hs_ hk_HC hk_HV hk_HK
          by_cases h5 : j = 5
          · subst h5
            go_wp2_with fail
            refine (rim_nil _ _).mono ?_
            rintro e w20 ⟨rfl, hb_⟩
            have HS := Lib.hid (HS.out.below hb_)
            clear hb_
            go_wp2_with fail
            refine (steps_nil ⟨0, 0⟩ ⟨0, 0⟩ 0 _).mono ?_
            rintro e w21 ⟨rfl, hb_⟩
            have HS := Lib.hid (HS.out.below hb_)
            clear hb_
            go_wp2_with fail
            go_ret
            exact ⟨rfl, HS.out.low⟩
          · have HJ := Lib.hid (show j + 1 ≤ 5 by omega)
            have HE := Lib.hid (wrap_succ (n := j) (by omega))
            have hd : decide ((j : Int) = 5) = false := decide_eq_false (by omega)
            have h5' : ¬ ((j : Int) = 5) := by omega
            repeat ((fail_if_success (with_reducible refine stop_at (id := 26) ?_)); (first | go_values | go_skip | go_guarded | go_step | go_upon | go_back | (simp only [Int.not_lt, Int.not_le] at *; go_simp) | (go_values <;> (try go_simp)) | (go_ite <;> go_prune <;> (try go_simp)) | (split <;> (first | (rename_i hx; exact (hx _ rfl).elim) | go_prune))))
            clear hd h5 h5' hj
            refine (wpIn_wide (n := 0)).1 ?_
            apply wp_region_slots 16 [⟨12, 14, 19, .cells #[.int .i64 0, .int .i64 0] 41 (0, 0), .cells #[.int .i64 fx, .int .i64 fy] 41 (0, 0)⟩, ⟨13, 15, 20, .cells #[.int .i64 0, .int .i64 0] 41 (0, 0), .cells #[.int .i64 tx, .int .i64 ty] 41 (0, 0)⟩] _ (Rl := [(eqv _), (eqv _), (eqv _), (eqv _), (eqv _), (eqv _), (eqv _), (eqv _), (eqv _), (eqv _), (eqv _), (eqv _), (fun _ _ => True), (fun _ _ => True), (fun _ _ => True), (fun _ _ => True)])
            case hm => kernel_rfl
            case hk => rfl
            case hst => exact ⟨fun _ _ _ _ h => h, fun _ _ _ _ h => h, fun _ _ _ _ h => h, fun _ _ _ _ h => h, fun _ _ _ _ h => h, fun _ _ _ _ h => h, fun _ _ _ _ h => h, fun _ _ _ _ h => h, fun _ _ _ _ h => h, fun _ _ _ _ h => h, fun _ _ _ _ h => h, fun _ _ _ _ h => h, fun _ _ _ _ h => h, fun _ _ _ _ h => h, fun _ _ _ _ h => h, fun _ _ _ _ h => h, trivial⟩
            case hfo => kernel_rfl
            case ht => kernel_rfl
            case hN => exact Nat.le_refl _
            case hok => kernel_rfl
            case hsk => intro s hs; simp only [List.mem_cons, List.not_mem_nil, or_false] at hs; rcases hs with rfl | rfl <;> exact ⟨Nat.le_of_ble_eq_true rfl, Nat.le_of_ble_eq_true rfl⟩
            case hsteps =>
             refine ⟨?_, ?_, ?_, ?_, ?_, ?_, ?_, ?_, ?_, ?_, ?_, ?_, ?_, ?_, ?_, ?_, trivial⟩
             · intro l_ a' w' hA hC hJ hN hB hD; have s18 : a'.tmps[18]? = some _ := (hA.at 18 (by kernel_rfl)).trans rfl; clear hA hD; refine stepOkT_plain rfl ?_; intro K hK; gi_wp2; exact hK _ _ rfl (Below.refl _ _) (SlT.plainB rfl (Below.refl _ _))
             · intro l_ a' w' hA hC hJ hN hB hD; obtain ⟨u103, s103, r103⟩ := hD ⟨0, .data⟩ (by simp) rfl _ rfl; replace r103 : u103 = _ := r103; subst r103
               have z0 := cell_of_block (k := 0) ((HS.out.below hC).blockAt 0 rfl) rfl
               clear hA hD; refine stepOkT_plain rfl ?_; intro K hK; gi_wp2; exact hK _ _ rfl (Below.refl _ _) (SlT.plainB rfl (Below.refl _ _))
             · intro l_ a' w' hA hC hJ hN hB hD; have s18 : a'.tmps[18]? = some _ := (hA.at 18 (by kernel_rfl)).trans rfl; clear hA hD; refine stepOkT_plain rfl ?_; intro K hK; gi_wp2; exact hK _ _ rfl (Below.refl _ _) (SlT.plainB rfl (Below.refl _ _))
             · intro l_ a' w' hA hC hJ hN hB hD; obtain ⟨u105, s105, r105⟩ := hD ⟨2, .data⟩ (by simp) rfl _ rfl; replace r105 : u105 = _ := r105; subst r105
               have z0 := cell_of_block (k := 1) ((HS.out.below hC).blockAt 0 rfl) rfl
               clear hA hD; refine stepOkT_plain rfl ?_; intro K hK; gi_wp2; exact hK _ _ rfl (Below.refl _ _) (SlT.plainB rfl (Below.refl _ _))
             · intro l_ a' w' hA hC hJ hN hB hD; obtain ⟨u104, s104, r104⟩ := hD ⟨1, .data⟩ (by simp) rfl _ rfl; replace r104 : u104 = _ := r104; subst r104; obtain ⟨u106, s106, r106⟩ := hD ⟨3, .data⟩ (by simp) rfl _ rfl; replace r106 : u106 = _ := r106; subst r106; clear hA hD; refine stepOkT_plain rfl ?_; intro K hK; gi_wp2; exact hK _ _ rfl (Below.refl _ _) (SlT.plainB rfl (Below.refl _ _))
             · intro l_ a' w' hA hC hJ hN hB hD; have s18 : a'.tmps[18]? = some _ := (hA.at 18 (by kernel_rfl)).trans rfl; clear hA hD; refine stepOkT_plain rfl ?_; intro K hK; gi_wp2; exact hK _ _ rfl (Below.refl _ _) (SlT.plainB rfl (Below.refl _ _))
             · intro l_ a' w' hA hC hJ hN hB hD; obtain ⟨u108, s108, r108⟩ := hD ⟨5, .data⟩ (by simp) rfl _ rfl; replace r108 : u108 = _ := r108; subst r108
               have z0 := cell_of_block (k := 2) ((HS.out.below hC).blockAt 0 rfl) rfl
               clear hA hD; refine stepOkT_plain rfl ?_; intro K hK; gi_wp2; exact hK _ _ rfl (Below.refl _ _) (SlT.plainB rfl (Below.refl _ _))
             · intro l_ a' w' hA hC hJ hN hB hD; have s18 : a'.tmps[18]? = some _ := (hA.at 18 (by kernel_rfl)).trans rfl; clear hA hD; refine stepOkT_plain rfl ?_; intro K hK; gi_wp2; exact hK _ _ rfl (Below.refl _ _) (SlT.plainB rfl (Below.refl _ _))
             · intro l_ a' w' hA hC hJ hN hB hD; obtain ⟨u110, s110, r110⟩ := hD ⟨7, .data⟩ (by simp) rfl _ rfl; replace r110 : u110 = _ := r110; subst r110
               have z0 := cell_of_block (k := 3) ((HS.out.below hC).blockAt 0 rfl) rfl
               clear hA hD; refine stepOkT_plain rfl ?_; intro K hK; gi_wp2; exact hK _ _ rfl (Below.refl _ _) (SlT.plainB rfl (Below.refl _ _))
             · intro l_ a' w' hA hC hJ hN hB hD; obtain ⟨u109, s109, r109⟩ := hD ⟨6, .data⟩ (by simp) rfl _ rfl; replace r109 : u109 = _ := r109; subst r109; obtain ⟨u111, s111, r111⟩ := hD ⟨8, .data⟩ (by simp) rfl _ rfl; replace r111 : u111 = _ := r111; subst r111; clear hA hD; refine stepOkT_plain rfl ?_; intro K hK; gi_wp2; exact hK _ _ rfl (Below.refl _ _) (SlT.plainB rfl (Below.refl _ _))
             · intro l_ a' w' hA hC hJ hN hB hD; have s18 : a'.tmps[18]? = some _ := (hA.at 18 (by kernel_rfl)).trans rfl; clear hA hD; refine stepOkT_plain rfl ?_; intro K hK; gi_wp2; exact hK _ _ rfl (Below.refl _ _) (SlT.plainB rfl (Below.refl _ _))
             · intro l_ a' w' hA hC hJ hN hB hD; obtain ⟨u113, s113, r113⟩ := hD ⟨10, .data⟩ (by simp) rfl _ rfl; replace r113 : u113 = _ := r113; subst r113
               have z0 := cell_of_block (k := 4) ((HS.out.below hC).blockAt 0 rfl) rfl
               clear hA hD; refine stepOkT_plain rfl ?_; intro K hK; gi_wp2; exact hK _ _ rfl (Below.refl _ _) (SlT.plainB rfl (Below.refl _ _))
             · intro l_ a' w' hA hC hJ hN hB hD; clear hA hD; refine stepOkT_plain rfl ?_; intro K hK; gi_wp2; exact hK _ _ trivial ((Below.refl _ _).alloc hC.size _) (SlT.alloc (by intro t ht e; simp only [List.mem_cons, List.not_mem_nil, or_false] at ht; rcases ht with rfl | rfl <;> first | rfl | (exact absurd e (Nat.ne_of_beq_eq_false rfl))) (by intro t ht; simp only [List.mem_cons, List.not_mem_nil, or_false] at ht; rcases ht with rfl | rfl <;> exact Nat.ne_of_beq_eq_false rfl))
             · intro l_ a' w' hA hC hJ hN hB hD; clear hA hD; refine stepOkT_plain rfl ?_; intro K hK; gi_wp2; exact hK _ _ trivial ((Below.refl _ _).alloc hC.size _) (SlT.alloc (by intro t ht e; simp only [List.mem_cons, List.not_mem_nil, or_false] at ht; rcases ht with rfl | rfl <;> first | rfl | (exact absurd e (Nat.ne_of_beq_eq_false rfl))) (by intro t ht; simp only [List.mem_cons, List.not_mem_nil, or_false] at ht; rcases ht with rfl | rfl <;> exact Nat.ne_of_beq_eq_false rfl))
             · intro l_ a' w' hA hC hJ hN hB hD; obtain ⟨u19, s19, r19⟩ := hD ⟨12, .data⟩ (by simp) rfl _ rfl; replace r19 : (fun _ _ => True) u19 w' := r19; obtain ⟨u107, s107, r107⟩ := hD ⟨4, .data⟩ (by simp) rfl _ rfl; replace r107 : u107 = _ := r107; subst r107
               obtain ⟨b19, n19, t19, o19⟩ := hJ.at_ _ (List.mem_of_getElem? (i := 0) rfl) (hB ⟨12, .data⟩ (by simp) rfl)
               rw [show l_.getD 14 false = false from hN] at o19
               replace o19 : w'.heap[b19]? = some (.cells #[.int .i64 0, .int .i64 0] 41 (0, 0)) := o19
               obtain rfl : u19 = ptrB b19 := Option.some.inj (s19.symm.trans t19)
               clear r19
               obtain ⟨b20, n20, t20, o20⟩ := hJ.at_ _ (List.mem_of_getElem? (i := 1) rfl) (hB ⟨13, .phase⟩ (by simp) rfl)
               clear hA hD; refine stepOkT_plain rfl ?_; intro K hK
               have f19 := free_of_block o19
               have c19_0 := cell_of_block (k := 0) o19 rfl
               have c19_1 := cell_of_block (k := 1) o19 rfl
               have f19_0 := f19 0
               have f19_1 := f19 1
               clear f19; unfold ptrB at s19 t19; gi_wp2; exact hK undef _ trivial (by repeat (first | exact Below.refl _ _ | refine Below.setCell ?_ (by omega) _)) (SlT.store _ (by intro t ht e; simp only [List.mem_cons, List.not_mem_nil, or_false] at ht; rcases ht with rfl | rfl <;> first | rfl | (exact absurd e (Nat.ne_of_beq_eq_false rfl))) (by intro t ht; simp only [List.mem_cons, List.not_mem_nil, or_false] at ht; rcases ht with rfl | rfl <;> exact Nat.ne_of_beq_eq_false rfl) (List.mem_of_getElem? (i := 0) rfl) rfl b19 (by unfold envOf; rw [t19]; rfl) (heap_set_same (heap_set_same o19 _) _) (by intro k hk; repeat (first | rfl | refine (Below.heap_setCell _ _ _ k (by simpa using hk)).trans ?_)))
             · intro l_ a' w' hA hC hJ hN hB hD; obtain ⟨u20, s20, r20⟩ := hD ⟨13, .data⟩ (by simp) rfl _ rfl; replace r20 : (fun _ _ => True) u20 w' := r20; obtain ⟨u112, s112, r112⟩ := hD ⟨9, .data⟩ (by simp) rfl _ rfl; replace r112 : u112 = _ := r112; subst r112
               obtain ⟨b19, n19, t19, o19⟩ := hJ.at_ _ (List.mem_of_getElem? (i := 0) rfl) (hB ⟨12, .phase⟩ (by simp) rfl)
               obtain ⟨b20, n20, t20, o20⟩ := hJ.at_ _ (List.mem_of_getElem? (i := 1) rfl) (hB ⟨13, .data⟩ (by simp) rfl)
               rw [show l_.getD 15 false = false from hN] at o20
               replace o20 : w'.heap[b20]? = some (.cells #[.int .i64 0, .int .i64 0] 41 (0, 0)) := o20
               obtain rfl : u20 = ptrB b20 := Option.some.inj (s20.symm.trans t20)
               clear r20
               clear hA hD; refine stepOkT_plain rfl ?_; intro K hK
               have f20 := free_of_block o20
               have c20_0 := cell_of_block (k := 0) o20 rfl
               have c20_1 := cell_of_block (k := 1) o20 rfl
               have f20_0 := f20 0
               have f20_1 := f20 1
               clear f20; unfold ptrB at s20 t20; gi_wp2; exact hK undef _ trivial (by repeat (first | exact Below.refl _ _ | refine Below.setCell ?_ (by omega) _)) (SlT.store _ (by intro t ht e; simp only [List.mem_cons, List.not_mem_nil, or_false] at ht; rcases ht with rfl | rfl <;> first | rfl | (exact absurd e (Nat.ne_of_beq_eq_false rfl))) (by intro t ht; simp only [List.mem_cons, List.not_mem_nil, or_false] at ht; rcases ht with rfl | rfl <;> exact Nat.ne_of_beq_eq_false rfl) (List.mem_of_getElem? (i := 1) rfl) rfl b20 (by unfold envOf; rw [t20]; rfl) (heap_set_same (heap_set_same o20 _) _) (by intro k hk; repeat (first | rfl | refine (Below.heap_setCell _ _ _ k (by simpa using hk)).trans ?_)))
            case hend =>
             intro w20 hC
             simp only [EndFrom, eqv, forall_eq, Act.put, List.length_cons, List.length_nil, List.drop_succ_cons, List.drop_zero, Nat.reduceAdd, List.setIfInBounds_toArray, List.set_cons_succ, List.set_cons_zero]
             have HS := Lib.hid (HS.out.below hC)
             have HC := Lib.hid (HC.out.below hC)
             have HV := Lib.hid (HV.out.below hC)
             have HK := Lib.hid (HK.out.below hC)
             clear hC
             intro p19 _ p20 _ p21 _ p22 _ hE
             obtain ⟨b19, -, hb19, ho19⟩ := hE.1 _ (List.mem_of_getElem? (i := 0) rfl)
             obtain ⟨b20, -, hb20, ho20⟩ := hE.1 _ (List.mem_of_getElem? (i := 1) rfl)
             obtain rfl : p19 = ptrB b19 := Option.some.inj hb19
             obtain rfl : p20 = ptrB b20 := Option.some.inj hb20
             have HP := Lib.hid (BlkAt.mk ho19)
             have HQ := Lib.hid (BlkAt.mk ho20)
             clear hE hb19 hb20 ho19 ho20
             unfold ptrB
             gi_wp2
             have q0 := cell_of_block (k := 0) HP.out.at_ rfl
             have q1 := cell_of_block (k := 1) HP.out.at_ rfl
             have r0 := cell_of_block (k := 0) HQ.out.at_ rfl
             have r1 := cell_of_block (k := 1) HQ.out.at_ rfl
             have HST := Lib.hid (steps_any C p ⟨fx, fy⟩ ⟨tx, ty⟩ tt w20 HC.out)
             obtain ⟨s1, hs1⟩ : ∃ s1, (stepsR C ⟨fx, fy⟩ ⟨tx, ty⟩ tt).1 = s1 := ⟨_, rfl⟩
             obtain ⟨s2, hs2⟩ : ∃ s2, (stepsR C ⟨fx, fy⟩ ⟨tx, ty⟩ tt).2 = s2 := ⟨_, rfl⟩
             rw [hs1, hs2] at HST
             have HSS := Lib.hid (And.intro hs1 hs2)
             simp only [PtT.val] at HST
             clear hs1 hs2
             go_wp2_with fail
             clear q0 q1 r0 r1
             refine (HST.out).mono ?_
             rintro e w21 ⟨rfl, hb_⟩
             have HS := Lib.hid (HS.out.below hb_)
             have HC := Lib.hid (HC.out.below hb_)
             have HV := Lib.hid (HV.out.below hb_)
             have HK := Lib.hid (HK.out.below hb_)
             have HP := Lib.hid (HP.out.below hb_)
             have HQ := Lib.hid (HQ.out.below hb_)
             clear hb_
             go_wp2_with fail
             have HTT := Lib.hid (refTol_any tt w21)
             obtain ⟨tb, htb⟩ : ∃ tb, tolB tt = tb := ⟨_, rfl⟩
             rw [htb] at HTT
             have HTB := Lib.hid htb
             clear htb
             refine (HTT.out).mono ?_
             rintro e w22 ⟨rfl, hb_⟩
             have HS := Lib.hid (HS.out.below hb_)
             have HC := Lib.hid (HC.out.below hb_)
             have HV := Lib.hid (HV.out.below hb_)
             have HK := Lib.hid (HK.out.below hb_)
             have HP := Lib.hid (HP.out.below hb_)
             have HQ := Lib.hid (HQ.out.below hb_)
             clear hb_
             cases tb with
             | false =>
              have hss := HSS.out
              unfold stepsR at hss
              rw [HTB.out] at hss
              simp only [cond_false] at hss
              obtain ⟨rfl, rfl⟩ := hss
              go_wp2_with fail
              go_roundw
              case rel => exact ⟨j + 1, HJ.out, congrArg (Value.int .i64) HE.out, HK.out⟩
              case measure => rw [HE.out]; have := HJ.out; simp only [intOf]; omega
             | true =>
              have HTN := Lib.hid (of_decide_eq_true (show decide (0 ≤ tt ∧ tt ≤ 1020) = true from HTB.out)).1
              have HO1 := Lib.hid (HON.out ⟨fx, fy⟩)
              have HO2 := Lib.hid (HON.out ⟨tx, ty⟩)
              obtain ⟨b1, hb1⟩ : ∃ b1, onC C ⟨fx, fy⟩ = b1 := ⟨_, rfl⟩
              obtain ⟨b2, hb2⟩ : ∃ b2, onC C ⟨tx, ty⟩ = b2 := ⟨_, rfl⟩
              have HB1 := Lib.hid hb1
              have HB2 := Lib.hid hb2
              unfold onC at hb1 hb2
              rw [hb1] at HO1
              rw [hb2] at HO2
              simp only [PtT.val] at HO1 HO2
              clear hb1 hb2
              have v0 := cell_of_block (k := 0) (HS.out.blockAt 3 rfl) rfl
              have v1 := cell_of_block (k := 1) (HS.out.blockAt 3 rfl) rfl
              have v2 := cell_of_block (k := 2) (HS.out.blockAt 3 rfl) rfl
              have q0 := cell_of_block (k := 0) HP.out.at_ rfl
              have q1 := cell_of_block (k := 1) HP.out.at_ rfl
              go_wp2_with fail
              clear v0 v1 v2 q0 q1
              refine (HO1.out _ HV.out).mono ?_
              rintro e w23 ⟨rfl, hb_⟩
              have HS := Lib.hid (HS.out.below hb_)
              have HC := Lib.hid (HC.out.below hb_)
              have HV := Lib.hid (HV.out.below hb_)
              have HK := Lib.hid (HK.out.below hb_)
              have HP := Lib.hid (HP.out.below hb_)
              have HQ := Lib.hid (HQ.out.below hb_)
              clear hb_
              cases b1 with
              | false =>
               have hss := HSS.out
               unfold stepsR at hss
               rw [HTB.out, HB1.out] at hss
               simp only [cond_true, Bool.false_and, cond_false] at hss
               obtain ⟨rfl, rfl⟩ := hss
               go_wp2_with fail
               go_roundw
               case rel => exact ⟨j + 1, HJ.out, congrArg (Value.int .i64) HE.out, HK.out⟩
               case measure => rw [HE.out]; have := HJ.out; simp only [intOf]; omega
              | true =>
               have v0 := cell_of_block (k := 0) (HS.out.blockAt 3 rfl) rfl
               have v1 := cell_of_block (k := 1) (HS.out.blockAt 3 rfl) rfl
               have v2 := cell_of_block (k := 2) (HS.out.blockAt 3 rfl) rfl
               have q0 := cell_of_block (k := 0) HQ.out.at_ rfl
               have q1 := cell_of_block (k := 1) HQ.out.at_ rfl
               go_wp2_with fail
               clear v0 v1 v2 q0 q1
               refine (HO2.out _ HV.out).mono ?_
               rintro e w24 ⟨rfl, hb_⟩
               have HS := Lib.hid (HS.out.below hb_)
               have HC := Lib.hid (HC.out.below hb_)
               have HV := Lib.hid (HV.out.below hb_)
               have HK := Lib.hid (HK.out.below hb_)
               have HP := Lib.hid (HP.out.below hb_)
               have HQ := Lib.hid (HQ.out.below hb_)
               clear hb_
               cases b2 with
               | false =>
                have hss := HSS.out
                unfold stepsR at hss
                rw [HTB.out, HB1.out, HB2.out] at hss
                simp only [cond_true, Bool.false_and, Bool.and_false, cond_false] at hss
                obtain ⟨rfl, rfl⟩ := hss
                go_wp2_with fail
                go_roundw
                case rel => exact ⟨j + 1, HJ.out, congrArg (Value.int .i64) HE.out, HK.out⟩
                case measure => rw [HE.out]; have := HJ.out; simp only [intOf]; omega
               | true =>
                obtain ⟨X, Y, hX, hY, hX2, hY2⟩ : ∃ X Y : Nat, tx = (X : Int) ∧ ty = (Y : Int) ∧ X < 32 ∧ Y < 32 := by
                 have h1 := onB_iff.1 HB2.out
                 have h2 := HC.out.ok.wide
                 have h3 := HC.out.ok.high
                 simp only at h1
                 exact ⟨tx.toNat, ty.toNat, by omega, by omega, by omega, by omega⟩
                subst hX hY
                have hgr := fun w' h => refGrown_any C HC.out.ok (.agg #[.int .i64 C.wide, .int .i64 C.high, .slice a3 C.tiles.length c3]) ⟨fx, fy⟩ tt (fun _ => 0) HB1.out rfl HTN.out w' h
                rw [pastB_zero] at hgr
                have HGR := Lib.hid (show ∀ w', CanV w' C (.agg #[.int .i64 C.wide, .int .i64 C.high, .slice a3 C.tiles.length c3]) → Calls Try.prog 15 #[.agg #[.int .i64 C.wide, .int .i64 C.high, .slice a3 C.tiles.length c3], .agg #[.int .i64 fx, .int .i64 fy], .int .i64 tt, .agg (fldA fun _ => 0)] w' (Gives (.agg (fldA (metC C ⟨fx, fy⟩ tt))) w') from hgr)
                clear hgr
                have hmle := metC_le HC.out.ok HB1.out HTN.out (Y * 32 + X)
                have hix : ixP ⟨(X : Int), (Y : Int)⟩ = Y * 32 + X := by unfold ixP; simp only; omega
                have hss := HSS.out
                unfold stepsR at hss
                rw [HTB.out, HB1.out, HB2.out, hix] at hss
                simp only [cond_true, Bool.true_and] at hss
                obtain ⟨m, hm⟩ : ∃ m, metC C ⟨fx, fy⟩ tt = m := ⟨_, rfl⟩
                obtain ⟨mv, hmv⟩ : ∃ mv, m (Y * 32 + X) = mv := ⟨_, rfl⟩
                rw [hm] at HGR hmle hss
                rw [hmv] at hmle hss
                have HM := Lib.hid (And.intro hmle hss)
                have HIX := Lib.hid (And.intro (fun w => run_index_row m Y hY2 w) (fun w => show (Instr.index 48 (.agg (fldRow m Y)) (.int .i64 (X : Int))).run Try.prog w = .ok (.int .i64 mv) w by have h := run_index_cell m Y X hY2 hX2 w; rw [hmv] at h; exact h))
                clear hmle hss hm hmv hix hX2 hY2
                go_wp2_with fail
                refine (wpIn_wide (n := 0)).1 ?_
                apply wp_region_vals 11 (Rl := [(eqv _), (eqv _), (eqv _), (eqv _), (eqv _), (eqv _), (eqv _), (eqv _), (eqv _), (eqv _), (eqv _)]) (C := (fun x y => Below x.heap.size x y))
                case hm => kernel_rfl
                case hk => rfl
                case hCr => exact (fun _ => Below.refl _ _)
                case hCt => intro _ _ _; exact (fun h k => grows_trans h k)
                case hst => exact ⟨fun _ _ _ _ h => h, fun _ _ _ _ h => h, fun _ _ _ _ h => h, fun _ _ _ _ h => h, fun _ _ _ _ h => h, fun _ _ _ _ h => h, fun _ _ _ _ h => h, fun _ _ _ _ h => h, fun _ _ _ _ h => h, fun _ _ _ _ h => h, fun _ _ _ _ h => h, trivial⟩
                case hfo => kernel_rfl
                case ht => kernel_rfl
                case hC0 => exact (grows_drew _)
                case hsteps =>
                 refine ⟨?_, ?_, ?_, ?_, ?_, ?_, ?_, ?_, ?_, ?_, ?_, trivial⟩
                 · intro a' w' hA hC hD; have s8 : a'.tmps[8]? = some _ := (hA.at 8 (by kernel_rfl)).trans rfl
                   have v0 := cell_of_block (k := 0) ((HS.out.below hC).blockAt 3 rfl) rfl; have v1 := cell_of_block (k := 1) ((HS.out.below hC).blockAt 3 rfl) rfl; have v2 := cell_of_block (k := 2) ((HS.out.below hC).blockAt 3 rfl) rfl
                   clear hA hD; refine stepOk_plain rfl ?_; intro K hK; gi_wp2; exact hK _ _ rfl ((fun _ => Below.refl _ _) _)
                 · intro a' w' hA hC hD; have s19 : a'.tmps[19]? = some _ := (hA.at 19 (by kernel_rfl)).trans rfl
                   have q0 := cell_of_block (k := 0) (HP.out.below hC).at_ rfl; have q1 := cell_of_block (k := 1) (HP.out.below hC).at_ rfl
                   clear hA hD; refine stepOk_plain rfl ?_; intro K hK; gi_wp2; exact hK _ _ rfl ((fun _ => Below.refl _ _) _)
                 · intro a' w' hA hC hD; have s21 : a'.tmps[21]? = some _ := (hA.at 21 (by kernel_rfl)).trans rfl; clear hA hD; refine stepOk_plain rfl ?_; intro K hK; gi_wp2; exact hK _ _ rfl ((fun _ => Below.refl _ _) _)
                 · intro a' w' hA hC hD; clear hA hD; refine stepOk_plain rfl ?_; intro K hK
                   refine opIn_build _ _ rfl _ (by simpa using built_field0) ?_; exact hK _ _ rfl (Below.refl _ _)
                 · intro a' w' hA hC hD; obtain ⟨u133, s133, r133⟩ := hD ⟨0, .data⟩ (by simp) rfl _ rfl; replace r133 : u133 = _ := r133; subst r133; obtain ⟨u134, s134, r134⟩ := hD ⟨1, .data⟩ (by simp) rfl _ rfl; replace r134 : u134 = _ := r134; subst r134; obtain ⟨u135, s135, r135⟩ := hD ⟨2, .data⟩ (by simp) rfl _ rfl; replace r135 : u135 = _ := r135; subst r135; obtain ⟨u136, s136, r136⟩ := hD ⟨3, .data⟩ (by simp) rfl _ rfl; replace r136 : u136 = _ := r136; subst r136; clear hA hD; refine stepOk_plain rfl ?_; intro K hK
                   gi_wp2_with fail; refine (callsIn_wide.2 (HGR.out _ (HV.out.below hC))).mono ?_; rintro e w2 ⟨rfl, hb⟩
                   exact hK _ _ rfl hb
                 · intro a' w' hA hC hD; have s20 : a'.tmps[20]? = some _ := (hA.at 20 (by kernel_rfl)).trans rfl; clear hA hD; refine stepOk_plain rfl ?_; intro K hK; gi_wp2; exact hK _ _ rfl ((fun _ => Below.refl _ _) _)
                 · intro a' w' hA hC hD; obtain ⟨u138, s138, r138⟩ := hD ⟨5, .data⟩ (by simp) rfl _ rfl; replace r138 : u138 = _ := r138; subst r138
                   have q1 := cell_of_block (k := 1) (HQ.out.below hC).at_ rfl
                   clear hA hD; refine stepOk_plain rfl ?_; intro K hK; gi_wp2; exact hK _ _ rfl ((fun _ => Below.refl _ _) _)
                 · intro a' w' hA hC hD; obtain ⟨u137, s137, r137⟩ := hD ⟨4, .data⟩ (by simp) rfl _ rfl; replace r137 : u137 = _ := r137; subst r137; obtain ⟨u139, s139, r139⟩ := hD ⟨6, .data⟩ (by simp) rfl _ rfl; replace r139 : u139 = _ := r139; subst r139
                   have hg := HIX.out.1
                   clear hA hD; refine stepOk_plain rfl ?_; intro K hK; gi_wp2; exact hK _ _ rfl ((fun _ => Below.refl _ _) _)
                 · intro a' w' hA hC hD; have s20 : a'.tmps[20]? = some _ := (hA.at 20 (by kernel_rfl)).trans rfl; clear hA hD; refine stepOk_plain rfl ?_; intro K hK; gi_wp2; exact hK _ _ rfl ((fun _ => Below.refl _ _) _)
                 · intro a' w' hA hC hD; obtain ⟨u141, s141, r141⟩ := hD ⟨8, .data⟩ (by simp) rfl _ rfl; replace r141 : u141 = _ := r141; subst r141
                   have q1 := cell_of_block (k := 0) (HQ.out.below hC).at_ rfl
                   clear hA hD; refine stepOk_plain rfl ?_; intro K hK; gi_wp2; exact hK _ _ rfl ((fun _ => Below.refl _ _) _)
                 · intro a' w' hA hC hD; obtain ⟨u140, s140, r140⟩ := hD ⟨7, .data⟩ (by simp) rfl _ rfl; replace r140 : u140 = _ := r140; subst r140; obtain ⟨u142, s142, r142⟩ := hD ⟨9, .data⟩ (by simp) rfl _ rfl; replace r142 : u142 = _ := r142; subst r142
                   have hg := HIX.out.2
                   clear hA hD; refine stepOk_plain rfl ?_; intro K hK; gi_wp2; exact hK _ _ rfl ((fun _ => Below.refl _ _) _)
                case hend =>
                 intro w25 hC
                 simp only [EndFrom, eqv, forall_eq, Act.put, List.length_cons, List.length_nil, List.drop_succ_cons, List.drop_zero, Nat.reduceAdd, List.setIfInBounds_toArray, List.set_cons_succ, List.set_cons_zero]
                 have HS := Lib.hid (HS.out.below hC)
                 have HC := Lib.hid (HC.out.below hC)
                 have HV := Lib.hid (HV.out.below hC)
                 have HK := Lib.hid (HK.out.below hC)
                 clear hC HP HQ
                 gi_wp2
                 by_cases hmp : 0 < mv
                 · have h1 : (0 : Int) < (mv : Int) := by omega
                   have h2 : wrap64 ((mv : Int) - 1) = (mv : Int) - 1 := by have := HM.out.1; unfold wrap64; omega
                   have hss := HM.out.2
                   rw [decide_eq_true hmp] at hss
                   simp only [cond_true] at hss
                   obtain ⟨rfl, rfl⟩ := hss
                   clear hmp
                   go_wp2_with fail
                   clear h1 h2
                   go_roundw
                   case rel => exact ⟨j + 1, HJ.out, congrArg (Value.int .i64) HE.out, HK.out⟩
                   case measure => rw [HE.out]; have := HJ.out; simp only [intOf]; omega
                 · obtain rfl : mv = 0 := by omega
                   have hss := HM.out.2
                   rw [decide_eq_false hmp] at hss
                   simp only [cond_false] at hss
                   obtain ⟨rfl, rfl⟩ := hss
                   clear hmp
                   go_wp2_with fail
                   go_roundw
                   case rel => exact ⟨j + 1, HJ.out, congrArg (Value.int .i64) HE.out, HK.out⟩
                   case measure => rw [HE.out]; have := HJ.out; simp only [intOf]; omega
        · go_wp2_with fail
          clear hlt
          refine (rim_nil _ _).mono ?_
          rintro e w20 ⟨rfl, hb_⟩
          have HS := Lib.hid (HS.out.below hb_)
          clear hb_
          go_wp2_with fail
          refine (steps_nil ⟨0, 0⟩ ⟨0, 0⟩ 0 _).mono ?_
          rintro e w21 ⟨rfl, hb_⟩
          have HS := Lib.hid (HS.out.below hb_)
          clear hb_
          go_wp2_with fail
          go_ret
          exact ⟨rfl, HS.out.low⟩
      | true =>
       simp only [cond_true]
       have v0 := cell_of_block (k := 0) (HS.out.blockAt 2 rfl) rfl
       have v1 := cell_of_block (k := 1) (HS.out.blockAt 2 rfl) rfl
       have v2 := cell_of_block (k := 2) (HS.out.blockAt 2 rfl) rfl
       go_wp2_with fail
       clear v0 v1 v2 hlt
       have HRD := Lib.hid (show rimD (8 * (C.wide : Int)) (8 * (C.high : Int)) ks = R by
        rw [← rim_plain HC.out.ok (by unfold rimOk; rw [HRB.out, HAB.out]; rfl)]
        exact HRR.out.1)
       have hrd := refRim_any C HC.out.ok _ a5 m c5 ks HLM.out (by have := HMB.out; omega) HRB.out HAB.out wr HV.out (HS.out.elems 1 rfl)
       rw [HRD.out] at hrd
       refine hrd.mono ?_
       clear hrd
       rintro e w12 ⟨v12, rfl, hr12, hb12⟩
       have hn12 := ownsRow_rows encP_len hr12
       obtain ⟨a12, c12, rfl⟩ : ∃ a12 c12, v12 = .slice a12 R.length c12 := by
        rcases hr12.2 with ⟨h1, h0⟩ | ⟨g', cp, cur, h1, _⟩
        · exact ⟨none, 0, by rw [h1, h0]⟩
        · exact ⟨_, cp, h1⟩
       rw [HRR.out.2.1] at hn12 ⊢
       have HS := Lib.hid ((HS.out.below hb12).addRow hn12)
       have HC := Lib.hid (HC.out.below hb12)
       have HV := Lib.hid (HV.out.below hb12)
       clear hr12 hn12 hb12
       go_wp2_with fail
       refine (eqP_same _ _ R nr HRR.out.2.1 _ (HS.out.elems 1 rfl) (HS.out.elems 0 rfl) (by have := HRR.out.2.2; omega)).mono ?_
       rintro e w13 ⟨rfl, hb_⟩
       have HS := Lib.hid (HS.out.below hb_)
       have HC := Lib.hid (HC.out.below hb_)
       have HV := Lib.hid (HV.out.below hb_)
       clear hb_
       go_wp2_with fail
       have HS := Lib.hid HS.out.drop1
       have HON := Lib.hid (fun q w' h => refOn_any C HC.out.ok (.agg #[.int .i64 C.wide, .int .i64 C.high, .slice a3 C.tiles.length c3]) q w' h)
       have HK := Lib.hid (show Kp w13 w13 from Below.refl _ _)
       go_loopw [96] (fun i wr => ∃ j : Nat, j ≤ 5 ∧ i = .int .i64 (j : Int) ∧ Kp w13 wr) (fun i _ => 6 - (intOf i).toNat)
       case atStart => exact ⟨0, by omega, rfl, HK.out⟩
       case round =>
        obtain ⟨j, hj, rfl, hb⟩ := hrel
        have HS := Lib.hid (HS.out.below hb)
        have HC := Lib.hid (HC.out.below hb)
        have HV := Lib.hid (HV.out.below hb)
        have HK := Lib.hid hb
        clear hb
        by_cases hlt : j < nf
        · obtain ⟨x, hx⟩ : ∃ x, fs[j]? = some x := ⟨_, List.getElem?_eq_getElem (by rw [HFL.out]; exact hlt)⟩
          obtain ⟨bb, off, rfl, hbb, c0, c1, c2, c3, c4⟩ := i5Cells HFL.out (HS.out.elems 4 rfl) j x hx
          obtain ⟨fx, fy, tx, ty, tt⟩ := x
          simp only at c0 c1 c2 c3 c4
          clear hx hbb
          repeat ((fail_if_success (with_reducible refine stop_at (id := 25) ?_)); (first | go_values | go_skip | go_guarded | go_step | go_upon | go_back | (simp only [Int.not_lt, Int.not_le] at *; go_simp) | (go_values <;> (try go_simp)) | (go_ite <;> go_prune <;> (try go_simp)) | (split <;> (first | (rename_i hx; exact (hx _ rfl).elim) | go_prune))))
          clear c0 c1 c2 c3 c4 hlt
          have hs_ := HS.out.alloc (.cells #[.int .i64 fx, .int .i64 fy, .int .i64 tx, .int .i64 ty, .int .i64 tt] 44)
          have hk_HC := HC.out.below ((Below.refl _ _).alloc (Nat.le_refl _) (.cells #[.int .i64 fx, .int .i64 fy, .int .i64 tx, .int .i64 ty, .int .i64 tt] 44))
          have hk_HV := HV.out.below ((Below.refl _ _).alloc (Nat.le_refl _) (.cells #[.int .i64 fx, .int .i64 fy, .int .i64 tx, .int .i64 ty, .int .i64 tt] 44))
          have hk_HK := HK.out.below ((Below.refl _ _).alloc (Nat.le_refl _) (.cells #[.int .i64 fx, .int .i64 fy, .int .i64 tx, .int .i64 ty, .int .i64 tt] 44))
          obtain ⟨w19, hw_⟩ : ∃ w19 : World, wr.alloc (.cells #[.int .i64 fx, .int .i64 fy, .int .i64 tx, .int .i64 ty, .int .i64 tt] 44) = w19 := ⟨_, rfl⟩
          rw [hw_] at hs_ hk_HC hk_HV hk_HK
          have HS := Lib.hid hs_
          have HC := Lib.hid hk_HC
          have HV := Lib.hid hk_HV
          have HK := Lib.hid hk_HK
          rw [hw_]
          clear hw_ hs_ hk_HC hk_HV hk_HK
          by_cases h5 : j = 5
          · subst h5
            go_wp2_with fail
            refine (rim_nil _ _).mono ?_
            rintro e w20 ⟨rfl, hb_⟩
            have HS := Lib.hid (HS.out.below hb_)
            clear hb_
            go_wp2_with fail
            refine (steps_nil ⟨0, 0⟩ ⟨0, 0⟩ 0 _).mono ?_
            rintro e w21 ⟨rfl, hb_⟩
            have HS := Lib.hid (HS.out.below hb_)
            clear hb_
            go_wp2_with fail
            go_ret
            exact ⟨rfl, HS.out.low⟩
          · have HJ := Lib.hid (show j + 1 ≤ 5 by omega)
            have HE := Lib.hid (wrap_succ (n := j) (by omega))
            have hd : decide ((j : Int) = 5) = false := decide_eq_false (by omega)
            have h5' : ¬ ((j : Int) = 5) := by omega
            repeat ((fail_if_success (with_reducible refine stop_at (id := 26) ?_)); (first | go_values | go_skip | go_guarded | go_step | go_upon | go_back | (simp only [Int.not_lt, Int.not_le] at *; go_simp) | (go_values <;> (try go_simp)) | (go_ite <;> go_prune <;> (try go_simp)) | (split <;> (first | (rename_i hx; exact (hx _ rfl).elim) | go_prune))))
            clear hd h5 h5' hj
            refine (wpIn_wide (n := 0)).1 ?_
            apply wp_region_slots 16 [⟨12, 14, 19, .cells #[.int .i64 0, .int .i64 0] 41 (0, 0), .cells #[.int .i64 fx, .int .i64 fy] 41 (0, 0)⟩, ⟨13, 15, 20, .cells #[.int .i64 0, .int .i64 0] 41 (0, 0), .cells #[.int .i64 tx, .int .i64 ty] 41 (0, 0)⟩] _ (Rl := [(eqv _), (eqv _), (eqv _), (eqv _), (eqv _), (eqv _), (eqv _), (eqv _), (eqv _), (eqv _), (eqv _), (eqv _), (fun _ _ => True), (fun _ _ => True), (fun _ _ => True), (fun _ _ => True)])
            case hm => kernel_rfl
            case hk => rfl
            case hst => exact ⟨fun _ _ _ _ h => h, fun _ _ _ _ h => h, fun _ _ _ _ h => h, fun _ _ _ _ h => h, fun _ _ _ _ h => h, fun _ _ _ _ h => h, fun _ _ _ _ h => h, fun _ _ _ _ h => h, fun _ _ _ _ h => h, fun _ _ _ _ h => h, fun _ _ _ _ h => h, fun _ _ _ _ h => h, fun _ _ _ _ h => h, fun _ _ _ _ h => h, fun _ _ _ _ h => h, fun _ _ _ _ h => h, trivial⟩
            case hfo => kernel_rfl
            case ht => kernel_rfl
            case hN => exact Nat.le_refl _
            case hok => kernel_rfl
            case hsk => intro s hs; simp only [List.mem_cons, List.not_mem_nil, or_false] at hs; rcases hs with rfl | rfl <;> exact ⟨Nat.le_of_ble_eq_true rfl, Nat.le_of_ble_eq_true rfl⟩
            case hsteps =>
             refine ⟨?_, ?_, ?_, ?_, ?_, ?_, ?_, ?_, ?_, ?_, ?_, ?_, ?_, ?_, ?_, ?_, trivial⟩
             · intro l_ a' w' hA hC hJ hN hB hD; have s18 : a'.tmps[18]? = some _ := (hA.at 18 (by kernel_rfl)).trans rfl; clear hA hD; refine stepOkT_plain rfl ?_; intro K hK; gi_wp2; exact hK _ _ rfl (Below.refl _ _) (SlT.plainB rfl (Below.refl _ _))
             · intro l_ a' w' hA hC hJ hN hB hD; obtain ⟨u103, s103, r103⟩ := hD ⟨0, .data⟩ (by simp) rfl _ rfl; replace r103 : u103 = _ := r103; subst r103
               have z0 := cell_of_block (k := 0) ((HS.out.below hC).blockAt 0 rfl) rfl
               clear hA hD; refine stepOkT_plain rfl ?_; intro K hK; gi_wp2; exact hK _ _ rfl (Below.refl _ _) (SlT.plainB rfl (Below.refl _ _))
             · intro l_ a' w' hA hC hJ hN hB hD; have s18 : a'.tmps[18]? = some _ := (hA.at 18 (by kernel_rfl)).trans rfl; clear hA hD; refine stepOkT_plain rfl ?_; intro K hK; gi_wp2; exact hK _ _ rfl (Below.refl _ _) (SlT.plainB rfl (Below.refl _ _))
             · intro l_ a' w' hA hC hJ hN hB hD; obtain ⟨u105, s105, r105⟩ := hD ⟨2, .data⟩ (by simp) rfl _ rfl; replace r105 : u105 = _ := r105; subst r105
               have z0 := cell_of_block (k := 1) ((HS.out.below hC).blockAt 0 rfl) rfl
               clear hA hD; refine stepOkT_plain rfl ?_; intro K hK; gi_wp2; exact hK _ _ rfl (Below.refl _ _) (SlT.plainB rfl (Below.refl _ _))
             · intro l_ a' w' hA hC hJ hN hB hD; obtain ⟨u104, s104, r104⟩ := hD ⟨1, .data⟩ (by simp) rfl _ rfl; replace r104 : u104 = _ := r104; subst r104; obtain ⟨u106, s106, r106⟩ := hD ⟨3, .data⟩ (by simp) rfl _ rfl; replace r106 : u106 = _ := r106; subst r106; clear hA hD; refine stepOkT_plain rfl ?_; intro K hK; gi_wp2; exact hK _ _ rfl (Below.refl _ _) (SlT.plainB rfl (Below.refl _ _))
             · intro l_ a' w' hA hC hJ hN hB hD; have s18 : a'.tmps[18]? = some _ := (hA.at 18 (by kernel_rfl)).trans rfl; clear hA hD; refine stepOkT_plain rfl ?_; intro K hK; gi_wp2; exact hK _ _ rfl (Below.refl _ _) (SlT.plainB rfl (Below.refl _ _))
             · intro l_ a' w' hA hC hJ hN hB hD; obtain ⟨u108, s108, r108⟩ := hD ⟨5, .data⟩ (by simp) rfl _ rfl; replace r108 : u108 = _ := r108; subst r108
               have z0 := cell_of_block (k := 2) ((HS.out.below hC).blockAt 0 rfl) rfl
               clear hA hD; refine stepOkT_plain rfl ?_; intro K hK; gi_wp2; exact hK _ _ rfl (Below.refl _ _) (SlT.plainB rfl (Below.refl _ _))
             · intro l_ a' w' hA hC hJ hN hB hD; have s18 : a'.tmps[18]? = some _ := (hA.at 18 (by kernel_rfl)).trans rfl; clear hA hD; refine stepOkT_plain rfl ?_; intro K hK; gi_wp2; exact hK _ _ rfl (Below.refl _ _) (SlT.plainB rfl (Below.refl _ _))
             · intro l_ a' w' hA hC hJ hN hB hD; obtain ⟨u110, s110, r110⟩ := hD ⟨7, .data⟩ (by simp) rfl _ rfl; replace r110 : u110 = _ := r110; subst r110
               have z0 := cell_of_block (k := 3) ((HS.out.below hC).blockAt 0 rfl) rfl
               clear hA hD; refine stepOkT_plain rfl ?_; intro K hK; gi_wp2; exact hK _ _ rfl (Below.refl _ _) (SlT.plainB rfl (Below.refl _ _))
             · intro l_ a' w' hA hC hJ hN hB hD; obtain ⟨u109, s109, r109⟩ := hD ⟨6, .data⟩ (by simp) rfl _ rfl; replace r109 : u109 = _ := r109; subst r109; obtain ⟨u111, s111, r111⟩ := hD ⟨8, .data⟩ (by simp) rfl _ rfl; replace r111 : u111 = _ := r111; subst r111; clear hA hD; refine stepOkT_plain rfl ?_; intro K hK; gi_wp2; exact hK _ _ rfl (Below.refl _ _) (SlT.plainB rfl (Below.refl _ _))
             · intro l_ a' w' hA hC hJ hN hB hD; have s18 : a'.tmps[18]? = some _ := (hA.at 18 (by kernel_rfl)).trans rfl; clear hA hD; refine stepOkT_plain rfl ?_; intro K hK; gi_wp2; exact hK _ _ rfl (Below.refl _ _) (SlT.plainB rfl (Below.refl _ _))
             · intro l_ a' w' hA hC hJ hN hB hD; obtain ⟨u113, s113, r113⟩ := hD ⟨10, .data⟩ (by simp) rfl _ rfl; replace r113 : u113 = _ := r113; subst r113
               have z0 := cell_of_block (k := 4) ((HS.out.below hC).blockAt 0 rfl) rfl
               clear hA hD; refine stepOkT_plain rfl ?_; intro K hK; gi_wp2; exact hK _ _ rfl (Below.refl _ _) (SlT.plainB rfl (Below.refl _ _))
             · intro l_ a' w' hA hC hJ hN hB hD; clear hA hD; refine stepOkT_plain rfl ?_; intro K hK; gi_wp2; exact hK _ _ trivial ((Below.refl _ _).alloc hC.size _) (SlT.alloc (by intro t ht e; simp only [List.mem_cons, List.not_mem_nil, or_false] at ht; rcases ht with rfl | rfl <;> first | rfl | (exact absurd e (Nat.ne_of_beq_eq_false rfl))) (by intro t ht; simp only [List.mem_cons, List.not_mem_nil, or_false] at ht; rcases ht with rfl | rfl <;> exact Nat.ne_of_beq_eq_false rfl))
             · intro l_ a' w' hA hC hJ hN hB hD; clear hA hD; refine stepOkT_plain rfl ?_; intro K hK; gi_wp2; exact hK _ _ trivial ((Below.refl _ _).alloc hC.size _) (SlT.alloc (by intro t ht e; simp only [List.mem_cons, List.not_mem_nil, or_false] at ht; rcases ht with rfl | rfl <;> first | rfl | (exact absurd e (Nat.ne_of_beq_eq_false rfl))) (by intro t ht; simp only [List.mem_cons, List.not_mem_nil, or_false] at ht; rcases ht with rfl | rfl <;> exact Nat.ne_of_beq_eq_false rfl))
             · intro l_ a' w' hA hC hJ hN hB hD; obtain ⟨u19, s19, r19⟩ := hD ⟨12, .data⟩ (by simp) rfl _ rfl; replace r19 : (fun _ _ => True) u19 w' := r19; obtain ⟨u107, s107, r107⟩ := hD ⟨4, .data⟩ (by simp) rfl _ rfl; replace r107 : u107 = _ := r107; subst r107
               obtain ⟨b19, n19, t19, o19⟩ := hJ.at_ _ (List.mem_of_getElem? (i := 0) rfl) (hB ⟨12, .data⟩ (by simp) rfl)
               rw [show l_.getD 14 false = false from hN] at o19
               replace o19 : w'.heap[b19]? = some (.cells #[.int .i64 0, .int .i64 0] 41 (0, 0)) := o19
               obtain rfl : u19 = ptrB b19 := Option.some.inj (s19.symm.trans t19)
               clear r19
               obtain ⟨b20, n20, t20, o20⟩ := hJ.at_ _ (List.mem_of_getElem? (i := 1) rfl) (hB ⟨13, .phase⟩ (by simp) rfl)
               clear hA hD; refine stepOkT_plain rfl ?_; intro K hK
               have f19 := free_of_block o19
               have c19_0 := cell_of_block (k := 0) o19 rfl
               have c19_1 := cell_of_block (k := 1) o19 rfl
               have f19_0 := f19 0
               have f19_1 := f19 1
               clear f19; unfold ptrB at s19 t19; gi_wp2; exact hK undef _ trivial (by repeat (first | exact Below.refl _ _ | refine Below.setCell ?_ (by omega) _)) (SlT.store _ (by intro t ht e; simp only [List.mem_cons, List.not_mem_nil, or_false] at ht; rcases ht with rfl | rfl <;> first | rfl | (exact absurd e (Nat.ne_of_beq_eq_false rfl))) (by intro t ht; simp only [List.mem_cons, List.not_mem_nil, or_false] at ht; rcases ht with rfl | rfl <;> exact Nat.ne_of_beq_eq_false rfl) (List.mem_of_getElem? (i := 0) rfl) rfl b19 (by unfold envOf; rw [t19]; rfl) (heap_set_same (heap_set_same o19 _) _) (by intro k hk; repeat (first | rfl | refine (Below.heap_setCell _ _ _ k (by simpa using hk)).trans ?_)))
             · intro l_ a' w' hA hC hJ hN hB hD; obtain ⟨u20, s20, r20⟩ := hD ⟨13, .data⟩ (by simp) rfl _ rfl; replace r20 : (fun _ _ => True) u20 w' := r20; obtain ⟨u112, s112, r112⟩ := hD ⟨9, .data⟩ (by simp) rfl _ rfl; replace r112 : u112 = _ := r112; subst r112
               obtain ⟨b19, n19, t19, o19⟩ := hJ.at_ _ (List.mem_of_getElem? (i := 0) rfl) (hB ⟨12, .phase⟩ (by simp) rfl)
               obtain ⟨b20, n20, t20, o20⟩ := hJ.at_ _ (List.mem_of_getElem? (i := 1) rfl) (hB ⟨13, .data⟩ (by simp) rfl)
               rw [show l_.getD 15 false = false from hN] at o20
               replace o20 : w'.heap[b20]? = some (.cells #[.int .i64 0, .int .i64 0] 41 (0, 0)) := o20
               obtain rfl : u20 = ptrB b20 := Option.some.inj (s20.symm.trans t20)
               clear r20
               clear hA hD; refine stepOkT_plain rfl ?_; intro K hK
               have f20 := free_of_block o20
               have c20_0 := cell_of_block (k := 0) o20 rfl
               have c20_1 := cell_of_block (k := 1) o20 rfl
               have f20_0 := f20 0
               have f20_1 := f20 1
               clear f20; unfold ptrB at s20 t20; gi_wp2; exact hK undef _ trivial (by repeat (first | exact Below.refl _ _ | refine Below.setCell ?_ (by omega) _)) (SlT.store _ (by intro t ht e; simp only [List.mem_cons, List.not_mem_nil, or_false] at ht; rcases ht with rfl | rfl <;> first | rfl | (exact absurd e (Nat.ne_of_beq_eq_false rfl))) (by intro t ht; simp only [List.mem_cons, List.not_mem_nil, or_false] at ht; rcases ht with rfl | rfl <;> exact Nat.ne_of_beq_eq_false rfl) (List.mem_of_getElem? (i := 1) rfl) rfl b20 (by unfold envOf; rw [t20]; rfl) (heap_set_same (heap_set_same o20 _) _) (by intro k hk; repeat (first | rfl | refine (Below.heap_setCell _ _ _ k (by simpa using hk)).trans ?_)))
            case hend =>
             intro w20 hC
             simp only [EndFrom, eqv, forall_eq, Act.put, List.length_cons, List.length_nil, List.drop_succ_cons, List.drop_zero, Nat.reduceAdd, List.setIfInBounds_toArray, List.set_cons_succ, List.set_cons_zero]
             have HS := Lib.hid (HS.out.below hC)
             have HC := Lib.hid (HC.out.below hC)
             have HV := Lib.hid (HV.out.below hC)
             have HK := Lib.hid (HK.out.below hC)
             clear hC
             intro p19 _ p20 _ p21 _ p22 _ hE
             obtain ⟨b19, -, hb19, ho19⟩ := hE.1 _ (List.mem_of_getElem? (i := 0) rfl)
             obtain ⟨b20, -, hb20, ho20⟩ := hE.1 _ (List.mem_of_getElem? (i := 1) rfl)
             obtain rfl : p19 = ptrB b19 := Option.some.inj hb19
             obtain rfl : p20 = ptrB b20 := Option.some.inj hb20
             have HP := Lib.hid (BlkAt.mk ho19)
             have HQ := Lib.hid (BlkAt.mk ho20)
             clear hE hb19 hb20 ho19 ho20
             unfold ptrB
             gi_wp2
             have q0 := cell_of_block (k := 0) HP.out.at_ rfl
             have q1 := cell_of_block (k := 1) HP.out.at_ rfl
             have r0 := cell_of_block (k := 0) HQ.out.at_ rfl
             have r1 := cell_of_block (k := 1) HQ.out.at_ rfl
             have HST := Lib.hid (steps_any C p ⟨fx, fy⟩ ⟨tx, ty⟩ tt w20 HC.out)
             obtain ⟨s1, hs1⟩ : ∃ s1, (stepsR C ⟨fx, fy⟩ ⟨tx, ty⟩ tt).1 = s1 := ⟨_, rfl⟩
             obtain ⟨s2, hs2⟩ : ∃ s2, (stepsR C ⟨fx, fy⟩ ⟨tx, ty⟩ tt).2 = s2 := ⟨_, rfl⟩
             rw [hs1, hs2] at HST
             have HSS := Lib.hid (And.intro hs1 hs2)
             simp only [PtT.val] at HST
             clear hs1 hs2
             go_wp2_with fail
             clear q0 q1 r0 r1
             refine (HST.out).mono ?_
             rintro e w21 ⟨rfl, hb_⟩
             have HS := Lib.hid (HS.out.below hb_)
             have HC := Lib.hid (HC.out.below hb_)
             have HV := Lib.hid (HV.out.below hb_)
             have HK := Lib.hid (HK.out.below hb_)
             have HP := Lib.hid (HP.out.below hb_)
             have HQ := Lib.hid (HQ.out.below hb_)
             clear hb_
             go_wp2_with fail
             have HTT := Lib.hid (refTol_any tt w21)
             obtain ⟨tb, htb⟩ : ∃ tb, tolB tt = tb := ⟨_, rfl⟩
             rw [htb] at HTT
             have HTB := Lib.hid htb
             clear htb
             refine (HTT.out).mono ?_
             rintro e w22 ⟨rfl, hb_⟩
             have HS := Lib.hid (HS.out.below hb_)
             have HC := Lib.hid (HC.out.below hb_)
             have HV := Lib.hid (HV.out.below hb_)
             have HK := Lib.hid (HK.out.below hb_)
             have HP := Lib.hid (HP.out.below hb_)
             have HQ := Lib.hid (HQ.out.below hb_)
             clear hb_
             cases tb with
             | false =>
              have hss := HSS.out
              unfold stepsR at hss
              rw [HTB.out] at hss
              simp only [cond_false] at hss
              obtain ⟨rfl, rfl⟩ := hss
              go_wp2_with fail
              go_roundw
              case rel => exact ⟨j + 1, HJ.out, congrArg (Value.int .i64) HE.out, HK.out⟩
              case measure => rw [HE.out]; have := HJ.out; simp only [intOf]; omega
             | true =>
              have HTN := Lib.hid (of_decide_eq_true (show decide (0 ≤ tt ∧ tt ≤ 1020) = true from HTB.out)).1
              have HO1 := Lib.hid (HON.out ⟨fx, fy⟩)
              have HO2 := Lib.hid (HON.out ⟨tx, ty⟩)
              obtain ⟨b1, hb1⟩ : ∃ b1, onC C ⟨fx, fy⟩ = b1 := ⟨_, rfl⟩
              obtain ⟨b2, hb2⟩ : ∃ b2, onC C ⟨tx, ty⟩ = b2 := ⟨_, rfl⟩
              have HB1 := Lib.hid hb1
              have HB2 := Lib.hid hb2
              unfold onC at hb1 hb2
              rw [hb1] at HO1
              rw [hb2] at HO2
              simp only [PtT.val] at HO1 HO2
              clear hb1 hb2
              have v0 := cell_of_block (k := 0) (HS.out.blockAt 3 rfl) rfl
              have v1 := cell_of_block (k := 1) (HS.out.blockAt 3 rfl) rfl
              have v2 := cell_of_block (k := 2) (HS.out.blockAt 3 rfl) rfl
              have q0 := cell_of_block (k := 0) HP.out.at_ rfl
              have q1 := cell_of_block (k := 1) HP.out.at_ rfl
              go_wp2_with fail
              clear v0 v1 v2 q0 q1
              refine (HO1.out _ HV.out).mono ?_
              rintro e w23 ⟨rfl, hb_⟩
              have HS := Lib.hid (HS.out.below hb_)
              have HC := Lib.hid (HC.out.below hb_)
              have HV := Lib.hid (HV.out.below hb_)
              have HK := Lib.hid (HK.out.below hb_)
              have HP := Lib.hid (HP.out.below hb_)
              have HQ := Lib.hid (HQ.out.below hb_)
              clear hb_
              cases b1 with
              | false =>
               have hss := HSS.out
               unfold stepsR at hss
               rw [HTB.out, HB1.out] at hss
               simp only [cond_true, Bool.false_and, cond_false] at hss
               obtain ⟨rfl, rfl⟩ := hss
               go_wp2_with fail
               go_roundw
               case rel => exact ⟨j + 1, HJ.out, congrArg (Value.int .i64) HE.out, HK.out⟩
               case measure => rw [HE.out]; have := HJ.out; simp only [intOf]; omega
              | true =>
               have v0 := cell_of_block (k := 0) (HS.out.blockAt 3 rfl) rfl
               have v1 := cell_of_block (k := 1) (HS.out.blockAt 3 rfl) rfl
               have v2 := cell_of_block (k := 2) (HS.out.blockAt 3 rfl) rfl
               have q0 := cell_of_block (k := 0) HQ.out.at_ rfl
               have q1 := cell_of_block (k := 1) HQ.out.at_ rfl
               go_wp2_with fail
               clear v0 v1 v2 q0 q1
               refine (HO2.out _ HV.out).mono ?_
               rintro e w24 ⟨rfl, hb_⟩
               have HS := Lib.hid (HS.out.below hb_)
               have HC := Lib.hid (HC.out.below hb_)
               have HV := Lib.hid (HV.out.below hb_)
               have HK := Lib.hid (HK.out.below hb_)
               have HP := Lib.hid (HP.out.below hb_)
               have HQ := Lib.hid (HQ.out.below hb_)
               clear hb_
               cases b2 with
               | false =>
                have hss := HSS.out
                unfold stepsR at hss
                rw [HTB.out, HB1.out, HB2.out] at hss
                simp only [cond_true, Bool.false_and, Bool.and_false, cond_false] at hss
                obtain ⟨rfl, rfl⟩ := hss
                go_wp2_with fail
                go_roundw
                case rel => exact ⟨j + 1, HJ.out, congrArg (Value.int .i64) HE.out, HK.out⟩
                case measure => rw [HE.out]; have := HJ.out; simp only [intOf]; omega
               | true =>
                obtain ⟨X, Y, hX, hY, hX2, hY2⟩ : ∃ X Y : Nat, tx = (X : Int) ∧ ty = (Y : Int) ∧ X < 32 ∧ Y < 32 := by
                 have h1 := onB_iff.1 HB2.out
                 have h2 := HC.out.ok.wide
                 have h3 := HC.out.ok.high
                 simp only at h1
                 exact ⟨tx.toNat, ty.toNat, by omega, by omega, by omega, by omega⟩
                subst hX hY
                have hgr := fun w' h => refGrown_any C HC.out.ok (.agg #[.int .i64 C.wide, .int .i64 C.high, .slice a3 C.tiles.length c3]) ⟨fx, fy⟩ tt (fun _ => 0) HB1.out rfl HTN.out w' h
                rw [pastB_zero] at hgr
                have HGR := Lib.hid (show ∀ w', CanV w' C (.agg #[.int .i64 C.wide, .int .i64 C.high, .slice a3 C.tiles.length c3]) → Calls Try.prog 15 #[.agg #[.int .i64 C.wide, .int .i64 C.high, .slice a3 C.tiles.length c3], .agg #[.int .i64 fx, .int .i64 fy], .int .i64 tt, .agg (fldA fun _ => 0)] w' (Gives (.agg (fldA (metC C ⟨fx, fy⟩ tt))) w') from hgr)
                clear hgr
                have hmle := metC_le HC.out.ok HB1.out HTN.out (Y * 32 + X)
                have hix : ixP ⟨(X : Int), (Y : Int)⟩ = Y * 32 + X := by unfold ixP; simp only; omega
                have hss := HSS.out
                unfold stepsR at hss
                rw [HTB.out, HB1.out, HB2.out, hix] at hss
                simp only [cond_true, Bool.true_and] at hss
                obtain ⟨m, hm⟩ : ∃ m, metC C ⟨fx, fy⟩ tt = m := ⟨_, rfl⟩
                obtain ⟨mv, hmv⟩ : ∃ mv, m (Y * 32 + X) = mv := ⟨_, rfl⟩
                rw [hm] at HGR hmle hss
                rw [hmv] at hmle hss
                have HM := Lib.hid (And.intro hmle hss)
                have HIX := Lib.hid (And.intro (fun w => run_index_row m Y hY2 w) (fun w => show (Instr.index 48 (.agg (fldRow m Y)) (.int .i64 (X : Int))).run Try.prog w = .ok (.int .i64 mv) w by have h := run_index_cell m Y X hY2 hX2 w; rw [hmv] at h; exact h))
                clear hmle hss hm hmv hix hX2 hY2
                go_wp2_with fail
                refine (wpIn_wide (n := 0)).1 ?_
                apply wp_region_vals 11 (Rl := [(eqv _), (eqv _), (eqv _), (eqv _), (eqv _), (eqv _), (eqv _), (eqv _), (eqv _), (eqv _), (eqv _)]) (C := (fun x y => Below x.heap.size x y))
                case hm => kernel_rfl
                case hk => rfl
                case hCr => exact (fun _ => Below.refl _ _)
                case hCt => intro _ _ _; exact (fun h k => grows_trans h k)
                case hst => exact ⟨fun _ _ _ _ h => h, fun _ _ _ _ h => h, fun _ _ _ _ h => h, fun _ _ _ _ h => h, fun _ _ _ _ h => h, fun _ _ _ _ h => h, fun _ _ _ _ h => h, fun _ _ _ _ h => h, fun _ _ _ _ h => h, fun _ _ _ _ h => h, fun _ _ _ _ h => h, trivial⟩
                case hfo => kernel_rfl
                case ht => kernel_rfl
                case hC0 => exact (grows_drew _)
                case hsteps =>
                 refine ⟨?_, ?_, ?_, ?_, ?_, ?_, ?_, ?_, ?_, ?_, ?_, trivial⟩
                 · intro a' w' hA hC hD; have s8 : a'.tmps[8]? = some _ := (hA.at 8 (by kernel_rfl)).trans rfl
                   have v0 := cell_of_block (k := 0) ((HS.out.below hC).blockAt 3 rfl) rfl; have v1 := cell_of_block (k := 1) ((HS.out.below hC).blockAt 3 rfl) rfl; have v2 := cell_of_block (k := 2) ((HS.out.below hC).blockAt 3 rfl) rfl
                   clear hA hD; refine stepOk_plain rfl ?_; intro K hK; gi_wp2; exact hK _ _ rfl ((fun _ => Below.refl _ _) _)
                 · intro a' w' hA hC hD; have s19 : a'.tmps[19]? = some _ := (hA.at 19 (by kernel_rfl)).trans rfl
                   have q0 := cell_of_block (k := 0) (HP.out.below hC).at_ rfl; have q1 := cell_of_block (k := 1) (HP.out.below hC).at_ rfl
                   clear hA hD; refine stepOk_plain rfl ?_; intro K hK; gi_wp2; exact hK _ _ rfl ((fun _ => Below.refl _ _) _)
                 · intro a' w' hA hC hD; have s21 : a'.tmps[21]? = some _ := (hA.at 21 (by kernel_rfl)).trans rfl; clear hA hD; refine stepOk_plain rfl ?_; intro K hK; gi_wp2; exact hK _ _ rfl ((fun _ => Below.refl _ _) _)
                 · intro a' w' hA hC hD; clear hA hD; refine stepOk_plain rfl ?_; intro K hK
                   refine opIn_build _ _ rfl _ (by simpa using built_field0) ?_; exact hK _ _ rfl (Below.refl _ _)
                 · intro a' w' hA hC hD; obtain ⟨u133, s133, r133⟩ := hD ⟨0, .data⟩ (by simp) rfl _ rfl; replace r133 : u133 = _ := r133; subst r133; obtain ⟨u134, s134, r134⟩ := hD ⟨1, .data⟩ (by simp) rfl _ rfl; replace r134 : u134 = _ := r134; subst r134; obtain ⟨u135, s135, r135⟩ := hD ⟨2, .data⟩ (by simp) rfl _ rfl; replace r135 : u135 = _ := r135; subst r135; obtain ⟨u136, s136, r136⟩ := hD ⟨3, .data⟩ (by simp) rfl _ rfl; replace r136 : u136 = _ := r136; subst r136; clear hA hD; refine stepOk_plain rfl ?_; intro K hK
                   gi_wp2_with fail; refine (callsIn_wide.2 (HGR.out _ (HV.out.below hC))).mono ?_; rintro e w2 ⟨rfl, hb⟩
                   exact hK _ _ rfl hb
                 · intro a' w' hA hC hD; have s20 : a'.tmps[20]? = some _ := (hA.at 20 (by kernel_rfl)).trans rfl; clear hA hD; refine stepOk_plain rfl ?_; intro K hK; gi_wp2; exact hK _ _ rfl ((fun _ => Below.refl _ _) _)
                 · intro a' w' hA hC hD; obtain ⟨u138, s138, r138⟩ := hD ⟨5, .data⟩ (by simp) rfl _ rfl; replace r138 : u138 = _ := r138; subst r138
                   have q1 := cell_of_block (k := 1) (HQ.out.below hC).at_ rfl
                   clear hA hD; refine stepOk_plain rfl ?_; intro K hK; gi_wp2; exact hK _ _ rfl ((fun _ => Below.refl _ _) _)
                 · intro a' w' hA hC hD; obtain ⟨u137, s137, r137⟩ := hD ⟨4, .data⟩ (by simp) rfl _ rfl; replace r137 : u137 = _ := r137; subst r137; obtain ⟨u139, s139, r139⟩ := hD ⟨6, .data⟩ (by simp) rfl _ rfl; replace r139 : u139 = _ := r139; subst r139
                   have hg := HIX.out.1
                   clear hA hD; refine stepOk_plain rfl ?_; intro K hK; gi_wp2; exact hK _ _ rfl ((fun _ => Below.refl _ _) _)
                 · intro a' w' hA hC hD; have s20 : a'.tmps[20]? = some _ := (hA.at 20 (by kernel_rfl)).trans rfl; clear hA hD; refine stepOk_plain rfl ?_; intro K hK; gi_wp2; exact hK _ _ rfl ((fun _ => Below.refl _ _) _)
                 · intro a' w' hA hC hD; obtain ⟨u141, s141, r141⟩ := hD ⟨8, .data⟩ (by simp) rfl _ rfl; replace r141 : u141 = _ := r141; subst r141
                   have q1 := cell_of_block (k := 0) (HQ.out.below hC).at_ rfl
                   clear hA hD; refine stepOk_plain rfl ?_; intro K hK; gi_wp2; exact hK _ _ rfl ((fun _ => Below.refl _ _) _)
                 · intro a' w' hA hC hD; obtain ⟨u140, s140, r140⟩ := hD ⟨7, .data⟩ (by simp) rfl _ rfl; replace r140 : u140 = _ := r140; subst r140; obtain ⟨u142, s142, r142⟩ := hD ⟨9, .data⟩ (by simp) rfl _ rfl; replace r142 : u142 = _ := r142; subst r142
                   have hg := HIX.out.2
                   clear hA hD; refine stepOk_plain rfl ?_; intro K hK; gi_wp2; exact hK _ _ rfl ((fun _ => Below.refl _ _) _)
                case hend =>
                 intro w25 hC
                 simp only [EndFrom, eqv, forall_eq, Act.put, List.length_cons, List.length_nil, List.drop_succ_cons, List.drop_zero, Nat.reduceAdd, List.setIfInBounds_toArray, List.set_cons_succ, List.set_cons_zero]
                 have HS := Lib.hid (HS.out.below hC)
                 have HC := Lib.hid (HC.out.below hC)
                 have HV := Lib.hid (HV.out.below hC)
                 have HK := Lib.hid (HK.out.below hC)
                 clear hC HP HQ
                 gi_wp2
                 by_cases hmp : 0 < mv
                 · have h1 : (0 : Int) < (mv : Int) := by omega
                   have h2 : wrap64 ((mv : Int) - 1) = (mv : Int) - 1 := by have := HM.out.1; unfold wrap64; omega
                   have hss := HM.out.2
                   rw [decide_eq_true hmp] at hss
                   simp only [cond_true] at hss
                   obtain ⟨rfl, rfl⟩ := hss
                   clear hmp
                   go_wp2_with fail
                   clear h1 h2
                   go_roundw
                   case rel => exact ⟨j + 1, HJ.out, congrArg (Value.int .i64) HE.out, HK.out⟩
                   case measure => rw [HE.out]; have := HJ.out; simp only [intOf]; omega
                 · obtain rfl : mv = 0 := by omega
                   have hss := HM.out.2
                   rw [decide_eq_false hmp] at hss
                   simp only [cond_false] at hss
                   obtain ⟨rfl, rfl⟩ := hss
                   clear hmp
                   go_wp2_with fail
                   go_roundw
                   case rel => exact ⟨j + 1, HJ.out, congrArg (Value.int .i64) HE.out, HK.out⟩
                   case measure => rw [HE.out]; have := HJ.out; simp only [intOf]; omega
        · go_wp2_with fail
          clear hlt
          refine (rim_nil _ _).mono ?_
          rintro e w20 ⟨rfl, hb_⟩
          have HS := Lib.hid (HS.out.below hb_)
          clear hb_
          go_wp2_with fail
          refine (steps_nil ⟨0, 0⟩ ⟨0, 0⟩ 0 _).mono ?_
          rintro e w21 ⟨rfl, hb_⟩
          have HS := Lib.hid (HS.out.below hb_)
          clear hb_
          go_wp2_with fail
          go_ret
          exact ⟨rfl, HS.out.low⟩
end Go.Proofs.Ytodpkgbpcpfamaa
