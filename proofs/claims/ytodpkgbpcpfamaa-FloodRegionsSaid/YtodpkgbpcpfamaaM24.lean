/- Merged texts: FlRe. -/
import Derived.Test.YtodpkgbpcpfamaaM20
import Derived.Test.YtodpkgbpcpfamaaM21
import Derived.Test.YtodpkgbpcpfamaaM22
import Derived.Test.YtodpkgbpcpfamaaM23
/- Layer 8: FloodRegions. -/
namespace Go.Proofs.Ytodpkgbpcpfamaa
set_option linter.unusedSimpArgs false
set_option linter.unusedVariables false
open Go.RowKit Go.Shelf
attribute [local go_sem] Oper.semAt_some
set_option maxRecDepth 100000 in
theorem fill_nil (p : PtT) (t : Int) (c : ColT) (w : World) : Calls Try.prog 17 #[.pointer none, p.val, .int .i64 t, c.val] w (Gives (.tuple #[.pointer none, .int .i64 1]) w) := by
 have HS := Lib.hid (St.start w)
 have HB := Lib.hid (fun w => begun_nil p t w)
 obtain ⟨x, y⟩ := p
 obtain ⟨r, g, b, al⟩ := c
 unfold PtT.val ColT.val at *
 simp only at HB
 go_enter Try.func17, Try.ntmps17
 repeat ((fail_if_success (with_reducible refine stop_at (id := 1) ?_)); (first | go_values | go_skip | go_guarded | go_step | go_upon | go_back | (simp only [Int.not_lt, Int.not_le] at *; go_simp) | (go_values <;> (try go_simp)) | (go_ite <;> go_prune <;> (try go_simp)) | (split <;> (first | (rename_i hx; exact (hx _ rfl).elim) | go_prune))))
 have hs_ := ((HS.out.alloc (.cells #[.int .i64 x, .int .i64 y] 41)).alloc (.cells #[.int .u8 r, .int .u8 g, .int .u8 b, .int .u8 al] 55))
 obtain ⟨w1, hw_⟩ : ∃ w1 : World, ((w.alloc (.cells #[.int .i64 x, .int .i64 y] 41)).alloc (.cells #[.int .u8 r, .int .u8 g, .int .u8 b, .int .u8 al] 55)) = w1 := ⟨_, rfl⟩
 rw [hw_] at hs_
 try simp only [World.size_alloc] at hs_
 have HS := Lib.hid hs_
 rw [hw_]
 clear hw_ hs_
 have k0 := cell_of_block (k := 0) (HS.out.blockAt 1 rfl) rfl
 have k1 := cell_of_block (k := 1) (HS.out.blockAt 1 rfl) rfl
 go_wp2_with fail
 refine (HB.out _).mono ?_
 rintro e w2 ⟨rfl, hb_⟩
 have HS := Lib.hid (HS.out.below hb_)
 clear hb_
 go_wp2_with fail
 refine bodyPost_ret (v := .tuple #[.pointer none, .int .i64 1]) (by simp [results, Try.results17, go_sem]) rfl ⟨rfl, HS.out.low⟩
structure I3 where
 a : Int
 b : Int
 t : Int
def encI3 (x : I3) : List Value := [.int .i64 x.a, .int .i64 x.b, .int .i64 x.t]
theorem encI3_len (x : I3) : (encI3 x).length = 3 := rfl
theorem i3Cells {w : World} {a : Option Addr} {n cap : Nat} {l : List I3} (hn : l.length = n) (h : Elems w (.slice a n cap) n 3 (rowC encI3 l)) (k : Nat) (x : I3) (hx : l[k]? = some x) :
 ∃ b off, a = some ⟨b, off, none⟩ ∧ b < w.heap.size ∧ w.cell? ⟨b, off + k * 3, none⟩ = some (.int .i64 x.a) ∧ w.cell? ⟨b, off + k * 3 + 1, none⟩ = some (.int .i64 x.b) ∧ w.cell? ⟨b, off + k * 3 + 2, none⟩ = some (.int .i64 x.t) := by
 subst hn
 have hk := (List.getElem?_eq_some_iff.1 hx).1
 obtain ⟨e, h0⟩ | ⟨b, off, cap', e, hlt, hc⟩ := h
 · omega
 · cases e
   have g := rowElem encI3_len hc hx
   exact ⟨b, off, rfl, hlt, by simpa using g 0 _ rfl, g 1 _ rfl, g 2 _ rfl⟩

set_option maxRecDepth 100000 in
set_option maxHeartbeats 16000000 in
theorem floodRegions_any (wide high : Int) (a : Option Addr) (n cap : Nat) (ts : List TileT) (hl : ts.length = n) (hc : n ≤ cap) (hc2 : cap ≤ 9223372036854775807) (hcol : ∀ t ∈ ts, ∀ c ∈ t.1, okC c)
 (fa : Option Addr) (nf cf : Nat) (fs : List I3) (hfl : fs.length = nf) (col : ColT) (hcc : okC col)
 (w : World) (he : Elems w (.slice a n cap) n 256 (rowC encT ts)) (hef : Elems w (.slice fa nf cf) nf 3 (rowC encI3 fs)) :
 Calls Try.prog 4 #[.agg #[.int .i64 wide, .int .i64 high, .slice a n cap], .slice fa nf cf, col.val] w (Gives (.bool true) w) := by
 have HS := Lib.hid ((St.start w).addRow hef)
 have HFL := Lib.hid hfl
 have HOF := Lib.hid (fun w' (hb : Below w.heap.size w w') => lawOf_doc wide high a n cap ts hl hc hc2 hcol w' (he.below hb))
 obtain ⟨ok, hok⟩ : ∃ ok, okE wide high (ts.take 17).length = ok := ⟨_, rfl⟩
 obtain ⟨C, hC⟩ : ∃ C : CanT, (⟨wide.toNat, high.toNat, ts.take 17⟩ : CanT) = C := ⟨_, rfl⟩
 rw [hok, hC] at HOF
 obtain ⟨cr, cg, cb, ca⟩ := col
 have HOC := Lib.hid hcc
 unfold ColT.val
 simp only
 clear hl hc hc2 hcol he hef hok hC hfl hcc
 go_enter Try.func4, Try.ntmps4
 repeat ((fail_if_success (with_reducible refine stop_at (id := 1) ?_)); (first | go_values | go_skip | go_guarded | go_step | go_upon | go_back | (simp only [Int.not_lt, Int.not_le] at *; go_simp) | (go_values <;> (try go_simp)) | (go_ite <;> go_prune <;> (try go_simp)) | (split <;> (first | (rename_i hx; exact (hx _ rfl).elim) | go_prune))))
 have hs_ := ((HS.out.alloc (.cells #[.int .i64 wide, .int .i64 high, .slice a n cap] 24)).alloc (.cells #[.int .u8 cr, .int .u8 cg, .int .u8 cb, .int .u8 ca] 55))
 obtain ⟨w1, hw_⟩ : ∃ w1 : World, ((w.alloc (.cells #[.int .i64 wide, .int .i64 high, .slice a n cap] 24)).alloc (.cells #[.int .u8 cr, .int .u8 cg, .int .u8 cb, .int .u8 ca] 55)) = w1 := ⟨_, rfl⟩
 rw [hw_] at hs_
 try simp only [World.size_alloc] at hs_
 have HS := Lib.hid hs_
 rw [hw_]
 clear hw_ hs_
 go_wp2_with fail
 refine (flWakes_any _).mono ?_
 rintro e w2 ⟨rfl, hb_⟩
 have HS := Lib.hid (HS.out.below hb_)
 clear hb_
 have k0 := cell_of_block (k := 0) (HS.out.blockAt 1 rfl) rfl
 have k1 := cell_of_block (k := 1) (HS.out.blockAt 1 rfl) rfl
 have k2 := cell_of_block (k := 2) (HS.out.blockAt 1 rfl) rfl
 go_wp2_with fail
 clear k0 k1 k2
 refine (HOF.out _ HS.out.low).mono ?_
 rintro e w3 ⟨v, wi, hi, a3, c3, rfl, hb, hv0, hv1⟩
 have HS := Lib.hid (HS.out.below hb)
 clear hb HOF
 cases ok with
 | false =>
  obtain rfl := hv0 rfl
  clear hv0 hv1
  repeat ((fail_if_success (with_reducible refine stop_at (id := 4) ?_)); (first | go_values | go_skip | go_guarded | go_step | go_upon | go_back | (simp only [Int.not_lt, Int.not_le] at *; go_simp) | (go_values <;> (try go_simp)) | (go_ite <;> go_prune <;> (try go_simp)) | (split <;> (first | (rename_i hx; exact (hx _ rfl).elim) | go_prune))))
  have hs_ := (HS.out.alloc (.cells #[.int .i64 wi, .int .i64 hi, .slice a3 C.tiles.length c3] 24))
  obtain ⟨w4, hw_⟩ : ∃ w4 : World, (w3.alloc (.cells #[.int .i64 wi, .int .i64 hi, .slice a3 C.tiles.length c3] 24)) = w4 := ⟨_, rfl⟩
  rw [hw_] at hs_
  try simp only [World.size_alloc] at hs_
  have HS := Lib.hid hs_
  rw [hw_]
  clear hw_ hs_
  go_wp2_with fail
  go_ret
  exact ⟨rfl, HS.out.low⟩
 | true =>
  obtain ⟨⟨p, rfl, hcp⟩, rfl, rfl, hcv⟩ := hv1 rfl
  have HC := Lib.hid hcp
  have HV := Lib.hid hcv
  clear hcp hcv hv0 hv1
  repeat ((fail_if_success (with_reducible refine stop_at (id := 4) ?_)); (first | go_values | go_skip | go_guarded | go_step | go_upon | go_back | (simp only [Int.not_lt, Int.not_le] at *; go_simp) | (go_values <;> (try go_simp)) | (go_ite <;> go_prune <;> (try go_simp)) | (split <;> (first | (rename_i hx; exact (hx _ rfl).elim) | go_prune))))
  have hs_ := HS.out.alloc (.cells #[.int .i64 C.wide, .int .i64 C.high, .slice a3 C.tiles.length c3] 24)
  have hk_HC := HC.out.below ((Below.refl _ _).alloc (Nat.le_refl _) (.cells #[.int .i64 C.wide, .int .i64 C.high, .slice a3 C.tiles.length c3] 24))
  have hk_HV := HV.out.below ((Below.refl _ _).alloc (Nat.le_refl _) (.cells #[.int .i64 C.wide, .int .i64 C.high, .slice a3 C.tiles.length c3] 24))
  obtain ⟨w4, hw_⟩ : ∃ w4 : World, w3.alloc (.cells #[.int .i64 C.wide, .int .i64 C.high, .slice a3 C.tiles.length c3] 24) = w4 := ⟨_, rfl⟩
  rw [hw_] at hs_ hk_HC hk_HV
  have HS := Lib.hid hs_
  have HC := Lib.hid hk_HC
  have HV := Lib.hid hk_HV
  rw [hw_]
  clear hw_ hs_ hk_HC hk_HV
  go_wp2_with fail
  have HK := Lib.hid (show Kp w4 w4 from Below.refl _ _)
  go_loopw [37] (fun i wr => ∃ j : Nat, j ≤ 5 ∧ i = .int .i64 (j : Int) ∧ Kp w4 wr) (fun i _ => 6 - (intOf i).toNat)
  case atStart => exact ⟨0, by omega, rfl, HK.out⟩
  case round =>
   obtain ⟨j, hj, rfl, hb⟩ := hrel
   have HS := Lib.hid (HS.out.below hb)
   have HC := Lib.hid (HC.out.below hb)
   have HV := Lib.hid (HV.out.below hb)
   have HK := Lib.hid hb
   clear hb
   by_cases hlt : j < nf
   · obtain ⟨x, hx⟩ : ∃ x, fs[j]? = some x := ⟨_, List.getElem?_eq_getElem (by rw [HFL.out]; exact hlt)⟩
     obtain ⟨bb, off, rfl, hbb, c0, c1, c2⟩ := i3Cells HFL.out (HS.out.elems 3 rfl) j x hx
     obtain ⟨fx, fy, tt⟩ := x
     simp only at c0 c1 c2
     clear hx hbb
     repeat ((fail_if_success (with_reducible refine stop_at (id := 9) ?_)); (first | go_values | go_skip | go_guarded | go_step | go_upon | go_back | (simp only [Int.not_lt, Int.not_le] at *; go_simp) | (go_values <;> (try go_simp)) | (go_ite <;> go_prune <;> (try go_simp)) | (split <;> (first | (rename_i hx; exact (hx _ rfl).elim) | go_prune))))
     clear c0 c1 c2 hlt
     have hs_ := HS.out.alloc (.cells #[.int .i64 fx, .int .i64 fy, .int .i64 tt] 56)
     have hk_HC := HC.out.below ((Below.refl _ _).alloc (Nat.le_refl _) (.cells #[.int .i64 fx, .int .i64 fy, .int .i64 tt] 56))
     have hk_HV := HV.out.below ((Below.refl _ _).alloc (Nat.le_refl _) (.cells #[.int .i64 fx, .int .i64 fy, .int .i64 tt] 56))
     have hk_HK := HK.out.below ((Below.refl _ _).alloc (Nat.le_refl _) (.cells #[.int .i64 fx, .int .i64 fy, .int .i64 tt] 56))
     obtain ⟨w19, hw_⟩ : ∃ w19 : World, wr.alloc (.cells #[.int .i64 fx, .int .i64 fy, .int .i64 tt] 56) = w19 := ⟨_, rfl⟩
     rw [hw_] at hs_ hk_HC hk_HV hk_HK
     have HS := Lib.hid hs_
     have HC := Lib.hid hk_HC
     have HV := Lib.hid hk_HV
     have HK := Lib.hid hk_HK
     rw [hw_]
     clear hw_ hs_ hk_HC hk_HV hk_HK
     by_cases h5 : j = 5
     · subst h5
       go_wp2_with fail
       refine (region_nil ⟨0, 0⟩ 0 _).mono ?_
       rintro e w20 ⟨rfl, hb_⟩
       have HS := Lib.hid (HS.out.below hb_)
       clear hb_
       have d0 := cell_of_block (k := 0) (HS.out.blockAt 2 rfl) rfl
       have d1 := cell_of_block (k := 1) (HS.out.blockAt 2 rfl) rfl
       have d2 := cell_of_block (k := 2) (HS.out.blockAt 2 rfl) rfl
       have d3 := cell_of_block (k := 3) (HS.out.blockAt 2 rfl) rfl
       go_wp2_with fail
       clear d0 d1 d2 d3
       refine (fill_nil ⟨0, 0⟩ (-1) ⟨cr, cg, cb, ca⟩ _).mono ?_
       rintro e w21 ⟨rfl, hb_⟩
       have HS := Lib.hid (HS.out.below hb_)
       clear hb_
       go_wp2_with fail
       go_ret
       exact ⟨rfl, HS.out.low⟩
     · have HJ := Lib.hid (show j + 1 ≤ 5 by omega)
       have HE := Lib.hid (wrap_succ (n := j) (by omega))
       have hd : decide ((j : Int) = 5) = false := decide_eq_false (by omega)
       have h5' : ¬ ((j : Int) = 5) := by omega
       repeat ((fail_if_success (with_reducible refine stop_at (id := 10) ?_)); (first | go_values | go_skip | go_guarded | go_step | go_upon | go_back | (simp only [Int.not_lt, Int.not_le] at *; go_simp) | (go_values <;> (try go_simp)) | (go_ite <;> go_prune <;> (try go_simp)) | (split <;> (first | (rename_i hx; exact (hx _ rfl).elim) | go_prune))))
       clear hd h5 h5' hj
       refine (wpIn_wide (n := 0)).1 ?_
       apply wp_region_slots 9 [⟨7, 8, 12, .cells #[.int .i64 0, .int .i64 0] 41 (0, 0), .cells #[.int .i64 fx, .int .i64 fy] 41 (0, 0)⟩] _ (Rl := [(eqv _), (eqv _), (eqv _), (eqv _), (eqv _), (eqv _), (eqv _), (fun _ _ => True), (fun _ _ => True)])
       case hm => kernel_rfl
       case hk => rfl
       case hst => exact ⟨fun _ _ _ _ h => h, fun _ _ _ _ h => h, fun _ _ _ _ h => h, fun _ _ _ _ h => h, fun _ _ _ _ h => h, fun _ _ _ _ h => h, fun _ _ _ _ h => h, fun _ _ _ _ h => h, fun _ _ _ _ h => h, trivial⟩
       case hfo => kernel_rfl
       case ht => kernel_rfl
       case hN => exact Nat.le_refl _
       case hok => kernel_rfl
       case hsk => intro s hs; simp only [List.mem_cons, List.not_mem_nil, or_false] at hs; rcases hs with rfl <;> exact ⟨Nat.le_of_ble_eq_true rfl, Nat.le_of_ble_eq_true rfl⟩
       case hsteps =>
        refine ⟨?_, ?_, ?_, ?_, ?_, ?_, ?_, ?_, ?_, trivial⟩
        · intro l_ a' w' hA hC hJ hN hB hD; have s11 : a'.tmps[11]? = some _ := (hA.at 11 (by kernel_rfl)).trans rfl; clear hA hD; refine stepOkT_plain rfl ?_; intro K hK; gi_wp2; exact hK _ _ rfl (Below.refl _ _) (SlT.plainB rfl (Below.refl _ _))
        · intro l_ a' w' hA hC hJ hN hB hD; obtain ⟨u44, s44, r44⟩ := hD ⟨0, .data⟩ (by simp) rfl _ rfl; replace r44 : u44 = _ := r44; subst r44
          have z0 := cell_of_block (k := 0) ((HS.out.below hC).blockAt 0 rfl) rfl
          clear hA hD; refine stepOkT_plain rfl ?_; intro K hK; gi_wp2; exact hK _ _ rfl (Below.refl _ _) (SlT.plainB rfl (Below.refl _ _))
        · intro l_ a' w' hA hC hJ hN hB hD; have s11 : a'.tmps[11]? = some _ := (hA.at 11 (by kernel_rfl)).trans rfl; clear hA hD; refine stepOkT_plain rfl ?_; intro K hK; gi_wp2; exact hK _ _ rfl (Below.refl _ _) (SlT.plainB rfl (Below.refl _ _))
        · intro l_ a' w' hA hC hJ hN hB hD; obtain ⟨u46, s46, r46⟩ := hD ⟨2, .data⟩ (by simp) rfl _ rfl; replace r46 : u46 = _ := r46; subst r46
          have z0 := cell_of_block (k := 1) ((HS.out.below hC).blockAt 0 rfl) rfl
          clear hA hD; refine stepOkT_plain rfl ?_; intro K hK; gi_wp2; exact hK _ _ rfl (Below.refl _ _) (SlT.plainB rfl (Below.refl _ _))
        · intro l_ a' w' hA hC hJ hN hB hD; obtain ⟨u45, s45, r45⟩ := hD ⟨1, .data⟩ (by simp) rfl _ rfl; replace r45 : u45 = _ := r45; subst r45; obtain ⟨u47, s47, r47⟩ := hD ⟨3, .data⟩ (by simp) rfl _ rfl; replace r47 : u47 = _ := r47; subst r47; clear hA hD; refine stepOkT_plain rfl ?_; intro K hK; gi_wp2; exact hK _ _ rfl (Below.refl _ _) (SlT.plainB rfl (Below.refl _ _))
        · intro l_ a' w' hA hC hJ hN hB hD; have s11 : a'.tmps[11]? = some _ := (hA.at 11 (by kernel_rfl)).trans rfl; clear hA hD; refine stepOkT_plain rfl ?_; intro K hK; gi_wp2; exact hK _ _ rfl (Below.refl _ _) (SlT.plainB rfl (Below.refl _ _))
        · intro l_ a' w' hA hC hJ hN hB hD; obtain ⟨u49, s49, r49⟩ := hD ⟨5, .data⟩ (by simp) rfl _ rfl; replace r49 : u49 = _ := r49; subst r49
          have z0 := cell_of_block (k := 2) ((HS.out.below hC).blockAt 0 rfl) rfl
          clear hA hD; refine stepOkT_plain rfl ?_; intro K hK; gi_wp2; exact hK _ _ rfl (Below.refl _ _) (SlT.plainB rfl (Below.refl _ _))
        · intro l_ a' w' hA hC hJ hN hB hD; clear hA hD; refine stepOkT_plain rfl ?_; intro K hK; gi_wp2; exact hK _ _ trivial ((Below.refl _ _).alloc hC.size _) (SlT.alloc (by intro t ht e; simp only [List.mem_cons, List.not_mem_nil, or_false] at ht; rcases ht with rfl <;> first | rfl | (exact absurd e (Nat.ne_of_beq_eq_false rfl))) (by intro t ht; simp only [List.mem_cons, List.not_mem_nil, or_false] at ht; rcases ht with rfl <;> exact Nat.ne_of_beq_eq_false rfl))
        · intro l_ a' w' hA hC hJ hN hB hD; obtain ⟨u12, s12, r12⟩ := hD ⟨7, .data⟩ (by simp) rfl _ rfl; replace r12 : (fun _ _ => True) u12 w' := r12; obtain ⟨u48, s48, r48⟩ := hD ⟨4, .data⟩ (by simp) rfl _ rfl; replace r48 : u48 = _ := r48; subst r48
          obtain ⟨b12, n12, t12, o12⟩ := hJ.at_ _ (List.mem_of_getElem? (i := 0) rfl) (hB ⟨7, .data⟩ (by simp) rfl)
          rw [show l_.getD 8 false = false from hN] at o12
          replace o12 : w'.heap[b12]? = some (.cells #[.int .i64 0, .int .i64 0] 41 (0, 0)) := o12
          obtain rfl : u12 = ptrB b12 := Option.some.inj (s12.symm.trans t12)
          clear r12
          clear hA hD; refine stepOkT_plain rfl ?_; intro K hK
          have f12 := free_of_block o12
          have c12_0 := cell_of_block (k := 0) o12 rfl
          have c12_1 := cell_of_block (k := 1) o12 rfl
          have f12_0 := f12 0
          have f12_1 := f12 1
          clear f12; unfold ptrB at s12 t12; gi_wp2; exact hK undef _ trivial (by repeat (first | exact Below.refl _ _ | refine Below.setCell ?_ (by omega) _)) (SlT.store _ (by intro t ht e; simp only [List.mem_cons, List.not_mem_nil, or_false] at ht; rcases ht with rfl <;> first | rfl | (exact absurd e (Nat.ne_of_beq_eq_false rfl))) (by intro t ht; simp only [List.mem_cons, List.not_mem_nil, or_false] at ht; rcases ht with rfl <;> exact Nat.ne_of_beq_eq_false rfl) (List.mem_of_getElem? (i := 0) rfl) rfl b12 (by unfold envOf; rw [t12]; rfl) (heap_set_same (heap_set_same o12 _) _) (by intro k hk; repeat (first | rfl | refine (Below.heap_setCell _ _ _ k (by simpa using hk)).trans ?_)))
       case hend =>
        intro w20 hC
        simp only [EndFrom, eqv, forall_eq, Act.put, List.length_cons, List.length_nil, List.drop_succ_cons, List.drop_zero, Nat.reduceAdd, List.setIfInBounds_toArray, List.set_cons_succ, List.set_cons_zero]
        have HS := Lib.hid (HS.out.below hC)
        have HC := Lib.hid (HC.out.below hC)
        have HV := Lib.hid (HV.out.below hC)
        have HK := Lib.hid (HK.out.below hC)
        clear hC
        intro p12 _ p13 _ hE
        obtain ⟨b12, -, hb12, ho12⟩ := hE.1 _ (List.mem_of_getElem? (i := 0) rfl)
        obtain rfl : p12 = ptrB b12 := Option.some.inj hb12
        have HP := Lib.hid (BlkAt.mk ho12)
        clear hE hb12 ho12
        unfold ptrB
        gi_wp2
        have HTT := Lib.hid (fun w => refTol_any tt w)
        have HON := Lib.hid (fun w' h => refOn_any C HC.out.ok (.agg #[.int .i64 C.wide, .int .i64 C.high, .slice a3 C.tiles.length c3]) ⟨fx, fy⟩ w' h)
        obtain ⟨tb, htb⟩ : ∃ tb, tolB tt = tb := ⟨_, rfl⟩
        obtain ⟨ob, hob⟩ : ∃ ob, onC C ⟨fx, fy⟩ = ob := ⟨_, rfl⟩
        have HTB := Lib.hid htb
        have HOB := Lib.hid hob
        rw [htb] at HTT
        unfold onC at hob
        rw [hob] at HON
        simp only [PtT.val] at HON
        clear htb hob
        cases tb with
        | false =>
         have HRG := Lib.hid (region_is (C := C) (c := p) (p := ⟨fx, fy⟩) (t := tt) (e := 2) (by unfold begE; rw [HTB.out]; rfl) (by unfold begB; rw [HTB.out]; rfl) w20 HC.out)
         have HFI := Lib.hid (fun w' h => (show Calls Try.prog 17 #[.pointer (some ⟨p, 0, none⟩), .agg #[.int .i64 fx, .int .i64 fy], .int .i64 tt, .agg #[.int .u8 cr, .int .u8 cg, .int .u8 cb, .int .u8 ca]] w' (Gives (.tuple #[.pointer none, .int .i64 2]) w') by
          have h1 := fill_bad C p ⟨fx, fy⟩ tt ⟨cr, cg, cb, ca⟩ w' h (by unfold begB; rw [HTB.out]; rfl)
          rw [show begE C ⟨fx, fy⟩ tt = 2 by unfold begE; rw [HTB.out]; rfl] at h1
          exact h1))
         simp only [PtT.val] at HRG
         have q0 := cell_of_block (k := 0) HP.out.at_ rfl
         have q1 := cell_of_block (k := 1) HP.out.at_ rfl
         go_wp2_with fail
         clear q0 q1
         refine (HRG.out).mono ?_
         rintro e w21 ⟨rfl, hb_⟩
         have HS := Lib.hid (HS.out.below hb_)
         have HC := Lib.hid (HC.out.below hb_)
         have HV := Lib.hid (HV.out.below hb_)
         have HK := Lib.hid (HK.out.below hb_)
         have HP := Lib.hid (HP.out.below hb_)
         clear hb_
         have q0 := cell_of_block (k := 0) HP.out.at_ rfl
         have q1 := cell_of_block (k := 1) HP.out.at_ rfl
         have d0 := cell_of_block (k := 0) (HS.out.blockAt 2 rfl) rfl
         have d1 := cell_of_block (k := 1) (HS.out.blockAt 2 rfl) rfl
         have d2 := cell_of_block (k := 2) (HS.out.blockAt 2 rfl) rfl
         have d3 := cell_of_block (k := 3) (HS.out.blockAt 2 rfl) rfl
         go_wp2_with fail
         clear q0 q1 d0 d1 d2 d3
         refine (HFI.out _ HC.out).mono ?_
         rintro e w22 ⟨rfl, hb_⟩
         have HS := Lib.hid (HS.out.below hb_)
         have HC := Lib.hid (HC.out.below hb_)
         have HV := Lib.hid (HV.out.below hb_)
         have HK := Lib.hid (HK.out.below hb_)
         have HP := Lib.hid (HP.out.below hb_)
         clear hb_
         go_wp2_with fail
         refine (HTT.out _).mono ?_
         rintro e w23 ⟨rfl, hb_⟩
         have HS := Lib.hid (HS.out.below hb_)
         have HC := Lib.hid (HC.out.below hb_)
         have HV := Lib.hid (HV.out.below hb_)
         have HK := Lib.hid (HK.out.below hb_)
         have HP := Lib.hid (HP.out.below hb_)
         clear hb_
         repeat ((fail_if_success (with_reducible refine stop_at (id := 26) ?_)); (first | go_values | go_skip | go_guarded | go_step | go_upon | go_back | (simp only [Int.not_lt, Int.not_le] at *; go_simp) | (go_values <;> (try go_simp)) | (go_ite <;> go_prune <;> (try go_simp)) | (split <;> (first | (rename_i hx; exact (hx _ rfl).elim) | go_prune))))
         refine (wpIn_wide (n := 0)).1 ?_
         apply wp_region_vals 11 (Rl := [(eqv _), (eqv _), (eqv _), (eqv _), (eqv _), (eqv _), (fun v_ w_ => CanV w_ C v_), (eqv _), (eqv _), (eqv _), (eqv _)]) (C := (fun x y => Below x.heap.size x y))
         case hm => kernel_rfl
         case hk => rfl
         case hCr => exact (fun _ => Below.refl _ _)
         case hCt => intro _ _ _; exact (fun h k => grows_trans h k)
         case hst => exact ⟨fun _ _ _ _ h => h, fun _ _ _ _ h => h, fun _ _ _ _ h => h, fun _ _ _ _ h => h, fun _ _ _ _ h => h, fun _ _ _ _ h => h, fun _ _ _ hC h => h.below hC, fun _ _ _ _ h => h, fun _ _ _ _ h => h, fun _ _ _ _ h => h, fun _ _ _ _ h => h, trivial⟩
         case hfo => kernel_rfl
         case ht => kernel_rfl
         case hC0 => exact (grows_drew _)
         case hsteps =>
          refine ⟨?_, ?_, ?_, ?_, ?_, ?_, ?_, ?_, ?_, ?_, ?_, trivial⟩
          · intro a' w' hA hC hD; have s14 : a'.tmps[14]? = some _ := (hA.at 14 (by kernel_rfl)).trans rfl; clear hA hD; refine stepOk_plain rfl ?_; intro K hK; gi_wp2; exact hK _ _ rfl ((fun _ => Below.refl _ _) _)
          · intro a' w' hA hC hD; have s18 : a'.tmps[18]? = some _ := (hA.at 18 (by kernel_rfl)).trans rfl; clear hA hD; refine stepOk_plain rfl ?_; intro K hK; gi_wp2; exact hK _ _ rfl ((fun _ => Below.refl _ _) _)
          · intro a' w' hA hC hD; obtain ⟨u104, s104, r104⟩ := hD ⟨0, .data⟩ (by simp) rfl _ rfl; replace r104 : u104 = _ := r104; subst r104; obtain ⟨u105, s105, r105⟩ := hD ⟨1, .data⟩ (by simp) rfl _ rfl; replace r105 : u105 = _ := r105; subst r105; clear hA hD; refine stepOk_plain rfl ?_; intro K hK
            gi_wp2_with fail; refine (callsIn_wide.2 (eqS_same (.slice none 0 0) (.slice none 0 0) [] 0 rfl _ (elems_nil _) (elems_nil _))).mono ?_; rintro e w2 ⟨rfl, hb⟩
            exact hK _ _ rfl hb
          · intro a' w' hA hC hD; obtain ⟨u106, s106, r106⟩ := hD ⟨2, .data⟩ (by simp) rfl _ rfl; replace r106 : u106 = _ := r106; subst r106; clear hA hD; refine stepOk_plain rfl ?_; intro K hK; gi_wp2; exact hK _ _ rfl ((fun _ => Below.refl _ _) _)
          · intro a' w' hA hC hD; obtain ⟨u107, s107, r107⟩ := hD ⟨3, .data⟩ (by simp) rfl _ rfl; replace r107 : u107 = _ := r107; subst r107; clear hA hD; refine stepOk_plain rfl ?_; intro K hK; gi_wp2; exact hK _ _ rfl ((fun _ => Below.refl _ _) _)
          · intro a' w' hA hC hD; have s7 : a'.tmps[7]? = some _ := (hA.at 7 (by kernel_rfl)).trans rfl; obtain ⟨u108, s108, r108⟩ := hD ⟨4, .guard⟩ (by simp) rfl _ rfl; replace r108 : u108 = _ := r108; subst r108; clear hA hD; refine stepOk_want rfl rfl s108 ?_; intro K hK; gi_wp2; exact hK _ _ rfl ((fun _ => Below.refl _ _) _)
          · intro a' w' hA hC hD; obtain ⟨u109, s109, r109⟩ := hD ⟨5, .data⟩ (by simp) rfl _ rfl; replace r109 : u109 = _ := r109; subst r109; obtain ⟨u108, s108, r108⟩ := hD ⟨4, .chain⟩ (by simp) rfl _ rfl; replace r108 : u108 = _ := r108; subst r108; clear hA hD; refine stepOk_want rfl rfl s108 ?_; intro K hK
            gi_wp2_with fail; refine (callsIn_wide.2 (show_any C p _ (HC.out.below hC))).mono ?_; rintro e w5 ⟨v5, rfl, hr5, hb5⟩
            exact hK _ _ hr5 hb5
          · intro a' w' hA hC hD; have s8 : a'.tmps[8]? = some _ := (hA.at 8 (by kernel_rfl)).trans rfl; obtain ⟨u108, s108, r108⟩ := hD ⟨4, .guard⟩ (by simp) rfl _ rfl; replace r108 : u108 = _ := r108; subst r108
            have v0 := cell_of_block (k := 0) ((HS.out.below hC).blockAt 1 rfl) rfl; have v1 := cell_of_block (k := 1) ((HS.out.below hC).blockAt 1 rfl) rfl; have v2 := cell_of_block (k := 2) ((HS.out.below hC).blockAt 1 rfl) rfl
            clear hA hD; refine stepOk_want rfl rfl s108 ?_; intro K hK; gi_wp2; exact hK _ _ rfl ((fun _ => Below.refl _ _) _)
          · intro a' w' hA hC hD; obtain ⟨u110, s110, r110⟩ := hD ⟨6, .data⟩ (by simp) rfl _ rfl; replace r110 : (fun v_ w_ => CanV w_ C v_) u110 w' := r110; obtain ⟨u111, s111, r111⟩ := hD ⟨7, .data⟩ (by simp) rfl _ rfl; replace r111 : u111 = _ := r111; subst r111; obtain ⟨u108, s108, r108⟩ := hD ⟨4, .guard⟩ (by simp) rfl _ rfl; replace r108 : u108 = _ := r108; subst r108; clear hA hD; refine stepOk_want rfl rfl s108 ?_; intro K hK
            gi_wp2_with fail; refine (callsIn_wide.2 (alike_any C C (by have := HC.out.ok.len; omega) _ _ _ r110 (HV.out.below hC))).mono ?_; rintro e w5 ⟨rfl, hb5⟩; rw [decide_eq_true (rfl : C = C)]; exact hK _ _ rfl hb5
          · intro a' w' hA hC hD; obtain ⟨u112, s112, r112⟩ := hD ⟨8, .data⟩ (by simp) rfl _ rfl; replace r112 : u112 = _ := r112; subst r112; obtain ⟨u108, s108, r108⟩ := hD ⟨4, .guard⟩ (by simp) rfl _ rfl; replace r108 : u108 = _ := r108; subst r108; clear hA hD; refine stepOk_want rfl rfl s108 ?_; intro K hK; gi_wp2; exact hK _ _ rfl ((fun _ => Below.refl _ _) _)
          · intro a' w' hA hC hD; obtain ⟨u108, s108, r108⟩ := hD ⟨4, .data⟩ (by simp) rfl _ rfl; replace r108 : u108 = _ := r108; subst r108; obtain ⟨u113, s113, r113⟩ := hD ⟨9, .data⟩ (by simp) rfl _ rfl; replace r113 : u113 = _ := r113; subst r113; clear hA hD; refine stepOk_plain rfl ?_; intro K hK; gi_wp2; exact hK _ _ rfl ((fun _ => Below.refl _ _) _)
         case hend =>
          intro w40 hC
          simp only [EndFrom, eqv, forall_eq, Act.put, List.length_cons, List.length_nil, List.drop_succ_cons, List.drop_zero, Nat.reduceAdd, List.setIfInBounds_toArray, List.set_cons_succ, List.set_cons_zero]
          have HK := Lib.hid (HK.out.below hC)
          clear hC
          intro v41 hv41
          clear hv41
          gi_wp2
          go_wp2_with fail
          go_roundw
          case rel => exact ⟨j + 1, HJ.out, congrArg (Value.int .i64) HE.out, HK.out⟩
          case measure => rw [HE.out]; have := HJ.out; simp only [intOf]; omega
        | true =>
         cases ob with
         | false =>
          have HRG := Lib.hid (region_is (C := C) (c := p) (p := ⟨fx, fy⟩) (t := tt) (e := 4) (by unfold begE; rw [HTB.out, HOB.out]; rfl) (by unfold begB; rw [HTB.out, HOB.out]; rfl) w20 HC.out)
          have HFI := Lib.hid (fun w' h => (show Calls Try.prog 17 #[.pointer (some ⟨p, 0, none⟩), .agg #[.int .i64 fx, .int .i64 fy], .int .i64 tt, .agg #[.int .u8 cr, .int .u8 cg, .int .u8 cb, .int .u8 ca]] w' (Gives (.tuple #[.pointer none, .int .i64 4]) w') by
           have h1 := fill_bad C p ⟨fx, fy⟩ tt ⟨cr, cg, cb, ca⟩ w' h (by unfold begB; rw [HTB.out, HOB.out]; rfl)
           rw [show begE C ⟨fx, fy⟩ tt = 4 by unfold begE; rw [HTB.out, HOB.out]; rfl] at h1
           exact h1))
          simp only [PtT.val] at HRG
          have q0 := cell_of_block (k := 0) HP.out.at_ rfl
          have q1 := cell_of_block (k := 1) HP.out.at_ rfl
          go_wp2_with fail
          clear q0 q1
          refine (HRG.out).mono ?_
          rintro e w21 ⟨rfl, hb_⟩
          have HS := Lib.hid (HS.out.below hb_)
          have HC := Lib.hid (HC.out.below hb_)
          have HV := Lib.hid (HV.out.below hb_)
          have HK := Lib.hid (HK.out.below hb_)
          have HP := Lib.hid (HP.out.below hb_)
          clear hb_
          have q0 := cell_of_block (k := 0) HP.out.at_ rfl
          have q1 := cell_of_block (k := 1) HP.out.at_ rfl
          have d0 := cell_of_block (k := 0) (HS.out.blockAt 2 rfl) rfl
          have d1 := cell_of_block (k := 1) (HS.out.blockAt 2 rfl) rfl
          have d2 := cell_of_block (k := 2) (HS.out.blockAt 2 rfl) rfl
          have d3 := cell_of_block (k := 3) (HS.out.blockAt 2 rfl) rfl
          go_wp2_with fail
          clear q0 q1 d0 d1 d2 d3
          refine (HFI.out _ HC.out).mono ?_
          rintro e w22 ⟨rfl, hb_⟩
          have HS := Lib.hid (HS.out.below hb_)
          have HC := Lib.hid (HC.out.below hb_)
          have HV := Lib.hid (HV.out.below hb_)
          have HK := Lib.hid (HK.out.below hb_)
          have HP := Lib.hid (HP.out.below hb_)
          clear hb_
          go_wp2_with fail
          refine (HTT.out _).mono ?_
          rintro e w23 ⟨rfl, hb_⟩
          have HS := Lib.hid (HS.out.below hb_)
          have HC := Lib.hid (HC.out.below hb_)
          have HV := Lib.hid (HV.out.below hb_)
          have HK := Lib.hid (HK.out.below hb_)
          have HP := Lib.hid (HP.out.below hb_)
          clear hb_
          have v0 := cell_of_block (k := 0) (HS.out.blockAt 1 rfl) rfl
          have v1 := cell_of_block (k := 1) (HS.out.blockAt 1 rfl) rfl
          have v2 := cell_of_block (k := 2) (HS.out.blockAt 1 rfl) rfl
          have q0 := cell_of_block (k := 0) HP.out.at_ rfl
          have q1 := cell_of_block (k := 1) HP.out.at_ rfl
          go_wp2_with fail
          clear v0 v1 v2 q0 q1
          refine (HON.out _ HV.out).mono ?_
          rintro e w24 ⟨rfl, hb_⟩
          have HS := Lib.hid (HS.out.below hb_)
          have HC := Lib.hid (HC.out.below hb_)
          have HV := Lib.hid (HV.out.below hb_)
          have HK := Lib.hid (HK.out.below hb_)
          have HP := Lib.hid (HP.out.below hb_)
          clear hb_
          repeat ((fail_if_success (with_reducible refine stop_at (id := 26) ?_)); (first | go_values | go_skip | go_guarded | go_step | go_upon | go_back | (simp only [Int.not_lt, Int.not_le] at *; go_simp) | (go_values <;> (try go_simp)) | (go_ite <;> go_prune <;> (try go_simp)) | (split <;> (first | (rename_i hx; exact (hx _ rfl).elim) | go_prune))))
          refine (wpIn_wide (n := 0)).1 ?_
          apply wp_region_vals 11 (Rl := [(eqv _), (eqv _), (eqv _), (eqv _), (eqv _), (eqv _), (fun v_ w_ => CanV w_ C v_), (eqv _), (eqv _), (eqv _), (eqv _)]) (C := (fun x y => Below x.heap.size x y))
          case hm => kernel_rfl
          case hk => rfl
          case hCr => exact (fun _ => Below.refl _ _)
          case hCt => intro _ _ _; exact (fun h k => grows_trans h k)
          case hst => exact ⟨fun _ _ _ _ h => h, fun _ _ _ _ h => h, fun _ _ _ _ h => h, fun _ _ _ _ h => h, fun _ _ _ _ h => h, fun _ _ _ _ h => h, fun _ _ _ hC h => h.below hC, fun _ _ _ _ h => h, fun _ _ _ _ h => h, fun _ _ _ _ h => h, fun _ _ _ _ h => h, trivial⟩
          case hfo => kernel_rfl
          case ht => kernel_rfl
          case hC0 => exact (grows_drew _)
          case hsteps =>
           refine ⟨?_, ?_, ?_, ?_, ?_, ?_, ?_, ?_, ?_, ?_, ?_, trivial⟩
           · intro a' w' hA hC hD; have s14 : a'.tmps[14]? = some _ := (hA.at 14 (by kernel_rfl)).trans rfl; clear hA hD; refine stepOk_plain rfl ?_; intro K hK; gi_wp2; exact hK _ _ rfl ((fun _ => Below.refl _ _) _)
           · intro a' w' hA hC hD; have s18 : a'.tmps[18]? = some _ := (hA.at 18 (by kernel_rfl)).trans rfl; clear hA hD; refine stepOk_plain rfl ?_; intro K hK; gi_wp2; exact hK _ _ rfl ((fun _ => Below.refl _ _) _)
           · intro a' w' hA hC hD; obtain ⟨u104, s104, r104⟩ := hD ⟨0, .data⟩ (by simp) rfl _ rfl; replace r104 : u104 = _ := r104; subst r104; obtain ⟨u105, s105, r105⟩ := hD ⟨1, .data⟩ (by simp) rfl _ rfl; replace r105 : u105 = _ := r105; subst r105; clear hA hD; refine stepOk_plain rfl ?_; intro K hK
             gi_wp2_with fail; refine (callsIn_wide.2 (eqS_same (.slice none 0 0) (.slice none 0 0) [] 0 rfl _ (elems_nil _) (elems_nil _))).mono ?_; rintro e w2 ⟨rfl, hb⟩
             exact hK _ _ rfl hb
           · intro a' w' hA hC hD; obtain ⟨u106, s106, r106⟩ := hD ⟨2, .data⟩ (by simp) rfl _ rfl; replace r106 : u106 = _ := r106; subst r106; clear hA hD; refine stepOk_plain rfl ?_; intro K hK; gi_wp2; exact hK _ _ rfl ((fun _ => Below.refl _ _) _)
           · intro a' w' hA hC hD; obtain ⟨u107, s107, r107⟩ := hD ⟨3, .data⟩ (by simp) rfl _ rfl; replace r107 : u107 = _ := r107; subst r107; clear hA hD; refine stepOk_plain rfl ?_; intro K hK; gi_wp2; exact hK _ _ rfl ((fun _ => Below.refl _ _) _)
           · intro a' w' hA hC hD; have s7 : a'.tmps[7]? = some _ := (hA.at 7 (by kernel_rfl)).trans rfl; obtain ⟨u108, s108, r108⟩ := hD ⟨4, .guard⟩ (by simp) rfl _ rfl; replace r108 : u108 = _ := r108; subst r108; clear hA hD; refine stepOk_want rfl rfl s108 ?_; intro K hK; gi_wp2; exact hK _ _ rfl ((fun _ => Below.refl _ _) _)
           · intro a' w' hA hC hD; obtain ⟨u109, s109, r109⟩ := hD ⟨5, .data⟩ (by simp) rfl _ rfl; replace r109 : u109 = _ := r109; subst r109; obtain ⟨u108, s108, r108⟩ := hD ⟨4, .chain⟩ (by simp) rfl _ rfl; replace r108 : u108 = _ := r108; subst r108; clear hA hD; refine stepOk_want rfl rfl s108 ?_; intro K hK
             gi_wp2_with fail; refine (callsIn_wide.2 (show_any C p _ (HC.out.below hC))).mono ?_; rintro e w5 ⟨v5, rfl, hr5, hb5⟩
             exact hK _ _ hr5 hb5
           · intro a' w' hA hC hD; have s8 : a'.tmps[8]? = some _ := (hA.at 8 (by kernel_rfl)).trans rfl; obtain ⟨u108, s108, r108⟩ := hD ⟨4, .guard⟩ (by simp) rfl _ rfl; replace r108 : u108 = _ := r108; subst r108
             have v0 := cell_of_block (k := 0) ((HS.out.below hC).blockAt 1 rfl) rfl; have v1 := cell_of_block (k := 1) ((HS.out.below hC).blockAt 1 rfl) rfl; have v2 := cell_of_block (k := 2) ((HS.out.below hC).blockAt 1 rfl) rfl
             clear hA hD; refine stepOk_want rfl rfl s108 ?_; intro K hK; gi_wp2; exact hK _ _ rfl ((fun _ => Below.refl _ _) _)
           · intro a' w' hA hC hD; obtain ⟨u110, s110, r110⟩ := hD ⟨6, .data⟩ (by simp) rfl _ rfl; replace r110 : (fun v_ w_ => CanV w_ C v_) u110 w' := r110; obtain ⟨u111, s111, r111⟩ := hD ⟨7, .data⟩ (by simp) rfl _ rfl; replace r111 : u111 = _ := r111; subst r111; obtain ⟨u108, s108, r108⟩ := hD ⟨4, .guard⟩ (by simp) rfl _ rfl; replace r108 : u108 = _ := r108; subst r108; clear hA hD; refine stepOk_want rfl rfl s108 ?_; intro K hK
             gi_wp2_with fail; refine (callsIn_wide.2 (alike_any C C (by have := HC.out.ok.len; omega) _ _ _ r110 (HV.out.below hC))).mono ?_; rintro e w5 ⟨rfl, hb5⟩; rw [decide_eq_true (rfl : C = C)]; exact hK _ _ rfl hb5
           · intro a' w' hA hC hD; obtain ⟨u112, s112, r112⟩ := hD ⟨8, .data⟩ (by simp) rfl _ rfl; replace r112 : u112 = _ := r112; subst r112; obtain ⟨u108, s108, r108⟩ := hD ⟨4, .guard⟩ (by simp) rfl _ rfl; replace r108 : u108 = _ := r108; subst r108; clear hA hD; refine stepOk_want rfl rfl s108 ?_; intro K hK; gi_wp2; exact hK _ _ rfl ((fun _ => Below.refl _ _) _)
           · intro a' w' hA hC hD; obtain ⟨u108, s108, r108⟩ := hD ⟨4, .data⟩ (by simp) rfl _ rfl; replace r108 : u108 = _ := r108; subst r108; obtain ⟨u113, s113, r113⟩ := hD ⟨9, .data⟩ (by simp) rfl _ rfl; replace r113 : u113 = _ := r113; subst r113; clear hA hD; refine stepOk_plain rfl ?_; intro K hK; gi_wp2; exact hK _ _ rfl ((fun _ => Below.refl _ _) _)
          case hend =>
           intro w40 hC
           simp only [EndFrom, eqv, forall_eq, Act.put, List.length_cons, List.length_nil, List.drop_succ_cons, List.drop_zero, Nat.reduceAdd, List.setIfInBounds_toArray, List.set_cons_succ, List.set_cons_zero]
           have HK := Lib.hid (HK.out.below hC)
           clear hC
           intro v41 hv41
           clear hv41
           gi_wp2
           go_wp2_with fail
           go_roundw
           case rel => exact ⟨j + 1, HJ.out, congrArg (Value.int .i64) HE.out, HK.out⟩
           case measure => rw [HE.out]; have := HJ.out; simp only [intOf]; omega
         | true =>
          have hbb : begB C ⟨fx, fy⟩ tt = true := by unfold begB; rw [HTB.out, HOB.out]; rfl
          have HBB := Lib.hid hbb
          have HTN := Lib.hid (of_decide_eq_true (show decide (0 ≤ tt ∧ tt ≤ 1020) = true from HTB.out)).1
          obtain ⟨ns, hns⟩ : ∃ ns, (regL (placesL C ⟨fx, fy⟩ tt)).length = ns := ⟨_, rfl⟩
          have HNS := Lib.hid hns
          have HNB := Lib.hid (show ns ≤ 1000000 by have h1 := regL_len (placesL C ⟨fx, fy⟩ tt); have h2 := placesL_len HC.out.ok ⟨fx, fy⟩ tt; omega)
          have HRG := Lib.hid (region_got C p ⟨fx, fy⟩ tt ns hns hbb w20 HC.out)
          have HFI := Lib.hid (fun w' h => show Calls Try.prog 17 #[.pointer (some ⟨p, 0, none⟩), .agg #[.int .i64 fx, .int .i64 fy], .int .i64 tt, .agg #[.int .u8 cr, .int .u8 cg, .int .u8 cb, .int .u8 ca]] w' (GivesCan (fillC C ⟨fx, fy⟩ tt ⟨cr, cg, cb, ca⟩) w') from fill_good C p ⟨fx, fy⟩ tt ⟨cr, cg, cb, ca⟩ HOC.out w' h hbb)
          have hgr := fun w' h => refGrown_any C HC.out.ok (.agg #[.int .i64 C.wide, .int .i64 C.high, .slice a3 C.tiles.length c3]) ⟨fx, fy⟩ tt (fun _ => 0) HOB.out rfl HTN.out w' h
          rw [pastB_zero] at hgr
          have HGR := Lib.hid (show ∀ w', CanV w' C (.agg #[.int .i64 C.wide, .int .i64 C.high, .slice a3 C.tiles.length c3]) → Calls Try.prog 15 #[.agg #[.int .i64 C.wide, .int .i64 C.high, .slice a3 C.tiles.length c3], .agg #[.int .i64 fx, .int .i64 fy], .int .i64 tt, .agg (fldA fun _ => 0)] w' (Gives (.agg (fldA (metC C ⟨fx, fy⟩ tt))) w') from hgr)
          have HFP := Lib.hid (filled_plain HC.out.ok (p := ⟨fx, fy⟩) (t := tt) HOC.out)
          have HUN := Lib.hid (fun L (hL : SetRow (fun q => onC C q = true ∧ 0 < metC C ⟨fx, fy⟩ tt (ixP q)) L) => (hL.unique ⟨(region_rowOf C ⟨fx, fy⟩ tt).row, fun q => region_has C ⟨fx, fy⟩ tt q⟩ : L = regL (placesL C ⟨fx, fy⟩ tt)))
          obtain ⟨m, hm⟩ : ∃ m, metC C ⟨fx, fy⟩ tt = m := ⟨_, rfl⟩
          obtain ⟨D, hD⟩ : ∃ D, fillC C ⟨fx, fy⟩ tt ⟨cr, cg, cb, ca⟩ = D := ⟨_, rfl⟩
          obtain ⟨RL, hRL⟩ : ∃ RL, regL (placesL C ⟨fx, fy⟩ tt) = RL := ⟨_, rfl⟩
          rw [hm] at HGR HUN HFP
          rw [hD] at HFI HFP
          rw [hRL] at HRG HUN HNS
          have HFD := Lib.hid (fun w' h => (show Calls Try.prog 21 #[.agg #[.int .i64 C.wide, .int .i64 C.high, .slice a3 C.tiles.length c3], .agg (fldA m), .agg #[.int .u8 cr, .int .u8 cg, .int .u8 cb, .int .u8 ca]] w' (GivesV D w') by
           have h1 := refFilled_any C HC.out.ok (.agg #[.int .i64 C.wide, .int .i64 C.high, .slice a3 C.tiles.length c3]) m ⟨cr, cg, cb, ca⟩ HOC.out w' h
           rw [HFP.out] at h1
           exact h1))
          have HSP := Lib.hid (fun w' h => refSpans_any C HC.out.ok (.agg #[.int .i64 C.wide, .int .i64 C.high, .slice a3 C.tiles.length c3]) m w' h)
          have HSZ := Lib.hid (show (Try.prog.info? 50).map (·.size) = some (fldA m).size by rw [fldA_size]; kernel_rfl)
          simp only [PtT.val] at HRG
          clear hns hbb hgr hm hD hRL
          have q0 := cell_of_block (k := 0) HP.out.at_ rfl
          have q1 := cell_of_block (k := 1) HP.out.at_ rfl
          go_wp2_with fail
          clear q0 q1
          refine (HRG.out).mono ?_
          rintro e w21 ⟨-, sa, sc, rfl, he_, hb_⟩
          have HS := Lib.hid ((HS.out.below hb_).addRow he_)
          have HC := Lib.hid (HC.out.below hb_)
          have HV := Lib.hid (HV.out.below hb_)
          have HK := Lib.hid (HK.out.below hb_)
          have HP := Lib.hid (HP.out.below hb_)
          clear hb_ he_
          have q0 := cell_of_block (k := 0) HP.out.at_ rfl
          have q1 := cell_of_block (k := 1) HP.out.at_ rfl
          have d0 := cell_of_block (k := 0) (HS.out.blockAt 3 rfl) rfl
          have d1 := cell_of_block (k := 1) (HS.out.blockAt 3 rfl) rfl
          have d2 := cell_of_block (k := 2) (HS.out.blockAt 3 rfl) rfl
          have d3 := cell_of_block (k := 3) (HS.out.blockAt 3 rfl) rfl
          go_wp2_with fail
          clear q0 q1 d0 d1 d2 d3
          refine (HFI.out _ HC.out).mono ?_
          rintro e w22 ⟨pd, rfl, hd22, -, hb22⟩
          have HD := Lib.hid hd22
          have HS := Lib.hid (HS.out.below hb22)
          have HC := Lib.hid (HC.out.below hb22)
          have HV := Lib.hid (HV.out.below hb22)
          have HK := Lib.hid (HK.out.below hb22)
          have HP := Lib.hid (HP.out.below hb22)
          clear hb22 hd22
          go_wp2_with fail
          refine (HTT.out _).mono ?_
          rintro e w23 ⟨rfl, hb_⟩
          have HS := Lib.hid (HS.out.below hb_)
          have HC := Lib.hid (HC.out.below hb_)
          have HV := Lib.hid (HV.out.below hb_)
          have HK := Lib.hid (HK.out.below hb_)
          have HP := Lib.hid (HP.out.below hb_)
          have HD := Lib.hid (HD.out.below hb_)
          clear hb_
          have v0 := cell_of_block (k := 0) (HS.out.blockAt 2 rfl) rfl
          have v1 := cell_of_block (k := 1) (HS.out.blockAt 2 rfl) rfl
          have v2 := cell_of_block (k := 2) (HS.out.blockAt 2 rfl) rfl
          have q0 := cell_of_block (k := 0) HP.out.at_ rfl
          have q1 := cell_of_block (k := 1) HP.out.at_ rfl
          go_wp2_with fail
          clear v0 v1 v2 q0 q1
          refine (HON.out _ HV.out).mono ?_
          rintro e w24 ⟨rfl, hb_⟩
          have HS := Lib.hid (HS.out.below hb_)
          have HC := Lib.hid (HC.out.below hb_)
          have HV := Lib.hid (HV.out.below hb_)
          have HK := Lib.hid (HK.out.below hb_)
          have HP := Lib.hid (HP.out.below hb_)
          have HD := Lib.hid (HD.out.below hb_)
          clear hb_
          have v0 := cell_of_block (k := 0) (HS.out.blockAt 2 rfl) rfl
          have v1 := cell_of_block (k := 1) (HS.out.blockAt 2 rfl) rfl
          have v2 := cell_of_block (k := 2) (HS.out.blockAt 2 rfl) rfl
          have q0 := cell_of_block (k := 0) HP.out.at_ rfl
          have q1 := cell_of_block (k := 1) HP.out.at_ rfl
          repeat ((fail_if_success (with_reducible refine stop_at (id := 22) ?_)); (first | go_values | go_skip | go_guarded | go_step | go_upon | go_back | (simp only [Int.not_lt, Int.not_le] at *; go_simp) | (go_values <;> (try go_simp)) | (go_ite <;> go_prune <;> (try go_simp)) | (split <;> (first | (rename_i hx; exact (hx _ rfl).elim) | go_prune))))
          refine (wpIn_wide (n := 0)).1 ?_
          gi_wp2_with (refine opIn_build 50 _ rfl _ (by simpa using built_field0) ?_)
          clear v0 v1 v2 q0 q1
          refine (callsIn_wide.2 (HGR.out _ HV.out)).mono ?_
          rintro e w25 ⟨rfl, hb25⟩
          have HS := Lib.hid (HS.out.below hb25)
          have HC := Lib.hid (HC.out.below hb25)
          have HV := Lib.hid (HV.out.below hb25)
          have HK := Lib.hid (HK.out.below hb25)
          have HD := Lib.hid (HD.out.below hb25)
          clear hb25 HP
          simp only []
          go_at_K
          gi_step
          gi_step
          gi_step
          gi_step
          refine opIn_store 50 _ _ rfl w25.heap.size 50 Try.zeroCells50 (fldA m) rfl rfl (World.alloc_heap_new _ _) HSZ.out (Eq.trans (b := 1024) (by kernel_rfl) (fldA_size m).symm) (fldA_one m) ?_
          simp only [Act.put, List.setIfInBounds_toArray, List.set_cons_succ, List.set_cons_zero]
          have hs6 := HS.out.allocRow Try.zeroCells50 (fldA m) 50
          obtain ⟨b20, hb20⟩ : ∃ b20, w25.heap.size = b20 := ⟨_, rfl⟩
          obtain ⟨w26, hw26⟩ : ∃ w26, (w25.alloc (.cells Try.zeroCells50 50)).setRow w25.heap.size (fldA m) = w26 := ⟨_, rfl⟩
          have hf26 := hs6.blockAt 0 rfl
          have hb26 : Below w25.heap.size w25 w26 := by
           rw [← hw26]
           have h1 := (Below.refl w25.heap.size w25).alloc (Nat.le_refl _) (.cells Try.zeroCells50 50)
           exact ⟨h1.os, h1.tape, h1.output, by simp, fun k hk => (setRow_other _ _ k (fldA m) (by omega)).trans (h1.block k hk)⟩
          rw [hw26, hb20] at hf26
          rw [hw26]
          have HS := Lib.hid (HS.out.below hb26)
          have HC := Lib.hid (HC.out.below hb26)
          have HV := Lib.hid (HV.out.below hb26)
          have HK := Lib.hid (HK.out.below hb26)
          have HD := Lib.hid (HD.out.below hb26)
          have HFB := Lib.hid (BlkAt.mk hf26)
          simp only [hb20]
          clear hs6 hb20 hw26 hf26 hb26
          gi_wp2_with fail
          have v0 := cell_of_block (k := 0) (HS.out.blockAt 2 rfl) rfl
          have v1 := cell_of_block (k := 1) (HS.out.blockAt 2 rfl) rfl
          have v2 := cell_of_block (k := 2) (HS.out.blockAt 2 rfl) rfl
          repeat ((fail_if_success (with_reducible refine stop_at (id := 23) ?_)); (first | go_values | go_skip | go_guarded | go_step | go_upon | go_back | (simp only [Int.not_lt, Int.not_le] at *; go_simp) | (go_values <;> (try go_simp)) | (go_ite <;> go_prune <;> (try go_simp)) | (split <;> (first | (rename_i hx; exact (hx _ rfl).elim) | go_prune))))
          refine (wpIn_wide (n := 0)).1 ?_
          gi_wp2_with fail
          clear v0 v1 v2
          refine opIn_load 50 _ rfl b20 rfl 50 (fldA m) (0, 0) _ HFB.out.at_ Try.underlying50 rfl HSZ.out ?_
          simp only [Act.put, List.setIfInBounds_toArray, List.set_cons_succ, List.set_cons_zero]
          gi_wp2_with fail
          refine (callsIn_wide.2 (HSP.out _ HV.out)).mono ?_
          rintro e w27 ⟨L, hL, u, rfl, hrow, hb27⟩
          obtain rfl := HUN.out L hL
          have he27 := ownsRow_rows encS_len hrow
          obtain ⟨ua, uc, rfl⟩ : ∃ ua uc, u = .slice ua ns uc := by
           rw [HNS.out] at hrow
           rcases hrow.2 with ⟨h1, h0⟩ | ⟨g', cp, cur, h1, _⟩
           · exact ⟨none, 0, by rw [h1, h0]⟩
           · exact ⟨_, cp, h1⟩
          rw [HNS.out] at he27
          have HW := Lib.hid he27
          have HS := Lib.hid (HS.out.below hb27)
          have HC := Lib.hid (HC.out.below hb27)
          have HV := Lib.hid (HV.out.below hb27)
          have HK := Lib.hid (HK.out.below hb27)
          have HD := Lib.hid (HD.out.below hb27)
          have HFB := Lib.hid (HFB.out.below hb27)
          clear hL hrow hb27 he27
          gi_wp2_with fail
          repeat ((fail_if_success (with_reducible refine stop_at (id := 24) ?_)); (first | go_values | go_skip | go_guarded | go_step | go_upon | go_back | (simp only [Int.not_lt, Int.not_le] at *; go_simp) | (go_values <;> (try go_simp)) | (go_ite <;> go_prune <;> (try go_simp)) | (split <;> (first | (rename_i hx; exact (hx _ rfl).elim) | go_prune))))
          refine (wpIn_wide (n := 0)).1 ?_
          apply wp_region_vals 8 (Rl := [(eqv _), (fun v_ w_ => CanV w_ D v_), (eqv _), (eqv _), (eqv _), (fun v_ w_ => CanV w_ D v_), (eqv _), (eqv _)]) (C := (fun x y => Below x.heap.size x y))
          case hm => kernel_rfl
          case hk => rfl
          case hCr => exact (fun _ => Below.refl _ _)
          case hCt => intro _ _ _; exact (fun h k => grows_trans h k)
          case hst => exact ⟨fun _ _ _ _ h => h, fun _ _ _ hC h => h.below hC, fun _ _ _ _ h => h, fun _ _ _ _ h => h, fun _ _ _ _ h => h, fun _ _ _ hC h => h.below hC, fun _ _ _ _ h => h, fun _ _ _ _ h => h, trivial⟩
          case hfo => kernel_rfl
          case ht => kernel_rfl
          case hC0 => exact (grows_drew _)
          case hsteps =>
           refine ⟨?_, ?_, ?_, ?_, ?_, ?_, ?_, ?_, trivial⟩
           · intro a' w' hA hC hD; have s16 : a'.tmps[16]? = some _ := (hA.at 16 (by kernel_rfl)).trans rfl; clear hA hD; refine stepOk_plain rfl ?_; intro K hK; gi_wp2; exact hK _ _ rfl ((fun _ => Below.refl _ _) _)
           · intro a' w' hA hC hD; obtain ⟨u96, s96, r96⟩ := hD ⟨0, .data⟩ (by simp) rfl _ rfl; replace r96 : u96 = _ := r96; subst r96; clear hA hD; refine stepOk_plain rfl ?_; intro K hK
             gi_wp2_with fail; refine (callsIn_wide.2 (show_any D pd _ (HD.out.below hC))).mono ?_; rintro e w5 ⟨v5, rfl, hr5, hb5⟩
             exact hK _ _ hr5 hb5
           · intro a' w' hA hC hD; have s8 : a'.tmps[8]? = some _ := (hA.at 8 (by kernel_rfl)).trans rfl
             have v0 := cell_of_block (k := 0) ((HS.out.below hC).blockAt 2 rfl) rfl; have v1 := cell_of_block (k := 1) ((HS.out.below hC).blockAt 2 rfl) rfl; have v2 := cell_of_block (k := 2) ((HS.out.below hC).blockAt 2 rfl) rfl
             clear hA hD; refine stepOk_plain rfl ?_; intro K hK; gi_wp2; exact hK _ _ rfl ((fun _ => Below.refl _ _) _)
           · intro a' w' hA hC hD; have s20 : a'.tmps[20]? = some _ := (hA.at 20 (by kernel_rfl)).trans rfl; clear hA hD; refine stepOk_plain rfl ?_; intro K hK
             refine opIn_load 50 _ rfl b20 (by simp [Act.eval, s20]) 50 (fldA m) (0, 0) _ (HFB.out.below hC).at_ Try.underlying50 rfl HSZ.out ?_; exact hK _ _ rfl (Below.refl _ _)
           · intro a' w' hA hC hD; have s5 : a'.tmps[5]? = some _ := (hA.at 5 (by kernel_rfl)).trans rfl
             have d0 := cell_of_block (k := 0) ((HS.out.below hC).blockAt 3 rfl) rfl; have d1 := cell_of_block (k := 1) ((HS.out.below hC).blockAt 3 rfl) rfl; have d2 := cell_of_block (k := 2) ((HS.out.below hC).blockAt 3 rfl) rfl; have d3 := cell_of_block (k := 3) ((HS.out.below hC).blockAt 3 rfl) rfl
             clear hA hD; refine stepOk_plain rfl ?_; intro K hK; gi_wp2; exact hK _ _ rfl ((fun _ => Below.refl _ _) _)
           · intro a' w' hA hC hD; obtain ⟨u98, s98, r98⟩ := hD ⟨2, .data⟩ (by simp) rfl _ rfl; replace r98 : u98 = _ := r98; subst r98; obtain ⟨u99, s99, r99⟩ := hD ⟨3, .data⟩ (by simp) rfl _ rfl; replace r99 : u99 = _ := r99; subst r99; obtain ⟨u100, s100, r100⟩ := hD ⟨4, .data⟩ (by simp) rfl _ rfl; replace r100 : u100 = _ := r100; subst r100; clear hA hD; refine stepOk_plain rfl ?_; intro K hK
             gi_wp2_with fail; refine (callsIn_wide.2 (HFD.out _ (HV.out.below hC))).mono ?_; rintro e w5 ⟨v5, rfl, hr5, hb5⟩
             exact hK _ _ hr5 hb5
           · intro a' w' hA hC hD; obtain ⟨u97, s97, r97⟩ := hD ⟨1, .data⟩ (by simp) rfl _ rfl; replace r97 : (fun v_ w_ => CanV w_ D v_) u97 w' := r97; obtain ⟨u101, s101, r101⟩ := hD ⟨5, .data⟩ (by simp) rfl _ rfl; replace r101 : (fun v_ w_ => CanV w_ D v_) u101 w' := r101; clear hA hD; refine stepOk_plain rfl ?_; intro K hK
             gi_wp2_with fail; refine (callsIn_wide.2 (alike_any D D (by have := HD.out.ok.len; omega) _ _ _ r97 r101)).mono ?_; rintro e w5 ⟨rfl, hb5⟩; rw [decide_eq_true (rfl : D = D)]; exact hK _ _ rfl hb5
           · intro a' w' hA hC hD; obtain ⟨u102, s102, r102⟩ := hD ⟨6, .data⟩ (by simp) rfl _ rfl; replace r102 : u102 = _ := r102; subst r102; clear hA hD; refine stepOk_plain rfl ?_; intro K hK; gi_wp2; exact hK _ _ rfl ((fun _ => Below.refl _ _) _)
          case hend =>
           intro w28 hC
           simp only [EndFrom, eqv, forall_eq, Act.put, List.length_cons, List.length_nil, List.drop_succ_cons, List.drop_zero, Nat.reduceAdd, List.setIfInBounds_toArray, List.set_cons_succ, List.set_cons_zero]
           have HS := Lib.hid (HS.out.below hC)
           have HC := Lib.hid (HC.out.below hC)
           have HV := Lib.hid (HV.out.below hC)
           have HK := Lib.hid (HK.out.below hC)
           have HW := Lib.hid (HW.out.below hC)
           clear hC HFB HD
           intro v97 hv97 v101 hv101
           clear hv97 hv101
           gi_wp2
           repeat ((fail_if_success (with_reducible refine stop_at (id := 26) ?_)); (first | go_values | go_skip | go_guarded | go_step | go_upon | go_back | (simp only [Int.not_lt, Int.not_le] at *; go_simp) | (go_values <;> (try go_simp)) | (go_ite <;> go_prune <;> (try go_simp)) | (split <;> (first | (rename_i hx; exact (hx _ rfl).elim) | go_prune))))
           refine (wpIn_wide (n := 0)).1 ?_
           apply wp_region_vals 11 (Rl := [(eqv _), (eqv _), (eqv _), (eqv _), (eqv _), (eqv _), (fun v_ w_ => CanV w_ C v_), (eqv _), (eqv _), (eqv _), (eqv _)]) (C := (fun x y => Below x.heap.size x y))
           case hm => kernel_rfl
           case hk => rfl
           case hCr => exact (fun _ => Below.refl _ _)
           case hCt => intro _ _ _; exact (fun h k => grows_trans h k)
           case hst => exact ⟨fun _ _ _ _ h => h, fun _ _ _ _ h => h, fun _ _ _ _ h => h, fun _ _ _ _ h => h, fun _ _ _ _ h => h, fun _ _ _ _ h => h, fun _ _ _ hC h => h.below hC, fun _ _ _ _ h => h, fun _ _ _ _ h => h, fun _ _ _ _ h => h, fun _ _ _ _ h => h, trivial⟩
           case hfo => kernel_rfl
           case ht => kernel_rfl
           case hC0 => exact (grows_drew _)
           case hsteps =>
            refine ⟨?_, ?_, ?_, ?_, ?_, ?_, ?_, ?_, ?_, ?_, ?_, trivial⟩
            · intro a' w' hA hC hD; have s14 : a'.tmps[14]? = some _ := (hA.at 14 (by kernel_rfl)).trans rfl; clear hA hD; refine stepOk_plain rfl ?_; intro K hK; gi_wp2; exact hK _ _ rfl ((fun _ => Below.refl _ _) _)
            · intro a' w' hA hC hD; have s18 : a'.tmps[18]? = some _ := (hA.at 18 (by kernel_rfl)).trans rfl; clear hA hD; refine stepOk_plain rfl ?_; intro K hK; gi_wp2; exact hK _ _ rfl ((fun _ => Below.refl _ _) _)
            · intro a' w' hA hC hD; obtain ⟨u104, s104, r104⟩ := hD ⟨0, .data⟩ (by simp) rfl _ rfl; replace r104 : u104 = _ := r104; subst r104; obtain ⟨u105, s105, r105⟩ := hD ⟨1, .data⟩ (by simp) rfl _ rfl; replace r105 : u105 = _ := r105; subst r105; clear hA hD; refine stepOk_plain rfl ?_; intro K hK
              gi_wp2_with fail; refine (callsIn_wide.2 (eqS_same _ _ L ns HNS.out _ ((HS.out.below hC).elems 0 rfl) (HW.out.below hC) (by have := HNB.out; omega))).mono ?_; rintro e w2 ⟨rfl, hb⟩
              exact hK _ _ rfl hb
            · intro a' w' hA hC hD; obtain ⟨u106, s106, r106⟩ := hD ⟨2, .data⟩ (by simp) rfl _ rfl; replace r106 : u106 = _ := r106; subst r106; clear hA hD; refine stepOk_plain rfl ?_; intro K hK; gi_wp2; exact hK _ _ rfl ((fun _ => Below.refl _ _) _)
            · intro a' w' hA hC hD; obtain ⟨u107, s107, r107⟩ := hD ⟨3, .data⟩ (by simp) rfl _ rfl; replace r107 : u107 = _ := r107; subst r107; clear hA hD; refine stepOk_plain rfl ?_; intro K hK; gi_wp2; exact hK _ _ rfl ((fun _ => Below.refl _ _) _)
            · intro a' w' hA hC hD; have s7 : a'.tmps[7]? = some _ := (hA.at 7 (by kernel_rfl)).trans rfl; obtain ⟨u108, s108, r108⟩ := hD ⟨4, .guard⟩ (by simp) rfl _ rfl; replace r108 : u108 = _ := r108; subst r108; clear hA hD; refine stepOk_want rfl rfl s108 ?_; intro K hK; gi_wp2; exact hK _ _ rfl ((fun _ => Below.refl _ _) _)
            · intro a' w' hA hC hD; obtain ⟨u109, s109, r109⟩ := hD ⟨5, .data⟩ (by simp) rfl _ rfl; replace r109 : u109 = _ := r109; subst r109; obtain ⟨u108, s108, r108⟩ := hD ⟨4, .chain⟩ (by simp) rfl _ rfl; replace r108 : u108 = _ := r108; subst r108; clear hA hD; refine stepOk_want rfl rfl s108 ?_; intro K hK
              gi_wp2_with fail; refine (callsIn_wide.2 (show_any C p _ (HC.out.below hC))).mono ?_; rintro e w5 ⟨v5, rfl, hr5, hb5⟩
              exact hK _ _ hr5 hb5
            · intro a' w' hA hC hD; have s8 : a'.tmps[8]? = some _ := (hA.at 8 (by kernel_rfl)).trans rfl; obtain ⟨u108, s108, r108⟩ := hD ⟨4, .guard⟩ (by simp) rfl _ rfl; replace r108 : u108 = _ := r108; subst r108
              have v0 := cell_of_block (k := 0) ((HS.out.below hC).blockAt 2 rfl) rfl; have v1 := cell_of_block (k := 1) ((HS.out.below hC).blockAt 2 rfl) rfl; have v2 := cell_of_block (k := 2) ((HS.out.below hC).blockAt 2 rfl) rfl
              clear hA hD; refine stepOk_want rfl rfl s108 ?_; intro K hK; gi_wp2; exact hK _ _ rfl ((fun _ => Below.refl _ _) _)
            · intro a' w' hA hC hD; obtain ⟨u110, s110, r110⟩ := hD ⟨6, .data⟩ (by simp) rfl _ rfl; replace r110 : (fun v_ w_ => CanV w_ C v_) u110 w' := r110; obtain ⟨u111, s111, r111⟩ := hD ⟨7, .data⟩ (by simp) rfl _ rfl; replace r111 : u111 = _ := r111; subst r111; obtain ⟨u108, s108, r108⟩ := hD ⟨4, .guard⟩ (by simp) rfl _ rfl; replace r108 : u108 = _ := r108; subst r108; clear hA hD; refine stepOk_want rfl rfl s108 ?_; intro K hK
              gi_wp2_with fail; refine (callsIn_wide.2 (alike_any C C (by have := HC.out.ok.len; omega) _ _ _ r110 (HV.out.below hC))).mono ?_; rintro e w5 ⟨rfl, hb5⟩; rw [decide_eq_true (rfl : C = C)]; exact hK _ _ rfl hb5
            · intro a' w' hA hC hD; obtain ⟨u112, s112, r112⟩ := hD ⟨8, .data⟩ (by simp) rfl _ rfl; replace r112 : u112 = _ := r112; subst r112; obtain ⟨u108, s108, r108⟩ := hD ⟨4, .guard⟩ (by simp) rfl _ rfl; replace r108 : u108 = _ := r108; subst r108; clear hA hD; refine stepOk_want rfl rfl s108 ?_; intro K hK; gi_wp2; exact hK _ _ rfl ((fun _ => Below.refl _ _) _)
            · intro a' w' hA hC hD; obtain ⟨u108, s108, r108⟩ := hD ⟨4, .data⟩ (by simp) rfl _ rfl; replace r108 : u108 = _ := r108; subst r108; obtain ⟨u113, s113, r113⟩ := hD ⟨9, .data⟩ (by simp) rfl _ rfl; replace r113 : u113 = _ := r113; subst r113; clear hA hD; refine stepOk_plain rfl ?_; intro K hK; gi_wp2; exact hK _ _ rfl ((fun _ => Below.refl _ _) _)
           case hend =>
            intro w40 hC
            simp only [EndFrom, eqv, forall_eq, Act.put, List.length_cons, List.length_nil, List.drop_succ_cons, List.drop_zero, Nat.reduceAdd, List.setIfInBounds_toArray, List.set_cons_succ, List.set_cons_zero]
            have HK := Lib.hid (HK.out.below hC)
            clear hC
            intro v41 hv41
            clear hv41
            gi_wp2
            go_wp2_with fail
            go_roundw
            case rel => exact ⟨j + 1, HJ.out, congrArg (Value.int .i64) HE.out, HK.out⟩
            case measure => rw [HE.out]; have := HJ.out; simp only [intOf]; omega
   · go_wp2_with fail
     clear hlt
     refine (region_nil ⟨0, 0⟩ 0 _).mono ?_
     rintro e w20 ⟨rfl, hb_⟩
     have HS := Lib.hid (HS.out.below hb_)
     clear hb_
     have d0 := cell_of_block (k := 0) (HS.out.blockAt 1 rfl) rfl
     have d1 := cell_of_block (k := 1) (HS.out.blockAt 1 rfl) rfl
     have d2 := cell_of_block (k := 2) (HS.out.blockAt 1 rfl) rfl
     have d3 := cell_of_block (k := 3) (HS.out.blockAt 1 rfl) rfl
     go_wp2_with fail
     clear d0 d1 d2 d3
     refine (fill_nil ⟨0, 0⟩ (-1) ⟨cr, cg, cb, ca⟩ _).mono ?_
     rintro e w21 ⟨rfl, hb_⟩
     have HS := Lib.hid (HS.out.below hb_)
     clear hb_
     go_wp2_with fail
     go_ret
     exact ⟨rfl, HS.out.low⟩
end Go.Proofs.Ytodpkgbpcpfamaa
