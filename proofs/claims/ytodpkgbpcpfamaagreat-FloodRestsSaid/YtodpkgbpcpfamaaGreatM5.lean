/- Merged texts: Pla New Of. -/
import Derived.Test.YtodpkgbpcpfamaaGreatM3
import Derived.Test.YtodpkgbpcpfamaaGreatM4
/- Layer 5: place, Size, At. -/
namespace Go.Proofs.YtodpkgbpcpfamaaGreat
set_option linter.unusedSimpArgs false
set_option linter.unusedVariables false
open Go.RowKit Go.Shelf
attribute [local go_sem] Oper.semAt_some

theorem place_nums {x y wide high i : Nat} (hi : y / 8 * wide + x / 8 = i) (hx : x < 8 * wide) (hy : y < 8 * high) (hw : wide ≤ 4) (hh : high ≤ 4) :
 ∃ qy m qx : Nat, wrap64 ((y : Int) / 8) = (qy : Int) ∧ wrap64 ((qy : Int) * wide) = (m : Int) ∧ wrap64 ((x : Int) / 8) = (qx : Int) ∧ wrap64 ((m : Int) + qx) = (i : Int) ∧ wrap64 (8 * (wide : Int)) = 8 * (wide : Int) ∧ wrap64 (8 * (high : Int)) = 8 * (high : Int) := by
 obtain ⟨e1, e2, e3, e4, -⟩ := at_nums rfl rfl rfl hi rfl hx hy hw hh
 refine ⟨_, _, _, e1, e2, e3, e4, ?_, ?_⟩
 · unfold wrap64; omega
 · unfold wrap64; omega

set_option maxRecDepth 100000 in
set_option maxHeartbeats 2000000 in
theorem place_on (wide high x y i : Nat) (hi : y / 8 * wide + x / 8 = i) (hx : x < 8 * wide) (hy : y < 8 * high) (hw : wide ≤ 4) (hh : high ≤ 4) (w : World) :
 Calls Tryz.prog 29 #[.agg #[.int .i64 wide, .int .i64 high], .int .i64 x, .int .i64 y] w (Gives (.tuple #[.int .i64 i, .agg #[.int .i64 (x % 8 : Nat), .int .i64 (y % 8 : Nat)], .bool true]) w) := by
 obtain ⟨qy, m, qx, e1, e2, e3, e4, e5, e6⟩ := place_nums hi hx hy hw hh
 have g1 : (x : Int) < 8 * (wide : Int) := by omega
 have g2 : (y : Int) < 8 * (high : Int) := by omega
 clear hi hx hy hw hh
 have HS := Lib.hid (St.start w)
 go_enter Tryz.func29, Tryz.ntmps29
 repeat ((fail_if_success (with_reducible refine stop_at (id := 1) ?_)); (first | go_values | go_skip | go_guarded | go_step | go_upon | go_back | (simp only [Int.not_lt, Int.not_le] at *; go_simp) | (go_values <;> (try go_simp)) | (go_ite <;> go_prune <;> (try go_simp)) | (split <;> (first | (rename_i hx; exact (hx _ rfl).elim) | go_prune))))
 have hs_ := ((HS.out.alloc (.cells #[.int .i64 wide, .int .i64 high] 85)).alloc (.cells #[.int .i64 0, .int .i64 0] 33))
 obtain ⟨w1, hw_⟩ : ∃ w1 : World, ((w.alloc (.cells #[.int .i64 wide, .int .i64 high] 85)).alloc (.cells #[.int .i64 0, .int .i64 0] 33)) = w1 := ⟨_, rfl⟩
 rw [hw_] at hs_
 try simp only [World.size_alloc] at hs_
 have HS := Lib.hid hs_
 rw [hw_]
 clear hw_ hs_
 have s0 := cell_of_block (k := 0) (HS.out.blockAt 1 rfl) rfl
 have s1 := cell_of_block (k := 1) (HS.out.blockAt 1 rfl) rfl
 have p0 := cell_of_block (k := 0) (HS.out.blockAt 0 rfl) rfl
 have p1 := cell_of_block (k := 1) (HS.out.blockAt 0 rfl) rfl
 have f0 := free_of_block (HS.out.blockAt 0 rfl)
 go_wp2_with fail
 refine bodyPost_ret (v := .tuple #[.int .i64 i, .agg #[.int .i64 (x % 8 : Nat), .int .i64 (y % 8 : Nat)], .bool true]) (by simp [results, Tryz.results29, go_sem, p0, p1, e4]) rfl ⟨rfl, ?_⟩
 have h0 := HS.out.low
 (repeat (first | exact Below.refl _ _ | assumption | refine Below.alloc ?_ (by first | omega | (simp; done) | (simp; omega)) _ | refine Below.setCell ?_ (by first | omega | (simp; done) | (simp; omega)) _ | refine Below.drew ?_))

set_option maxRecDepth 100000 in
set_option maxHeartbeats 4000000 in
theorem place_off (wide high : Nat) (x y : Int) (hon : onB (8 * (wide : Int)) (8 * (high : Int)) ⟨x, y⟩ = false) (hw : wide ≤ 4) (hh : high ≤ 4) (w : World) :
 Calls Tryz.prog 29 #[.agg #[.int .i64 wide, .int .i64 high], .int .i64 x, .int .i64 y] w (Gives (.tuple #[.int .i64 0, .agg #[.int .i64 0, .int .i64 0], .bool false]) w) := by
 have e5 : wrap64 (8 * (wide : Int)) = 8 * (wide : Int) := by unfold wrap64; omega
 have e6 : wrap64 (8 * (high : Int)) = 8 * (high : Int) := by unfold wrap64; omega
 unfold onB at hon
 have hon := of_decide_eq_false hon
 simp only at hon
 clear hw hh
 have HS := Lib.hid (St.start w)
 by_cases h1 : 0 ≤ x <;> by_cases h2 : 0 ≤ y <;> by_cases h3 : x < 8 * (wide : Int) <;> by_cases h4 : y < 8 * (high : Int) <;> (try (exfalso; first | exact hon ⟨⟨h1, h3⟩, h2, h4⟩ | omega)) <;> clear hon <;> (
  go_enter Tryz.func29, Tryz.ntmps29
  repeat ((fail_if_success (with_reducible refine stop_at (id := 1) ?_)); (first | go_values | go_skip | go_guarded | go_step | go_upon | go_back | (simp only [Int.not_lt, Int.not_le] at *; go_simp) | (go_values <;> (try go_simp)) | (go_ite <;> go_prune <;> (try go_simp)) | (split <;> (first | (rename_i hx; exact (hx _ rfl).elim) | go_prune))))
  have hs_ := ((HS.out.alloc (.cells #[.int .i64 wide, .int .i64 high] 85)).alloc (.cells #[.int .i64 0, .int .i64 0] 33))
  obtain ⟨w1, hw_⟩ : ∃ w1 : World, ((w.alloc (.cells #[.int .i64 wide, .int .i64 high] 85)).alloc (.cells #[.int .i64 0, .int .i64 0] 33)) = w1 := ⟨_, rfl⟩
  rw [hw_] at hs_
  try simp only [World.size_alloc] at hs_
  have HS := Lib.hid hs_
  rw [hw_]
  clear hw_ hs_
  have s0 := cell_of_block (k := 0) (HS.out.blockAt 1 rfl) rfl
  have s1 := cell_of_block (k := 1) (HS.out.blockAt 1 rfl) rfl
  have p0 := cell_of_block (k := 0) (HS.out.blockAt 0 rfl) rfl
  have p1 := cell_of_block (k := 1) (HS.out.blockAt 0 rfl) rfl
  have f0 := free_of_block (HS.out.blockAt 0 rfl)
  go_wp2_with fail
  refine bodyPost_ret (v := .tuple #[.int .i64 0, .agg #[.int .i64 0, .int .i64 0], .bool false]) (by simp [results, Tryz.results29, go_sem, p0, p1]) rfl ⟨rfl, ?_⟩
  have h0 := HS.out.low
  (repeat (first | exact Below.refl _ _ | assumption | refine Below.alloc ?_ (by first | omega | (simp; done) | (simp; omega)) _ | refine Below.setCell ?_ (by first | omega | (simp; done) | (simp; omega)) _ | refine Below.drew ?_)))

set_option maxRecDepth 100000 in
set_option maxHeartbeats 4000000 in
theorem at_on (C : CanT) (p : Nat) (x y : Nat) (hx : x < 8 * C.wide) (hy : y < 8 * C.high) (w : World) (hC : CanAt w p C) :
 Calls Tryz.prog 10 #[.pointer (some ⟨p, 0, none⟩), .int .i64 x, .int .i64 y] w (Gives (.tuple #[(colC C x y).val, .bool true]) w) := by
 obtain ⟨ok, b, cap, qs, h1, h2, h3, h4, h5⟩ := hC
 obtain ⟨T, hT, hcT, hok⟩ := ok.tile hx hy
 have hlt := tile_lt hx hy
 rw [← ok.many, ← h3] at hlt
 obtain ⟨q, hq⟩ : ∃ q, qs[y / 8 * C.wide + x / 8]? = some q := ⟨_, List.getElem?_eq_getElem hlt⟩
 have k4 := h4 _ _ hq
 have k5 := h5 _ _ _ hq hT
 have HTA := Lib.hid (tileAtT_any T (x % 8) (y % 8) (by omega) (by omega) _ hcT)
 have HPL := Lib.hid (place_on C.wide C.high x y _ rfl hx hy ok.wide.2 ok.high.2)
 obtain ⟨i, hi⟩ : ∃ i, y / 8 * C.wide + x / 8 = i := ⟨_, rfl⟩
 obtain ⟨rx, hrx⟩ : ∃ rx, x % 8 = rx := ⟨_, rfl⟩
 obtain ⟨ry, hry⟩ : ∃ ry, y % 8 = ry := ⟨_, rfl⟩
 obtain ⟨cl, hcl⟩ : ∃ cl, colC C x y = cl := ⟨_, rfl⟩
 rw [hrx, hry, hcl] at HTA
 rw [hi, hrx, hry] at HPL
 rw [hi] at k4
 rw [hcl]
 obtain ⟨wide, high, tiles⟩ := C
 simp only at *
 obtain ⟨n, hn⟩ : ∃ n, tiles.length = n := ⟨_, rfl⟩
 rw [hn] at h1 h3
 have hin : i < n := by rw [← h3, ← hi]; exact hlt
 have HIN := Lib.hid hin
 have HB := Lib.hid (And.intro (block_lt h1) (And.intro (block_lt k5) (cell_lt k4)))
 have HH := Lib.hid (And.intro h1 (And.intro k4 k5))
 have HS := Lib.hid (St.start w)
 clear ok h1 h2 h3 h4 h5 hT hcT hok hlt hq k4 k5 hi hrx hry hcl hn hx hy hin
 obtain ⟨r, g, bl, al⟩ := cl
 unfold ColT.val at *
 go_enter Tryz.func10, Tryz.ntmps10
 repeat ((fail_if_success (with_reducible refine stop_at (id := 3) ?_)); (first | go_values | go_skip | go_guarded | go_step | go_upon | go_back | (simp only [Int.not_lt, Int.not_le] at *; go_simp) | (go_values <;> (try go_simp)) | (go_ite <;> go_prune <;> (try go_simp)) | (split <;> (first | (rename_i hx; exact (hx _ rfl).elim) | go_prune))))
 have hs_ := (HS.out.alloc (.cells #[.int .u8 0, .int .u8 0, .int .u8 0, .int .u8 0] 27))
 obtain ⟨w1, hw_⟩ : ∃ w1 : World, (w.alloc (.cells #[.int .u8 0, .int .u8 0, .int .u8 0, .int .u8 0] 27)) = w1 := ⟨_, rfl⟩
 rw [hw_] at hs_
 try simp only [World.size_alloc] at hs_
 have HS := Lib.hid hs_
 rw [hw_]
 clear hw_ hs_
 have hb1 := (HS.out.low.block _ HB.out.1).trans HH.out.1
 have s0 := cell_of_block (k := 0) hb1 rfl
 have s1 := cell_of_block (k := 1) hb1 rfl
 clear hb1
 go_wp2_with fail
 clear s0 s1
 refine (HPL.out _).mono ?_
 rintro e w2 ⟨rfl, hb_⟩
 have HS := Lib.hid (HS.out.below hb_)
 clear hb_
 repeat ((fail_if_success (with_reducible refine stop_at (id := 6) ?_)); (first | go_values | go_skip | go_guarded | go_step | go_upon | go_back | (simp only [Int.not_lt, Int.not_le] at *; go_simp) | (go_values <;> (try go_simp)) | (go_ite <;> go_prune <;> (try go_simp)) | (split <;> (first | (rename_i hx; exact (hx _ rfl).elim) | go_prune))))
 have hs_ := (HS.out.alloc (.cells #[.int .i64 rx, .int .i64 ry] 33))
 obtain ⟨w3, hw_⟩ : ∃ w3 : World, (w2.alloc (.cells #[.int .i64 rx, .int .i64 ry] 33)) = w3 := ⟨_, rfl⟩
 rw [hw_] at hs_
 try simp only [World.size_alloc] at hs_
 have HS := Lib.hid hs_
 rw [hw_]
 clear hw_ hs_
 refine (wpIn_wide (n := 0)).1 ?_
 refine wp_region_factsE (by kernel_rfl) [(fun v_ _ _ => v_ = (.pointer (some ⟨p, 0, none⟩) : Value)), (fun v_ _ _ => v_ = (.pointer (some ⟨p, 0, none⟩) : Value)), (fun v_ _ _ => v_ = (.pointer (some ⟨p, 2, none⟩) : Value)), (fun v_ _ _ => v_ = (.slice (some ⟨b, 0, none⟩) n cap : Value)), (fun v_ _ _ => v_ = (.int .i64 (i : Int) : Value)), (fun v_ _ _ => v_ = (.pointer (some ⟨b, i, none⟩) : Value)), (fun v_ _ _ => v_ = (.pointer (some ⟨q, 0, none⟩) : Value)), (fun v_ _ _ => v_ = (.pointer (some ⟨q, 0, none⟩) : Value)), (fun v_ _ _ => v_ = (.agg (encT T).toArray : Value)), (fun v_ _ _ => v_ = (.pointer (some ⟨w2.heap.size, 0, none⟩) : Value)), (fun v_ _ _ => v_ = (.int .i64 (rx : Int) : Value)), (fun v_ _ _ => v_ = (.pointer (some ⟨w2.heap.size, 1, none⟩) : Value)), (fun v_ _ _ => v_ = (.int .i64 (ry : Int) : Value)), (fun v_ _ _ => v_ = (.tuple #[.agg #[.int .u8 r, .int .u8 g, .int .u8 bl, .int .u8 al], .int .i64 0] : Value)), (fun v_ _ _ => v_ = (.tuple #[.agg #[.int .u8 r, .int .u8 g, .int .u8 bl, .int .u8 al], .int .i64 0] : Value)), (fun v_ _ _ => v_ = (.agg #[.int .u8 r, .int .u8 g, .int .u8 bl, .int .u8 al] : Value)), (fun v_ _ _ => v_ = (.int .i64 0 : Value)), (fun v_ e_ w_ => ∃ q, v_ = .pointer (some ⟨q, 0, none⟩) ∧ w3.heap.size ≤ q ∧ (w_.heap[q]? = some (.cells #[.int .u8 0, .int .u8 0, .int .u8 0, .int .u8 0] 27 (0, 0)) ∨ w_.heap[q]? = some (.cells #[.int .u8 r, .int .u8 g, .int .u8 bl, .int .u8 al] 27 (0, 0)))), (fun v_ e_ w_ => ∀ q, e_ 11 = .pointer (some ⟨q, 0, none⟩) → w_.heap[q]? = some (.cells #[.int .u8 r, .int .u8 g, .int .u8 bl, .int .u8 al] 27 (0, 0)))] (fun x y => FillC w3.heap.size (.cells #[.int .u8 0, .int .u8 0, .int .u8 0, .int .u8 0] 27 (0, 0)) (.cells #[.int .u8 r, .int .u8 g, .int .u8 bl, .int .u8 al] 27 (0, 0)) x y) (fun x => FillC.refl _ _ _ x) (fun h k => FillC.trans h k) ⟨fun _ _ _ _ _ h => h, fun _ _ _ _ _ h => h, fun _ _ _ _ _ h => h, fun _ _ _ _ _ h => h, fun _ _ _ _ _ h => h, fun _ _ _ _ _ h => h, fun _ _ _ _ _ h => h, fun _ _ _ _ _ h => h, fun _ _ _ _ _ h => h, fun _ _ _ _ _ h => h, fun _ _ _ _ _ h => h, fun _ _ _ _ _ h => h, fun _ _ _ _ _ h => h, fun _ _ _ _ _ h => h, fun _ _ _ _ _ h => h, fun _ _ _ _ _ h => h, fun _ _ _ _ _ h => h, fun _ _ _ _ hC ⟨q, e, h, h2⟩ => ⟨q, e, h, FillC.either hC h2⟩, fun _ _ _ _ hC h q e => FillC.filled hC (h q e), trivial⟩ (by kernel_rfl) (by kernel_rfl) (FillC.grow (grows_drew _) (Nat.le_refl _)) ⟨fun _ _ _ _ _ h => h, fun _ _ _ _ _ h => h, fun _ _ _ _ _ h => h, fun _ _ _ _ _ h => h, fun _ _ _ _ _ h => h, fun _ _ _ _ _ h => h, fun _ _ _ _ _ h => h, fun _ _ _ _ _ h => h, fun _ _ _ _ _ h => h, fun _ _ _ _ _ h => h, fun _ _ _ _ _ h => h, fun _ _ _ _ _ h => h, fun _ _ _ _ _ h => h, fun _ _ _ _ _ h => h, fun _ _ _ _ _ h => h, fun _ _ _ _ _ h => h, fun _ _ _ _ _ h => h, fun _ _ _ _ _ h => h, fun v env env' x he h q e => h q ((he ⟨17, .data⟩ (by simp) rfl _ _ rfl rfl).trans e), trivial⟩ ?steps ?fin
 case steps =>
  refine ⟨?_, ?_, ?_, ?_, ?_, ?_, ?_, ?_, ?_, ?_, ?_, ?_, ?_, ?_, ?_, ?_, ?_, ?_, ?_, trivial⟩
  · intro a' w' hA hC hD; have s0 : a'.tmps[0]? = some (.pointer (some ⟨p, 0, none⟩)) := (hA.at 0 (by kernel_rfl)).trans rfl
    have hCz := FillC.size hC
    clear hA hD; refine stepOk_plain rfl ?_; intro K hK; gi_wp2; exact hK (.pointer (some ⟨p, 0, none⟩)) _ rfl ((fun x => FillC.refl _ _ _ x) _)
  · intro a' w' hA hC hD; obtain ⟨u31, s31, r31⟩ := hD ⟨0, .data⟩ (by simp) rfl _ rfl; replace r31 : u31 = .pointer (some ⟨p, 0, none⟩) := r31; subst r31
    have hCz := FillC.size hC
    clear hA hD; refine stepOk_plain rfl ?_; intro K hK; gi_wp2; exact hK (.pointer (some ⟨p, 0, none⟩)) _ rfl ((fun x => FillC.refl _ _ _ x) _)
  · intro a' w' hA hC hD; obtain ⟨u32, s32, r32⟩ := hD ⟨1, .data⟩ (by simp) rfl _ rfl; replace r32 : u32 = .pointer (some ⟨p, 0, none⟩) := r32; subst r32
    have hCz := FillC.size hC
    clear hA hD; refine stepOk_plain rfl ?_; intro K hK; gi_wp2; exact hK (.pointer (some ⟨p, 2, none⟩)) _ rfl ((fun x => FillC.refl _ _ _ x) _)
  · intro a' w' hA hC hD; obtain ⟨u33, s33, r33⟩ := hD ⟨2, .data⟩ (by simp) rfl _ rfl; replace r33 : u33 = .pointer (some ⟨p, 2, none⟩) := r33; subst r33
    have hCz := FillC.size hC
    have hb1 := ((HS.out.low.trans (hC.1.mono HS.out.low.size)).block _ HB.out.1).trans HH.out.1; have s2 := cell_of_block (k := 2) hb1 rfl; clear hb1
    clear hA hD; refine stepOk_plain rfl ?_; intro K hK; gi_wp2; exact hK (.slice (some ⟨b, 0, none⟩) n cap) _ rfl ((fun x => FillC.refl _ _ _ x) _)
  · intro a' w' hA hC hD; have s8 : a'.tmps[8]? = some (.int .i64 (i : Int)) := (hA.at 8 (by kernel_rfl)).trans rfl
    have hCz := FillC.size hC
    clear hA hD; refine stepOk_plain rfl ?_; intro K hK; gi_wp2; exact hK (.int .i64 (i : Int)) _ rfl ((fun x => FillC.refl _ _ _ x) _)
  · intro a' w' hA hC hD; obtain ⟨u34, s34, r34⟩ := hD ⟨3, .data⟩ (by simp) rfl _ rfl; replace r34 : u34 = .slice (some ⟨b, 0, none⟩) n cap := r34; subst r34; obtain ⟨u35, s35, r35⟩ := hD ⟨4, .data⟩ (by simp) rfl _ rfl; replace r35 : u35 = .int .i64 (i : Int) := r35; subst r35
    have hCz := FillC.size hC
    have hin := HIN.out
    clear hA hD; refine stepOk_plain rfl ?_; intro K hK; gi_wp2; exact hK (.pointer (some ⟨b, i, none⟩)) _ rfl ((fun x => FillC.refl _ _ _ x) _)
  · intro a' w' hA hC hD; obtain ⟨u36, s36, r36⟩ := hD ⟨5, .data⟩ (by simp) rfl _ rfl; replace r36 : u36 = .pointer (some ⟨b, i, none⟩) := r36; subst r36
    have hCz := FillC.size hC
    have k4 := ((HS.out.low.trans (hC.1.mono HS.out.low.size)).cell (p := ⟨b, i, none⟩) HB.out.2.2).trans HH.out.2.1
    clear hA hD; refine stepOk_plain rfl ?_; intro K hK; gi_wp2; exact hK (.pointer (some ⟨q, 0, none⟩)) _ rfl ((fun x => FillC.refl _ _ _ x) _)
  · intro a' w' hA hC hD; obtain ⟨u37, s37, r37⟩ := hD ⟨6, .data⟩ (by simp) rfl _ rfl; replace r37 : u37 = .pointer (some ⟨q, 0, none⟩) := r37; subst r37
    have hCz := FillC.size hC
    clear hA hD; refine stepOk_plain rfl ?_; intro K hK; gi_wp2; exact hK (.pointer (some ⟨q, 0, none⟩)) _ rfl ((fun x => FillC.refl _ _ _ x) _)
  · intro a' w' hA hC hD; obtain ⟨u38, s38, r38⟩ := hD ⟨7, .data⟩ (by simp) rfl _ rfl; replace r38 : u38 = .pointer (some ⟨q, 0, none⟩) := r38; subst r38
    have hCz := FillC.size hC
    clear hA hD; refine stepOk_plain rfl ?_; intro K hK
    refine opIn_load _ _ rfl q (by simp [Act.eval, s38]) 67 _ (0, 0) _ (((HS.out.low.trans (hC.1.mono HS.out.low.size)).block _ HB.out.2.1).trans HH.out.2.2) Tryz.underlying67 rfl (size_T T) (hK _ _ rfl (FillC.refl _ _ _ _))
  · intro a' w' hA hC hD; have s9 : a'.tmps[9]? = some (.pointer (some ⟨w2.heap.size, 0, none⟩)) := (hA.at 9 (by kernel_rfl)).trans rfl
    have hCz := FillC.size hC
    clear hA hD; refine stepOk_plain rfl ?_; intro K hK; gi_wp2; exact hK (.pointer (some ⟨w2.heap.size, 0, none⟩)) _ rfl ((fun x => FillC.refl _ _ _ x) _)
  · intro a' w' hA hC hD; obtain ⟨u40, s40, r40⟩ := hD ⟨9, .data⟩ (by simp) rfl _ rfl; replace r40 : u40 = .pointer (some ⟨w2.heap.size, 0, none⟩) := r40; subst r40
    have hCz := FillC.size hC
    have d0 := cell_of_block (k := 0) ((hC.1.block _ (HS.out.lt 0 rfl)).trans (HS.out.blockAt 0 rfl)) rfl
    clear hA hD; refine stepOk_plain rfl ?_; intro K hK; gi_wp2; exact hK (.int .i64 (rx : Int)) _ rfl ((fun x => FillC.refl _ _ _ x) _)
  · intro a' w' hA hC hD; have s9 : a'.tmps[9]? = some (.pointer (some ⟨w2.heap.size, 0, none⟩)) := (hA.at 9 (by kernel_rfl)).trans rfl
    have hCz := FillC.size hC
    clear hA hD; refine stepOk_plain rfl ?_; intro K hK; gi_wp2; exact hK (.pointer (some ⟨w2.heap.size, 1, none⟩)) _ rfl ((fun x => FillC.refl _ _ _ x) _)
  · intro a' w' hA hC hD; obtain ⟨u42, s42, r42⟩ := hD ⟨11, .data⟩ (by simp) rfl _ rfl; replace r42 : u42 = .pointer (some ⟨w2.heap.size, 1, none⟩) := r42; subst r42
    have hCz := FillC.size hC
    have d1 := cell_of_block (k := 1) ((hC.1.block _ (HS.out.lt 0 rfl)).trans (HS.out.blockAt 0 rfl)) rfl
    clear hA hD; refine stepOk_plain rfl ?_; intro K hK; gi_wp2; exact hK (.int .i64 (ry : Int)) _ rfl ((fun x => FillC.refl _ _ _ x) _)
  · intro a' w' hA hC hD; obtain ⟨u39, s39, r39⟩ := hD ⟨8, .data⟩ (by simp) rfl _ rfl; replace r39 : u39 = .agg (encT T).toArray := r39; subst r39; obtain ⟨u41, s41, r41⟩ := hD ⟨10, .data⟩ (by simp) rfl _ rfl; replace r41 : u41 = .int .i64 (rx : Int) := r41; subst r41; obtain ⟨u43, s43, r43⟩ := hD ⟨12, .data⟩ (by simp) rfl _ rfl; replace r43 : u43 = .int .i64 (ry : Int) := r43; subst r43
    have hCz := FillC.size hC
    clear hA hD; refine stepOk_plain rfl ?_; intro K hK
    gi_wp2_with fail; refine (callsIn_wide.2 (HTA.out _)).mono ?_; rintro e w5 ⟨rfl, hb⟩; exact hK _ _ rfl (FillC.grow hb hCz)
  · intro a' w' hA hC hD; obtain ⟨u44, s44, r44⟩ := hD ⟨13, .data⟩ (by simp) rfl _ rfl; replace r44 : u44 = .tuple #[.agg #[.int .u8 r, .int .u8 g, .int .u8 bl, .int .u8 al], .int .i64 0] := r44; subst r44
    have hCz := FillC.size hC
    clear hA hD; refine stepOk_plain rfl ?_; intro K hK; gi_wp2; exact hK (.tuple #[.agg #[.int .u8 r, .int .u8 g, .int .u8 bl, .int .u8 al], .int .i64 0]) _ rfl ((fun x => FillC.refl _ _ _ x) _)
  · intro a' w' hA hC hD; obtain ⟨u30, s30, r30⟩ := hD ⟨14, .data⟩ (by simp) rfl _ rfl; replace r30 : u30 = .tuple #[.agg #[.int .u8 r, .int .u8 g, .int .u8 bl, .int .u8 al], .int .i64 0] := r30; subst r30
    have hCz := FillC.size hC
    clear hA hD; refine stepOk_plain rfl ?_; intro K hK; gi_wp2; exact hK (.agg #[.int .u8 r, .int .u8 g, .int .u8 bl, .int .u8 al]) _ rfl ((fun x => FillC.refl _ _ _ x) _)
  · intro a' w' hA hC hD; obtain ⟨u30, s30, r30⟩ := hD ⟨14, .data⟩ (by simp) rfl _ rfl; replace r30 : u30 = .tuple #[.agg #[.int .u8 r, .int .u8 g, .int .u8 bl, .int .u8 al], .int .i64 0] := r30; subst r30
    have hCz := FillC.size hC
    clear hA hD; refine stepOk_plain rfl ?_; intro K hK; gi_wp2; exact hK (.int .i64 0) _ rfl ((fun x => FillC.refl _ _ _ x) _)
  · intro a' w' hA hC hD
    have hCz := FillC.size hC
    clear hA hD; refine stepOk_plain rfl ?_; intro K hK; gi_wp2; exact hK (.pointer (some ⟨w'.heap.size, 0, none⟩)) _ ⟨w'.heap.size, rfl, hCz, .inl (World.alloc_heap_new _ _)⟩ (FillC.grow ((Below.refl _ _).alloc (Nat.le_refl _) _) hCz)
  · intro a' w' hA hC hD; obtain ⟨u11, s11, r11⟩ := hD ⟨17, .data⟩ (by simp) rfl _ rfl; replace r11 : (fun v_ e_ w_ => ∃ q, v_ = .pointer (some ⟨q, 0, none⟩) ∧ w3.heap.size ≤ q ∧ (w_.heap[q]? = some (.cells #[.int .u8 0, .int .u8 0, .int .u8 0, .int .u8 0] 27 (0, 0)) ∨ w_.heap[q]? = some (.cells #[.int .u8 r, .int .u8 g, .int .u8 bl, .int .u8 al] 27 (0, 0)))) u11 (envOf a') w' := r11; obtain ⟨u45, s45, r45⟩ := hD ⟨15, .data⟩ (by simp) rfl _ rfl; replace r45 : u45 = .agg #[.int .u8 r, .int .u8 g, .int .u8 bl, .int .u8 al] := r45; subst r45
    have hCz := FillC.size hC
    have henv : envOf a' 11 = u11 := by (unfold envOf; rw [s11]; rfl)
    clear hA hD; refine stepOk_plain rfl ?_; intro K hK
    obtain ⟨q, rfl, hge, hq⟩ := r11; obtain ⟨y0, y1, y2, y3, hy⟩ := either4 hq; have d0 := cell_of_block (k := 0) (v := y0) hy rfl; have d1 := cell_of_block (k := 1) (v := y1) hy rfl; have d2 := cell_of_block (k := 2) (v := y2) hy rfl; have d3 := cell_of_block (k := 3) (v := y3) hy rfl; have fr := free_of_block hy; gi_wp2
    exact hK undef _ (fun q' e => by rw [henv] at e; cases e; exact (fill4 (n₀ := w3.heap.size) hge hq).2) (fill4 (n₀ := w3.heap.size) hge hq).1
 case fin =>
  intro w4 env hC
  simp only [EndFromE, forall_eq, Option.some.injEq, forall_eq', reduceCtorEq, false_implies, implies_true, forall_const, Act.put, List.length_cons, List.length_nil, List.drop_succ_cons, List.drop_zero, Nat.reduceAdd, List.setIfInBounds_toArray, List.set_cons_succ, List.set_cons_zero]
  rintro _ _ _ _ _ _ _ _ _ _ _ _ _ _ _ _ _ v11 ⟨q11, rfl, hge, _⟩ he hs
  have h11 := hs q11 he
  have HS := Lib.hid (HS.out.below hC.1)
  have d0 := cell_of_block (k := 0) h11 rfl
  have d1 := cell_of_block (k := 1) h11 rfl
  have d2 := cell_of_block (k := 2) h11 rfl
  have d3 := cell_of_block (k := 3) h11 rfl
  clear hs he h11 hC hge
  have k0 := cell_of_block (k := 0) (HS.out.blockAt 1 rfl) rfl
  have k1 := cell_of_block (k := 1) (HS.out.blockAt 1 rfl) rfl
  have k2 := cell_of_block (k := 2) (HS.out.blockAt 1 rfl) rfl
  have k3 := cell_of_block (k := 3) (HS.out.blockAt 1 rfl) rfl
  have f0 := free_of_block (HS.out.blockAt 1 rfl)
  gi_wp2
  go_wp2_with fail
  refine bodyPost_ret (v := .tuple #[.agg #[.int .u8 r, .int .u8 g, .int .u8 bl, .int .u8 al], .bool true]) (by simp [results, Tryz.results10, go_sem, k0, k1, k2, k3]) rfl ⟨rfl, ?_⟩
  have h0 := HS.out.low
  (repeat (first | exact Below.refl _ _ | assumption | refine Below.alloc ?_ (by first | omega | (simp; done) | (simp; omega)) _ | refine Below.setCell ?_ (by first | omega | (simp; done) | (simp; omega)) _ | refine Below.drew ?_))

set_option maxRecDepth 100000 in
set_option maxHeartbeats 2000000 in
theorem at_off (C : CanT) (p : Nat) (x y : Int) (hon : onB (8 * (C.wide : Int)) (8 * (C.high : Int)) ⟨x, y⟩ = false) (w : World) (hC : CanAt w p C) :
 Calls Tryz.prog 10 #[.pointer (some ⟨p, 0, none⟩), .int .i64 x, .int .i64 y] w (Gives (.tuple #[.agg #[.int .u8 0, .int .u8 0, .int .u8 0, .int .u8 0], .bool false]) w) := by
 obtain ⟨ok, b, cap, qs, h1, -⟩ := hC
 have HPL := Lib.hid (place_off C.wide C.high x y hon ok.wide.2 ok.high.2)
 obtain ⟨wide, high, tiles⟩ := C
 simp only at *
 obtain ⟨n, hn⟩ : ∃ n, tiles.length = n := ⟨_, rfl⟩
 rw [hn] at h1
 have HB := Lib.hid (block_lt h1)
 have HH := Lib.hid h1
 have HS := Lib.hid (St.start w)
 clear ok h1 hn hon
 go_enter Tryz.func10, Tryz.ntmps10
 repeat ((fail_if_success (with_reducible refine stop_at (id := 3) ?_)); (first | go_values | go_skip | go_guarded | go_step | go_upon | go_back | (simp only [Int.not_lt, Int.not_le] at *; go_simp) | (go_values <;> (try go_simp)) | (go_ite <;> go_prune <;> (try go_simp)) | (split <;> (first | (rename_i hx; exact (hx _ rfl).elim) | go_prune))))
 have hs_ := (HS.out.alloc (.cells #[.int .u8 0, .int .u8 0, .int .u8 0, .int .u8 0] 27))
 obtain ⟨w1, hw_⟩ : ∃ w1 : World, (w.alloc (.cells #[.int .u8 0, .int .u8 0, .int .u8 0, .int .u8 0] 27)) = w1 := ⟨_, rfl⟩
 rw [hw_] at hs_
 try simp only [World.size_alloc] at hs_
 have HS := Lib.hid hs_
 rw [hw_]
 clear hw_ hs_
 have hb1 := (HS.out.low.block _ HB.out).trans HH.out
 have s0 := cell_of_block (k := 0) hb1 rfl
 have s1 := cell_of_block (k := 1) hb1 rfl
 clear hb1
 go_wp2_with fail
 clear s0 s1
 refine (HPL.out _).mono ?_
 rintro e w2 ⟨rfl, hb_⟩
 have HS := Lib.hid (HS.out.below hb_)
 clear hb_
 repeat ((fail_if_success (with_reducible refine stop_at (id := 4) ?_)); (first | go_values | go_skip | go_guarded | go_step | go_upon | go_back | (simp only [Int.not_lt, Int.not_le] at *; go_simp) | (go_values <;> (try go_simp)) | (go_ite <;> go_prune <;> (try go_simp)) | (split <;> (first | (rename_i hx; exact (hx _ rfl).elim) | go_prune))))
 have hs_ := (HS.out.alloc (.cells #[.int .i64 0, .int .i64 0] 33))
 obtain ⟨w3, hw_⟩ : ∃ w3 : World, (w2.alloc (.cells #[.int .i64 0, .int .i64 0] 33)) = w3 := ⟨_, rfl⟩
 rw [hw_] at hs_
 try simp only [World.size_alloc] at hs_
 have HS := Lib.hid hs_
 rw [hw_]
 clear hw_ hs_
 have k0 := cell_of_block (k := 0) (HS.out.blockAt 1 rfl) rfl
 have k1 := cell_of_block (k := 1) (HS.out.blockAt 1 rfl) rfl
 have k2 := cell_of_block (k := 2) (HS.out.blockAt 1 rfl) rfl
 have k3 := cell_of_block (k := 3) (HS.out.blockAt 1 rfl) rfl
 have f0 := free_of_block (HS.out.blockAt 1 rfl)
 go_wp2_with fail
 refine bodyPost_ret (v := .tuple #[.agg #[.int .u8 0, .int .u8 0, .int .u8 0, .int .u8 0], .bool false]) (by simp [results, Tryz.results10, go_sem, k0, k1, k2, k3]) rfl ⟨rfl, ?_⟩
 have h0 := HS.out.low
 (repeat (first | exact Below.refl _ _ | assumption | refine Below.alloc ?_ (by first | omega | (simp; done) | (simp; omega)) _ | refine Below.setCell ?_ (by first | omega | (simp; done) | (simp; omega)) _ | refine Below.drew ?_))

set_option maxRecDepth 100000 in
set_option maxHeartbeats 1000000 in
theorem size_any (C : CanT) (p : Nat) (w : World) (hC : CanAt w p C) :
 Calls Tryz.prog 64 #[.pointer (some ⟨p, 0, none⟩)] w (Gives (.tuple #[.int .i64 (8 * (C.wide : Int)), .int .i64 (8 * (C.high : Int))]) w) := by
 obtain ⟨ok, b, cap, qs, h1, -⟩ := hC
 have HW := Lib.hid (And.intro ok.wide ok.high)
 obtain ⟨wide, high, tiles⟩ := C
 simp only at *
 obtain ⟨n, hn⟩ : ∃ n, tiles.length = n := ⟨_, rfl⟩
 rw [hn] at h1
 have HB := Lib.hid (block_lt h1)
 have HH := Lib.hid h1
 have HS := Lib.hid (St.start w)
 clear ok h1 hn
 have e1 : wrap64 (8 * (wide : Int)) = 8 * (wide : Int) := by have := HW.out; unfold wrap64; omega
 have e2 : wrap64 (8 * (high : Int)) = 8 * (high : Int) := by have := HW.out; unfold wrap64; omega
 go_enter Tryz.func64, Tryz.ntmps64
 repeat ((fail_if_success (with_reducible refine stop_at (id := 3) ?_)); (first | go_values | go_skip | go_guarded | go_step | go_upon | go_back | (simp only [Int.not_lt, Int.not_le] at *; go_simp) | (go_values <;> (try go_simp)) | (go_ite <;> go_prune <;> (try go_simp)) | (split <;> (first | (rename_i hx; exact (hx _ rfl).elim) | go_prune))))
 refine (wpIn_wide (n := 0)).1 ?_
 apply wp_region_vals 14 (Rl := [(eqv _), (eqv _), (eqv _), (eqv _), (eqv _), (eqv _), (eqv _), (eqv _), (eqv _), (eqv _), (eqv _), (eqv _), (eqv _), (eqv _)]) (C := (fun x y => Below x.heap.size x y))
 case hm => kernel_rfl
 case hk => rfl
 case hCr => exact (fun _ => Below.refl _ _)
 case hCt => intro _ _ _; exact (fun h k => grows_trans h k)
 case hst => exact ⟨fun _ _ _ _ h => h, fun _ _ _ _ h => h, fun _ _ _ _ h => h, fun _ _ _ _ h => h, fun _ _ _ _ h => h, fun _ _ _ _ h => h, fun _ _ _ _ h => h, fun _ _ _ _ h => h, fun _ _ _ _ h => h, fun _ _ _ _ h => h, fun _ _ _ _ h => h, fun _ _ _ _ h => h, fun _ _ _ _ h => h, fun _ _ _ _ h => h, trivial⟩
 case hfo => kernel_rfl
 case ht => kernel_rfl
 case hC0 => exact (grows_drew _)
 case hsteps =>
  refine ⟨?_, ?_, ?_, ?_, ?_, ?_, ?_, ?_, ?_, ?_, ?_, ?_, ?_, ?_, trivial⟩
  · intro a' w' hA hC hD; have s0 : a'.tmps[0]? = some _ := (hA.at 0 (by kernel_rfl)).trans rfl; clear hA hD; refine stepOk_plain rfl ?_; intro K hK; gi_wp2; exact hK _ _ rfl ((fun _ => Below.refl _ _) _)
  · intro a' w' hA hC hD; obtain ⟨u6, s6, r6⟩ := hD ⟨0, .data⟩ (by simp) rfl _ rfl; replace r6 : u6 = _ := r6; subst r6; clear hA hD; refine stepOk_plain rfl ?_; intro K hK; gi_wp2; exact hK _ _ rfl ((fun _ => Below.refl _ _) _)
  · intro a' w' hA hC hD; obtain ⟨u7, s7, r7⟩ := hD ⟨1, .data⟩ (by simp) rfl _ rfl; replace r7 : u7 = _ := r7; subst r7; clear hA hD; refine stepOk_plain rfl ?_; intro K hK; gi_wp2; exact hK _ _ rfl ((fun _ => Below.refl _ _) _)
  · intro a' w' hA hC hD; obtain ⟨u8, s8, r8⟩ := hD ⟨2, .data⟩ (by simp) rfl _ rfl; replace r8 : u8 = _ := r8; subst r8; clear hA hD; refine stepOk_plain rfl ?_; intro K hK; gi_wp2; exact hK _ _ rfl ((fun _ => Below.refl _ _) _)
  · intro a' w' hA hC hD; obtain ⟨u9, s9, r9⟩ := hD ⟨3, .data⟩ (by simp) rfl _ rfl; replace r9 : u9 = _ := r9; subst r9
    have hb1 := ((HS.out.below hC).low.block _ HB.out).trans HH.out; have s0 := cell_of_block (k := 0) hb1 rfl; clear hb1
    clear hA hD; refine stepOk_plain rfl ?_; intro K hK; gi_wp2; exact hK _ _ rfl ((fun _ => Below.refl _ _) _)
  · intro a' w' hA hC hD; obtain ⟨u10, s10, r10⟩ := hD ⟨4, .data⟩ (by simp) rfl _ rfl; replace r10 : u10 = _ := r10; subst r10; clear hA hD; refine stepOk_plain rfl ?_; intro K hK; gi_wp2; exact hK _ _ rfl ((fun _ => Below.refl _ _) _)
  · intro a' w' hA hC hD; have s0 : a'.tmps[0]? = some _ := (hA.at 0 (by kernel_rfl)).trans rfl; clear hA hD; refine stepOk_plain rfl ?_; intro K hK; gi_wp2; exact hK _ _ rfl ((fun _ => Below.refl _ _) _)
  · intro a' w' hA hC hD; obtain ⟨u12, s12, r12⟩ := hD ⟨6, .data⟩ (by simp) rfl _ rfl; replace r12 : u12 = _ := r12; subst r12; clear hA hD; refine stepOk_plain rfl ?_; intro K hK; gi_wp2; exact hK _ _ rfl ((fun _ => Below.refl _ _) _)
  · intro a' w' hA hC hD; obtain ⟨u13, s13, r13⟩ := hD ⟨7, .data⟩ (by simp) rfl _ rfl; replace r13 : u13 = _ := r13; subst r13; clear hA hD; refine stepOk_plain rfl ?_; intro K hK; gi_wp2; exact hK _ _ rfl ((fun _ => Below.refl _ _) _)
  · intro a' w' hA hC hD; obtain ⟨u14, s14, r14⟩ := hD ⟨8, .data⟩ (by simp) rfl _ rfl; replace r14 : u14 = _ := r14; subst r14; clear hA hD; refine stepOk_plain rfl ?_; intro K hK; gi_wp2; exact hK _ _ rfl ((fun _ => Below.refl _ _) _)
  · intro a' w' hA hC hD; obtain ⟨u15, s15, r15⟩ := hD ⟨9, .data⟩ (by simp) rfl _ rfl; replace r15 : u15 = _ := r15; subst r15
    have hb1 := ((HS.out.below hC).low.block _ HB.out).trans HH.out; have s0 := cell_of_block (k := 1) hb1 rfl; clear hb1
    clear hA hD; refine stepOk_plain rfl ?_; intro K hK; gi_wp2; exact hK _ _ rfl ((fun _ => Below.refl _ _) _)
  · intro a' w' hA hC hD; obtain ⟨u16, s16, r16⟩ := hD ⟨10, .data⟩ (by simp) rfl _ rfl; replace r16 : u16 = _ := r16; subst r16; clear hA hD; refine stepOk_plain rfl ?_; intro K hK; gi_wp2; exact hK _ _ rfl ((fun _ => Below.refl _ _) _)
  · intro a' w' hA hC hD; obtain ⟨u11, s11, r11⟩ := hD ⟨5, .data⟩ (by simp) rfl _ rfl; replace r11 : u11 = _ := r11; subst r11; clear hA hD; refine stepOk_plain rfl ?_; intro K hK; gi_wp2; exact hK _ _ rfl ((fun _ => Below.refl _ _) _)
  · intro a' w' hA hC hD; obtain ⟨u17, s17, r17⟩ := hD ⟨11, .data⟩ (by simp) rfl _ rfl; replace r17 : u17 = _ := r17; subst r17; clear hA hD; refine stepOk_plain rfl ?_; intro K hK; gi_wp2; exact hK _ _ rfl ((fun _ => Below.refl _ _) _)
 case hend =>
  intro w4 hC
  simp only [EndFrom, eqv, forall_eq, Act.put, List.length_cons, List.length_nil, List.drop_succ_cons, List.drop_zero, Nat.reduceAdd, List.setIfInBounds_toArray, List.set_cons_succ, List.set_cons_zero]
  have HS := Lib.hid (HS.out.below hC)
  clear hC
  gi_wp2
  go_wp2_with fail
  refine bodyPost_ret (v := .tuple #[.int .i64 (8 * (wide : Int)), .int .i64 (8 * (high : Int))]) (by simp [results, Tryz.results64, go_sem]) rfl ⟨rfl, HS.out.low⟩
end Go.Proofs.YtodpkgbpcpfamaaGreat

/- Layer 5: may, Check. -/
namespace Go.Proofs.YtodpkgbpcpfamaaGreat
set_option linter.unusedSimpArgs false
set_option linter.unusedVariables false
open Go.RowKit Go.Shelf
attribute [local go_sem] Oper.semAt_some

def mayB (wide high : Int) : Bool := decide ((1 ≤ wide ∧ wide ≤ 4) ∧ (1 ≤ high ∧ high ≤ 4))
theorem mayB_iff {wide high : Int} : mayB wide high = true ↔ ((1 ≤ wide ∧ wide ≤ 4) ∧ (1 ≤ high ∧ high ≤ 4)) := by unfold mayB; exact decide_eq_true_iff
set_option maxRecDepth 100000 in
set_option maxHeartbeats 1000000 in
theorem may_any (wide high : Int) (w : World) : Calls Tryz.prog 63 #[.agg #[.int .i64 wide, .int .i64 high]] w (Gives (.bool (mayB wide high)) w) := by
 have HS := Lib.hid (St.start w)
 unfold mayB
 by_cases h1 : 1 ≤ wide <;> by_cases h2 : wide ≤ 4 <;> by_cases h3 : 1 ≤ high <;> by_cases h4 : high ≤ 4 <;> first | (exfalso; omega) | (
  go_enter Tryz.func63, Tryz.ntmps63
  repeat ((fail_if_success (with_reducible refine stop_at (id := 1) ?_)); (first | go_values | go_skip | go_guarded | go_step | go_upon | go_back | (simp only [Int.not_lt, Int.not_le] at *; go_simp) | (go_values <;> (try go_simp)) | (go_ite <;> go_prune <;> (try go_simp)) | (split <;> (first | (rename_i hx; exact (hx _ rfl).elim) | go_prune))))
  have hs_ := (HS.out.alloc (.cells #[.int .i64 wide, .int .i64 high] 85))
  obtain ⟨w1, hw_⟩ : ∃ w1 : World, (w.alloc (.cells #[.int .i64 wide, .int .i64 high] 85)) = w1 := ⟨_, rfl⟩
  rw [hw_] at hs_
  try simp only [World.size_alloc] at hs_
  have HS := Lib.hid hs_
  rw [hw_]
  clear hw_ hs_
  have q0 := cell_of_block (k := 0) (HS.out.blockAt 0 rfl) rfl
  have q1 := cell_of_block (k := 1) (HS.out.blockAt 0 rfl) rfl
  go_wp2_with fail
  go_ret
  exact ⟨ret_bool (by symm; simp [h1, h2, h3, h4]), HS.out.low⟩)

def okE (wide high : Int) (n : Nat) : Bool := mayB wide high && decide ((n : Int) = wide * high)
set_option maxRecDepth 100000 in
set_option maxHeartbeats 1000000 in
theorem canCheck_any (wide high : Int) (a : Option Addr) (n cap : Nat) (w : World) : Calls Tryz.prog 47 #[.agg #[.int .i64 wide, .int .i64 high, .slice a n cap]] w (Gives (.int .i64 (errOf (okE wide high n) 150)) w) := by
 have HS := Lib.hid (St.start w)
 have HM := Lib.hid (may_any wide high)
 obtain ⟨mb, hmb⟩ : ∃ mb, mayB wide high = mb := ⟨_, rfl⟩
 unfold okE
 rw [hmb] at HM ⊢
 have HB := Lib.hid hmb
 clear hmb
 cases mb
 · rw [Bool.false_and, errOf_false]
   go_enter Tryz.func47, Tryz.ntmps47
   repeat ((fail_if_success (with_reducible refine stop_at (id := 1) ?_)); (first | go_values | go_skip | go_guarded | go_step | go_upon | go_back | (simp only [Int.not_lt, Int.not_le] at *; go_simp) | (go_values <;> (try go_simp)) | (go_ite <;> go_prune <;> (try go_simp)) | (split <;> (first | (rename_i hx; exact (hx _ rfl).elim) | go_prune))))
   have hs_ := (HS.out.alloc (.cells #[.int .i64 wide, .int .i64 high, .slice a n cap] 24))
   obtain ⟨w1, hw_⟩ : ∃ w1 : World, (w.alloc (.cells #[.int .i64 wide, .int .i64 high, .slice a n cap] 24)) = w1 := ⟨_, rfl⟩
   rw [hw_] at hs_
   try simp only [World.size_alloc] at hs_
   have HS := Lib.hid hs_
   rw [hw_]
   clear hw_ hs_
   have q0 := cell_of_block (k := 0) (HS.out.blockAt 0 rfl) rfl
   have q1 := cell_of_block (k := 1) (HS.out.blockAt 0 rfl) rfl
   repeat ((fail_if_success (with_reducible refine stop_at (id := 2) ?_)); (first | go_values | go_skip | go_guarded | go_step | go_upon | go_back | (simp only [Int.not_lt, Int.not_le] at *; go_simp) | (go_values <;> (try go_simp)) | (go_ite <;> go_prune <;> (try go_simp)) | (split <;> (first | (rename_i hx; exact (hx _ rfl).elim) | go_prune))))
   have hs_ := (HS.out.alloc (.cells #[.int .i64 wide, .int .i64 high] 85))
   obtain ⟨w2, hw_⟩ : ∃ w2 : World, (w1.alloc (.cells #[.int .i64 wide, .int .i64 high] 85)) = w2 := ⟨_, rfl⟩
   rw [hw_] at hs_
   try simp only [World.size_alloc] at hs_
   have HS := Lib.hid hs_
   rw [hw_]
   clear hw_ hs_
   have p0 := cell_of_block (k := 0) (HS.out.blockAt 0 rfl) rfl
   have p1 := cell_of_block (k := 1) (HS.out.blockAt 0 rfl) rfl
   clear q0 q1
   go_wp2_with fail
   refine (HM.out _).mono ?_
   rintro e w3 ⟨rfl, hb_⟩
   have HS := Lib.hid (HS.out.below hb_)
   clear hb_
   go_wp2_with fail
   go_ret
   exact ⟨rfl, HS.out.low⟩
 · have h4 := mayB_iff.1 HB.out
   have e1 : wrap64 (wide * high) = wide * high := by
    rcases (by omega : wide = 1 ∨ wide = 2 ∨ wide = 3 ∨ wide = 4) with rfl | rfl | rfl | rfl <;> (unfold wrap64; omega)
   obtain ⟨m, hm⟩ : ∃ m, wide * high = m := ⟨_, rfl⟩
   rw [hm] at e1 ⊢
   have HMM := Lib.hid hm
   obtain ⟨nb, hnb⟩ : ∃ nb, decide ((n : Int) = m) = nb := ⟨_, rfl⟩
   rw [hnb, Bool.true_and]
   have HNB := Lib.hid (show ((n : Int) != m) = !nb by rw [← hnb]; rfl)
   clear h4 hnb
   go_enter Tryz.func47, Tryz.ntmps47
   repeat ((fail_if_success (with_reducible refine stop_at (id := 1) ?_)); (first | go_values | go_skip | go_guarded | go_step | go_upon | go_back | (simp only [Int.not_lt, Int.not_le] at *; go_simp) | (go_values <;> (try go_simp)) | (go_ite <;> go_prune <;> (try go_simp)) | (split <;> (first | (rename_i hx; exact (hx _ rfl).elim) | go_prune))))
   have hs_ := (HS.out.alloc (.cells #[.int .i64 wide, .int .i64 high, .slice a n cap] 24))
   obtain ⟨w1, hw_⟩ : ∃ w1 : World, (w.alloc (.cells #[.int .i64 wide, .int .i64 high, .slice a n cap] 24)) = w1 := ⟨_, rfl⟩
   rw [hw_] at hs_
   try simp only [World.size_alloc] at hs_
   have HS := Lib.hid hs_
   rw [hw_]
   clear hw_ hs_
   have q0 := cell_of_block (k := 0) (HS.out.blockAt 0 rfl) rfl
   have q1 := cell_of_block (k := 1) (HS.out.blockAt 0 rfl) rfl
   repeat ((fail_if_success (with_reducible refine stop_at (id := 2) ?_)); (first | go_values | go_skip | go_guarded | go_step | go_upon | go_back | (simp only [Int.not_lt, Int.not_le] at *; go_simp) | (go_values <;> (try go_simp)) | (go_ite <;> go_prune <;> (try go_simp)) | (split <;> (first | (rename_i hx; exact (hx _ rfl).elim) | go_prune))))
   have hs_ := (HS.out.alloc (.cells #[.int .i64 wide, .int .i64 high] 85))
   obtain ⟨w2, hw_⟩ : ∃ w2 : World, (w1.alloc (.cells #[.int .i64 wide, .int .i64 high] 85)) = w2 := ⟨_, rfl⟩
   rw [hw_] at hs_
   try simp only [World.size_alloc] at hs_
   have HS := Lib.hid hs_
   rw [hw_]
   clear hw_ hs_
   have p0 := cell_of_block (k := 0) (HS.out.blockAt 0 rfl) rfl
   have p1 := cell_of_block (k := 1) (HS.out.blockAt 0 rfl) rfl
   clear q0 q1
   go_wp2_with fail
   clear p0 p1
   refine (HM.out _).mono ?_
   rintro e w3 ⟨rfl, hb_⟩
   have HS := Lib.hid (HS.out.below hb_)
   clear hb_
   have p0 := cell_of_block (k := 0) (HS.out.blockAt 0 rfl) rfl
   have p1 := cell_of_block (k := 1) (HS.out.blockAt 0 rfl) rfl
   have q2 := cell_of_block (k := 2) (HS.out.blockAt 1 rfl) rfl
   have hw := HMM.out
   have hx := HNB.out
   cases nb
   · go_wp2_with fail
     go_ret
     exact ⟨rfl, HS.out.low⟩
   · go_wp2_with fail
     go_ret
     exact ⟨rfl, HS.out.low⟩
end Go.Proofs.YtodpkgbpcpfamaaGreat

/- Layer 5: Of, Show, New. -/
namespace Go.Proofs.YtodpkgbpcpfamaaGreat
set_option linter.unusedSimpArgs false
set_option linter.unusedVariables false
open Go.RowKit Go.Shelf
attribute [local go_sem] Oper.semAt_some

/-- A row of tiles that is read; it lies at lo or above. -/
def RowGot (lo : Nat) (w : World) (v : Value) (ts : List TileT) : Prop := ∃ a cap, v = .slice a ts.length cap ∧ ts.length ≤ cap ∧ (∀ ad, a = some ad → lo ≤ ad.block) ∧ Elems w (.slice a ts.length cap) ts.length 256 (rowC encT ts)
theorem RowGot.below {lo : Nat} {w w' : World} {v : Value} {ts : List TileT} (h : RowGot lo w v ts) (hb : Below w.heap.size w w') : RowGot lo w' v ts := by
 obtain ⟨a, cap, rfl, h1, h2, h3⟩ := h
 exact ⟨a, cap, rfl, h1, h2, h3.below hb⟩
theorem RowGot.of {lo : Nat} {w : World} {base : Nat} {v : Value} {ts : List TileT} {e : TypeId} (h : w.ownsRow base e 256 v ts.length (ts.flatMap encT)) (hl : lo ≤ base) : RowGot lo w v ts := by
 have he := ownsRow_rows encT_len h
 rcases h.2 with ⟨rfl, h0⟩ | ⟨g, cap, cur, rfl, hg, _, h1, _⟩
 · exact ⟨none, 0, by rw [h0], by omega, fun _ e => (by cases e), by rw [h0] at he ⊢; exact he⟩
 · exact ⟨_, cap, rfl, h1, fun ad e => (by cases e; exact Nat.le_trans hl hg), he⟩
theorem Elems.other {w : World} {a : Option Addr} {n cap k m : Nat} {c : Nat → Value} (h : Elems w (.slice a n cap) m k c) {p : Nat} (hp : ∀ ad, a = some ad → p ≠ ad.block) (j : Nat) (u : Value) : Elems (w.setCell ⟨p, j, none⟩ u) (.slice a n cap) m k c := by
 rcases h with h | ⟨b, off, cap', e, hlt, hc⟩
 · exact .inl h
 · cases e
   refine .inr ⟨b, off, cap, rfl, by rw [World.size_setCell]; exact hlt, fun i hi => ?_⟩
   rw [← hc i hi]
   exact World.cell?_of_block (Below.heap_setCell w ⟨p, j, none⟩ u b (fun e => hp _ rfl e.symm))
/-- The pointers of a canvas. -/
theorem row_ptrs {w : World} {base : Nat} {v : Value} {qs : List Nat} (h : w.ownsRow base 91 1 v qs.length (qs.flatMap encQ)) (h0 : 0 < qs.length) :
 ∃ b cap, v = .slice (some ⟨b, 0, none⟩) qs.length cap ∧ qs.length ≤ cap ∧ base ≤ b ∧ b < w.heap.size ∧ ∀ (i q : Nat), qs[i]? = some q → w.cell? ⟨b, i, none⟩ = some (.pointer (some ⟨q, 0, none⟩)) := by
 have h' := h
 rcases h.2 with ⟨_, h0'⟩ | ⟨g, cap, cur, rfl, hb, hg, h1, _⟩
 · omega
 · refine ⟨g, cap, rfl, h1, hb, block_lt hg, fun i q hq => ownsRow_cell h' ?_⟩
   have := flat_get encQ_len qs i 0 (by decide)
   simp only [Nat.mul_one, Nat.add_zero] at this
   rw [this, hq]
   rfl
/-- A canvas that is made. -/
def GivesCan (C : CanT) (w : World) (e : Ending) (w' : World) : Prop := ∃ p, e = .returned (.tuple #[.pointer (some ⟨p, 0, none⟩), .int .i64 0]) ∧ CanAt w' p C ∧ w.heap.size ≤ p ∧ Below w.heap.size w w'

set_option maxRecDepth 100000 in
set_option maxHeartbeats 1000000 in
theorem of_good (C : CanT) (hC : okCan C) (a : Option Addr) (cap : Nat) (w : World) (he : Elems w (.slice a C.tiles.length cap) C.tiles.length 256 (rowC encT C.tiles)) :
 Calls Tryz.prog 22 #[.agg #[.int .i64 C.wide, .int .i64 C.high, .slice a C.tiles.length cap]] w (GivesCan C w) := by
 have HS := Lib.hid (St.start w)
 have HM := Lib.hid (fun w' (hb : Below w.heap.size w w') => madeOf_any a C.tiles.length cap C.tiles rfl (by have := hC.len; omega) w' (he.below hb))
 have hok : okE C.wide C.high C.tiles.length = true := by
  unfold okE
  rw [mayB_iff.2 ⟨by have := hC.wide; omega, by have := hC.high; omega⟩, Bool.true_and]
  refine decide_eq_true ?_
  rw [hC.many]; simp
 have HCK := Lib.hid (fun w' => canCheck_any C.wide C.high a C.tiles.length cap w')
 rw [hok] at HCK
 have HOK := Lib.hid hC
 have h0 : 0 < C.tiles.length := by
  rw [hC.many]
  exact Nat.mul_pos hC.wide.1 hC.high.1
 have H0 := Lib.hid h0
 obtain ⟨wide, hwide⟩ : ∃ wide, C.wide = wide := ⟨_, rfl⟩
 obtain ⟨high, hhigh⟩ : ∃ high, C.high = high := ⟨_, rfl⟩
 obtain ⟨n, hn⟩ : ∃ n, C.tiles.length = n := ⟨_, rfl⟩
 have HWH := Lib.hid (And.intro hwide (And.intro hhigh hn))
 rw [hwide, hhigh, hn] at HCK ⊢
 rw [hn] at HM
 clear hok h0 hwide hhigh hn he hC
 go_enter Tryz.func22, Tryz.ntmps22
 repeat ((fail_if_success (with_reducible refine stop_at (id := 1) ?_)); (first | go_values | go_skip | go_guarded | go_step | go_upon | go_back | (simp only [Int.not_lt, Int.not_le] at *; go_simp) | (go_values <;> (try go_simp)) | (go_ite <;> go_prune <;> (try go_simp)) | (split <;> (first | (rename_i hx; exact (hx _ rfl).elim) | go_prune))))
 have hs_ := (HS.out.alloc (.cells #[.int .i64 wide, .int .i64 high, .slice a n cap] 24))
 obtain ⟨w1, hw_⟩ : ∃ w1 : World, (w.alloc (.cells #[.int .i64 wide, .int .i64 high, .slice a n cap] 24)) = w1 := ⟨_, rfl⟩
 rw [hw_] at hs_
 try simp only [World.size_alloc] at hs_
 have HS := Lib.hid hs_
 rw [hw_]
 clear hw_ hs_
 have q0 := cell_of_block (k := 0) (HS.out.blockAt 0 rfl) rfl
 have q1 := cell_of_block (k := 1) (HS.out.blockAt 0 rfl) rfl
 have q2 := cell_of_block (k := 2) (HS.out.blockAt 0 rfl) rfl
 go_wp2_with fail
 clear q0 q1 q2
 refine (HCK.out _).mono ?_
 rintro e w2 ⟨rfl, hb_⟩
 have HS := Lib.hid (HS.out.below hb_)
 clear hb_
 have q2 := cell_of_block (k := 2) (HS.out.blockAt 0 rfl) rfl
 go_wp2_with fail
 clear q2
 refine (HM.out _ HS.out.low).mono ?_
 rintro e w3 ⟨v, qs, rfl, hr, htp, hb⟩
 have hlq : qs.length = n := by rw [htp.len]; exact HWH.out.2.2
 obtain ⟨b, cap2, rfl, hcap, hbb, hblt, hcell⟩ := row_ptrs hr (by rw [hlq, ← HWH.out.2.2]; exact H0.out)
 rw [hlq] at hcap
 have HS := Lib.hid (HS.out.below hb)
 have HR := Lib.hid (And.intro hlq (And.intro hcap (And.intro hblt (And.intro hcell htp))))
 rw [hlq]
 clear hr htp hb hlq hcap hbb hblt hcell HM HCK
 have q0 := cell_of_block (k := 0) (HS.out.blockAt 0 rfl) rfl
 have q1 := cell_of_block (k := 1) (HS.out.blockAt 0 rfl) rfl
 go_wp2_with fail
 clear q0 q1
 have hb4 := (Below.refl w3.heap.size w3).alloc (Nat.le_refl _) (.cells #[.int .i64 wide, .int .i64 high, .slice (some ⟨b, 0, none⟩) n cap2] 88)
 refine bodyPost_ret (v := .tuple #[.pointer (some ⟨w3.heap.size, 0, none⟩), .int .i64 0]) (by simp [results, Tryz.results22, go_sem]) rfl ⟨_, rfl, ⟨HOK.out, b, cap2, qs, ?_, ?_, ?_, ?_, ?_⟩, HS.out.size, HS.out.low.trans (hb4.mono HS.out.size)⟩
 · rw [HWH.out.1, HWH.out.2.1, HWH.out.2.2]
   exact World.alloc_heap_new _ _
 · rw [HWH.out.2.2]; exact HR.out.2.1
 · rw [HWH.out.2.2]; exact HR.out.1
 · exact fun i q hq => (hb4.cell (p := ⟨b, i, none⟩) HR.out.2.2.1).trans (HR.out.2.2.2.1 i q hq)
 · exact (HR.out.2.2.2.2.below hb4).at_

set_option maxRecDepth 100000 in
set_option maxHeartbeats 1000000 in
theorem of_bad (wide high : Int) (a : Option Addr) (n cap : Nat) (hok : okE wide high n = false) (w : World) :
 Calls Tryz.prog 22 #[.agg #[.int .i64 wide, .int .i64 high, .slice a n cap]] w (Gives (.tuple #[.pointer none, .int .i64 150]) w) := by
 have HS := Lib.hid (St.start w)
 have HCK := Lib.hid (fun w' => canCheck_any wide high a n cap w')
 rw [hok] at HCK
 clear hok
 go_enter Tryz.func22, Tryz.ntmps22
 repeat ((fail_if_success (with_reducible refine stop_at (id := 1) ?_)); (first | go_values | go_skip | go_guarded | go_step | go_upon | go_back | (simp only [Int.not_lt, Int.not_le] at *; go_simp) | (go_values <;> (try go_simp)) | (go_ite <;> go_prune <;> (try go_simp)) | (split <;> (first | (rename_i hx; exact (hx _ rfl).elim) | go_prune))))
 have hs_ := (HS.out.alloc (.cells #[.int .i64 wide, .int .i64 high, .slice a n cap] 24))
 obtain ⟨w1, hw_⟩ : ∃ w1 : World, (w.alloc (.cells #[.int .i64 wide, .int .i64 high, .slice a n cap] 24)) = w1 := ⟨_, rfl⟩
 rw [hw_] at hs_
 try simp only [World.size_alloc] at hs_
 have HS := Lib.hid hs_
 rw [hw_]
 clear hw_ hs_
 have q0 := cell_of_block (k := 0) (HS.out.blockAt 0 rfl) rfl
 have q1 := cell_of_block (k := 1) (HS.out.blockAt 0 rfl) rfl
 have q2 := cell_of_block (k := 2) (HS.out.blockAt 0 rfl) rfl
 go_wp2_with fail
 clear q0 q1 q2
 refine (HCK.out _).mono ?_
 rintro e w2 ⟨rfl, hb_⟩
 have HS := Lib.hid (HS.out.below hb_)
 clear hb_
 rw [errOf_false]
 go_wp2_with fail
 refine bodyPost_ret (v := .tuple #[.pointer none, .int .i64 150]) (by simp [results, Tryz.results22, go_sem]) rfl ⟨rfl, HS.out.low⟩

theorem St.addC {w0 x : World} {its : List It} (h : St w0 its x) {q : Nat} {o : Obj} (hq : x.heap[q]? = some o) (hl : ∀ i ∈ its, i.top ≤ q) (h0 : w0.heap.size ≤ q) : St w0 (.blk q o :: its) x := by
 refine ⟨h.low, fun i hi => ?_, ⟨h0, hl, h.ord⟩, fun i hi => ?_⟩
 · rcases List.mem_cons.1 hi with rfl | hi
   · exact hq
   · exact h.ok i hi
 · rcases List.mem_cons.1 hi with rfl | hi
   · exact block_lt hq
   · exact h.top i hi
/-- The empty canvas of one tile. -/
def zeroT : TileT := ⟨List.replicate 64 zeroC, by simp⟩
def canE : CanT := ⟨1, 1, [zeroT]⟩
theorem canE_ok : okCan canE := ⟨by decide, by decide, rfl, fun t ht c hc => by
 simp only [canE, List.mem_singleton] at ht
 subst ht
 simp only [zeroT, List.mem_replicate] at hc
 rw [hc.2]
 unfold okC zeroC
 decide⟩
theorem zeroT_cells : (encT zeroT).toArray = Tryz.zeroCells67 := by kernel_rfl

set_option maxRecDepth 100000 in
set_option maxHeartbeats 1000000 in
theorem new_any (w : World) : Calls Tryz.prog 37 #[.int .i64 1, .int .i64 1] w (GivesCan canE w) := by
 have HS := Lib.hid (St.start w)
 have HM := Lib.hid (may_any 1 1)
 rw [show mayB 1 1 = true by decide] at HM
 go_enter Tryz.func37, Tryz.ntmps37
 repeat ((fail_if_success (with_reducible refine stop_at (id := 2) ?_)); (first | go_values | go_skip | go_guarded | go_step | go_upon | go_back | (simp only [Int.not_lt, Int.not_le] at *; go_simp) | (go_values <;> (try go_simp)) | (go_ite <;> go_prune <;> (try go_simp)) | (split <;> (first | (rename_i hx; exact (hx _ rfl).elim) | go_prune))))
 have hs_ := (HS.out.alloc (.cells #[.int .i64 1, .int .i64 1] 85))
 obtain ⟨w1, hw_⟩ : ∃ w1 : World, (w.alloc (.cells #[.int .i64 1, .int .i64 1] 85)) = w1 := ⟨_, rfl⟩
 rw [hw_] at hs_
 try simp only [World.size_alloc] at hs_
 have HS := Lib.hid hs_
 rw [hw_]
 clear hw_ hs_
 have p0 := cell_of_block (k := 0) (HS.out.blockAt 0 rfl) rfl
 have p1 := cell_of_block (k := 1) (HS.out.blockAt 0 rfl) rfl
 go_wp2_with fail
 clear p0 p1
 refine (HM.out _).mono ?_
 rintro e w2 ⟨rfl, hb_⟩
 have HS := Lib.hid (HS.out.below hb_)
 clear hb_
 repeat ((fail_if_success (with_reducible refine stop_at (id := 4) ?_)); (first | go_values | go_skip | go_guarded | go_step | go_upon | go_back | (simp only [Int.not_lt, Int.not_le] at *; go_simp) | (go_values <;> (try go_simp)) | (go_ite <;> go_prune <;> (try go_simp)) | (split <;> (first | (rename_i hx; exact (hx _ rfl).elim) | go_prune))))
 have p0 := cell_of_block (k := 0) (HS.out.blockAt 0 rfl) rfl
 have p1 := cell_of_block (k := 1) (HS.out.blockAt 0 rfl) rfl
 clear p0 p1
 refine (wpIn_wide (n := 0)).1 ?_
 apply wp_region_vals 5 (Rl := [(eqv _), (eqv _), (eqv _), (eqv _), (fun v_ w_ => ∃ b, v_ = .slice (some ⟨b, 0, none⟩) 1 1 ∧ w2.heap.size ≤ b ∧ w_.heap[b]? = some (.cells #[.pointer none] 91 (0, 0)))]) (C := (fun x y => Below x.heap.size x y))
 case hm => kernel_rfl
 case hk => rfl
 case hCr => exact (fun _ => Below.refl _ _)
 case hCt => intro _ _ _; exact (fun h k => grows_trans h k)
 case hst => exact ⟨fun _ _ _ _ h => h, fun _ _ _ _ h => h, fun _ _ _ _ h => h, fun _ _ _ _ h => h, fun _ _ _ hC ⟨b, e, h1, h2⟩ => ⟨b, e, h1, (hC.block _ (block_lt h2)).trans h2⟩, trivial⟩
 case hfo => kernel_rfl
 case ht => kernel_rfl
 case hC0 => exact (grows_drew _)
 case hsteps =>
  refine ⟨?_, ?_, ?_, ?_, ?_, trivial⟩
  · intro a' w' hA hC hD; have s6 : a'.tmps[6]? = some _ := (hA.at 6 (by kernel_rfl)).trans rfl
    have h1_ := (HS.out.below hC).blockAt 0 rfl; have c1_0 := cell_of_block (k := 0) h1_ rfl; have c1_1 := cell_of_block (k := 1) h1_ rfl; clear h1_
    clear hA hD; refine stepOk_plain rfl ?_; intro K hK; gi_wp2; exact hK _ _ rfl ((fun _ => Below.refl _ _) _)
  · intro a' w' hA hC hD; have s0 : a'.tmps[0]? = some _ := (hA.at 0 (by kernel_rfl)).trans rfl; clear hA hD; refine stepOk_plain rfl ?_; intro K hK; gi_wp2; exact hK _ _ rfl ((fun _ => Below.refl _ _) _)
  · intro a' w' hA hC hD; have s1 : a'.tmps[1]? = some _ := (hA.at 1 (by kernel_rfl)).trans rfl; clear hA hD; refine stepOk_plain rfl ?_; intro K hK; gi_wp2; exact hK _ _ rfl ((fun _ => Below.refl _ _) _)
  · intro a' w' hA hC hD; obtain ⟨u17, s17, r17⟩ := hD ⟨1, .data⟩ (by simp) rfl _ rfl; replace r17 : u17 = _ := r17; subst r17; obtain ⟨u18, s18, r18⟩ := hD ⟨2, .data⟩ (by simp) rfl _ rfl; replace r18 : u18 = _ := r18; subst r18; clear hA hD; refine stepOk_plain rfl ?_; intro K hK; gi_wp2; exact hK _ _ rfl ((fun _ => Below.refl _ _) _)
  · intro a' w' hA hC hD; obtain ⟨u19, s19, r19⟩ := hD ⟨3, .data⟩ (by simp) rfl _ rfl; replace r19 : u19 = _ := r19; subst r19; clear hA hD; refine stepOk_plain rfl ?_; intro K hK; gi_wp2; exact hK (.slice (some ⟨w'.heap.size, 0, none⟩) 1 1) _ ⟨w'.heap.size, rfl, hC.size, Array.getElem?_push_size.trans (by kernel_rfl)⟩ ((Below.refl _ _).alloc (Nat.le_refl _) _)
 case hend =>
  intro w3 hC
  simp only [EndFrom, eqv, forall_eq, Act.put, List.length_cons, List.length_nil, List.drop_succ_cons, List.drop_zero, Nat.reduceAdd, List.setIfInBounds_toArray, List.set_cons_succ, List.set_cons_zero]
  rintro v4 ⟨b, rfl, hb1, hb2⟩
  have hs3 := (HS.out.below hC).addC hb2 (fun i hi => by rcases List.mem_singleton.1 hi with rfl; have := HS.out.lt 0 rfl; simp only [It.top]; omega) (Nat.le_trans HS.out.size hb1)
  have HS := Lib.hid hs3
  have HS0 := Lib.hid hs3.size
  clear hC hb1 hb2 hs3
  gi_wp2
  repeat ((fail_if_success (with_reducible refine stop_at (id := 6) ?_)); (first | go_values | go_skip | go_guarded | go_step | go_upon | go_back | (simp only [Int.not_lt, Int.not_le] at *; go_simp) | (go_values <;> (try go_simp)) | (go_ite <;> go_prune <;> (try go_simp)) | (split <;> (first | (rename_i hx; exact (hx _ rfl).elim) | go_prune))))
  have hs_ := ((HS.out.alloc (.cells #[.int .i64 1, .int .i64 1, .slice (some ⟨b, 0, none⟩) 1 1] 88)).alloc (.cells Tryz.zeroCells67 67))
  obtain ⟨w4, hw_⟩ : ∃ w4 : World, ((w3.alloc (.cells #[.int .i64 1, .int .i64 1, .slice (some ⟨b, 0, none⟩) 1 1] 88)).alloc (.cells Tryz.zeroCells67 67)) = w4 := ⟨_, rfl⟩
  rw [hw_] at hs_
  try simp only [World.size_alloc] at hs_
  have HS := Lib.hid hs_
  rw [hw_]
  clear hw_ hs_
  have c2 := cell_of_block (k := 2) (HS.out.blockAt 1 rfl) rfl
  have b0 := cell_of_block (k := 0) (HS.out.blockAt 2 rfl) rfl
  have f0 := free_of_block (HS.out.blockAt 2 rfl)
  go_wp2_with fail
  refine wp_loop_rounds 2 ?_
  rw [rounds_succ]
  go_wp2_with fail
  rw [rounds_succ]
  go_wp2_with fail
  clear c2 b0 f0
  have hs5 := HS.out.putAt (pre := [.blk (w3.heap.size + 1) (.cells Tryz.zeroCells67 67 (0, 0)), .blk w3.heap.size (.cells #[.int .i64 1, .int .i64 1, .slice (some ⟨b, 0, none⟩) 1 1] 88 (0, 0))]) (by simp) 0 (.pointer (some ⟨w3.heap.size + 1, 0, none⟩)) rfl
  simp only [List.cons_append, List.nil_append] at hs5
  refine bodyPost_ret (v := .tuple #[.pointer (some ⟨w3.heap.size, 0, none⟩), .int .i64 0]) (by simp [results, Tryz.results37, go_sem]) rfl ⟨_, rfl, ⟨canE_ok, b, 1, [w3.heap.size + 1], hs5.blockAt 1 rfl, by decide, rfl, fun i q hq => ?_, fun i q t hq ht => ?_⟩, HS0.out, hs5.low⟩
  · rcases i with _ | i
    · simp only [List.getElem?_cons_zero, Option.some.injEq] at hq
      subst hq
      exact cell_of_block (hs5.blockAt 2 rfl) rfl
    · simp at hq
  · rcases i with _ | i
    · simp only [canE, List.getElem?_cons_zero, Option.some.injEq] at hq ht
      subst hq ht
      rw [zeroT_cells]
      exact hs5.blockAt 0 rfl
    · simp at hq
end Go.Proofs.YtodpkgbpcpfamaaGreat
