/- Merged texts: Pla Nbs Sea Near Meet Around GoesL DrA RgA RgP. -/
import Derived.Test.YthcdkkmjnglmjaaGreatDoorM2
import Derived.Test.YthcdkkmjnglmjaaGreatDoorM5
import Derived.Test.YthcdkkmjnglmjaaGreatDoorM11
import Derived.RangeFuncNested
import Derived.Deep.QuietTactic
import Derived.Test.YthcdkkmjnglmjaaGreatDoorM8
import Derived.Test.YthcdkkmjnglmjaaGreatDoorM9
import Derived.Laws.EntriesVeiled
import Derived.Test.YthcdkkmjnglmjaaGreatDoorM1
set_option linter.unusedSimpArgs false
set_option linter.unusedVariables false
/- Layer 5: place, Size, At. -/
namespace Go.Proofs.YthcdkkmjnglmjaaGreatDoor
open Go.RowKit Go.Shelf
attribute [local go_sem] Oper.semAt_some
theorem place_nums {x y wide high i : Nat} (hi : y / 8 * wide + x / 8 = i) (hx : x < 8 * wide) (hy : y < 8 * high) (hw : wide ≤ 4) (hh : high ≤ 4) :
 ∃ qy m qx : Nat, wrap64 ((y : Int) / 8) = (qy : Int) ∧ wrap64 ((qy : Int) * wide) = (m : Int) ∧ wrap64 ((x : Int) / 8) = (qx : Int) ∧ wrap64 ((m : Int) + qx) = (i : Int) ∧ wrap64 (8 * (wide : Int)) = 8 * (wide : Int) ∧ wrap64 (8 * (high : Int)) = 8 * (high : Int) := by
 obtain ⟨e1, e2, e3, e4, -⟩ := at_nums rfl rfl rfl hi rfl hx hy hw hh
 refine ⟨_, _, _, e1, e2, e3, e4, ?_, ?_⟩
 · unfold wrap64; omega
 · unfold wrap64; omega
set_option maxRecDepth 100000 in
set_option maxHeartbeats 2000000 in
theorem place_on (wide high x y i : Nat) (hi : y / 8 * wide + x / 8 = i) (hx : x < 8 * wide) (hy : y < 8 * high) (hw : wide ≤ 4) (hh : high ≤ 4) (w : World) :
 Calls Tryz.prog 104 #[.agg #[.int .i64 wide, .int .i64 high], .int .i64 x, .int .i64 y] w (Gives (.tuple #[.int .i64 i, .agg #[.int .i64 (x % 8 : Nat), .int .i64 (y % 8 : Nat)], .bool true]) w) := by
 obtain ⟨qy, m, qx, e1, e2, e3, e4, e5, e6⟩ := place_nums hi hx hy hw hh
 have g1 : (x : Int) < 8 * (wide : Int) := by omega
 have g2 : (y : Int) < 8 * (high : Int) := by omega
 clear hi hx hy hw hh
 have HS := H7 (St.start w)
 go_enter Tryz.func104, Tryz.ntmps104
 repeat ((fail_if_success (with_reducible refine stop_at (id := 1) ?_)); (first | go_values | go_skip | go_guarded | go_step | go_upon | go_back | (simp only [Int.not_lt, Int.not_le] at *; go_simp) | (go_values <;> (try go_simp)) | (go_ite <;> go_prune <;> (try go_simp)) | (split <;> (first | (rename_i hx; exact (hx _ rfl).elim) | go_prune))))
 have hs_ := ((HS.out.alloc (.cells #[.int .i64 wide, .int .i64 high] 79)).alloc (.cells #[.int .i64 0, .int .i64 0] 26))
 obtain ⟨w1, hw_⟩ : ∃ w1 : World, ((w.alloc (.cells #[.int .i64 wide, .int .i64 high] 79)).alloc (.cells #[.int .i64 0, .int .i64 0] 26)) = w1 := ⟨_, rfl⟩
 rw [hw_] at hs_
 try simp only [World.size_alloc] at hs_
 have HS := H7 hs_
 rw [hw_]
 clear hw_ hs_
 have s0 := h7c HS 1 0 rfl rfl
 have s1 := h7c HS 1 1 rfl rfl
 have p0 := h7c HS 0 0 rfl rfl
 have p1 := h7c HS 0 1 rfl rfl
 have f0 := f7b (HS.out.blockAt 0 rfl)
 go_wp2_with fail
 refine bodyPost_ret (v := .tuple #[.int .i64 i, .agg #[.int .i64 (x % 8 : Nat), .int .i64 (y % 8 : Nat)], .bool true]) (by simp [results, Tryz.results104, go_sem, p0, p1, e4]) rfl ⟨rfl, ?_⟩
 have h0 := HS.out.low
 (repeat (first | exact B7 _ _ | assumption | refine Below.alloc ?_ (by first | omega | (simp; done) | (simp; omega)) _ | refine Below.setCell ?_ (by first | omega | (simp; done) | (simp; omega)) _ | refine Below.drew ?_))
set_option maxRecDepth 100000 in
set_option maxHeartbeats 4000000 in
theorem place_off (wide high : Nat) (x y : Int) (hon : onB (8 * (wide : Int)) (8 * (high : Int)) ⟨x, y⟩ = false) (hw : wide ≤ 4) (hh : high ≤ 4) (w : World) :
 Calls Tryz.prog 104 #[.agg #[.int .i64 wide, .int .i64 high], .int .i64 x, .int .i64 y] w (Gives (.tuple #[.int .i64 0, .agg #[.int .i64 0, .int .i64 0], .bool false]) w) := by
 have e5 : wrap64 (8 * (wide : Int)) = 8 * (wide : Int) := by unfold wrap64; omega
 have e6 : wrap64 (8 * (high : Int)) = 8 * (high : Int) := by unfold wrap64; omega
 unfold onB at hon
 have hon := of_decide_eq_false hon
 simp only at hon
 clear hw hh
 have HS := H7 (St.start w)
 by_cases h1 : 0 ≤ x <;> by_cases h2 : 0 ≤ y <;> by_cases h3 : x < 8 * (wide : Int) <;> by_cases h4 : y < 8 * (high : Int) <;> (try (exfalso; first | exact hon ⟨⟨h1, h3⟩, h2, h4⟩ | omega)) <;> clear hon <;> (
  go_enter Tryz.func104, Tryz.ntmps104
  repeat ((fail_if_success (with_reducible refine stop_at (id := 1) ?_)); (first | go_values | go_skip | go_guarded | go_step | go_upon | go_back | (simp only [Int.not_lt, Int.not_le] at *; go_simp) | (go_values <;> (try go_simp)) | (go_ite <;> go_prune <;> (try go_simp)) | (split <;> (first | (rename_i hx; exact (hx _ rfl).elim) | go_prune))))
  have hs_ := ((HS.out.alloc (.cells #[.int .i64 wide, .int .i64 high] 79)).alloc (.cells #[.int .i64 0, .int .i64 0] 26))
  obtain ⟨w1, hw_⟩ : ∃ w1 : World, ((w.alloc (.cells #[.int .i64 wide, .int .i64 high] 79)).alloc (.cells #[.int .i64 0, .int .i64 0] 26)) = w1 := ⟨_, rfl⟩
  rw [hw_] at hs_
  try simp only [World.size_alloc] at hs_
  have HS := H7 hs_
  rw [hw_]
  clear hw_ hs_
  have s0 := h7c HS 1 0 rfl rfl
  have s1 := h7c HS 1 1 rfl rfl
  have p0 := h7c HS 0 0 rfl rfl
  have p1 := h7c HS 0 1 rfl rfl
  have f0 := f7b (HS.out.blockAt 0 rfl)
  go_wp2_with fail
  refine bodyPost_ret (v := .tuple #[.int .i64 0, .agg #[.int .i64 0, .int .i64 0], .bool false]) (by simp [results, Tryz.results104, go_sem, p0, p1]) rfl ⟨rfl, ?_⟩
  have h0 := HS.out.low
  (repeat (first | exact B7 _ _ | assumption | refine Below.alloc ?_ (by first | omega | (simp; done) | (simp; omega)) _ | refine Below.setCell ?_ (by first | omega | (simp; done) | (simp; omega)) _ | refine Below.drew ?_)))
set_option maxRecDepth 100000 in
set_option maxHeartbeats 4000000 in
theorem at_on (C : CanT) (p : Nat) (x y : Nat) (hx : x < 8 * C.wide) (hy : y < 8 * C.high) (w : World) (hC : CanAt w p C) :
 Calls Tryz.prog 78 #[.pointer (some ⟨p, 0, none⟩), .int .i64 x, .int .i64 y] w (Gives (.tuple #[(colC C x y).val, .bool true]) w) := by
 obtain ⟨ok, b, cap, qs, h1, h2, h3, h4, h5⟩ := hC
 obtain ⟨T, hT, hcT, hok⟩ := ok.tile hx hy
 have hlt := tile_lt hx hy
 rw [← ok.many, ← h3] at hlt
 obtain ⟨q, hq⟩ : ∃ q, qs[y / 8 * C.wide + x / 8]? = some q := ⟨_, List.getElem?_eq_getElem hlt⟩
 have k4 := h4 _ _ hq
 have k5 := h5 _ _ _ hq hT
 have HTA := H7 (tileAtT_any T (x % 8) (y % 8) (by omega) (by omega) _ hcT)
 have HPL := H7 (place_on C.wide C.high x y _ rfl hx hy ok.wide.2 ok.high.2)
 obtain ⟨i, hi⟩ : ∃ i, y / 8 * C.wide + x / 8 = i := ⟨_, rfl⟩
 obtain ⟨rx, hrx⟩ : ∃ rx, x % 8 = rx := ⟨_, rfl⟩
 obtain ⟨ry, hry⟩ : ∃ ry, y % 8 = ry := ⟨_, rfl⟩
 obtain ⟨cl, hcl⟩ : ∃ cl, colC C x y = cl := ⟨_, rfl⟩
 rw [hrx, hry, hcl] at HTA
 rw [hi, hrx, hry] at HPL
 rw [hi] at k4
 rw [hcl]
 obtain ⟨wide, high, tiles⟩ := C
 simp only at *
 obtain ⟨n, hn⟩ : ∃ n, tiles.length = n := ⟨_, rfl⟩
 rw [hn] at h1 h3
 have hin : i < n := by rw [← h3, ← hi]; exact hlt
 have HIN := H7 hin
 have HB := H7 (And.intro (b7t h1) (And.intro (b7t k5) (cell_lt k4)))
 have HH := H7 (And.intro h1 (And.intro k4 k5))
 have HS := H7 (St.start w)
 clear ok h1 h2 h3 h4 h5 hT hcT hok hlt hq k4 k5 hi hrx hry hcl hn hx hy hin
 obtain ⟨r, g, bl, al⟩ := cl
 unfold ColT.val at *
 go_enter Tryz.func78, Tryz.ntmps78
 repeat ((fail_if_success (with_reducible refine stop_at (id := 3) ?_)); (first | go_values | go_skip | go_guarded | go_step | go_upon | go_back | (simp only [Int.not_lt, Int.not_le] at *; go_simp) | (go_values <;> (try go_simp)) | (go_ite <;> go_prune <;> (try go_simp)) | (split <;> (first | (rename_i hx; exact (hx _ rfl).elim) | go_prune))))
 have hs_ := (HS.out.alloc (.cells #[.int .u8 0, .int .u8 0, .int .u8 0, .int .u8 0] 34))
 obtain ⟨w1, hw_⟩ : ∃ w1 : World, (w.alloc (.cells #[.int .u8 0, .int .u8 0, .int .u8 0, .int .u8 0] 34)) = w1 := ⟨_, rfl⟩
 rw [hw_] at hs_
 try simp only [World.size_alloc] at hs_
 have HS := H7 hs_
 rw [hw_]
 clear hw_ hs_
 have hb1 := (HS.out.low.block _ HB.out.1).trans HH.out.1
 have s0 := c7b (k := 0) hb1 rfl
 have s1 := c7b (k := 1) hb1 rfl
 clear hb1
 go_wp2_with fail
 clear s0 s1
 refine (HPL.out _).mono ?_
 rintro e w2 ⟨rfl, hb_⟩
 have HS := H7 (HS.out.below hb_)
 clear hb_
 repeat ((fail_if_success (with_reducible refine stop_at (id := 6) ?_)); (first | go_values | go_skip | go_guarded | go_step | go_upon | go_back | (simp only [Int.not_lt, Int.not_le] at *; go_simp) | (go_values <;> (try go_simp)) | (go_ite <;> go_prune <;> (try go_simp)) | (split <;> (first | (rename_i hx; exact (hx _ rfl).elim) | go_prune))))
 have hs_ := (HS.out.alloc (.cells #[.int .i64 rx, .int .i64 ry] 26))
 obtain ⟨w3, hw_⟩ : ∃ w3 : World, (w2.alloc (.cells #[.int .i64 rx, .int .i64 ry] 26)) = w3 := ⟨_, rfl⟩
 rw [hw_] at hs_
 try simp only [World.size_alloc] at hs_
 have HS := H7 hs_
 rw [hw_]
 clear hw_ hs_
 refine (wpIn_wide (n := 0)).1 ?_
 refine wp_region_factsE (by kernel_rfl) [(fun v_ _ _ => v_ = (.pointer (some ⟨p, 0, none⟩) : Value)), (fun v_ _ _ => v_ = (.pointer (some ⟨p, 0, none⟩) : Value)), (fun v_ _ _ => v_ = (.pointer (some ⟨p, 2, none⟩) : Value)), (fun v_ _ _ => v_ = (.slice (some ⟨b, 0, none⟩) n cap : Value)), (fun v_ _ _ => v_ = (.int .i64 (i : Int) : Value)), (fun v_ _ _ => v_ = (.pointer (some ⟨b, i, none⟩) : Value)), (fun v_ _ _ => v_ = (.pointer (some ⟨q, 0, none⟩) : Value)), (fun v_ _ _ => v_ = (.pointer (some ⟨q, 0, none⟩) : Value)), (fun v_ _ _ => v_ = (.agg (encT T).toArray : Value)), (fun v_ _ _ => v_ = (.pointer (some ⟨w2.heap.size, 0, none⟩) : Value)), (fun v_ _ _ => v_ = (.int .i64 (rx : Int) : Value)), (fun v_ _ _ => v_ = (.pointer (some ⟨w2.heap.size, 1, none⟩) : Value)), (fun v_ _ _ => v_ = (.int .i64 (ry : Int) : Value)), (fun v_ _ _ => v_ = (.tuple #[.agg #[.int .u8 r, .int .u8 g, .int .u8 bl, .int .u8 al], .int .i64 0] : Value)), (fun v_ _ _ => v_ = (.tuple #[.agg #[.int .u8 r, .int .u8 g, .int .u8 bl, .int .u8 al], .int .i64 0] : Value)), (fun v_ _ _ => v_ = (.agg #[.int .u8 r, .int .u8 g, .int .u8 bl, .int .u8 al] : Value)), (fun v_ _ _ => v_ = (.int .i64 0 : Value)), (fun v_ e_ w_ => ∃ q, v_ = .pointer (some ⟨q, 0, none⟩) ∧ w3.heap.size ≤ q ∧ (w_.heap[q]? = some (.cells #[.int .u8 0, .int .u8 0, .int .u8 0, .int .u8 0] 34 (0, 0)) ∨ w_.heap[q]? = some (.cells #[.int .u8 r, .int .u8 g, .int .u8 bl, .int .u8 al] 34 (0, 0)))), (fun v_ e_ w_ => ∀ q, e_ 11 = .pointer (some ⟨q, 0, none⟩) → w_.heap[q]? = some (.cells #[.int .u8 r, .int .u8 g, .int .u8 bl, .int .u8 al] 34 (0, 0)))] (fun x y => FillC w3.heap.size (.cells #[.int .u8 0, .int .u8 0, .int .u8 0, .int .u8 0] 34 (0, 0)) (.cells #[.int .u8 r, .int .u8 g, .int .u8 bl, .int .u8 al] 34 (0, 0)) x y) (fun x => FillC.refl _ _ _ x) (fun h k => FillC.trans h k) ⟨fun _ _ _ _ _ h => h, fun _ _ _ _ _ h => h, fun _ _ _ _ _ h => h, fun _ _ _ _ _ h => h, fun _ _ _ _ _ h => h, fun _ _ _ _ _ h => h, fun _ _ _ _ _ h => h, fun _ _ _ _ _ h => h, fun _ _ _ _ _ h => h, fun _ _ _ _ _ h => h, fun _ _ _ _ _ h => h, fun _ _ _ _ _ h => h, fun _ _ _ _ _ h => h, fun _ _ _ _ _ h => h, fun _ _ _ _ _ h => h, fun _ _ _ _ _ h => h, fun _ _ _ _ _ h => h, fun _ _ _ _ hC ⟨q, e, h, h2⟩ => ⟨q, e, h, FillC.either hC h2⟩, fun _ _ _ _ hC h q e => FillC.filled hC (h q e), trivial⟩ (by kernel_rfl) (by kernel_rfl) (FillC.grow (g7d _) (Nat.le_refl _)) ⟨fun _ _ _ _ _ h => h, fun _ _ _ _ _ h => h, fun _ _ _ _ _ h => h, fun _ _ _ _ _ h => h, fun _ _ _ _ _ h => h, fun _ _ _ _ _ h => h, fun _ _ _ _ _ h => h, fun _ _ _ _ _ h => h, fun _ _ _ _ _ h => h, fun _ _ _ _ _ h => h, fun _ _ _ _ _ h => h, fun _ _ _ _ _ h => h, fun _ _ _ _ _ h => h, fun _ _ _ _ _ h => h, fun _ _ _ _ _ h => h, fun _ _ _ _ _ h => h, fun _ _ _ _ _ h => h, fun _ _ _ _ _ h => h, fun v env env' x he h q e => h q ((he ⟨17, .data⟩ (by simp) rfl _ _ rfl rfl).trans e), trivial⟩ ?steps ?fin
 case steps =>
  refine ⟨?_, ?_, ?_, ?_, ?_, ?_, ?_, ?_, ?_, ?_, ?_, ?_, ?_, ?_, ?_, ?_, ?_, ?_, ?_, trivial⟩
  · intro a' w' hA hC hD; have s0 : a'.tmps[0]? = some (.pointer (some ⟨p, 0, none⟩)) := (hA.at 0 (by kernel_rfl)).trans rfl
    have hCz := FillC.size hC
    clear hA hD; refine o7p rfl ?_; intro K hK; gi_wp2; exact hK (.pointer (some ⟨p, 0, none⟩)) _ rfl ((fun x => FillC.refl _ _ _ x) _)
  · intro a' w' hA hC hD; obtain ⟨u31, s31, r31⟩ := hD ⟨0, .data⟩ (by simp) rfl _ rfl; replace r31 : u31 = .pointer (some ⟨p, 0, none⟩) := r31; subst r31
    have hCz := FillC.size hC
    clear hA hD; refine o7p rfl ?_; intro K hK; gi_wp2; exact hK (.pointer (some ⟨p, 0, none⟩)) _ rfl ((fun x => FillC.refl _ _ _ x) _)
  · intro a' w' hA hC hD; obtain ⟨u32, s32, r32⟩ := hD ⟨1, .data⟩ (by simp) rfl _ rfl; replace r32 : u32 = .pointer (some ⟨p, 0, none⟩) := r32; subst r32
    have hCz := FillC.size hC
    clear hA hD; refine o7p rfl ?_; intro K hK; gi_wp2; exact hK (.pointer (some ⟨p, 2, none⟩)) _ rfl ((fun x => FillC.refl _ _ _ x) _)
  · intro a' w' hA hC hD; obtain ⟨u33, s33, r33⟩ := hD ⟨2, .data⟩ (by simp) rfl _ rfl; replace r33 : u33 = .pointer (some ⟨p, 2, none⟩) := r33; subst r33
    have hCz := FillC.size hC
    have hb1 := ((HS.out.low.trans (hC.1.mono HS.out.low.size)).block _ HB.out.1).trans HH.out.1; have s2 := c7b (k := 2) hb1 rfl; clear hb1
    clear hA hD; refine o7p rfl ?_; intro K hK; gi_wp2; exact hK (.slice (some ⟨b, 0, none⟩) n cap) _ rfl ((fun x => FillC.refl _ _ _ x) _)
  · intro a' w' hA hC hD; have s8 : a'.tmps[8]? = some (.int .i64 (i : Int)) := (hA.at 8 (by kernel_rfl)).trans rfl
    have hCz := FillC.size hC
    clear hA hD; refine o7p rfl ?_; intro K hK; gi_wp2; exact hK (.int .i64 (i : Int)) _ rfl ((fun x => FillC.refl _ _ _ x) _)
  · intro a' w' hA hC hD; obtain ⟨u34, s34, r34⟩ := hD ⟨3, .data⟩ (by simp) rfl _ rfl; replace r34 : u34 = .slice (some ⟨b, 0, none⟩) n cap := r34; subst r34; obtain ⟨u35, s35, r35⟩ := hD ⟨4, .data⟩ (by simp) rfl _ rfl; replace r35 : u35 = .int .i64 (i : Int) := r35; subst r35
    have hCz := FillC.size hC
    have hin := HIN.out
    clear hA hD; refine o7p rfl ?_; intro K hK; gi_wp2; exact hK (.pointer (some ⟨b, i, none⟩)) _ rfl ((fun x => FillC.refl _ _ _ x) _)
  · intro a' w' hA hC hD; obtain ⟨u36, s36, r36⟩ := hD ⟨5, .data⟩ (by simp) rfl _ rfl; replace r36 : u36 = .pointer (some ⟨b, i, none⟩) := r36; subst r36
    have hCz := FillC.size hC
    have k4 := ((HS.out.low.trans (hC.1.mono HS.out.low.size)).cell (p := ⟨b, i, none⟩) HB.out.2.2).trans HH.out.2.1
    clear hA hD; refine o7p rfl ?_; intro K hK; gi_wp2; exact hK (.pointer (some ⟨q, 0, none⟩)) _ rfl ((fun x => FillC.refl _ _ _ x) _)
  · intro a' w' hA hC hD; obtain ⟨u37, s37, r37⟩ := hD ⟨6, .data⟩ (by simp) rfl _ rfl; replace r37 : u37 = .pointer (some ⟨q, 0, none⟩) := r37; subst r37
    have hCz := FillC.size hC
    clear hA hD; refine o7p rfl ?_; intro K hK; gi_wp2; exact hK (.pointer (some ⟨q, 0, none⟩)) _ rfl ((fun x => FillC.refl _ _ _ x) _)
  · intro a' w' hA hC hD; obtain ⟨u38, s38, r38⟩ := hD ⟨7, .data⟩ (by simp) rfl _ rfl; replace r38 : u38 = .pointer (some ⟨q, 0, none⟩) := r38; subst r38
    have hCz := FillC.size hC
    clear hA hD; refine o7p rfl ?_; intro K hK
    refine opIn_load _ _ rfl q (by simp [Act.eval, s38]) 75 _ (0, 0) _ (((HS.out.low.trans (hC.1.mono HS.out.low.size)).block _ HB.out.2.1).trans HH.out.2.2) Tryz.underlying75 rfl (size_T T) (hK _ _ rfl (FillC.refl _ _ _ _))
  · intro a' w' hA hC hD; have s9 : a'.tmps[9]? = some (.pointer (some ⟨w2.heap.size, 0, none⟩)) := (hA.at 9 (by kernel_rfl)).trans rfl
    have hCz := FillC.size hC
    clear hA hD; refine o7p rfl ?_; intro K hK; gi_wp2; exact hK (.pointer (some ⟨w2.heap.size, 0, none⟩)) _ rfl ((fun x => FillC.refl _ _ _ x) _)
  · intro a' w' hA hC hD; obtain ⟨u40, s40, r40⟩ := hD ⟨9, .data⟩ (by simp) rfl _ rfl; replace r40 : u40 = .pointer (some ⟨w2.heap.size, 0, none⟩) := r40; subst r40
    have hCz := FillC.size hC
    have d0 := c7b (k := 0) ((hC.1.block _ (HS.out.lt 0 rfl)).trans (HS.out.blockAt 0 rfl)) rfl
    clear hA hD; refine o7p rfl ?_; intro K hK; gi_wp2; exact hK (.int .i64 (rx : Int)) _ rfl ((fun x => FillC.refl _ _ _ x) _)
  · intro a' w' hA hC hD; have s9 : a'.tmps[9]? = some (.pointer (some ⟨w2.heap.size, 0, none⟩)) := (hA.at 9 (by kernel_rfl)).trans rfl
    have hCz := FillC.size hC
    clear hA hD; refine o7p rfl ?_; intro K hK; gi_wp2; exact hK (.pointer (some ⟨w2.heap.size, 1, none⟩)) _ rfl ((fun x => FillC.refl _ _ _ x) _)
  · intro a' w' hA hC hD; obtain ⟨u42, s42, r42⟩ := hD ⟨11, .data⟩ (by simp) rfl _ rfl; replace r42 : u42 = .pointer (some ⟨w2.heap.size, 1, none⟩) := r42; subst r42
    have hCz := FillC.size hC
    have d1 := c7b (k := 1) ((hC.1.block _ (HS.out.lt 0 rfl)).trans (HS.out.blockAt 0 rfl)) rfl
    clear hA hD; refine o7p rfl ?_; intro K hK; gi_wp2; exact hK (.int .i64 (ry : Int)) _ rfl ((fun x => FillC.refl _ _ _ x) _)
  · intro a' w' hA hC hD; obtain ⟨u39, s39, r39⟩ := hD ⟨8, .data⟩ (by simp) rfl _ rfl; replace r39 : u39 = .agg (encT T).toArray := r39; subst r39; obtain ⟨u41, s41, r41⟩ := hD ⟨10, .data⟩ (by simp) rfl _ rfl; replace r41 : u41 = .int .i64 (rx : Int) := r41; subst r41; obtain ⟨u43, s43, r43⟩ := hD ⟨12, .data⟩ (by simp) rfl _ rfl; replace r43 : u43 = .int .i64 (ry : Int) := r43; subst r43
    have hCz := FillC.size hC
    clear hA hD; refine o7p rfl ?_; intro K hK
    gi_wp2_with fail; refine (callsIn_wide.2 (HTA.out _)).mono ?_; rintro e w5 ⟨rfl, hb⟩; exact hK _ _ rfl (FillC.grow hb hCz)
  · intro a' w' hA hC hD; obtain ⟨u44, s44, r44⟩ := hD ⟨13, .data⟩ (by simp) rfl _ rfl; replace r44 : u44 = .tuple #[.agg #[.int .u8 r, .int .u8 g, .int .u8 bl, .int .u8 al], .int .i64 0] := r44; subst r44
    have hCz := FillC.size hC
    clear hA hD; refine o7p rfl ?_; intro K hK; gi_wp2; exact hK (.tuple #[.agg #[.int .u8 r, .int .u8 g, .int .u8 bl, .int .u8 al], .int .i64 0]) _ rfl ((fun x => FillC.refl _ _ _ x) _)
  · intro a' w' hA hC hD; obtain ⟨u30, s30, r30⟩ := hD ⟨14, .data⟩ (by simp) rfl _ rfl; replace r30 : u30 = .tuple #[.agg #[.int .u8 r, .int .u8 g, .int .u8 bl, .int .u8 al], .int .i64 0] := r30; subst r30
    have hCz := FillC.size hC
    clear hA hD; refine o7p rfl ?_; intro K hK; gi_wp2; exact hK (.agg #[.int .u8 r, .int .u8 g, .int .u8 bl, .int .u8 al]) _ rfl ((fun x => FillC.refl _ _ _ x) _)
  · intro a' w' hA hC hD; obtain ⟨u30, s30, r30⟩ := hD ⟨14, .data⟩ (by simp) rfl _ rfl; replace r30 : u30 = .tuple #[.agg #[.int .u8 r, .int .u8 g, .int .u8 bl, .int .u8 al], .int .i64 0] := r30; subst r30
    have hCz := FillC.size hC
    clear hA hD; refine o7p rfl ?_; intro K hK; gi_wp2; exact hK (.int .i64 0) _ rfl ((fun x => FillC.refl _ _ _ x) _)
  · intro a' w' hA hC hD
    have hCz := FillC.size hC
    clear hA hD; refine o7p rfl ?_; intro K hK; gi_wp2; exact hK (.pointer (some ⟨w'.heap.size, 0, none⟩)) _ ⟨w'.heap.size, rfl, hCz, .inl (World.alloc_heap_new _ _)⟩ (FillC.grow ((B7 _ _).alloc (Nat.le_refl _) _) hCz)
  · intro a' w' hA hC hD; obtain ⟨u11, s11, r11⟩ := hD ⟨17, .data⟩ (by simp) rfl _ rfl; replace r11 : (fun v_ e_ w_ => ∃ q, v_ = .pointer (some ⟨q, 0, none⟩) ∧ w3.heap.size ≤ q ∧ (w_.heap[q]? = some (.cells #[.int .u8 0, .int .u8 0, .int .u8 0, .int .u8 0] 34 (0, 0)) ∨ w_.heap[q]? = some (.cells #[.int .u8 r, .int .u8 g, .int .u8 bl, .int .u8 al] 34 (0, 0)))) u11 (envOf a') w' := r11; obtain ⟨u45, s45, r45⟩ := hD ⟨15, .data⟩ (by simp) rfl _ rfl; replace r45 : u45 = .agg #[.int .u8 r, .int .u8 g, .int .u8 bl, .int .u8 al] := r45; subst r45
    have hCz := FillC.size hC
    have henv : envOf a' 11 = u11 := by (unfold envOf; rw [s11]; rfl)
    clear hA hD; refine o7p rfl ?_; intro K hK
    obtain ⟨q, rfl, hge, hq⟩ := r11; obtain ⟨y0, y1, y2, y3, hy⟩ := either4 hq; have d0 := c7b (k := 0) (v := y0) hy rfl; have d1 := c7b (k := 1) (v := y1) hy rfl; have d2 := c7b (k := 2) (v := y2) hy rfl; have d3 := c7b (k := 3) (v := y3) hy rfl; have fr := f7b hy; gi_wp2
    exact hK undef _ (fun q' e => by rw [henv] at e; cases e; exact (fill4 (n₀ := w3.heap.size) hge hq).2) (fill4 (n₀ := w3.heap.size) hge hq).1
 case fin =>
  intro w4 env hC
  simp only [EndFromE, forall_eq, Option.some.injEq, forall_eq', reduceCtorEq, false_implies, implies_true, forall_const, Act.put, List.length_cons, List.length_nil, List.drop_succ_cons, List.drop_zero, Nat.reduceAdd, List.setIfInBounds_toArray, List.set_cons_succ, List.set_cons_zero]
  rintro _ _ _ _ _ _ _ _ _ _ _ _ _ _ _ _ _ v11 ⟨q11, rfl, hge, _⟩ he hs
  have h11 := hs q11 he
  have HS := H7 (HS.out.below hC.1)
  have d0 := c7b (k := 0) h11 rfl
  have d1 := c7b (k := 1) h11 rfl
  have d2 := c7b (k := 2) h11 rfl
  have d3 := c7b (k := 3) h11 rfl
  clear hs he h11 hC hge
  have k0 := h7c HS 1 0 rfl rfl
  have k1 := h7c HS 1 1 rfl rfl
  have k2 := h7c HS 1 2 rfl rfl
  have k3 := h7c HS 1 3 rfl rfl
  have f0 := f7b (HS.out.blockAt 1 rfl)
  gi_wp2
  go_wp2_with fail
  refine bodyPost_ret (v := .tuple #[.agg #[.int .u8 r, .int .u8 g, .int .u8 bl, .int .u8 al], .bool true]) (by simp [results, Tryz.results78, go_sem, k0, k1, k2, k3]) rfl ⟨rfl, ?_⟩
  have h0 := HS.out.low
  (repeat (first | exact B7 _ _ | assumption | refine Below.alloc ?_ (by first | omega | (simp; done) | (simp; omega)) _ | refine Below.setCell ?_ (by first | omega | (simp; done) | (simp; omega)) _ | refine Below.drew ?_))
set_option maxRecDepth 100000 in
set_option maxHeartbeats 1000000 in
theorem size_any (C : CanT) (p : Nat) (w : World) (hC : CanAt w p C) :
 Calls Tryz.prog 122 #[.pointer (some ⟨p, 0, none⟩)] w (Gives (.tuple #[.int .i64 (8 * (C.wide : Int)), .int .i64 (8 * (C.high : Int))]) w) := by
 obtain ⟨ok, b, cap, qs, h1, -⟩ := hC
 have HW := H7 (And.intro ok.wide ok.high)
 obtain ⟨wide, high, tiles⟩ := C
 simp only at *
 obtain ⟨n, hn⟩ : ∃ n, tiles.length = n := ⟨_, rfl⟩
 rw [hn] at h1
 have HB := H7 (b7t h1)
 have HH := H7 h1
 have HS := H7 (St.start w)
 clear ok h1 hn
 have e1 : wrap64 (8 * (wide : Int)) = 8 * (wide : Int) := by have := HW.out; unfold wrap64; omega
 have e2 : wrap64 (8 * (high : Int)) = 8 * (high : Int) := by have := HW.out; unfold wrap64; omega
 go_enter Tryz.func122, Tryz.ntmps122
 repeat ((fail_if_success (with_reducible refine stop_at (id := 3) ?_)); (first | go_values | go_skip | go_guarded | go_step | go_upon | go_back | (simp only [Int.not_lt, Int.not_le] at *; go_simp) | (go_values <;> (try go_simp)) | (go_ite <;> go_prune <;> (try go_simp)) | (split <;> (first | (rename_i hx; exact (hx _ rfl).elim) | go_prune))))
 refine (wpIn_wide (n := 0)).1 ?_
 apply w7v 14 (Rl := [(eqv _), (eqv _), (eqv _), (eqv _), (eqv _), (eqv _), (eqv _), (eqv _), (eqv _), (eqv _), (eqv _), (eqv _), (eqv _), (eqv _)]) (C := (fun x y => Below x.heap.size x y))
 case hm => kernel_rfl
 case hk => rfl
 case hCr => exact (fun _ => B7 _ _)
 case hCt => intro _ _ _; exact (fun h k => g7t h k)
 case hst => repeat (first | exact trivial | refine ⟨fun _ _ _ _ h => h, ?_⟩)
 case hfo => kernel_rfl
 case ht => kernel_rfl
 case hC0 => exact (g7d _)
 case hsteps =>
  refine ⟨?_, ?_, ?_, ?_, ?_, ?_, ?_, ?_, ?_, ?_, ?_, ?_, ?_, ?_, trivial⟩
  · intro a' w' hA hC hD; have s0 := hA.to 0 (by kernel_rfl) rfl; clear hA hD; refine o7p rfl ?_; intro K hK; gi_wp2; exact hK _ _ rfl (B7 _ _)
  · intro a' w' hA hC hD; obtain ⟨u6, s6, rfl⟩ := hD ⟨0, .data⟩ (by simp) rfl _ rfl; clear hA hD; refine o7p rfl ?_; intro K hK; gi_wp2; exact hK _ _ rfl (B7 _ _)
  · intro a' w' hA hC hD; obtain ⟨u7, s7, rfl⟩ := hD ⟨1, .data⟩ (by simp) rfl _ rfl; clear hA hD; refine o7p rfl ?_; intro K hK; gi_wp2; exact hK _ _ rfl (B7 _ _)
  · intro a' w' hA hC hD; obtain ⟨u8, s8, rfl⟩ := hD ⟨2, .data⟩ (by simp) rfl _ rfl; clear hA hD; refine o7p rfl ?_; intro K hK; gi_wp2; exact hK _ _ rfl (B7 _ _)
  · intro a' w' hA hC hD; obtain ⟨u9, s9, rfl⟩ := hD ⟨3, .data⟩ (by simp) rfl _ rfl
    have hb1 := ((HS.out.below hC).low.block _ HB.out).trans HH.out; have s0 := c7b (k := 0) hb1 rfl; clear hb1
    clear hA hD; refine o7p rfl ?_; intro K hK; gi_wp2; exact hK _ _ rfl (B7 _ _)
  · intro a' w' hA hC hD; obtain ⟨u10, s10, rfl⟩ := hD ⟨4, .data⟩ (by simp) rfl _ rfl; clear hA hD; refine o7p rfl ?_; intro K hK; gi_wp2; exact hK _ _ rfl (B7 _ _)
  · intro a' w' hA hC hD; have s0 := hA.to 0 (by kernel_rfl) rfl; clear hA hD; refine o7p rfl ?_; intro K hK; gi_wp2; exact hK _ _ rfl (B7 _ _)
  · intro a' w' hA hC hD; obtain ⟨u12, s12, rfl⟩ := hD ⟨6, .data⟩ (by simp) rfl _ rfl; clear hA hD; refine o7p rfl ?_; intro K hK; gi_wp2; exact hK _ _ rfl (B7 _ _)
  · intro a' w' hA hC hD; obtain ⟨u13, s13, rfl⟩ := hD ⟨7, .data⟩ (by simp) rfl _ rfl; clear hA hD; refine o7p rfl ?_; intro K hK; gi_wp2; exact hK _ _ rfl (B7 _ _)
  · intro a' w' hA hC hD; obtain ⟨u14, s14, rfl⟩ := hD ⟨8, .data⟩ (by simp) rfl _ rfl; clear hA hD; refine o7p rfl ?_; intro K hK; gi_wp2; exact hK _ _ rfl (B7 _ _)
  · intro a' w' hA hC hD; obtain ⟨u15, s15, rfl⟩ := hD ⟨9, .data⟩ (by simp) rfl _ rfl
    have hb1 := ((HS.out.below hC).low.block _ HB.out).trans HH.out; have s0 := c7b (k := 1) hb1 rfl; clear hb1
    clear hA hD; refine o7p rfl ?_; intro K hK; gi_wp2; exact hK _ _ rfl (B7 _ _)
  · intro a' w' hA hC hD; obtain ⟨u16, s16, rfl⟩ := hD ⟨10, .data⟩ (by simp) rfl _ rfl; clear hA hD; refine o7p rfl ?_; intro K hK; gi_wp2; exact hK _ _ rfl (B7 _ _)
  · intro a' w' hA hC hD; obtain ⟨u11, s11, rfl⟩ := hD ⟨5, .data⟩ (by simp) rfl _ rfl; clear hA hD; refine o7p rfl ?_; intro K hK; gi_wp2; exact hK _ _ rfl (B7 _ _)
  · intro a' w' hA hC hD; obtain ⟨u17, s17, rfl⟩ := hD ⟨11, .data⟩ (by simp) rfl _ rfl; clear hA hD; refine o7p rfl ?_; intro K hK; gi_wp2; exact hK _ _ rfl (B7 _ _)
 case hend =>
  intro w4 hC
  simp only [EndFrom, eqv, forall_eq, Act.put, List.length_cons, List.length_nil, List.drop_succ_cons, List.drop_zero, Nat.reduceAdd, List.setIfInBounds_toArray, List.set_cons_succ, List.set_cons_zero]
  have HS := H7 (HS.out.below hC)
  clear hC
  gi_wp2
  go_wp2_with fail
  refine bodyPost_ret (v := .tuple #[.int .i64 (8 * (wide : Int)), .int .i64 (8 * (high : Int))]) (by simp [results, Tryz.results122, go_sem]) rfl ⟨rfl, HS.out.low⟩
end Go.Proofs.YthcdkkmjnglmjaaGreatDoor
/- Layer 8: the document's Neighbours. -/
namespace Go.Proofs.YthcdkkmjnglmjaaGreatDoor
open Go.RowKit Go.Shelf
end Go.Proofs.YthcdkkmjnglmjaaGreatDoor
/- Layer 8: a search in memory; on. -/
namespace Go.Proofs.YthcdkkmjnglmjaaGreatDoor
open Go.RowKit Go.Shelf
attribute [local go_sem] Oper.semAt_some
/-- To see that a fenced walk stands at a region. -/
theorem stop_atI {F : Fence} {n : Nat} {P : Program} {id : Nat} {ops : Array Oper} {d : Bool} {Q : Exit → Act → World → Prop} {a : Act} {w : World} (h : (Code.region id ops d).wpIn F n P Q a w) : (Code.region id ops d).wpIn F n P Q a w := h
/-- A world without what lies at S and above. -/
def cutW (y : World) (S : Nat) : World := { y with heap := y.heap.extract 0 S }
theorem cutW_size {y : World} {S : Nat} (h : S ≤ y.heap.size) : (cutW y S).heap.size = S := by simp [cutW]; omega
theorem cutW_below {y : World} {S : Nat} (h : S ≤ y.heap.size) : Below S (cutW y S) y := ⟨rfl, rfl, rfl, by rw [cutW_size h]; exact h, fun k hk => by simp [cutW, Array.getElem?_extract]; intro h1; omega⟩
/- Layer 8: the closure that tells whether a pixel's colour is near the first one's. -/
/- Layer 8: meet. -/
/- Layer 8: around. -/
/-- The blocks of a list lie as they lay, and some cells of others read as they read. -/
def KC (bs : List Nat) (cs : List (Addr × Value)) (A B : World) : Prop := KeepsAt bs A B ∧ ∀ q ∈ cs, A.cell? q.1 = some q.2 → B.cell? q.1 = some q.2
theorem KC.refl (bs : List Nat) (cs : List (Addr × Value)) (A : World) : KC bs cs A A := ⟨KeepsAt.refl _ _, fun _ _ h => h⟩
theorem KC.trans {bs : List Nat} {cs : List (Addr × Value)} {A B C : World} (h : KC bs cs A B) (k : KC bs cs B C) : KC bs cs A C := ⟨h.1.trans k.1, fun q hq hA => k.2 q hq (h.2 q hq hA)⟩
theorem KC.of_below {bs : List Nat} {cs : List (Addr × Value)} {A B : World} (h : Below A.heap.size A B) (hb : ∀ b ∈ bs, b < A.heap.size) : KC bs cs A B := ⟨KeepsAt.of_below h hb, fun q _ hA => (h.cell (cell_lt hA)).trans hA⟩
end Go.Proofs.YthcdkkmjnglmjaaGreatDoor
/- Layer 8: goes: what it keeps at its label. -/
namespace Go.Proofs.YthcdkkmjnglmjaaGreatDoor
open Go.RowKit Go.Shelf
theorem Turned.alloc {S : Nat → Prop} {x y : World} (h : Turned S x y) (o : Obj) : Turned S x (y.alloc o) :=
 (h.trans (Turned.of_grown (World.grownBy_alloc y o none))).mono fun k _ hk => (by rcases hk with hk | hk; exact hk; cases hk)
theorem Turned.belowT {S : Nat → Prop} {x y z : World} (h : Turned S x y) (hb : Below y.heap.size y z) : Turned S x z :=
 (h.trans (Turned.of_grown (below_grown hb))).mono fun k _ hk => (by rcases hk with hk | hk; exact hk; cases hk)
theorem Turned.setNew {S : Nat → Prop} {x y : World} (h : Turned S x y) (p k : Nat) (hp : x.heap.size ≤ p ∨ S p) (v : Value) : Turned S x (y.setCell ⟨p, k, none⟩ v) :=
 (h.trans (Turned.of_grown (g7c y p k v))).mono fun j hj hk => (by
  rcases hk with hk | hk
  · exact hk
  · cases hk
    rcases hp with hp | hp
    · omega
    · exact hp)
end Go.Proofs.YthcdkkmjnglmjaaGreatDoor
/- Package draw: need, sure, tries. -/
namespace Go.Proofs.YthcdkkmjnglmjaaGreatDoor
open Go.RowKit Go.Shelf
attribute [local go_sem] Oper.semAt_some
/-- A canvas stays when one block of one cell turns that is none of its own. -/
theorem CanAt.turnedOne {w y : World} {d B : Nat} {D : CanT} (h : CanAt w d D) (ht : Turned (fun k => k = B) w y) {v : Value} {t : TypeId} {f : Nat × Nat} (hB : w.heap[B]? = some (.cells #[v] t f)) (hv : ∀ q cs, v = .pointer (some ⟨q, 0, none⟩) → w.heap[q]? = some (.cells cs 75 (0, 0)) → cs.size ≠ 256) : CanAt y d D := by
 obtain ⟨ok, b, cap, qs, h1, h2, h3, h4, h5⟩ := h
 have hdB : d ≠ B := by
  rintro rfl
  rw [hB] at h1
  simp at h1
 have hsz : ∀ T : TileT, (encT T).toArray.size = 256 := fun T => by simp [encT_len]
 refine ⟨ok, b, cap, qs, (ht.block _ (b7t h1) hdB).trans h1, h2, h3, fun i q hq => ?_, fun i q T hq hT => ?_⟩
 · have h6 := h4 i q hq
   have hbB : b ≠ B := by
    rintro rfl
    unfold World.cell? at h6
    rw [hB] at h6
    have hi : i = 0 := by
     rcases i with _ | i
     · rfl
     · simp at h6
    subst hi
    simp at h6
    have hlt : 0 < D.tiles.length := by rw [← h3]; exact (List.getElem?_eq_some_iff.1 hq).1
    exact hv q _ h6 (h5 0 q _ hq (List.getElem?_eq_getElem hlt)) (hsz _)
   have hlt := cell_lt h6
   unfold World.cell? at h6 ⊢
   rw [show y.heap[b]? = w.heap[b]? from ht.block b hlt hbB]
   exact h6
 · have h7 := h5 i q T hq hT
   refine (ht.block q (b7t h7) ?_).trans h7
   rintro rfl
   rw [hB] at h7
   simp only [Option.some.injEq, Obj.cells.injEq] at h7
   have := hsz T
   rw [← h7.1] at this
   simp at this
/-- It panics with an error's number. -/
def PanicE (x : Int) (e : Ending) : Prop := e = .panicked [{ v := .iface 29 (.int .i64 x), recovered := false }]
theorem dNeed_ok (x : Int) (w : World) : Calls Tryz.prog 88 #[.bool true, .int .i64 x] w fun e w' => e = .returned (.tuple #[]) ∧ w = w' := by
 go_enter Tryz.func88, Tryz.ntmps88
 go_wp2
 go_end0
 exact ⟨rfl, rfl⟩
theorem dNeed_no (x : Int) (w : World) : Calls Tryz.prog 88 #[.bool false, .int .i64 x] w fun e w' => e = .panicked [{ v := .iface 29 (.int .i64 x), recovered := false }] ∧ w = w' := by
 go_enter Tryz.func88, Tryz.ntmps88
 go_wp2
 exact ⟨rfl, rfl, rfl⟩
theorem sureS_ok (v : Value) (w : World) : Calls Tryz.prog 50 #[v, .int .i64 0] w fun e w' => e = .returned v ∧ w = w' := by
 go_enter Tryz.func50, Tryz.ntmps50
 go_wp2_with fail
 refine (dNeed_ok _ _).mono ?_
 rintro e w2 ⟨rfl, rfl⟩
 go_wp2_with fail
 go_ret
 exact ⟨rfl, rfl⟩
set_option maxRecDepth 100000 in
theorem sureS_no (v : Value) (er : Int) (h : er ≠ 0) (w : World) : Calls Tryz.prog 50 #[v, .int .i64 er] w fun e w' => PanicE er e ∧ w = w' := by
 unfold PanicE
 go_enter Tryz.func50, Tryz.ntmps50
 go_wp2_with fail
 rw [show (er == 0) = false by simpa using h]
 refine (dNeed_no _ _).mono ?_
 rintro e w2 ⟨rfl, rfl⟩
 exact ⟨rfl, rfl, rfl⟩
theorem sureP_ok (v : Value) (w : World) : Calls Tryz.prog 64 #[v, .int .i64 0] w fun e w' => e = .returned v ∧ w = w' := by
 go_enter Tryz.func64, Tryz.ntmps64
 go_wp2_with fail
 refine (dNeed_ok _ _).mono ?_
 rintro e w2 ⟨rfl, rfl⟩
 go_wp2_with fail
 go_ret
 exact ⟨rfl, rfl⟩
set_option maxRecDepth 100000 in
theorem sureP_no (v : Value) (er : Int) (h : er ≠ 0) (w : World) : Calls Tryz.prog 64 #[v, .int .i64 er] w fun e w' => PanicE er e ∧ w = w' := by
 unfold PanicE
 go_enter Tryz.func64, Tryz.ntmps64
 go_wp2_with fail
 rw [show (er == 0) = false by simpa using h]
 refine (dNeed_no _ _).mono ?_
 rintro e w2 ⟨rfl, rfl⟩
 exact ⟨rfl, rfl, rfl⟩
set_option maxRecDepth 100000 in
set_option maxHeartbeats 1000000 in
theorem dCatch_panicking (p q : Nat) (hpq : p ≠ q) (o : Value) (y x : Int) (older : List PanicEntry) (w : World) (hp : w.heap[p]? = some (.cells #[o] 28 (0, 0))) (hq : w.heap[q]? = some (.cells #[.int .i64 y] 29 (0, 0))) :
 CallsD Tryz.prog 87 #[.pointer (some ⟨p, 0, none⟩), .pointer (some ⟨q, 0, none⟩)] (.panicking ({ v := .iface 29 (.int .i64 x), recovered := false } :: older)) w fun e u' w' =>
  e = .returned (.tuple #[]) ∧ u' = .panicking ({ v := .iface 29 (.int .i64 x), recovered := true } :: older) ∧
  (w'.heap[p]? = some (.cells #[.pointer none] 28 (0, 0)) ∧ w'.heap[q]? = some (.cells #[.int .i64 x] 29 (0, 0)) ∧ (∀ n₀, n₀ ≤ p → n₀ ≤ q → Below n₀ w w')) := by
 have c0 := c7b (k := 0) hp rfl
 have fp := f7b hp
 have dq := c7b (k := 0) hq rfl
 have fq := f7b hq 0
 have lp := b7t hp
 have lq := b7t hq
 have Hp := H7 hp
 have Hq := H7 hq
 clear hp hq
 have hqp : ¬ q = p := fun e => hpq e.symm
 refine callsD_of_wpS Tryz.func87 rfl fun c₀ cs hu => ?_
 simp only [Tryz.ntmps87, List.size_toArray, List.length_cons, List.length_nil, Nat.reduceAdd, Nat.reduceSub, Array.replicate_succ, Array.replicate_zero, List.push_toArray, List.append_toArray, List.nil_append, List.cons_append]
 apply wpS_seq
 apply wpS_region
 simp [wpOpsS, go_sem, recoverD, hu, Exit.thenS]
 refine wpS_of_wp ?_
 have hta : ∀ w, (Instr.typeAssert (.iface 29 (.int .i64 x)) 20 29 true).run Tryz.prog w = .ok (.tuple #[.int .i64 x, .bool true]) w := fun _ => by kernel_rfl
 go_wp2
 refine ⟨rfl, _, rfl, _, results_none rfl _ _ _, rfl, rfl, ?_, ?_, ?_⟩
 · exact h7o (h7s Hp.out _) (fun e => hpq e.symm) _
 · exact h7s (h7o Hq.out hpq _) _
 · intro n₀ h1 h2
   exact Below.setCell (Below.setCell (B7 _ _) (by simpa using h1) _) (by simpa using h2) _
theorem dCatch_idle (p q : Addr) (w : World) :
 CallsD Tryz.prog 87 #[.pointer (some p), .pointer (some q)] .returning w fun e u' w' => e = .returned (.tuple #[]) ∧ u' = .returning ∧ w = w' := by
 refine callsD_of_wpS Tryz.func87 rfl fun c₀ cs hu => ?_
 simp only [Tryz.ntmps87, List.size_toArray, List.length_cons, List.length_nil, Nat.reduceAdd, Nat.reduceSub, Array.replicate_succ, Array.replicate_zero, List.push_toArray, List.append_toArray, List.nil_append, List.cons_append]
 apply wpS_seq
 apply wpS_region
 simp [wpOpsS, go_sem, recoverD, hu, Exit.thenS]
 refine wpS_of_wp ?_
 go_wp2
 exact ⟨rfl, c₀.mode, rfl, _, results_none rfl _ _ _, rfl, hu, rfl⟩
/-- How a closure ends that draws on an easel: the easel holds a canvas, or it panics. -/
def Drew (E : Nat) (er : Int) (D : CanT) (w : World) (e : Ending) (w' : World) : Prop :=
 Turned (fun k => k = E) w w' ∧ (er = 0 → e = .returned (.tuple #[]) ∧ ∃ d, w'.heap[E]? = some (.cells #[.pointer (some ⟨d, 0, none⟩)] 127 (0, 0)) ∧ CanAt w' d D) ∧ (er ≠ 0 → PanicE er e)
/-- What a drawing returns. -/
def Drawn (er : Int) (D : CanT) (w : World) (e : Ending) (w' : World) : Prop :=
 Below w.heap.size w w' ∧ (er = 0 → ∃ d, e = .returned (.tuple #[.pointer (some ⟨d, 0, none⟩), .int .i64 0]) ∧ CanAt w' d D) ∧ (er ≠ 0 → e = .returned (.tuple #[.pointer none, .int .i64 er]))
set_option maxRecDepth 100000 in
set_option maxHeartbeats 1000000 in
theorem dTries_nil (f : Value) (w : World) : Calls Tryz.prog 48 #[.pointer none, f] w (Gives (.tuple #[.pointer none, .int .i64 1]) w) := by
 have hmf : ∀ (fn : Fn) (first cap : Array Value) (w : World), (Instr.makeFunc fn first cap).run Tryz.prog w = .ok (.func fn first cap) w := fun _ _ _ _ => rfl
 have HS := H7 (St.start w)
 go_enter_defers Tryz.func48, Tryz.ntmps48
 go_wp2_with fail
 refine (dNeed_no _ _).mono ?_
 rintro e w2 ⟨rfl, rfl⟩
 have hs_ := ((HS.out.alloc (.cells #[.pointer none] 28)).alloc (.cells #[.int .i64 0] 29))
 obtain ⟨w1, hw_⟩ : ∃ w1 : World, ((w.alloc (.cells #[.pointer none] 28)).alloc (.cells #[.int .i64 0] 29)) = w1 := ⟨_, rfl⟩
 rw [hw_] at hs_
 try simp only [World.size_alloc] at hs_
 have HS := H7 hs_
 rw [hw_]
 clear hw_ hs_
 refine leaves_cons (f := 87) (args := #[.pointer (some ⟨w.heap.size, 0, none⟩), .pointer (some ⟨w.heap.size + 1, 0, none⟩)]) (by simp) (by simp [go_sem]) ?_
 refine (dCatch_panicking _ _ (by omega) _ _ _ _ _ (HS.out.blockAt 1 rfl) (HS.out.blockAt 0 rfl)).mono ?_
 rintro e u' W2 ⟨rfl, rfl, g0, g1, hb2⟩
 have gb : Below w.heap.size w W2 := HS.out.low.trans (hb2 _ (Nat.le_refl _) (by omega))
 have c0 := c7b (k := 0) g0 rfl
 have d0 := c7b (k := 0) g1 rfl
 clear g0 g1 hb2
 exact ⟨.tuple #[.pointer none, .int .i64 1], by simp [results, Tryz.results48, go_sem, c0, d0], rfl, gb⟩
set_option maxRecDepth 100000 in
set_option maxHeartbeats 2000000 in
theorem dTries_any (g : Nat) (caps : Array Value) (c : Nat) (er : Int) (D : CanT) (w : World) (hg : ∀ args w, (callFunc g args).run Tryz.prog w = .ok (.enter g args) w)
 (h : ∀ w1 E, w.heap.size ≤ E → Below w.heap.size w w1 → w1.heap[E]? = some (.cells #[.pointer (some ⟨c, 0, none⟩)] 127 (0, 0)) → Calls Tryz.prog g (#[.pointer (some ⟨E, 0, none⟩)] ++ caps) w1 (Drew E er D w1)) :
 Calls Tryz.prog 48 #[.pointer (some ⟨c, 0, none⟩), .func (.func g) #[] caps] w (Drawn er D w) := by
 have hmf : ∀ (fn : Fn) (first cap : Array Value) (w : World), (Instr.makeFunc fn first cap).run Tryz.prog w = .ok (.func fn first cap) w := fun _ _ _ _ => rfl
 have HS := H7 (St.start w)
 have Hx := H7 h
 clear h
 go_enter_defers Tryz.func48, Tryz.ntmps48
 go_wp2_with fail
 refine (dNeed_ok _ _).mono ?_
 rintro e w2 ⟨rfl, rfl⟩
 have hs_ := ((HS.out.alloc (.cells #[.pointer none] 28)).alloc (.cells #[.int .i64 0] 29))
 obtain ⟨w1, hw_⟩ : ∃ w1 : World, ((w.alloc (.cells #[.pointer none] 28)).alloc (.cells #[.int .i64 0] 29)) = w1 := ⟨_, rfl⟩
 rw [hw_] at hs_
 try simp only [World.size_alloc] at hs_
 have HS := H7 hs_
 rw [hw_]
 clear hw_ hs_
 go_wp2_with fail
 have hs_ := (HS.out.alloc (.cells #[.pointer (some ⟨c, 0, none⟩)] 127))
 obtain ⟨w3, hw_⟩ : ∃ w3 : World, (w1.alloc (.cells #[.pointer (some ⟨c, 0, none⟩)] 127)) = w3 := ⟨_, rfl⟩
 rw [hw_] at hs_
 try simp only [World.size_alloc] at hs_
 have HS := H7 hs_
 rw [hw_]
 clear hw_ hs_
 refine (Hx.out w3 w1.heap.size ?_ HS.out.low (HS.out.blockAt 0 rfl)).mono ?_
 · have := HS.out.lt 1 rfl
   have h_ := HS.out.ord
   simp [ItOrd, It.top] at h_
   omega
 have HL := H7 (show w.heap.size + 1 < w1.heap.size by have h_ := HS.out.ord; simp [ItOrd, It.top] at h_; omega)
 intro e w4 hh
 obtain ⟨ht, hok, hno⟩ := hh
 have HT := H7 ht
 have t0 := H7 ((ht.block w.heap.size (HS.out.lt 2 rfl) (by have := HL.out; omega)).trans (HS.out.blockAt 2 rfl))
 have t1 := H7 ((ht.block (w.heap.size + 1) (HS.out.lt 1 rfl) (by have := HL.out; omega)).trans (HS.out.blockAt 1 rfl))
 have kB := H7 (show Below w.heap.size w w4 from HS.out.low.trans (ht.below HS.out.low.size (fun k hk => by rw [hk]; have := HL.out; omega)))
 generalize hH : w1.heap.size = H at *
 clear ht Hx hg
 by_cases her : er = 0
 · obtain ⟨rfl, d, hd, hD⟩ := hok her
   have HD := H7 hD
   have b0 := c7b (k := 0) hd rfl
   have f0 := f7b t0.out
   have f1 := f7b t1.out
   have q0 := c7b (k := 0) t0.out rfl
   have q1 := c7b (k := 0) t1.out rfl
   clear hok hno hd hH hD
   go_wp2_with fail
   clear b0 f0 f1 q0 q1
   have g0 := h7o (b' := w.heap.size + 1) (k := 0) (h7s (k := 0) t0.out (.pointer (some ⟨d, 0, none⟩))) (by omega) (.int .i64 0)
   have g1 := h7s (k := 0) (h7o (b' := w.heap.size) (k := 0) t1.out (by omega) (.pointer (some ⟨d, 0, none⟩))) (.int .i64 0)
   have hD5 : CanAt (w4.setCell ⟨w.heap.size, 0, none⟩ (.pointer (some ⟨d, 0, none⟩))) d D := HD.out.turnedOne ((Turned.refl (fun k => k = w.heap.size) w4).setNew w.heap.size 0 (.inr rfl) _) t0.out (fun q cs e => by cases e)
   have hD6 : CanAt ((w4.setCell ⟨w.heap.size, 0, none⟩ (.pointer (some ⟨d, 0, none⟩))).setCell ⟨w.heap.size + 1, 0, none⟩ (.int .i64 0)) d D := hD5.turnedOne ((Turned.refl (fun k => k = w.heap.size + 1) _).setNew (w.heap.size + 1) 0 (.inr rfl) _) (h7o (b' := w.heap.size) (k := 0) t1.out (by omega) (.pointer (some ⟨d, 0, none⟩))) (fun q cs e => by cases e)
   have gb : Below w.heap.size w ((w4.setCell ⟨w.heap.size, 0, none⟩ (.pointer (some ⟨d, 0, none⟩))).setCell ⟨w.heap.size + 1, 0, none⟩ (.int .i64 0)) := (kB.out.setCell (p := ⟨w.heap.size, 0, none⟩) (Nat.le_refl _) _).setCell (p := ⟨w.heap.size + 1, 0, none⟩) (by simp) _
   clear hD5
   revert g0 g1 hD6 gb
   generalize World.setCell _ _ (Value.int IntKind.i64 0) = W2
   intro g0 g1 hD6 gb
   refine leaves_cons (f := 87) (args := #[.pointer (some ⟨w.heap.size, 0, none⟩), .pointer (some ⟨w.heap.size + 1, 0, none⟩)]) (by simp) (by simp [go_sem]) ?_
   refine (dCatch_idle _ _ _).mono ?_
   rintro e u' w'' ⟨rfl, rfl, rfl⟩
   have c0 := c7b (k := 0) g0 rfl
   have d0 := c7b (k := 0) g1 rfl
   clear g0 g1
   exact ⟨.tuple #[.pointer (some ⟨d, 0, none⟩), .int .i64 0], by simp [results, Tryz.results48, go_sem, c0, d0], gb, fun _ => ⟨d, rfl, hD6⟩, fun h => absurd her h⟩
 · have he2 := hno her
   unfold PanicE at he2
   subst he2
   clear hok hno hH
   refine leaves_cons (f := 87) (args := #[.pointer (some ⟨w.heap.size, 0, none⟩), .pointer (some ⟨w.heap.size + 1, 0, none⟩)]) (by simp) (by simp [go_sem]) ?_
   refine (dCatch_panicking _ _ (by omega) _ _ _ _ _ t0.out t1.out).mono ?_
   rintro e u' W2 ⟨rfl, rfl, g0, g1, hb2⟩
   have gb : Below w.heap.size w W2 := kB.out.trans (hb2 _ (Nat.le_refl _) (by omega))
   have c0 := c7b (k := 0) g0 rfl
   have d0 := c7b (k := 0) g1 rfl
   clear g0 g1 hb2
   exact ⟨.tuple #[.pointer none, .int .i64 er], by simp [results, Tryz.results48, go_sem, c0, d0], gb, fun h => absurd h her, fun _ => rfl⟩
end Go.Proofs.YthcdkkmjnglmjaaGreatDoor
/- A range over a function whose rounds all end: the iterator may range over a function itself. -/
namespace Go.Proofs.YthcdkkmjnglmjaaGreatDoor
open Go.RowKit Go.Shelf
/-- What is no cells stays, from a block on. -/
def NonKept (B : Nat) (A C : World) : Prop := ∀ (k : Nat) (o : Obj), B ≤ k → A.heap[k]? = some o → o.isCells = false → C.heap[k]? = some o
theorem NonKept.trans {B : Nat} {X Y Z : World} (h : NonKept B X Y) (k : NonKept B Y Z) : NonKept B X Z := fun i o hi ho hc => k i o hi (h i o hi ho hc) hc
theorem NonKept.of_from {B C : Nat} {X Y : World} (h : KeepsFrom C X Y) (hC : C ≤ B) : NonKept B X Y := fun i o hi ho hc => h.same i o (Nat.le_trans hC hi) ho hc
theorem NonKept.put {B l : Nat} {X : World} (o : Obj) (hl : l < B) : NonKept B X (X.putObj l o) := fun i _ hi ho _ => (World.putObj_heap_other (by omega)).trans ho
theorem wpIn_range_all {α : Type} {F : Fence} {n : Nat} {P : Program} {g : Operand} {ps : Array Tmp} {assign body : Code} {Q : Exit → Act → World → Prop} {a : Act} {w : World}
 (hro : F.round = none) (h1 : 1 ≤ n) {gf : Nat} {lb : Array Value} (hg : a.eval g = .func (.func gf) #[] lb) (hFg : F.fn gf) (eg : ∀ args w, (callFunc gf args).run P w = .ok (.enter gf args) w)
 {encs : α → Array Value} (xs : List α) (m : Nat) (hps : ∀ x, (encs x).size = ps.size)
 (Kp : World → World → Prop) (hKt : ∀ {A B C : World}, Kp A B → Kp B C → Kp A C) (hKb : ∀ (W : World) (o o' : Obj), W.heap[w.heap.size + 1]? = some o → o.isCells = false → Kp W (W.putObj (w.heap.size + 1) o'))
 (I : List α → World → Prop) (hI : OwnFrom w.heap.size I) (h0 : I [] w)
 (Ax : α → Act → World → Prop) (hAx : ∀ x a', OwnFrom w.heap.size (fun (_ : Unit) W => Ax x a' W))
 (hseq : ∀ (l : Nat) (J : List α → World → Prop) (W : World), Below w.heap.size w W → w.heap.size + 2 ≤ W.heap.size → OwnFrom W.heap.size J →
  (∀ pre x W1, J pre W1 → pre.length < m → YieldAt F (n - 1 - 1) P l (encs x) W1 fun e W' => e = .returned (.bool true) ∧ J (pre ++ [x]) W' ∧ Kp W1 W' ∧ NonKept (w.heap.size + 2) W1 W') → J [] W →
  CallsIn F (n - 1) P gf (#[.func (.yield l) #[] #[]] ++ lb) W fun e W' => (∃ v, e = .returned v) ∧ J xs W')
 (hassign : ∀ (l : Nat) (pre : List α) (x : α) (W : World) (K : Act → World → Prop), I pre W → (∀ a' W', KeepsFrom w.heap.size W W' → Kp W W' → I pre W' → Ax x a' W' → K a' W') →
  assign.wpIn (F.inRound l) (n - 1 - 1) P (Exit.then K (fun _ _ _ => False)) { tmps := (ps.zip (encs x)).foldl (fun t (p, v) => t.setIfInBounds p v) a.tmps, defers := [] } W)
 (hbody : ∀ (l : Nat) (pre : List α) (x : α) (a' : Act) (W : World), I pre W → Ax x a' W → pre.length < m → body.wpIn (F.inRound l) (n - 1 - 1) P (Exit.then (fun _ W' => KeepsFrom w.heap.size W W' ∧ Kp W W' ∧ I (pre ++ [x]) W') (fun _ _ _ => False)) a' W)
 (hdone : ∀ (D : Nat) (W : World), w.heap.size ≤ D → I xs W → W.heap[D]? = some (.deferred (some [])) → Q .normal { a with defers := { target := .collected D, args := #[] } :: a.defers } W) :
 (Code.rangeFunc g ps assign body).wpIn F n P Q a w := by
 refine wpIn_rangeFunc ?_
 intro fn hfn
 rw [hro]
 generalize hN : w.heap.size = N at *
 obtain ⟨rec, hrec⟩ : ∃ rec : LoopState → Option Code → Loop, rec = fun st pe => { state := st, pending := pe, fn, tmps := a.tmps, params := ps, assign, body, defers := N } := ⟨_, rfl⟩
 obtain ⟨W1, hW1⟩ : ∃ W1, (w.alloc (.deferred (some []))).alloc (.loop (rec .ready none)) = W1 := ⟨_, rfl⟩
 have hL1 : W1.heap[N + 1]? = some (.loop (rec .ready none)) := by
  rw [← hW1, ← hN]; have := World.alloc_heap_new (w.alloc (.deferred (some []))) (.loop (rec .ready none)); rwa [World.size_alloc] at this
 have hK1 : W1.heap[N]? = some (.deferred (some [])) := by
  rw [← hW1, ← hN]; exact (Below.heap_alloc _ _ _ (by simp)).trans (World.alloc_heap_new w _)
 have hI1 : I [] W1 := by rw [← hW1]; exact hI.alloc _ (hI.alloc _ h0)
 have hb1 : Below N w W1 := by
  rw [← hW1]; exact ((B7 _ w).alloc (by omega) _).alloc (by simp; omega) _
 have hs1 : N + 2 ≤ W1.heap.size := b7t hL1
 refine ⟨N + 1, [{ target := .collected N, args := #[] }], W1, { target := .fn (.func gf) lb, args := #[.func (.yield (N + 1)) #[] #[]] }, W1, gf,
  #[.func (.yield (N + 1)) #[] #[]] ++ lb, W1, ?_, ?_, ?_, ?_, fun _ => h1, ?_⟩
 · rw [← hW1, hrec, ← hN]; exact run_enterLoop_outer _ _ _ _ _
 · simp only [resolve, hg]
   simp [go_sem]
 · intro f' hf'; simp [Target.leads] at hf'; subst hf'; exact hFg
 · simp [invoke, go_sem, eg]
 · have turn : ∀ {A B : World} {row : Option Nat}, (∀ r, row = some r → W1.heap.size ≤ r ∧ ∃ o : Obj, A.heap[r]? = some o ∧ o.isCells = false) → ∀ {k : Nat} {o : Obj}, k < N + 2 → A.heap[k]? = some o → A.grownBy B row → B.heap[k]? = some o := by
    intro A B row hr k o hk ho hg'
    exact (hg'.block k (b7t ho) (fun e => by have := (hr k e.symm).1; omega)).trans ho
   refine (hseq (N + 1) (fun pre W => I pre W ∧ W.heap[N + 1]? = some (.loop (rec .ready none)) ∧ W.heap[N]? = some (.deferred (some []))) W1 hb1 hs1
    (fun s A B row hs hg' hr => ⟨hI s A B row hs.1 hg' (fun r e => ⟨by have := (hr r e).1; omega, (hr r e).2⟩), turn hr (by omega) hs.2.1 hg', turn hr (by omega) hs.2.2 hg'⟩) ?_ ⟨hI1, hL1, hK1⟩).mono ?_
   · rintro pre x W ⟨hi, hl, hk⟩ hpre
     have hy := run_yield (P := P) (args := encs x) hl (by rw [hrec]; exact hps x)
     rw [hrec] at hy
     refine ⟨fn, _, assign, body, hy, roundIn_of_wpIn hfn (hassign _ pre x W _ hi ?_)⟩
     clear hy
     intro a' V hkf hkp hia hax
     have hl2 := hkf.same _ _ (by omega) hl rfl
     have hk2 := hkf.same _ _ (Nat.le_refl _) hk rfl
     have hlt : N + 1 < V.heap.size := b7t hl2
     refine ⟨_, run_beginRound hl2 (by rw [hrec]), ?_⟩
     have hl3 : (V.putObj (N + 1) (.loop { rec .ready none with state := .busy })).heap[N + 1]? = some (.loop { rec .ready none with state := .busy }) := World.putObj_heap_same hlt
     have hk3 : (V.putObj (N + 1) (.loop { rec .ready none with state := .busy })).heap[N]? = some (.deferred (some [])) := (World.putObj_heap_other (by omega)).trans hk2
     refine wpIn_mono (hbody _ pre x a' _ (hI.putObj _ hia (by omega) hl2 rfl) ((hAx x a').putObj (s := ()) _ hax (by omega) hl2 rfl) hpre) ?_
     rintro e a3 V3 hp
     cases e with
     | normal =>
      obtain ⟨hf3, hp3, hi3⟩ := hp
      have hl4 := hf3.same _ _ (by omega) hl3 rfl
      have hr := run_endRound (P := P) none hl4
      have hl5 : (V3.putObj (N + 1) (.loop (rec .ready none))).heap[N + 1]? = some (.loop (rec .ready none)) := World.putObj_heap_same (b7t hl4)
      refine ⟨_, _, hr, rfl, ⟨?_, ?_, ?_⟩, ?_, ?_⟩
      · exact hI.putObj _ hi3 (by omega) hl4 rfl
      · rw [hrec] at hl5 ⊢; exact hl5
      · exact (World.putObj_heap_other (by omega)).trans (hf3.same _ _ (Nat.le_refl _) hk3 rfl)
      · exact hKt (hKt (hKt hkp (hKb _ _ _ hl2 rfl)) hp3) (hKb _ _ _ hl4 rfl)
      · exact (((NonKept.of_from hkf (by omega)).trans (NonKept.put _ (by omega))).trans (NonKept.of_from hf3 (by omega))).trans (NonKept.put _ (by omega))
     | ret => exact hp.elim
     | exit id => exact hp.elim
     | goto t => exact hp.elim
     | panic ch => exact hp.elim
     | outgrown => exact hp.elim
   · rintro e W2 ⟨⟨v, rfl⟩, hi, hl, hk⟩
     exact ⟨none, _, by have := run_endLoop (P := P) hl (by rw [hrec]; simp); rw [hrec] at this; exact this, hdone N _ (Nat.le_refl _) (hI.putObj _ hi (by omega) hl rfl) ((World.putObj_heap_other (by omega)).trans hk)⟩
/- A range over a function whose function panics ahead of its first round. -/
theorem wpIn_range_panics {F : Fence} {n : Nat} {P : Program} {g : Operand} {ps : Array Tmp} {assign body : Code} {Q : Exit → Act → World → Prop} {a : Act} {w : World}
 (hro : F.round = none) (h1 : 1 ≤ n) {gf : Nat} {lb : Array Value} (hg : a.eval g = .func (.func gf) #[] lb) (hFg : F.fn gf) (eg : ∀ args w, (callFunc gf args).run P w = .ok (.enter gf args) w) {chain : List PanicEntry}
 (h : ∀ l W1, Below w.heap.size w W1 → CallsIn F (n - 1) P gf (#[.func (.yield l) #[] #[]] ++ lb) W1 fun e w' => e = .panicked chain ∧ Below W1.heap.size W1 w')
 (hdone : ∀ (D : Nat) (W : World), w.heap.size ≤ D → Below w.heap.size w W → W.heap[D]? = some (.deferred (some [])) → Q (.panic chain) { a with defers := { target := .collected D, args := #[] } :: a.defers } W) :
 (Code.rangeFunc g ps assign body).wpIn F n P Q a w := by
 refine wpIn_rangeFunc ?_
 intro fn hfn
 rw [hro]
 obtain ⟨rec, hrec⟩ : ∃ rec : LoopState → Option Code → Loop, rec = fun st pe => { state := st, pending := pe, fn, tmps := a.tmps, params := ps, assign, body, defers := w.heap.size } := ⟨_, rfl⟩
 obtain ⟨W1, hW1⟩ : ∃ W1, (w.alloc (.deferred (some []))).alloc (.loop (rec .ready none)) = W1 := ⟨_, rfl⟩
 have hK1 : W1.heap[w.heap.size]? = some (.deferred (some [])) := by
  rw [← hW1]; exact (Below.heap_alloc _ _ _ (by simp)).trans (World.alloc_heap_new w _)
 have hb1 : Below w.heap.size w W1 := by
  rw [← hW1]; exact ((B7 _ w).alloc (Nat.le_refl _) _).alloc (by simp) _
 refine ⟨w.heap.size + 1, [{ target := .collected w.heap.size, args := #[] }], W1, { target := .fn (.func gf) lb, args := #[.func (.yield (w.heap.size + 1)) #[] #[]] }, W1, gf,
  #[.func (.yield (w.heap.size + 1)) #[] #[]] ++ lb, W1, ?_, ?_, ?_, ?_, fun _ => h1, ?_⟩
 · rw [← hW1, hrec]; exact run_enterLoop_outer _ _ _ _ _
 · simp only [resolve, hg]
   simp [go_sem]
 · intro f' hf'; simp [Target.leads] at hf'; subst hf'; exact hFg
 · simp [invoke, go_sem, eg]
 · refine (h (w.heap.size + 1) W1 hb1).mono ?_
   rintro e w' ⟨rfl, hb⟩
   exact hdone w.heap.size w' (Nat.le_refl _) (hb1.trans (hb.mono hb1.size)) ((hb.block _ (b7t hK1)).trans hK1)
theorem panic_marked {n : Nat} {P : Program} {fn : Func} {a : Act} {W : World} {D : Nat} {R : Ending → World → Prop} {chain : List PanicEntry} (hd : a.defers = [{ target := .collected D, args := #[] }]) (hK : W.heap[D]? = some (.deferred (some [])))
 (hR : R (.panicked chain) (W.putObj D (.deferred none))) (hc : ∀ e ∈ chain, e.recovered = false) : bodyPostM Fence.wide n P fn R (.panic chain) a W := by
 obtain ⟨t, ds⟩ := a
 cases hd
 exact ⟨by simp, .inl ⟨_, _, rfl, run_takeDeferred hK, hR⟩⟩
/-- A yield goes into a round of another loop as it is. -/
theorem YieldAt.inside {n m k : Nat} {P : Program} {l : Nat} {args : Array Value} {W : World} {R : Ending → World → Prop} (h : YieldAt Fence.wide n P l args W R) : YieldAt (Fence.wide.inRound k) m P l args W R := by
 obtain ⟨fn, tmps, assign, body, h1, h2, h3⟩ := h
 exact ⟨fn, tmps, assign, body, h1, h2, fun c cs _ => h3 c cs (fun d hd => by cases hd)⟩
end Go.Proofs.YthcdkkmjnglmjaaGreatDoor
