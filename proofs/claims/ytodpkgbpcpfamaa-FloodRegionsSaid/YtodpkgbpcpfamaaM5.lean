/- Merged texts: MadeB Pla New. -/
import Derived.Test.YtodpkgbpcpfamaaM4
/- Layer 5: what pointers come to: tiles; what places come to: dots. -/
namespace Go.Proofs.Ytodpkgbpcpfamaa
set_option linter.unusedSimpArgs false
set_option linter.unusedVariables false
open Go.RowKit Go.Shelf
attribute [local go_sem] Oper.semAt_some

theorem rowTl : RowT Try.prog 22 74 256 256 := .of (z := .agg Try.zeroCells74) Try.underlying22 (by kernel_rfl) (by kernel_rfl) (by decide)
theorem infoT : (Try.prog.info? 74).map (fun i => (i.size, i.zero.map fun z => z.cells.size)) = some (256, some 256) := by kernel_rfl
theorem sizeT (T : TileT) : (encT T).toArray.size = 256 := by rw [List.size_toArray, encT_len]
theorem sizeZ : (Try.zeroCells74 : Array Value).size = 256 := by kernel_rfl

set_option maxRecDepth 100000 in
set_option maxHeartbeats 1000000 in
theorem showCl_any (q : Nat) (T : TileT) (w : World) (hq : w.heap[q]? = some (.cells (encT T).toArray 74 (0, 0))) : Calls Try.prog 48 #[.pointer (some ⟨q, 0, none⟩)] w (Gives (.agg (encT T).toArray) w) := by
 have HQ := Lib.hid hq
 have HS := Lib.hid (St.start w)
 have HSZ := Lib.hid (size_T T)
 have HN := Lib.hid (sizeT T)
 have HZ := Lib.hid (encT_all T)
 obtain ⟨t1, ht1⟩ : ∃ t1, (encT T).toArray = t1 := ⟨_, rfl⟩
 rw [ht1] at HQ HSZ HN HZ ⊢
 clear hq ht1
 go_enter Try.func48, Try.ntmps48
 repeat ((fail_if_success (with_reducible refine stop_at (id := 1) ?_)); (first | go_values | go_skip | go_guarded | go_step | go_upon | go_back | (simp only [Int.not_lt, Int.not_le] at *; go_simp) | (go_values <;> (try go_simp)) | (go_ite <;> go_prune <;> (try go_simp)) | (split <;> (first | (rename_i hx; exact (hx _ rfl).elim) | go_prune))))
 have hs_ := (HS.out.alloc (.cells Try.zeroCells74 74))
 obtain ⟨w1, hw_⟩ : ∃ w1 : World, (w.alloc (.cells Try.zeroCells74 74)) = w1 := ⟨_, rfl⟩
 rw [hw_] at hs_
 try simp only [World.size_alloc] at hs_
 have HS := Lib.hid hs_
 rw [hw_]
 clear hw_ hs_
 refine (wpIn_wide (n := 0)).1 ?_
 gi_wp2_with fail
 refine opIn_load 74 _ rfl q rfl 74 t1 (0, 0) _ ((HS.out.low.block q (block_lt HQ.out)).trans HQ.out) Try.underlying74 rfl HSZ.out ?_
 simp only [Act.put, List.setIfInBounds_toArray, List.set_cons_succ, List.set_cons_zero]
 gi_step
 refine opIn_store 74 _ _ rfl w.heap.size 74 Try.zeroCells74 t1 rfl rfl (HS.out.blockAt 0 rfl) HSZ.out (sizeZ.trans HN.out.symm) HZ.out ?_
 simp only [Act.put, List.setIfInBounds_toArray, List.set_cons_succ, List.set_cons_zero]
 have hs5 := HS.out.putRow (c' := t1) (pre := []) (by simp)
 simp only [List.nil_append] at hs5
 obtain ⟨w5, hw5⟩ : ∃ w5, w1.setRow w.heap.size t1 = w5 := ⟨_, rfl⟩
 rw [hw5] at hs5
 rw [hw5]
 have HS := Lib.hid hs5
 clear hs5 hw5
 gi_wp2_with fail
 go_wp2_with fail
 have hl := run_loadVar_row (P := Try.prog) w5 w.heap.size 74 74 t1 (0, 0) _ (HS.out.blockAt 0 rfl) Try.underlying74 rfl HSZ.out
 refine bodyPost_ret (v := .agg t1) (results_cell1 Try.results48 rfl hl) rfl ⟨rfl, HS.out.low⟩

set_option maxRecDepth 100000 in
set_option maxHeartbeats 1000000 in
theorem madeShow_any (b n cap : Nat) (qs : List Nat) (ts : List TileT) (hl : qs.length = n) (hn : n ≤ 1000) (w : World) (hc : ∀ (i q : Nat), qs[i]? = some q → w.cell? ⟨b, i, none⟩ = some (.pointer (some ⟨q, 0, none⟩))) (hb : b < w.heap.size) (ht : TP w qs ts) :
 Calls Try.prog 47 #[.slice (some ⟨b, 0, none⟩) n cap, .func (.func 48) #[] #[]] w (GivesRow 74 256 ts.length (ts.flatMap encT) w) := by
 have HS := Lib.hid (St.start w)
 have HL := Lib.hid hl
 have HN := Lib.hid hn
 have HC := Lib.hid hc
 have HB := Lib.hid hb
 have HT := Lib.hid ht
 have HO := Lib.hid (StO.start HS.out 74 256 encT)
 clear hl hc hb ht
 go_enter Try.func47, Try.ntmps47
 go_wp2_with fail
 go_loopw [5, 10] (fun v i wr => ∃ (k : Nat), k ≤ n ∧ i = .int .i64 (k : Int) ∧ StO w [] w.heap.size 74 256 encT v (ts.take k) wr) (fun _ i _ => n - (intOf i).toNat)
 case atStart => exact ⟨0, by omega, rfl, HO.out⟩
 case round =>
  obtain ⟨k, hk, rfl, ho⟩ := hrel
  clear HO HS
  have HO := Lib.hid ho
  clear ho
  by_cases hlt : k < n
  · obtain ⟨q, hq⟩ : ∃ q, qs[k]? = some q := ⟨_, List.getElem?_eq_getElem (by rw [HL.out]; exact hlt)⟩
    obtain ⟨t, ht, hqt⟩ := HT.out.get hq
    have c0 := (HO.out.st.low.cell (p := ⟨b, k, none⟩) HB.out).trans (HC.out k q hq)
    have HQ := Lib.hid ((HO.out.st.low.block q (block_lt hqt)).trans hqt)
    have HTT := Lib.hid ht
    have HNT := Lib.hid (sizeT t)
    have HLK := Lib.hid (show (ts.take k).length = k by rw [List.length_take, ← HT.out.len, HL.out]; omega)
    have HS := Lib.hid (St.start wr)
    clear ht hqt hq
    repeat ((fail_if_success (with_reducible refine stop_at (id := 5) ?_)); (first | go_values | go_skip | go_guarded | go_step | go_upon | go_back | (simp only [Int.not_lt, Int.not_le] at *; go_simp) | (go_values <;> (try go_simp)) | (go_ite <;> go_prune <;> (try go_simp)) | (split <;> (first | (rename_i hx; exact (hx _ rfl).elim) | go_prune))))
    clear c0
    refine (wpIn_wide (n := 0)).1 ?_
    gi_wp2_with fail
    refine (callsIn_wide.2 (showCl_any q t _ ((HS.out.low.block q (block_lt HQ.out)).trans HQ.out))).mono ?_
    rintro e w6 ⟨rfl, hb6⟩
    have HS := Lib.hid (HS.out.below hb6)
    clear hb6
    simp only [Act.put, List.setIfInBounds_toArray, List.set_cons_succ, List.set_cons_zero]
    gi_step
    refine opIn_buildSlice_one _ _ rfl (encT t).toArray (by rfl) Try.underlying22 infoT (by decide) (by decide) HNT.out ?_
    simp only [Act.put, List.setIfInBounds_toArray, List.set_cons_succ, List.set_cons_zero]
    gi_wp2_with (gi_at_builtin; refine wpListIn_app1 rowTl encT_len encT_one HO.out HS.out.low t k HLK.out (by have := HN.out; omega) (by decide) _ _ rfl rfl rfl _ rfl (by simp) ?_; intro v' w7 ho7 hsh)
    have HO7 := Lib.hid ho7
    clear ho7
    go_wp2_with fail
    go_roundw
    case rel =>
     refine ⟨k + 1, hlt, by simp, ?_⟩
     rw [List.take_add_one, HTT.out]
     exact HO7.out
    case measure => simp [intOf]; omega
  · obtain rfl : k = n := by omega
    go_wp2_with fail
    go_ret
    have ho := HO.out.row
    rw [List.take_of_length_le (by rw [← HT.out.len, HL.out]; exact Nat.le_refl _)] at ho
    exact ⟨_, rfl, ho, HO.out.st.low⟩

set_option maxRecDepth 100000 in
set_option maxHeartbeats 1000000 in
theorem setCl_any (B : Nat) (p : PtT) (c : ColT) (w : World) (hb : w.heap[B]? = some (.cells #[.int .u8 c.r, .int .u8 c.g, .int .u8 c.b, .int .u8 c.a] 55 (0, 0))) : Calls Try.prog 63 #[p.val, .pointer (some ⟨B, 0, none⟩)] w (Gives (.agg (encD ⟨p.x, p.y, c⟩).toArray) w) := by
 have HB := Lib.hid hb
 have HS := Lib.hid (St.start w)
 obtain ⟨px, py⟩ := p
 obtain ⟨r, g, b, a⟩ := c
 unfold PtT.val encD
 simp only at HB ⊢
 clear hb
 go_enter Try.func63, Try.ntmps63
 repeat ((fail_if_success (with_reducible refine stop_at (id := 1) ?_)); (first | go_values | go_skip | go_guarded | go_step | go_upon | go_back | (simp only [Int.not_lt, Int.not_le] at *; go_simp) | (go_values <;> (try go_simp)) | (go_ite <;> go_prune <;> (try go_simp)) | (split <;> (first | (rename_i hx; exact (hx _ rfl).elim) | go_prune))))
 have hs_ := ((HS.out.alloc (.cells #[.int .i64 px, .int .i64 py] 41)).alloc (.cells #[.int .i64 0, .int .i64 0, .int .u8 0, .int .u8 0, .int .u8 0, .int .u8 0] 126))
 obtain ⟨w1, hw_⟩ : ∃ w1 : World, ((w.alloc (.cells #[.int .i64 px, .int .i64 py] 41)).alloc (.cells #[.int .i64 0, .int .i64 0, .int .u8 0, .int .u8 0, .int .u8 0, .int .u8 0] 126)) = w1 := ⟨_, rfl⟩
 rw [hw_] at hs_
 try simp only [World.size_alloc] at hs_
 have HS := Lib.hid hs_
 rw [hw_]
 clear hw_ hs_
 have hb1 := (HS.out.low.block B (block_lt HB.out)).trans HB.out
 have b0 := cell_of_block (k := 0) hb1 rfl
 have b1 := cell_of_block (k := 1) hb1 rfl
 have b2 := cell_of_block (k := 2) hb1 rfl
 have b3 := cell_of_block (k := 3) hb1 rfl
 clear hb1
 have p0 := cell_of_block (k := 0) (HS.out.blockAt 1 rfl) rfl
 have p1 := cell_of_block (k := 1) (HS.out.blockAt 1 rfl) rfl
 have d0 := cell_of_block (k := 0) (HS.out.blockAt 0 rfl) rfl
 have d1 := cell_of_block (k := 1) (HS.out.blockAt 0 rfl) rfl
 have d2 := cell_of_block (k := 2) (HS.out.blockAt 0 rfl) rfl
 have d3 := cell_of_block (k := 3) (HS.out.blockAt 0 rfl) rfl
 have d4 := cell_of_block (k := 4) (HS.out.blockAt 0 rfl) rfl
 have d5 := cell_of_block (k := 5) (HS.out.blockAt 0 rfl) rfl
 have f0 := free_of_block (HS.out.blockAt 0 rfl)
 go_wp2_with fail
 have hb6 := heap_set_same (heap_set_same (heap_set_same (heap_set_same (heap_set_same (heap_set_same (HS.out.blockAt 0 rfl) (k := 0) (.int .i64 px)) (k := 1) (.int .i64 py)) (k := 2) (.int .u8 r)) (k := 3) (.int .u8 g)) (k := 4) (.int .u8 b)) (k := 5) (.int .u8 a)
 simp only [List.setIfInBounds_toArray, List.set_cons_zero, List.set_cons_succ] at hb6
 have hl := run_loadVar_row (P := Try.prog) _ (w.heap.size + 1) 126 126 #[.int .i64 px, .int .i64 py, .int .u8 r, .int .u8 g, .int .u8 b, .int .u8 a] (0, 0) _ hb6 Try.underlying126 rfl (by kernel_rfl)
 refine bodyPost_ret (v := .agg #[.int .i64 px, .int .i64 py, .int .u8 r, .int .u8 g, .int .u8 b, .int .u8 a]) (results_cell1 Try.results63 rfl hl) rfl ⟨rfl, ?_⟩
 have h0 := HS.out.low
 have hs : ∀ {z : World} (k : Nat) (v : Value), Below w.heap.size w z → Below w.heap.size w (z.setCell ⟨w.heap.size + 1, k, none⟩ v) := fun k v h => h.setCell (Nat.le_add_right _ _) v
 exact hs _ _ (hs _ _ (hs _ _ (hs _ _ (hs _ _ (hs _ _ h0)))))
theorem encD_one : ∀ (d : DotT), ∀ u ∈ encD d, u.oneCell' = true := by
 intro d u hu
 simp only [encD, List.mem_cons, List.not_mem_nil, or_false] at hu
 rcases hu with rfl | rfl | rfl | rfl | rfl | rfl <;> rfl
theorem rowD : RowT Try.prog 123 126 6 24 := .of (z := .agg #[.int .i64 0, .int .i64 0, .int .u8 0, .int .u8 0, .int .u8 0, .int .u8 0]) Try.underlying123 (by kernel_rfl) rfl (by decide)

set_option maxRecDepth 100000 in
set_option maxHeartbeats 1000000 in
theorem madeDots_any (B : Nat) (c : ColT) (a : Option Addr) (n cap : Nat) (ps : List PtT) (hl : ps.length = n) (hn : n ≤ 1000000) (w : World) (hb : w.heap[B]? = some (.cells #[.int .u8 c.r, .int .u8 c.g, .int .u8 c.b, .int .u8 c.a] 55 (0, 0))) (he : Elems w (.slice a n cap) n 2 (rowC encP ps)) :
 Calls Try.prog 62 #[.slice a n cap, .func (.func 63) #[] #[.pointer (some ⟨B, 0, none⟩)]] w
  (GivesRow 126 6 (ps.map fun p => (⟨p.x, p.y, c⟩ : DotT)).length ((ps.map fun p => (⟨p.x, p.y, c⟩ : DotT)).flatMap encD) w) := by
 have HS := Lib.hid (St.start w)
 have HE := Lib.hid he
 have HB := Lib.hid hb
 have HL := Lib.hid hl
 have HN := Lib.hid hn
 have HO := Lib.hid (StO.start HS.out 126 6 encD)
 clear he hb hl
 go_enter Try.func62, Try.ntmps62
 go_wp2_with fail
 go_loopw [5, 10] (fun v i wr => ∃ (k : Nat), k ≤ n ∧ i = .int .i64 (k : Int) ∧ StO w [] w.heap.size 126 6 encD v ((ps.take k).map fun p => ⟨p.x, p.y, c⟩) wr) (fun _ i _ => n - (intOf i).toNat)
 case atStart => exact ⟨0, by omega, rfl, HO.out⟩
 case round =>
  obtain ⟨k, hk, rfl, ho⟩ := hrel
  clear HO HS
  have HO := Lib.hid ho
  clear ho
  by_cases hlt : k < n
  · obtain ⟨p, hp⟩ : ∃ p, ps[k]? = some p := ⟨_, List.getElem?_eq_getElem (by rw [HL.out]; exact hlt)⟩
    obtain ⟨b, off, rfl⟩ : ∃ b off, a = some ⟨b, off, none⟩ := by
     rcases HE.out with ⟨e, h⟩ | ⟨b, off, cap', e, -, -⟩
     · omega
     · cases e; exact ⟨b, off, rfl⟩
    have hr := elem_range encP_len (HE.out.below HO.out.st.low) hp HL.out
    have HPP := Lib.hid hp
    have HLK := Lib.hid (show ((ps.take k).map fun p => (⟨p.x, p.y, c⟩ : DotT)).length = k by rw [List.length_map, List.length_take, HL.out]; omega)
    have HBB := Lib.hid ((HO.out.st.low.block B (block_lt HB.out)).trans HB.out)
    have HS := Lib.hid (St.start wr)
    have HCL := Lib.hid (fun w' h => setCl_any B p c w' h)
    have HTK := Lib.hid (show (ps.take (k + 1)).map (fun p => (⟨p.x, p.y, c⟩ : DotT)) = (ps.take k).map (fun p => (⟨p.x, p.y, c⟩ : DotT)) ++ [⟨p.x, p.y, c⟩] by
     rw [List.take_add_one, hp]; simp)
    obtain ⟨px, py⟩ := p
    have c0 := hr 0 _ rfl
    have c1 := hr 1 _ rfl
    rw [Nat.add_zero] at c0
    clear hr hp
    unfold PtT.val encD at HCL
    simp only at HCL HTK
    go_wp2_with fail
    clear c0 c1
    have hs_ := (HS.out.alloc (.cells #[.int .i64 px, .int .i64 py] 41))
    obtain ⟨w3, hw_⟩ : ∃ w3 : World, (wr.alloc (.cells #[.int .i64 px, .int .i64 py] 41)) = w3 := ⟨_, rfl⟩
    rw [hw_] at hs_
    try simp only [World.size_alloc] at hs_
    have HS := Lib.hid hs_
    rw [hw_]
    clear hw_ hs_
    refine (HCL.out _ ((HS.out.low.block B (block_lt HBB.out)).trans HBB.out)).mono ?_
    rintro e w4 ⟨rfl, hb_⟩
    have HS := Lib.hid (HS.out.below hb_)
    clear hb_
    go_wp2_with (at_builtin; refine wpList_app1 rowD encD_len encD_one HO.out HS.out.low ⟨px, py, c⟩ k HLK.out (by have := HN.out; omega) (by decide) _ _ rfl rfl rfl _ rfl (by simp) ?_; intro v' w7 ho7 hsh)
    have HO7 := Lib.hid ho7
    clear ho7
    go_wp2_with fail
    go_roundw
    case rel =>
     refine ⟨k + 1, hlt, by simp, ?_⟩
     rw [HTK.out]
     exact HO7.out
    case measure => simp [intOf]; omega
  · obtain rfl : k = n := by omega
    go_wp2_with fail
    go_ret
    have ho := HO.out.row
    rw [List.take_of_length_le (by rw [HL.out]; exact Nat.le_refl _)] at ho
    exact ⟨_, rfl, ho, HO.out.st.low⟩
end Go.Proofs.Ytodpkgbpcpfamaa

/- Layer 5: place, Size, At. -/
namespace Go.Proofs.Ytodpkgbpcpfamaa
set_option linter.unusedSimpArgs false
set_option linter.unusedVariables false
open Go.RowKit Go.Shelf
attribute [local go_sem] Oper.semAt_some

theorem place_nums {x y wide high i : Nat} (hi : y / 8 * wide + x / 8 = i) (hx : x < 8 * wide) (hy : y < 8 * high) (hw : wide ≤ 4) (hh : high ≤ 4) :
 ∃ qy m qx : Nat, wrap64 ((y : Int) / 8) = (qy : Int) ∧ wrap64 ((qy : Int) * wide) = (m : Int) ∧ wrap64 ((x : Int) / 8) = (qx : Int) ∧ wrap64 ((m : Int) + qx) = (i : Int) ∧ wrap64 (8 * (wide : Int)) = 8 * (wide : Int) ∧ wrap64 (8 * (high : Int)) = 8 * (high : Int) := by
 obtain ⟨e1, e2, e3, e4, -⟩ := at_nums rfl rfl rfl hi rfl hx hy hw hh
 refine ⟨_, _, _, e1, e2, e3, e4, ?_, ?_⟩
 · unfold wrap64; omega
 · unfold wrap64; omega

set_option maxRecDepth 100000 in
set_option maxHeartbeats 2000000 in
theorem place_on (wide high x y i : Nat) (hi : y / 8 * wide + x / 8 = i) (hx : x < 8 * wide) (hy : y < 8 * high) (hw : wide ≤ 4) (hh : high ≤ 4) (w : World) :
 Calls Try.prog 68 #[.agg #[.int .i64 wide, .int .i64 high], .int .i64 x, .int .i64 y] w (Gives (.tuple #[.int .i64 i, .agg #[.int .i64 (x % 8 : Nat), .int .i64 (y % 8 : Nat)], .bool true]) w) := by
 obtain ⟨qy, m, qx, e1, e2, e3, e4, e5, e6⟩ := place_nums hi hx hy hw hh
 have g1 : (x : Int) < 8 * (wide : Int) := by omega
 have g2 : (y : Int) < 8 * (high : Int) := by omega
 clear hi hx hy hw hh
 have HS := Lib.hid (St.start w)
 go_enter Try.func68, Try.ntmps68
 repeat ((fail_if_success (with_reducible refine stop_at (id := 1) ?_)); (first | go_values | go_skip | go_guarded | go_step | go_upon | go_back | (simp only [Int.not_lt, Int.not_le] at *; go_simp) | (go_values <;> (try go_simp)) | (go_ite <;> go_prune <;> (try go_simp)) | (split <;> (first | (rename_i hx; exact (hx _ rfl).elim) | go_prune))))
 have hs_ := ((HS.out.alloc (.cells #[.int .i64 wide, .int .i64 high] 106)).alloc (.cells #[.int .i64 0, .int .i64 0] 41))
 obtain ⟨w1, hw_⟩ : ∃ w1 : World, ((w.alloc (.cells #[.int .i64 wide, .int .i64 high] 106)).alloc (.cells #[.int .i64 0, .int .i64 0] 41)) = w1 := ⟨_, rfl⟩
 rw [hw_] at hs_
 try simp only [World.size_alloc] at hs_
 have HS := Lib.hid hs_
 rw [hw_]
 clear hw_ hs_
 have s0 := cell_of_block (k := 0) (HS.out.blockAt 1 rfl) rfl
 have s1 := cell_of_block (k := 1) (HS.out.blockAt 1 rfl) rfl
 have p0 := cell_of_block (k := 0) (HS.out.blockAt 0 rfl) rfl
 have p1 := cell_of_block (k := 1) (HS.out.blockAt 0 rfl) rfl
 have f0 := free_of_block (HS.out.blockAt 0 rfl)
 go_wp2_with fail
 refine bodyPost_ret (v := .tuple #[.int .i64 i, .agg #[.int .i64 (x % 8 : Nat), .int .i64 (y % 8 : Nat)], .bool true]) (by simp [results, Try.results68, go_sem, p0, p1, e4]) rfl ⟨rfl, ?_⟩
 have h0 := HS.out.low
 (repeat (first | exact Below.refl _ _ | assumption | refine Below.alloc ?_ (by first | omega | (simp; done) | (simp; omega)) _ | refine Below.setCell ?_ (by first | omega | (simp; done) | (simp; omega)) _ | refine Below.drew ?_))

set_option maxRecDepth 100000 in
set_option maxHeartbeats 4000000 in
theorem place_off (wide high : Nat) (x y : Int) (hon : onB (8 * (wide : Int)) (8 * (high : Int)) ⟨x, y⟩ = false) (hw : wide ≤ 4) (hh : high ≤ 4) (w : World) :
 Calls Try.prog 68 #[.agg #[.int .i64 wide, .int .i64 high], .int .i64 x, .int .i64 y] w (Gives (.tuple #[.int .i64 0, .agg #[.int .i64 0, .int .i64 0], .bool false]) w) := by
 have e5 : wrap64 (8 * (wide : Int)) = 8 * (wide : Int) := by unfold wrap64; omega
 have e6 : wrap64 (8 * (high : Int)) = 8 * (high : Int) := by unfold wrap64; omega
 unfold onB at hon
 have hon := of_decide_eq_false hon
 simp only at hon
 clear hw hh
 have HS := Lib.hid (St.start w)
 by_cases h1 : 0 ≤ x <;> by_cases h2 : 0 ≤ y <;> by_cases h3 : x < 8 * (wide : Int) <;> by_cases h4 : y < 8 * (high : Int) <;> (try (exfalso; first | exact hon ⟨⟨h1, h3⟩, h2, h4⟩ | omega)) <;> clear hon <;> (
  go_enter Try.func68, Try.ntmps68
  repeat ((fail_if_success (with_reducible refine stop_at (id := 1) ?_)); (first | go_values | go_skip | go_guarded | go_step | go_upon | go_back | (simp only [Int.not_lt, Int.not_le] at *; go_simp) | (go_values <;> (try go_simp)) | (go_ite <;> go_prune <;> (try go_simp)) | (split <;> (first | (rename_i hx; exact (hx _ rfl).elim) | go_prune))))
  have hs_ := ((HS.out.alloc (.cells #[.int .i64 wide, .int .i64 high] 106)).alloc (.cells #[.int .i64 0, .int .i64 0] 41))
  obtain ⟨w1, hw_⟩ : ∃ w1 : World, ((w.alloc (.cells #[.int .i64 wide, .int .i64 high] 106)).alloc (.cells #[.int .i64 0, .int .i64 0] 41)) = w1 := ⟨_, rfl⟩
  rw [hw_] at hs_
  try simp only [World.size_alloc] at hs_
  have HS := Lib.hid hs_
  rw [hw_]
  clear hw_ hs_
  have s0 := cell_of_block (k := 0) (HS.out.blockAt 1 rfl) rfl
  have s1 := cell_of_block (k := 1) (HS.out.blockAt 1 rfl) rfl
  have p0 := cell_of_block (k := 0) (HS.out.blockAt 0 rfl) rfl
  have p1 := cell_of_block (k := 1) (HS.out.blockAt 0 rfl) rfl
  have f0 := free_of_block (HS.out.blockAt 0 rfl)
  go_wp2_with fail
  refine bodyPost_ret (v := .tuple #[.int .i64 0, .agg #[.int .i64 0, .int .i64 0], .bool false]) (by simp [results, Try.results68, go_sem, p0, p1]) rfl ⟨rfl, ?_⟩
  have h0 := HS.out.low
  (repeat (first | exact Below.refl _ _ | assumption | refine Below.alloc ?_ (by first | omega | (simp; done) | (simp; omega)) _ | refine Below.setCell ?_ (by first | omega | (simp; done) | (simp; omega)) _ | refine Below.drew ?_)))

set_option maxRecDepth 100000 in
set_option maxHeartbeats 4000000 in
theorem at_on (C : CanT) (p : Nat) (x y : Nat) (hx : x < 8 * C.wide) (hy : y < 8 * C.high) (w : World) (hC : CanAt w p C) :
 Calls Try.prog 65 #[.pointer (some ⟨p, 0, none⟩), .int .i64 x, .int .i64 y] w (Gives (.tuple #[(colC C x y).val, .bool true]) w) := by
 obtain ⟨ok, b, cap, qs, h1, h2, h3, h4, h5⟩ := hC
 obtain ⟨T, hT, hcT, hok⟩ := ok.tile hx hy
 have hlt := tile_lt hx hy
 rw [← ok.many, ← h3] at hlt
 obtain ⟨q, hq⟩ : ∃ q, qs[y / 8 * C.wide + x / 8]? = some q := ⟨_, List.getElem?_eq_getElem hlt⟩
 have k4 := h4 _ _ hq
 have k5 := h5 _ _ _ hq hT
 have HTA := Lib.hid (tileAtT_any T (x % 8) (y % 8) (by omega) (by omega) _ hcT)
 have HPL := Lib.hid (place_on C.wide C.high x y _ rfl hx hy ok.wide.2 ok.high.2)
 obtain ⟨i, hi⟩ : ∃ i, y / 8 * C.wide + x / 8 = i := ⟨_, rfl⟩
 obtain ⟨rx, hrx⟩ : ∃ rx, x % 8 = rx := ⟨_, rfl⟩
 obtain ⟨ry, hry⟩ : ∃ ry, y % 8 = ry := ⟨_, rfl⟩
 obtain ⟨cl, hcl⟩ : ∃ cl, colC C x y = cl := ⟨_, rfl⟩
 rw [hrx, hry, hcl] at HTA
 rw [hi, hrx, hry] at HPL
 rw [hi] at k4
 rw [hcl]
 obtain ⟨wide, high, tiles⟩ := C
 simp only at *
 obtain ⟨n, hn⟩ : ∃ n, tiles.length = n := ⟨_, rfl⟩
 rw [hn] at h1 h3
 have hin : i < n := by rw [← h3, ← hi]; exact hlt
 have HIN := Lib.hid hin
 have HB := Lib.hid (And.intro (block_lt h1) (And.intro (block_lt k5) (cell_lt k4)))
 have HH := Lib.hid (And.intro h1 (And.intro k4 k5))
 have HS := Lib.hid (St.start w)
 clear ok h1 h2 h3 h4 h5 hT hcT hok hlt hq k4 k5 hi hrx hry hcl hn hx hy hin
 obtain ⟨r, g, bl, al⟩ := cl
 unfold ColT.val at *
 go_enter Try.func65, Try.ntmps65
 repeat ((fail_if_success (with_reducible refine stop_at (id := 3) ?_)); (first | go_values | go_skip | go_guarded | go_step | go_upon | go_back | (simp only [Int.not_lt, Int.not_le] at *; go_simp) | (go_values <;> (try go_simp)) | (go_ite <;> go_prune <;> (try go_simp)) | (split <;> (first | (rename_i hx; exact (hx _ rfl).elim) | go_prune))))
 have hs_ := (HS.out.alloc (.cells #[.int .u8 0, .int .u8 0, .int .u8 0, .int .u8 0] 55))
 obtain ⟨w1, hw_⟩ : ∃ w1 : World, (w.alloc (.cells #[.int .u8 0, .int .u8 0, .int .u8 0, .int .u8 0] 55)) = w1 := ⟨_, rfl⟩
 rw [hw_] at hs_
 try simp only [World.size_alloc] at hs_
 have HS := Lib.hid hs_
 rw [hw_]
 clear hw_ hs_
 have hb1 := (HS.out.low.block _ HB.out.1).trans HH.out.1
 have s0 := cell_of_block (k := 0) hb1 rfl
 have s1 := cell_of_block (k := 1) hb1 rfl
 clear hb1
 go_wp2_with fail
 clear s0 s1
 refine (HPL.out _).mono ?_
 rintro e w2 ⟨rfl, hb_⟩
 have HS := Lib.hid (HS.out.below hb_)
 clear hb_
 repeat ((fail_if_success (with_reducible refine stop_at (id := 6) ?_)); (first | go_values | go_skip | go_guarded | go_step | go_upon | go_back | (simp only [Int.not_lt, Int.not_le] at *; go_simp) | (go_values <;> (try go_simp)) | (go_ite <;> go_prune <;> (try go_simp)) | (split <;> (first | (rename_i hx; exact (hx _ rfl).elim) | go_prune))))
 have hs_ := (HS.out.alloc (.cells #[.int .i64 rx, .int .i64 ry] 41))
 obtain ⟨w3, hw_⟩ : ∃ w3 : World, (w2.alloc (.cells #[.int .i64 rx, .int .i64 ry] 41)) = w3 := ⟨_, rfl⟩
 rw [hw_] at hs_
 try simp only [World.size_alloc] at hs_
 have HS := Lib.hid hs_
 rw [hw_]
 clear hw_ hs_
 refine (wpIn_wide (n := 0)).1 ?_
 refine wp_region_factsE (by kernel_rfl) [(fun v_ _ _ => v_ = (.pointer (some ⟨p, 0, none⟩) : Value)), (fun v_ _ _ => v_ = (.pointer (some ⟨p, 0, none⟩) : Value)), (fun v_ _ _ => v_ = (.pointer (some ⟨p, 2, none⟩) : Value)), (fun v_ _ _ => v_ = (.slice (some ⟨b, 0, none⟩) n cap : Value)), (fun v_ _ _ => v_ = (.int .i64 (i : Int) : Value)), (fun v_ _ _ => v_ = (.pointer (some ⟨b, i, none⟩) : Value)), (fun v_ _ _ => v_ = (.pointer (some ⟨q, 0, none⟩) : Value)), (fun v_ _ _ => v_ = (.pointer (some ⟨q, 0, none⟩) : Value)), (fun v_ _ _ => v_ = (.agg (encT T).toArray : Value)), (fun v_ _ _ => v_ = (.pointer (some ⟨w2.heap.size, 0, none⟩) : Value)), (fun v_ _ _ => v_ = (.int .i64 (rx : Int) : Value)), (fun v_ _ _ => v_ = (.pointer (some ⟨w2.heap.size, 1, none⟩) : Value)), (fun v_ _ _ => v_ = (.int .i64 (ry : Int) : Value)), (fun v_ _ _ => v_ = (.tuple #[.agg #[.int .u8 r, .int .u8 g, .int .u8 bl, .int .u8 al], .int .i64 0] : Value)), (fun v_ _ _ => v_ = (.tuple #[.agg #[.int .u8 r, .int .u8 g, .int .u8 bl, .int .u8 al], .int .i64 0] : Value)), (fun v_ _ _ => v_ = (.agg #[.int .u8 r, .int .u8 g, .int .u8 bl, .int .u8 al] : Value)), (fun v_ _ _ => v_ = (.int .i64 0 : Value)), (fun v_ e_ w_ => ∃ q, v_ = .pointer (some ⟨q, 0, none⟩) ∧ w3.heap.size ≤ q ∧ (w_.heap[q]? = some (.cells #[.int .u8 0, .int .u8 0, .int .u8 0, .int .u8 0] 55 (0, 0)) ∨ w_.heap[q]? = some (.cells #[.int .u8 r, .int .u8 g, .int .u8 bl, .int .u8 al] 55 (0, 0)))), (fun v_ e_ w_ => ∀ q, e_ 11 = .pointer (some ⟨q, 0, none⟩) → w_.heap[q]? = some (.cells #[.int .u8 r, .int .u8 g, .int .u8 bl, .int .u8 al] 55 (0, 0)))] (fun x y => FillC w3.heap.size (.cells #[.int .u8 0, .int .u8 0, .int .u8 0, .int .u8 0] 55 (0, 0)) (.cells #[.int .u8 r, .int .u8 g, .int .u8 bl, .int .u8 al] 55 (0, 0)) x y) (fun x => FillC.refl _ _ _ x) (fun h k => FillC.trans h k) ⟨fun _ _ _ _ _ h => h, fun _ _ _ _ _ h => h, fun _ _ _ _ _ h => h, fun _ _ _ _ _ h => h, fun _ _ _ _ _ h => h, fun _ _ _ _ _ h => h, fun _ _ _ _ _ h => h, fun _ _ _ _ _ h => h, fun _ _ _ _ _ h => h, fun _ _ _ _ _ h => h, fun _ _ _ _ _ h => h, fun _ _ _ _ _ h => h, fun _ _ _ _ _ h => h, fun _ _ _ _ _ h => h, fun _ _ _ _ _ h => h, fun _ _ _ _ _ h => h, fun _ _ _ _ _ h => h, fun _ _ _ _ hC ⟨q, e, h, h2⟩ => ⟨q, e, h, FillC.either hC h2⟩, fun _ _ _ _ hC h q e => FillC.filled hC (h q e), trivial⟩ (by kernel_rfl) (by kernel_rfl) (FillC.grow (grows_drew _) (Nat.le_refl _)) ⟨fun _ _ _ _ _ h => h, fun _ _ _ _ _ h => h, fun _ _ _ _ _ h => h, fun _ _ _ _ _ h => h, fun _ _ _ _ _ h => h, fun _ _ _ _ _ h => h, fun _ _ _ _ _ h => h, fun _ _ _ _ _ h => h, fun _ _ _ _ _ h => h, fun _ _ _ _ _ h => h, fun _ _ _ _ _ h => h, fun _ _ _ _ _ h => h, fun _ _ _ _ _ h => h, fun _ _ _ _ _ h => h, fun _ _ _ _ _ h => h, fun _ _ _ _ _ h => h, fun _ _ _ _ _ h => h, fun _ _ _ _ _ h => h, fun v env env' x he h q e => h q ((he ⟨17, .data⟩ (by simp) rfl _ _ rfl rfl).trans e), trivial⟩ ?steps ?fin
 case steps =>
  refine ⟨?_, ?_, ?_, ?_, ?_, ?_, ?_, ?_, ?_, ?_, ?_, ?_, ?_, ?_, ?_, ?_, ?_, ?_, ?_, trivial⟩
  · intro a' w' hA hC hD; have s0 : a'.tmps[0]? = some (.pointer (some ⟨p, 0, none⟩)) := (hA.at 0 (by kernel_rfl)).trans rfl
    have hCz := FillC.size hC
    clear hA hD; refine stepOk_plain rfl ?_; intro K hK; gi_wp2; exact hK (.pointer (some ⟨p, 0, none⟩)) _ rfl ((fun x => FillC.refl _ _ _ x) _)
  · intro a' w' hA hC hD; obtain ⟨u31, s31, r31⟩ := hD ⟨0, .data⟩ (by simp) rfl _ rfl; replace r31 : u31 = .pointer (some ⟨p, 0, none⟩) := r31; subst r31
    have hCz := FillC.size hC
    clear hA hD; refine stepOk_plain rfl ?_; intro K hK; gi_wp2; exact hK (.pointer (some ⟨p, 0, none⟩)) _ rfl ((fun x => FillC.refl _ _ _ x) _)
  · intro a' w' hA hC hD; obtain ⟨u32, s32, r32⟩ := hD ⟨1, .data⟩ (by simp) rfl _ rfl; replace r32 : u32 = .pointer (some ⟨p, 0, none⟩) := r32; subst r32
    have hCz := FillC.size hC
    clear hA hD; refine stepOk_plain rfl ?_; intro K hK; gi_wp2; exact hK (.pointer (some ⟨p, 2, none⟩)) _ rfl ((fun x => FillC.refl _ _ _ x) _)
  · intro a' w' hA hC hD; obtain ⟨u33, s33, r33⟩ := hD ⟨2, .data⟩ (by simp) rfl _ rfl; replace r33 : u33 = .pointer (some ⟨p, 2, none⟩) := r33; subst r33
    have hCz := FillC.size hC
    have hb1 := ((HS.out.low.trans (hC.1.mono HS.out.low.size)).block _ HB.out.1).trans HH.out.1; have s2 := cell_of_block (k := 2) hb1 rfl; clear hb1
    clear hA hD; refine stepOk_plain rfl ?_; intro K hK; gi_wp2; exact hK (.slice (some ⟨b, 0, none⟩) n cap) _ rfl ((fun x => FillC.refl _ _ _ x) _)
  · intro a' w' hA hC hD; have s8 : a'.tmps[8]? = some (.int .i64 (i : Int)) := (hA.at 8 (by kernel_rfl)).trans rfl
    have hCz := FillC.size hC
    clear hA hD; refine stepOk_plain rfl ?_; intro K hK; gi_wp2; exact hK (.int .i64 (i : Int)) _ rfl ((fun x => FillC.refl _ _ _ x) _)
  · intro a' w' hA hC hD; obtain ⟨u34, s34, r34⟩ := hD ⟨3, .data⟩ (by simp) rfl _ rfl; replace r34 : u34 = .slice (some ⟨b, 0, none⟩) n cap := r34; subst r34; obtain ⟨u35, s35, r35⟩ := hD ⟨4, .data⟩ (by simp) rfl _ rfl; replace r35 : u35 = .int .i64 (i : Int) := r35; subst r35
    have hCz := FillC.size hC
    have hin := HIN.out
    clear hA hD; refine stepOk_plain rfl ?_; intro K hK; gi_wp2; exact hK (.pointer (some ⟨b, i, none⟩)) _ rfl ((fun x => FillC.refl _ _ _ x) _)
  · intro a' w' hA hC hD; obtain ⟨u36, s36, r36⟩ := hD ⟨5, .data⟩ (by simp) rfl _ rfl; replace r36 : u36 = .pointer (some ⟨b, i, none⟩) := r36; subst r36
    have hCz := FillC.size hC
    have k4 := ((HS.out.low.trans (hC.1.mono HS.out.low.size)).cell (p := ⟨b, i, none⟩) HB.out.2.2).trans HH.out.2.1
    clear hA hD; refine stepOk_plain rfl ?_; intro K hK; gi_wp2; exact hK (.pointer (some ⟨q, 0, none⟩)) _ rfl ((fun x => FillC.refl _ _ _ x) _)
  · intro a' w' hA hC hD; obtain ⟨u37, s37, r37⟩ := hD ⟨6, .data⟩ (by simp) rfl _ rfl; replace r37 : u37 = .pointer (some ⟨q, 0, none⟩) := r37; subst r37
    have hCz := FillC.size hC
    clear hA hD; refine stepOk_plain rfl ?_; intro K hK; gi_wp2; exact hK (.pointer (some ⟨q, 0, none⟩)) _ rfl ((fun x => FillC.refl _ _ _ x) _)
  · intro a' w' hA hC hD; obtain ⟨u38, s38, r38⟩ := hD ⟨7, .data⟩ (by simp) rfl _ rfl; replace r38 : u38 = .pointer (some ⟨q, 0, none⟩) := r38; subst r38
    have hCz := FillC.size hC
    clear hA hD; refine stepOk_plain rfl ?_; intro K hK
    refine opIn_load _ _ rfl q (by simp [Act.eval, s38]) 74 _ (0, 0) _ (((HS.out.low.trans (hC.1.mono HS.out.low.size)).block _ HB.out.2.1).trans HH.out.2.2) Try.underlying74 rfl (size_T T) (hK _ _ rfl (FillC.refl _ _ _ _))
  · intro a' w' hA hC hD; have s9 : a'.tmps[9]? = some (.pointer (some ⟨w2.heap.size, 0, none⟩)) := (hA.at 9 (by kernel_rfl)).trans rfl
    have hCz := FillC.size hC
    clear hA hD; refine stepOk_plain rfl ?_; intro K hK; gi_wp2; exact hK (.pointer (some ⟨w2.heap.size, 0, none⟩)) _ rfl ((fun x => FillC.refl _ _ _ x) _)
  · intro a' w' hA hC hD; obtain ⟨u40, s40, r40⟩ := hD ⟨9, .data⟩ (by simp) rfl _ rfl; replace r40 : u40 = .pointer (some ⟨w2.heap.size, 0, none⟩) := r40; subst r40
    have hCz := FillC.size hC
    have d0 := cell_of_block (k := 0) ((hC.1.block _ (HS.out.lt 0 rfl)).trans (HS.out.blockAt 0 rfl)) rfl
    clear hA hD; refine stepOk_plain rfl ?_; intro K hK; gi_wp2; exact hK (.int .i64 (rx : Int)) _ rfl ((fun x => FillC.refl _ _ _ x) _)
  · intro a' w' hA hC hD; have s9 : a'.tmps[9]? = some (.pointer (some ⟨w2.heap.size, 0, none⟩)) := (hA.at 9 (by kernel_rfl)).trans rfl
    have hCz := FillC.size hC
    clear hA hD; refine stepOk_plain rfl ?_; intro K hK; gi_wp2; exact hK (.pointer (some ⟨w2.heap.size, 1, none⟩)) _ rfl ((fun x => FillC.refl _ _ _ x) _)
  · intro a' w' hA hC hD; obtain ⟨u42, s42, r42⟩ := hD ⟨11, .data⟩ (by simp) rfl _ rfl; replace r42 : u42 = .pointer (some ⟨w2.heap.size, 1, none⟩) := r42; subst r42
    have hCz := FillC.size hC
    have d1 := cell_of_block (k := 1) ((hC.1.block _ (HS.out.lt 0 rfl)).trans (HS.out.blockAt 0 rfl)) rfl
    clear hA hD; refine stepOk_plain rfl ?_; intro K hK; gi_wp2; exact hK (.int .i64 (ry : Int)) _ rfl ((fun x => FillC.refl _ _ _ x) _)
  · intro a' w' hA hC hD; obtain ⟨u39, s39, r39⟩ := hD ⟨8, .data⟩ (by simp) rfl _ rfl; replace r39 : u39 = .agg (encT T).toArray := r39; subst r39; obtain ⟨u41, s41, r41⟩ := hD ⟨10, .data⟩ (by simp) rfl _ rfl; replace r41 : u41 = .int .i64 (rx : Int) := r41; subst r41; obtain ⟨u43, s43, r43⟩ := hD ⟨12, .data⟩ (by simp) rfl _ rfl; replace r43 : u43 = .int .i64 (ry : Int) := r43; subst r43
    have hCz := FillC.size hC
    clear hA hD; refine stepOk_plain rfl ?_; intro K hK
    gi_wp2_with fail; refine (callsIn_wide.2 (HTA.out _)).mono ?_; rintro e w5 ⟨rfl, hb⟩; exact hK _ _ rfl (FillC.grow hb hCz)
  · intro a' w' hA hC hD; obtain ⟨u44, s44, r44⟩ := hD ⟨13, .data⟩ (by simp) rfl _ rfl; replace r44 : u44 = .tuple #[.agg #[.int .u8 r, .int .u8 g, .int .u8 bl, .int .u8 al], .int .i64 0] := r44; subst r44
    have hCz := FillC.size hC
    clear hA hD; refine stepOk_plain rfl ?_; intro K hK; gi_wp2; exact hK (.tuple #[.agg #[.int .u8 r, .int .u8 g, .int .u8 bl, .int .u8 al], .int .i64 0]) _ rfl ((fun x => FillC.refl _ _ _ x) _)
  · intro a' w' hA hC hD; obtain ⟨u30, s30, r30⟩ := hD ⟨14, .data⟩ (by simp) rfl _ rfl; replace r30 : u30 = .tuple #[.agg #[.int .u8 r, .int .u8 g, .int .u8 bl, .int .u8 al], .int .i64 0] := r30; subst r30
    have hCz := FillC.size hC
    clear hA hD; refine stepOk_plain rfl ?_; intro K hK; gi_wp2; exact hK (.agg #[.int .u8 r, .int .u8 g, .int .u8 bl, .int .u8 al]) _ rfl ((fun x => FillC.refl _ _ _ x) _)
  · intro a' w' hA hC hD; obtain ⟨u30, s30, r30⟩ := hD ⟨14, .data⟩ (by simp) rfl _ rfl; replace r30 : u30 = .tuple #[.agg #[.int .u8 r, .int .u8 g, .int .u8 bl, .int .u8 al], .int .i64 0] := r30; subst r30
    have hCz := FillC.size hC
    clear hA hD; refine stepOk_plain rfl ?_; intro K hK; gi_wp2; exact hK (.int .i64 0) _ rfl ((fun x => FillC.refl _ _ _ x) _)
  · intro a' w' hA hC hD
    have hCz := FillC.size hC
    clear hA hD; refine stepOk_plain rfl ?_; intro K hK; gi_wp2; exact hK (.pointer (some ⟨w'.heap.size, 0, none⟩)) _ ⟨w'.heap.size, rfl, hCz, .inl (World.alloc_heap_new _ _)⟩ (FillC.grow ((Below.refl _ _).alloc (Nat.le_refl _) _) hCz)
  · intro a' w' hA hC hD; obtain ⟨u11, s11, r11⟩ := hD ⟨17, .data⟩ (by simp) rfl _ rfl; replace r11 : (fun v_ e_ w_ => ∃ q, v_ = .pointer (some ⟨q, 0, none⟩) ∧ w3.heap.size ≤ q ∧ (w_.heap[q]? = some (.cells #[.int .u8 0, .int .u8 0, .int .u8 0, .int .u8 0] 55 (0, 0)) ∨ w_.heap[q]? = some (.cells #[.int .u8 r, .int .u8 g, .int .u8 bl, .int .u8 al] 55 (0, 0)))) u11 (envOf a') w' := r11; obtain ⟨u45, s45, r45⟩ := hD ⟨15, .data⟩ (by simp) rfl _ rfl; replace r45 : u45 = .agg #[.int .u8 r, .int .u8 g, .int .u8 bl, .int .u8 al] := r45; subst r45
    have hCz := FillC.size hC
    have henv : envOf a' 11 = u11 := by (unfold envOf; rw [s11]; rfl)
    clear hA hD; refine stepOk_plain rfl ?_; intro K hK
    obtain ⟨q, rfl, hge, hq⟩ := r11; obtain ⟨y0, y1, y2, y3, hy⟩ := either4 hq; have d0 := cell_of_block (k := 0) (v := y0) hy rfl; have d1 := cell_of_block (k := 1) (v := y1) hy rfl; have d2 := cell_of_block (k := 2) (v := y2) hy rfl; have d3 := cell_of_block (k := 3) (v := y3) hy rfl; have fr := free_of_block hy; gi_wp2
    exact hK undef _ (fun q' e => by rw [henv] at e; cases e; exact (fill4 (n₀ := w3.heap.size) hge hq).2) (fill4 (n₀ := w3.heap.size) hge hq).1
 case fin =>
  intro w4 env hC
  simp only [EndFromE, forall_eq, Option.some.injEq, forall_eq', reduceCtorEq, false_implies, implies_true, forall_const, Act.put, List.length_cons, List.length_nil, List.drop_succ_cons, List.drop_zero, Nat.reduceAdd, List.setIfInBounds_toArray, List.set_cons_succ, List.set_cons_zero]
  rintro _ _ _ _ _ _ _ _ _ _ _ _ _ _ _ _ _ v11 ⟨q11, rfl, hge, _⟩ he hs
  have h11 := hs q11 he
  have HS := Lib.hid (HS.out.below hC.1)
  have d0 := cell_of_block (k := 0) h11 rfl
  have d1 := cell_of_block (k := 1) h11 rfl
  have d2 := cell_of_block (k := 2) h11 rfl
  have d3 := cell_of_block (k := 3) h11 rfl
  clear hs he h11 hC hge
  have k0 := cell_of_block (k := 0) (HS.out.blockAt 1 rfl) rfl
  have k1 := cell_of_block (k := 1) (HS.out.blockAt 1 rfl) rfl
  have k2 := cell_of_block (k := 2) (HS.out.blockAt 1 rfl) rfl
  have k3 := cell_of_block (k := 3) (HS.out.blockAt 1 rfl) rfl
  have f0 := free_of_block (HS.out.blockAt 1 rfl)
  gi_wp2
  go_wp2_with fail
  refine bodyPost_ret (v := .tuple #[.agg #[.int .u8 r, .int .u8 g, .int .u8 bl, .int .u8 al], .bool true]) (by simp [results, Try.results65, go_sem, k0, k1, k2, k3]) rfl ⟨rfl, ?_⟩
  have h0 := HS.out.low
  (repeat (first | exact Below.refl _ _ | assumption | refine Below.alloc ?_ (by first | omega | (simp; done) | (simp; omega)) _ | refine Below.setCell ?_ (by first | omega | (simp; done) | (simp; omega)) _ | refine Below.drew ?_))

set_option maxRecDepth 100000 in
set_option maxHeartbeats 1000000 in
theorem size_any (C : CanT) (p : Nat) (w : World) (hC : CanAt w p C) :
 Calls Try.prog 56 #[.pointer (some ⟨p, 0, none⟩)] w (Gives (.tuple #[.int .i64 (8 * (C.wide : Int)), .int .i64 (8 * (C.high : Int))]) w) := by
 obtain ⟨ok, b, cap, qs, h1, -⟩ := hC
 have HW := Lib.hid (And.intro ok.wide ok.high)
 obtain ⟨wide, high, tiles⟩ := C
 simp only at *
 obtain ⟨n, hn⟩ : ∃ n, tiles.length = n := ⟨_, rfl⟩
 rw [hn] at h1
 have HB := Lib.hid (block_lt h1)
 have HH := Lib.hid h1
 have HS := Lib.hid (St.start w)
 clear ok h1 hn
 have e1 : wrap64 (8 * (wide : Int)) = 8 * (wide : Int) := by have := HW.out; unfold wrap64; omega
 have e2 : wrap64 (8 * (high : Int)) = 8 * (high : Int) := by have := HW.out; unfold wrap64; omega
 go_enter Try.func56, Try.ntmps56
 repeat ((fail_if_success (with_reducible refine stop_at (id := 3) ?_)); (first | go_values | go_skip | go_guarded | go_step | go_upon | go_back | (simp only [Int.not_lt, Int.not_le] at *; go_simp) | (go_values <;> (try go_simp)) | (go_ite <;> go_prune <;> (try go_simp)) | (split <;> (first | (rename_i hx; exact (hx _ rfl).elim) | go_prune))))
 refine (wpIn_wide (n := 0)).1 ?_
 apply wp_region_vals 14 (Rl := [(eqv _), (eqv _), (eqv _), (eqv _), (eqv _), (eqv _), (eqv _), (eqv _), (eqv _), (eqv _), (eqv _), (eqv _), (eqv _), (eqv _)]) (C := (fun x y => Below x.heap.size x y))
 case hm => kernel_rfl
 case hk => rfl
 case hCr => exact (fun _ => Below.refl _ _)
 case hCt => intro _ _ _; exact (fun h k => grows_trans h k)
 case hst => exact ⟨fun _ _ _ _ h => h, fun _ _ _ _ h => h, fun _ _ _ _ h => h, fun _ _ _ _ h => h, fun _ _ _ _ h => h, fun _ _ _ _ h => h, fun _ _ _ _ h => h, fun _ _ _ _ h => h, fun _ _ _ _ h => h, fun _ _ _ _ h => h, fun _ _ _ _ h => h, fun _ _ _ _ h => h, fun _ _ _ _ h => h, fun _ _ _ _ h => h, trivial⟩
 case hfo => kernel_rfl
 case ht => kernel_rfl
 case hC0 => exact (grows_drew _)
 case hsteps =>
  refine ⟨?_, ?_, ?_, ?_, ?_, ?_, ?_, ?_, ?_, ?_, ?_, ?_, ?_, ?_, trivial⟩
  · intro a' w' hA hC hD; have s0 : a'.tmps[0]? = some _ := (hA.at 0 (by kernel_rfl)).trans rfl; clear hA hD; refine stepOk_plain rfl ?_; intro K hK; gi_wp2; exact hK _ _ rfl ((fun _ => Below.refl _ _) _)
  · intro a' w' hA hC hD; obtain ⟨u6, s6, r6⟩ := hD ⟨0, .data⟩ (by simp) rfl _ rfl; replace r6 : u6 = _ := r6; subst r6; clear hA hD; refine stepOk_plain rfl ?_; intro K hK; gi_wp2; exact hK _ _ rfl ((fun _ => Below.refl _ _) _)
  · intro a' w' hA hC hD; obtain ⟨u7, s7, r7⟩ := hD ⟨1, .data⟩ (by simp) rfl _ rfl; replace r7 : u7 = _ := r7; subst r7; clear hA hD; refine stepOk_plain rfl ?_; intro K hK; gi_wp2; exact hK _ _ rfl ((fun _ => Below.refl _ _) _)
  · intro a' w' hA hC hD; obtain ⟨u8, s8, r8⟩ := hD ⟨2, .data⟩ (by simp) rfl _ rfl; replace r8 : u8 = _ := r8; subst r8; clear hA hD; refine stepOk_plain rfl ?_; intro K hK; gi_wp2; exact hK _ _ rfl ((fun _ => Below.refl _ _) _)
  · intro a' w' hA hC hD; obtain ⟨u9, s9, r9⟩ := hD ⟨3, .data⟩ (by simp) rfl _ rfl; replace r9 : u9 = _ := r9; subst r9
    have hb1 := ((HS.out.below hC).low.block _ HB.out).trans HH.out; have s0 := cell_of_block (k := 0) hb1 rfl; clear hb1
    clear hA hD; refine stepOk_plain rfl ?_; intro K hK; gi_wp2; exact hK _ _ rfl ((fun _ => Below.refl _ _) _)
  · intro a' w' hA hC hD; obtain ⟨u10, s10, r10⟩ := hD ⟨4, .data⟩ (by simp) rfl _ rfl; replace r10 : u10 = _ := r10; subst r10; clear hA hD; refine stepOk_plain rfl ?_; intro K hK; gi_wp2; exact hK _ _ rfl ((fun _ => Below.refl _ _) _)
  · intro a' w' hA hC hD; have s0 : a'.tmps[0]? = some _ := (hA.at 0 (by kernel_rfl)).trans rfl; clear hA hD; refine stepOk_plain rfl ?_; intro K hK; gi_wp2; exact hK _ _ rfl ((fun _ => Below.refl _ _) _)
  · intro a' w' hA hC hD; obtain ⟨u12, s12, r12⟩ := hD ⟨6, .data⟩ (by simp) rfl _ rfl; replace r12 : u12 = _ := r12; subst r12; clear hA hD; refine stepOk_plain rfl ?_; intro K hK; gi_wp2; exact hK _ _ rfl ((fun _ => Below.refl _ _) _)
  · intro a' w' hA hC hD; obtain ⟨u13, s13, r13⟩ := hD ⟨7, .data⟩ (by simp) rfl _ rfl; replace r13 : u13 = _ := r13; subst r13; clear hA hD; refine stepOk_plain rfl ?_; intro K hK; gi_wp2; exact hK _ _ rfl ((fun _ => Below.refl _ _) _)
  · intro a' w' hA hC hD; obtain ⟨u14, s14, r14⟩ := hD ⟨8, .data⟩ (by simp) rfl _ rfl; replace r14 : u14 = _ := r14; subst r14; clear hA hD; refine stepOk_plain rfl ?_; intro K hK; gi_wp2; exact hK _ _ rfl ((fun _ => Below.refl _ _) _)
  · intro a' w' hA hC hD; obtain ⟨u15, s15, r15⟩ := hD ⟨9, .data⟩ (by simp) rfl _ rfl; replace r15 : u15 = _ := r15; subst r15
    have hb1 := ((HS.out.below hC).low.block _ HB.out).trans HH.out; have s0 := cell_of_block (k := 1) hb1 rfl; clear hb1
    clear hA hD; refine stepOk_plain rfl ?_; intro K hK; gi_wp2; exact hK _ _ rfl ((fun _ => Below.refl _ _) _)
  · intro a' w' hA hC hD; obtain ⟨u16, s16, r16⟩ := hD ⟨10, .data⟩ (by simp) rfl _ rfl; replace r16 : u16 = _ := r16; subst r16; clear hA hD; refine stepOk_plain rfl ?_; intro K hK; gi_wp2; exact hK _ _ rfl ((fun _ => Below.refl _ _) _)
  · intro a' w' hA hC hD; obtain ⟨u11, s11, r11⟩ := hD ⟨5, .data⟩ (by simp) rfl _ rfl; replace r11 : u11 = _ := r11; subst r11; clear hA hD; refine stepOk_plain rfl ?_; intro K hK; gi_wp2; exact hK _ _ rfl ((fun _ => Below.refl _ _) _)
  · intro a' w' hA hC hD; obtain ⟨u17, s17, r17⟩ := hD ⟨11, .data⟩ (by simp) rfl _ rfl; replace r17 : u17 = _ := r17; subst r17; clear hA hD; refine stepOk_plain rfl ?_; intro K hK; gi_wp2; exact hK _ _ rfl ((fun _ => Below.refl _ _) _)
 case hend =>
  intro w4 hC
  simp only [EndFrom, eqv, forall_eq, Act.put, List.length_cons, List.length_nil, List.drop_succ_cons, List.drop_zero, Nat.reduceAdd, List.setIfInBounds_toArray, List.set_cons_succ, List.set_cons_zero]
  have HS := Lib.hid (HS.out.below hC)
  clear hC
  gi_wp2
  go_wp2_with fail
  refine bodyPost_ret (v := .tuple #[.int .i64 (8 * (wide : Int)), .int .i64 (8 * (high : Int))]) (by simp [results, Try.results56, go_sem]) rfl ⟨rfl, HS.out.low⟩
end Go.Proofs.Ytodpkgbpcpfamaa

/- Layer 5: may, Check. -/
namespace Go.Proofs.Ytodpkgbpcpfamaa
set_option linter.unusedSimpArgs false
set_option linter.unusedVariables false
open Go.RowKit Go.Shelf
attribute [local go_sem] Oper.semAt_some

def mayB (wide high : Int) : Bool := decide ((1 ≤ wide ∧ wide ≤ 4) ∧ (1 ≤ high ∧ high ≤ 4))
theorem mayB_iff {wide high : Int} : mayB wide high = true ↔ ((1 ≤ wide ∧ wide ≤ 4) ∧ (1 ≤ high ∧ high ≤ 4)) := by unfold mayB; exact decide_eq_true_iff
set_option maxRecDepth 100000 in
set_option maxHeartbeats 1000000 in
theorem may_any (wide high : Int) (w : World) : Calls Try.prog 64 #[.agg #[.int .i64 wide, .int .i64 high]] w (Gives (.bool (mayB wide high)) w) := by
 have HS := Lib.hid (St.start w)
 unfold mayB
 by_cases h1 : 1 ≤ wide <;> by_cases h2 : wide ≤ 4 <;> by_cases h3 : 1 ≤ high <;> by_cases h4 : high ≤ 4 <;> first | (exfalso; omega) | (
  go_enter Try.func64, Try.ntmps64
  repeat ((fail_if_success (with_reducible refine stop_at (id := 1) ?_)); (first | go_values | go_skip | go_guarded | go_step | go_upon | go_back | (simp only [Int.not_lt, Int.not_le] at *; go_simp) | (go_values <;> (try go_simp)) | (go_ite <;> go_prune <;> (try go_simp)) | (split <;> (first | (rename_i hx; exact (hx _ rfl).elim) | go_prune))))
  have hs_ := (HS.out.alloc (.cells #[.int .i64 wide, .int .i64 high] 106))
  obtain ⟨w1, hw_⟩ : ∃ w1 : World, (w.alloc (.cells #[.int .i64 wide, .int .i64 high] 106)) = w1 := ⟨_, rfl⟩
  rw [hw_] at hs_
  try simp only [World.size_alloc] at hs_
  have HS := Lib.hid hs_
  rw [hw_]
  clear hw_ hs_
  have q0 := cell_of_block (k := 0) (HS.out.blockAt 0 rfl) rfl
  have q1 := cell_of_block (k := 1) (HS.out.blockAt 0 rfl) rfl
  go_wp2_with fail
  go_ret
  exact ⟨ret_bool (by symm; simp [h1, h2, h3, h4]), HS.out.low⟩)

def okE (wide high : Int) (n : Nat) : Bool := mayB wide high && decide ((n : Int) = wide * high)
set_option maxRecDepth 100000 in
set_option maxHeartbeats 1000000 in
theorem canCheck_any (wide high : Int) (a : Option Addr) (n cap : Nat) (w : World) : Calls Try.prog 53 #[.agg #[.int .i64 wide, .int .i64 high, .slice a n cap]] w (Gives (.int .i64 (errOf (okE wide high n) 150)) w) := by
 have HS := Lib.hid (St.start w)
 have HM := Lib.hid (may_any wide high)
 obtain ⟨mb, hmb⟩ : ∃ mb, mayB wide high = mb := ⟨_, rfl⟩
 unfold okE
 rw [hmb] at HM ⊢
 have HB := Lib.hid hmb
 clear hmb
 cases mb
 · rw [Bool.false_and, errOf_false]
   go_enter Try.func53, Try.ntmps53
   repeat ((fail_if_success (with_reducible refine stop_at (id := 1) ?_)); (first | go_values | go_skip | go_guarded | go_step | go_upon | go_back | (simp only [Int.not_lt, Int.not_le] at *; go_simp) | (go_values <;> (try go_simp)) | (go_ite <;> go_prune <;> (try go_simp)) | (split <;> (first | (rename_i hx; exact (hx _ rfl).elim) | go_prune))))
   have hs_ := (HS.out.alloc (.cells #[.int .i64 wide, .int .i64 high, .slice a n cap] 24))
   obtain ⟨w1, hw_⟩ : ∃ w1 : World, (w.alloc (.cells #[.int .i64 wide, .int .i64 high, .slice a n cap] 24)) = w1 := ⟨_, rfl⟩
   rw [hw_] at hs_
   try simp only [World.size_alloc] at hs_
   have HS := Lib.hid hs_
   rw [hw_]
   clear hw_ hs_
   have q0 := cell_of_block (k := 0) (HS.out.blockAt 0 rfl) rfl
   have q1 := cell_of_block (k := 1) (HS.out.blockAt 0 rfl) rfl
   repeat ((fail_if_success (with_reducible refine stop_at (id := 2) ?_)); (first | go_values | go_skip | go_guarded | go_step | go_upon | go_back | (simp only [Int.not_lt, Int.not_le] at *; go_simp) | (go_values <;> (try go_simp)) | (go_ite <;> go_prune <;> (try go_simp)) | (split <;> (first | (rename_i hx; exact (hx _ rfl).elim) | go_prune))))
   have hs_ := (HS.out.alloc (.cells #[.int .i64 wide, .int .i64 high] 106))
   obtain ⟨w2, hw_⟩ : ∃ w2 : World, (w1.alloc (.cells #[.int .i64 wide, .int .i64 high] 106)) = w2 := ⟨_, rfl⟩
   rw [hw_] at hs_
   try simp only [World.size_alloc] at hs_
   have HS := Lib.hid hs_
   rw [hw_]
   clear hw_ hs_
   have p0 := cell_of_block (k := 0) (HS.out.blockAt 0 rfl) rfl
   have p1 := cell_of_block (k := 1) (HS.out.blockAt 0 rfl) rfl
   clear q0 q1
   go_wp2_with fail
   refine (HM.out _).mono ?_
   rintro e w3 ⟨rfl, hb_⟩
   have HS := Lib.hid (HS.out.below hb_)
   clear hb_
   go_wp2_with fail
   go_ret
   exact ⟨rfl, HS.out.low⟩
 · have h4 := mayB_iff.1 HB.out
   have e1 : wrap64 (wide * high) = wide * high := by
    rcases (by omega : wide = 1 ∨ wide = 2 ∨ wide = 3 ∨ wide = 4) with rfl | rfl | rfl | rfl <;> (unfold wrap64; omega)
   obtain ⟨m, hm⟩ : ∃ m, wide * high = m := ⟨_, rfl⟩
   rw [hm] at e1 ⊢
   have HMM := Lib.hid hm
   obtain ⟨nb, hnb⟩ : ∃ nb, decide ((n : Int) = m) = nb := ⟨_, rfl⟩
   rw [hnb, Bool.true_and]
   have HNB := Lib.hid (show ((n : Int) != m) = !nb by rw [← hnb]; rfl)
   clear h4 hnb
   go_enter Try.func53, Try.ntmps53
   repeat ((fail_if_success (with_reducible refine stop_at (id := 1) ?_)); (first | go_values | go_skip | go_guarded | go_step | go_upon | go_back | (simp only [Int.not_lt, Int.not_le] at *; go_simp) | (go_values <;> (try go_simp)) | (go_ite <;> go_prune <;> (try go_simp)) | (split <;> (first | (rename_i hx; exact (hx _ rfl).elim) | go_prune))))
   have hs_ := (HS.out.alloc (.cells #[.int .i64 wide, .int .i64 high, .slice a n cap] 24))
   obtain ⟨w1, hw_⟩ : ∃ w1 : World, (w.alloc (.cells #[.int .i64 wide, .int .i64 high, .slice a n cap] 24)) = w1 := ⟨_, rfl⟩
   rw [hw_] at hs_
   try simp only [World.size_alloc] at hs_
   have HS := Lib.hid hs_
   rw [hw_]
   clear hw_ hs_
   have q0 := cell_of_block (k := 0) (HS.out.blockAt 0 rfl) rfl
   have q1 := cell_of_block (k := 1) (HS.out.blockAt 0 rfl) rfl
   repeat ((fail_if_success (with_reducible refine stop_at (id := 2) ?_)); (first | go_values | go_skip | go_guarded | go_step | go_upon | go_back | (simp only [Int.not_lt, Int.not_le] at *; go_simp) | (go_values <;> (try go_simp)) | (go_ite <;> go_prune <;> (try go_simp)) | (split <;> (first | (rename_i hx; exact (hx _ rfl).elim) | go_prune))))
   have hs_ := (HS.out.alloc (.cells #[.int .i64 wide, .int .i64 high] 106))
   obtain ⟨w2, hw_⟩ : ∃ w2 : World, (w1.alloc (.cells #[.int .i64 wide, .int .i64 high] 106)) = w2 := ⟨_, rfl⟩
   rw [hw_] at hs_
   try simp only [World.size_alloc] at hs_
   have HS := Lib.hid hs_
   rw [hw_]
   clear hw_ hs_
   have p0 := cell_of_block (k := 0) (HS.out.blockAt 0 rfl) rfl
   have p1 := cell_of_block (k := 1) (HS.out.blockAt 0 rfl) rfl
   clear q0 q1
   go_wp2_with fail
   clear p0 p1
   refine (HM.out _).mono ?_
   rintro e w3 ⟨rfl, hb_⟩
   have HS := Lib.hid (HS.out.below hb_)
   clear hb_
   have p0 := cell_of_block (k := 0) (HS.out.blockAt 0 rfl) rfl
   have p1 := cell_of_block (k := 1) (HS.out.blockAt 0 rfl) rfl
   have q2 := cell_of_block (k := 2) (HS.out.blockAt 1 rfl) rfl
   have hw := HMM.out
   have hx := HNB.out
   cases nb
   · go_wp2_with fail
     go_ret
     exact ⟨rfl, HS.out.low⟩
   · go_wp2_with fail
     go_ret
     exact ⟨rfl, HS.out.low⟩
end Go.Proofs.Ytodpkgbpcpfamaa
