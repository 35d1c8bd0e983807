/- Merged texts: DocFL DocFi. -/
import Derived.Test.YtodpkgbpcpfamaaM17
import Derived.Test.YtodpkgbpcpfamaaM19
import Derived.Test.YtodpkgbpcpfamaaM6
/- Layer 8: canvases filled by the document, plain. -/
namespace Go.Proofs.Ytodpkgbpcpfamaa
set_option linter.unusedSimpArgs false
set_option linter.unusedVariables false
open Go.RowKit Go.Shelf
/-- Canvases that show the same colours are the same. -/
theorem can_ext {C D : CanT} (hC : okCan C) (hD : okCan D) (hw : C.wide = D.wide) (hh : C.high = D.high) (h : ∀ x y, x < 8 * C.wide → y < 8 * C.high → colC C x y = colC D x y) : C = D := by
 obtain ⟨cw, ch, ct⟩ := C
 obtain ⟨dw, dh, dt⟩ := D
 simp only at hw hh
 subst hw hh
 have h1 := hC.wide
 have h2 := hC.high
 have m1 := hC.many
 have m2 := hD.many
 simp only at h1 h2 m1 m2 h
 congr 1
 refine List.ext_getElem? fun i => ?_
 by_cases hi : i < ct.length
 · have hi2 : i < dt.length := by omega
   rw [List.getElem?_eq_getElem hi, List.getElem?_eq_getElem hi2]
   congr 1
   refine Subtype.ext (List.ext_getElem? fun k => ?_)
   by_cases hk : k < 64
   · have hq : i / cw < ch := Nat.div_lt_of_lt_mul (by rw [← m1]; exact hi)
     have hr : i % cw < cw := Nat.mod_lt _ (by omega)
     have hx : i % cw * 8 + k % 8 < 8 * cw := by omega
     have hy : i / cw * 8 + k / 8 < 8 * ch := by omega
     have e := h _ _ hx hy
     unfold colC at e
     simp only at e
     have e1 : (i / cw * 8 + k / 8) / 8 = i / cw := by omega
     have e2 : (i % cw * 8 + k % 8) / 8 = i % cw := by omega
     have e3 : (i / cw * 8 + k / 8) % 8 * 8 + (i % cw * 8 + k % 8) % 8 = k := by omega
     have e4 : i / cw * cw + i % cw = i := by rw [Nat.mul_comm]; exact Nat.div_add_mod i cw
     rw [e1, e2, e3, e4, List.getElem?_eq_getElem hi, List.getElem?_eq_getElem hi2] at e
     have l1 : k < (ct[i]).1.length := by rw [(ct[i]).2]; exact hk
     have l2 : k < (dt[i]).1.length := by rw [(dt[i]).2]; exact hk
     simp only [Option.map_some, Option.bind_some] at e
     rw [List.getElem?_eq_getElem l1, List.getElem?_eq_getElem l2] at e ⊢
     simp only [Option.getD_some] at e
     rw [e]
   · rw [List.getElem?_eq_none (by rw [(ct[i]).2]; omega), List.getElem?_eq_none (by rw [(dt[i]).2]; omega)]
 · rw [List.getElem?_eq_none (by omega), List.getElem?_eq_none (by omega)]
/-- One tile filled: its first k places. -/
def fillLs (m : Nat → Nat) (cl : ColT) (wide i : Nat) (l : List ColT) (k : Nat) : List ColT :=
 (List.range l.length).map fun j => if j < k ∧ 0 < m ((i / wide * 8 + j / 8) * 32 + (i % wide * 8 + j % 8)) then cl else l.getD j zeroC
theorem fillLs_len (m : Nat → Nat) (cl : ColT) (wide i : Nat) (l : List ColT) (k : Nat) : (fillLs m cl wide i l k).length = l.length := by simp [fillLs]
theorem fillLs_get (m : Nat → Nat) (cl : ColT) (wide i : Nat) (l : List ColT) (k : Nat) {j : Nat} (hj : j < l.length) : (fillLs m cl wide i l k)[j]? = some (if j < k ∧ 0 < m ((i / wide * 8 + j / 8) * 32 + (i % wide * 8 + j % 8)) then cl else l[j]) := by
 unfold fillLs
 rw [List.getElem?_map, List.getElem?_range hj]
 simp [List.getD_eq_getElem?_getD, hj]
theorem fillLs_zero (m : Nat → Nat) (cl : ColT) (wide i : Nat) (l : List ColT) : fillLs m cl wide i l 0 = l := by
 refine List.ext_getElem? fun j => ?_
 by_cases hj : j < l.length
 · rw [fillLs_get _ _ _ _ _ _ hj, if_neg (by omega), List.getElem?_eq_getElem hj]
 · rw [List.getElem?_eq_none (by rw [fillLs_len]; omega), List.getElem?_eq_none (by omega)]
theorem fillLs_succ (m : Nat → Nat) (cl : ColT) (wide i : Nat) (l : List ColT) (k : Nat) : fillLs m cl wide i l (k + 1) = if 0 < m ((i / wide * 8 + k / 8) * 32 + (i % wide * 8 + k % 8)) then (fillLs m cl wide i l k).set k cl else fillLs m cl wide i l k := by
 refine List.ext_getElem? fun j => ?_
 by_cases hj : j < l.length
 · rw [fillLs_get _ _ _ _ _ _ hj]
   by_cases hm : 0 < m ((i / wide * 8 + k / 8) * 32 + (i % wide * 8 + k % 8))
   · rw [if_pos hm, List.getElem?_set, fillLs_len]
     by_cases hk : k = j
     · subst hk
       rw [if_pos ⟨Nat.lt_succ_self _, hm⟩, if_pos rfl, if_pos hj]
     · rw [if_neg hk, fillLs_get _ _ _ _ _ _ hj]
       by_cases h2 : j < k ∧ 0 < m ((i / wide * 8 + j / 8) * 32 + (i % wide * 8 + j % 8))
       · rw [if_pos h2, if_pos ⟨by omega, h2.2⟩]
       · rw [if_neg h2, if_neg (fun h3 => h2 ⟨by have := h3.1; omega, h3.2⟩)]
   · rw [if_neg hm, fillLs_get _ _ _ _ _ _ hj]
     by_cases h2 : j < k ∧ 0 < m ((i / wide * 8 + j / 8) * 32 + (i % wide * 8 + j % 8))
     · rw [if_pos h2, if_pos ⟨by omega, h2.2⟩]
     · rw [if_neg h2, if_neg]
       rintro ⟨h3, h4⟩
       rcases Nat.lt_succ_iff_lt_or_eq.1 h3 with h5 | h5
       · exact h2 ⟨h5, h4⟩
       · subst h5; exact hm h4
 · have h1 : (if 0 < m ((i / wide * 8 + k / 8) * 32 + (i % wide * 8 + k % 8)) then (fillLs m cl wide i l k).set k cl else fillLs m cl wide i l k).length = l.length := by
    split
    · rw [List.length_set, fillLs_len]
    · rw [fillLs_len]
   rw [List.getElem?_eq_none (by rw [fillLs_len]; omega), List.getElem?_eq_none (by rw [h1]; omega)]
def fillTs (m : Nat → Nat) (cl : ColT) (wide i : Nat) (t : TileT) (k : Nat) : TileT := ⟨fillLs m cl wide i t.1 k, by rw [fillLs_len]; exact t.2⟩
/-- The first n tiles, filled. -/
def fillTL (m : Nat → Nat) (cl : ColT) (wide : Nat) (ts : List TileT) : List TileT := ts.mapIdx fun i t => fillTs m cl wide i t 64
def filledC (C : CanT) (m : Nat → Nat) (cl : ColT) : CanT := ⟨C.wide, C.high, fillTL m cl C.wide C.tiles⟩
theorem filledC_col {C : CanT} (hC : okCan C) (m : Nat → Nat) (cl : ColT) {x y : Nat} (hx : x < 8 * C.wide) (hy : y < 8 * C.high) : colC (filledC C m cl) x y = if 0 < m (y * 32 + x) then cl else colC C x y := by
 obtain ⟨t, ht, hc, -⟩ := hC.tile hx hy
 unfold colC filledC fillTL
 simp only
 rw [List.getElem?_mapIdx, ht]
 have hk : y % 8 * 8 + x % 8 < t.1.length := by rw [t.2]; omega
 simp only [Option.map_some, Option.bind_some]
 unfold fillTs
 simp only
 rw [fillLs_get _ _ _ _ _ _ hk, List.getElem?_eq_getElem hk]
 simp only [Option.getD_some]
 have h1 := hC.wide
 have e1 : (y / 8 * C.wide + x / 8) / C.wide = y / 8 := by
  rw [Nat.add_comm, Nat.add_mul_div_right _ _ (by omega), Nat.div_eq_of_lt (by omega), Nat.zero_add]
 have e2 : (y / 8 * C.wide + x / 8) % C.wide = x / 8 := by
  rw [Nat.add_comm, Nat.add_mul_mod_self_right, Nat.mod_eq_of_lt (by omega)]
 rw [e1, e2]
 have e3 : (y / 8 * 8 + (y % 8 * 8 + x % 8) / 8) * 32 + (x / 8 * 8 + (y % 8 * 8 + x % 8) % 8) = y * 32 + x := by omega
 rw [e3]
 by_cases hm : 0 < m (y * 32 + x)
 · rw [if_pos ⟨by omega, hm⟩, if_pos hm]
 · rw [if_neg (fun h => hm h.2), if_neg hm]
theorem filledC_ok {C : CanT} (hC : okCan C) (m : Nat → Nat) {cl : ColT} (hc : okC cl) : okCan (filledC C m cl) := by
 refine ⟨hC.wide, hC.high, ?_, ?_⟩
 · unfold filledC fillTL
   simp only
   rw [List.length_mapIdx]
   exact hC.many
 · intro t ht c hct
   unfold filledC fillTL at ht
   simp only at ht
   obtain ⟨i, hi, rfl⟩ := List.mem_mapIdx.1 ht
   unfold fillTs at hct
   simp only at hct
   obtain ⟨j, hj⟩ := List.mem_iff_getElem?.1 hct
   have hl : j < (C.tiles[i]).1.length := by
    have h := (List.getElem?_eq_some_iff.1 hj).1
    rw [fillLs_len] at h
    exact h
   rw [fillLs_get _ _ _ _ _ _ hl] at hj
   have e := Option.some.inj hj
   split at e
   · rw [← e]; exact hc
   · rw [← e]
     exact hC.cols _ (List.getElem_mem _) _ (List.getElem_mem _)
/-- Filled by the document, it is as by the program. -/
theorem filled_plain {C : CanT} (hC : okCan C) {p : PtT} {t : Int} {cl : ColT} (hc : okC cl) : filledC C (metC C p t) cl = fillC C p t cl := by
 refine can_ext (filledC_ok hC _ hc) (fillC_ok hC hc) (show C.wide = _ from fillC_wide.symm) (show C.high = _ from fillC_high.symm) fun x y hx hy => ?_
 have hx : x < 8 * C.wide := hx
 have hy : y < 8 * C.high := hy
 rw [filledC_col hC _ _ hx hy]
 have h1 : (x : Int) < 8 * C.wide := by omega
 have h2 : (y : Int) < 8 * C.high := by omega
 have hon : onC C ⟨(x : Int), (y : Int)⟩ = true := onB_iff.2 ⟨⟨by simp only; omega, h1⟩, by simp only; omega, h2⟩
 have h := fillC_col (p := p) (t := t) hC hc hon
 have e : ixP ⟨(x : Int), (y : Int)⟩ = y * 32 + x := by unfold ixP; simp only; omega
 have e2 : ∀ D : CanT, colP D ⟨(x : Int), (y : Int)⟩ = colC D x y := fun _ => rfl
 rw [e2, e2] at h
 rw [h]
 unfold InReg
 rw [e]
 by_cases hm : 0 < metC C p t (y * 32 + x)
 · rw [if_pos hm, if_pos ⟨hon, hm⟩]
 · rw [if_neg hm, if_neg (fun h => hm h.2)]
end Go.Proofs.Ytodpkgbpcpfamaa

/- Layer 8: the document's Filled. -/
namespace Go.Proofs.Ytodpkgbpcpfamaa
set_option linter.unusedSimpArgs false
set_option linter.unusedVariables false
open Go.RowKit Go.Shelf
attribute [local go_sem] Oper.semAt_some
/-- A row of tiles that grows, held by a canvas in memory. -/
structure FilS (w0 : World) (its : List It) (N B wi hi : Nat) (v : Value) (L : List TileT) (x : World) : Prop where
 o : StO w0 its N 74 256 encT v L x
 at_ : x.heap[B]? = some (.cells #[.int .i64 wi, .int .i64 hi, v] 24 (0, 0))
 lo : ∀ i ∈ its, i.top ≤ B
 hb : w0.heap.size ≤ B ∧ B < N
section
variable {w0 x y z : World} {its : List It} {N B wi hi : Nat} {v v' : Value} {L : List TileT}
theorem FilS.below (h : FilS w0 its N B wi hi v L x) (hb : Below x.heap.size x y) : FilS w0 its N B wi hi v L y :=
 ⟨h.o.below hb, (hb.block B (block_lt h.at_)).trans h.at_, h.lo, h.hb⟩
theorem StO.otherT {α : Type} {e : TypeId} {k : Nat} {enc : α → List Value} {base : Nat} {M : List α} (h : StO w0 its base e k enc v M x) {T : Nat} (hT : w0.heap.size ≤ T) (ht : ∀ i ∈ its, i.top ≤ T) (hn : v.ownBlock ≠ some T) (hg : x.grownBy y (some T)) : StO w0 its base e k enc v M y :=
 ⟨h.st.grown (base := T) (row := some T) (fun j e => by cases e; exact Nat.le_refl _) hT ht hg, h.row.kept hg (.inr hn), h.low, h.top, Nat.le_trans h.hi hg.size⟩
theorem FilS.other (h : FilS w0 its N B wi hi v L x) {T : Nat} (hT : B < T) (hn : v.ownBlock ≠ some T) (hg : x.grownBy y (some T)) : FilS w0 its N B wi hi v L y :=
 ⟨h.o.otherT (Nat.le_trans h.hb.1 (Nat.le_of_lt hT)) (fun i hi => Nat.le_trans (h.lo i hi) (Nat.le_of_lt hT)) hn hg, (hg.block B (block_lt h.at_) (fun e => by cases e; omega)).trans h.at_, h.lo, h.hb⟩
theorem FilS.nb (h : FilS w0 its N B wi hi v L x) : v.ownBlock ≠ some B := fun e => by
 have := (h.o.row.lt B e).1
 have := h.hb.2
 omega
theorem FilS.push {q : TileT} (h : FilS w0 its N B wi hi v L x) (hy : Below x.heap.size x y) (ho : StO w0 its N 74 256 encT v' (L ++ [q]) z) (hg : y.grownBy z v.ownBlock) : FilS w0 its N B wi hi v' (L ++ [q]) (z.setCell ⟨B, 2, none⟩ v') := by
 have h2 := h.below hy
 have hz := (hg.block B (block_lt h2.at_) (fun e => h.nb e.symm)).trans h2.at_
 refine ⟨ho.otherT h.hb.1 h.lo (fun e => ?_) (grownBy_setCellAt z B 2 v'), heap_set_same hz v', h.lo, h.hb⟩
 have := (ho.row.lt B e).1
 have := h.hb.2
 omega
end
theorem fillTL_get (m : Nat → Nat) (cl : ColT) (wide : Nat) {ts : List TileT} {i : Nat} {t : TileT} (h : ts[i]? = some t) : (fillTL m cl wide ts).take (i + 1) = (fillTL m cl wide ts).take i ++ [fillTs m cl wide i t 64] := by
 rw [List.take_add_one]
 unfold fillTL
 rw [List.getElem?_mapIdx, h]
 rfl
theorem fillTs_succ (m : Nat → Nat) (cl : ColT) (wide i : Nat) (t : TileT) (k : Nat) : fillTs m cl wide i t (k + 1) = if 0 < m ((i / wide * 8 + k / 8) * 32 + (i % wide * 8 + k % 8)) then setT (fillTs m cl wide i t k) k cl else fillTs m cl wide i t k := by
 refine Subtype.ext ?_
 unfold fillTs
 simp only
 rw [fillLs_succ]
 split
 · rfl
 · rfl
theorem fillTs_zero (m : Nat → Nat) (cl : ColT) (wide i : Nat) (t : TileT) : fillTs m cl wide i t 0 = t := Subtype.ext (fillLs_zero _ _ _ _ _)

set_option maxRecDepth 100000 in
set_option maxHeartbeats 4000000 in
theorem refFilled_any (C : CanT) (hC : okCan C) (v : Value) (m : Nat → Nat) (cl : ColT) (hcl : okC cl) (w : World) (hv : CanV w C v) :
 Calls Try.prog 21 #[v, .agg (fldA m), cl.val] w (GivesV (filledC C m cl) w) := by
 obtain ⟨a, cap, rfl, -, he⟩ := id hv
 have HE := Lib.hid he
 have HOC := Lib.hid hC
 obtain ⟨wi, hwi⟩ : ∃ wi, C.wide = wi := ⟨_, rfl⟩
 obtain ⟨hi, hhi⟩ : ∃ hi, C.high = hi := ⟨_, rfl⟩
 obtain ⟨n, hn⟩ : ∃ n, C.tiles.length = n := ⟨_, rfl⟩
 have hlen := hC.len
 have hmany := hC.many
 have hw := hC.wide
 have hh := hC.high
 rw [hwi] at hw
 rw [hhi] at hh
 rw [hn, hwi, hhi] at hmany
 rw [hn] at hlen HE
 have HN := Lib.hid hn
 have HWI := Lib.hid (And.intro hwi hhi)
 have HB := Lib.hid (And.intro hw (And.intro hh (And.intro hlen hmany)))
 rw [hwi, hhi, hn]
 obtain ⟨cc, hcc⟩ : ∃ cc, cc = cl := ⟨_, rfl⟩
 have HCC := Lib.hid hcc
 have HS := Lib.hid (St.start w)
 obtain ⟨r, g, b, al⟩ := cl
 unfold ColT.val
 simp only
 rw [← hcc]
 clear hC hv he hn hwi hhi hlen hmany hw hh hcl hcc
 go_enter Try.func21, Try.ntmps21
 repeat ((fail_if_success (with_reducible refine stop_at (id := 1) ?_)); (first | go_values | go_skip | go_guarded | go_step | go_upon | go_back | (simp only [Int.not_lt, Int.not_le] at *; go_simp) | (go_values <;> (try go_simp)) | (go_ite <;> go_prune <;> (try go_simp)) | (split <;> (first | (rename_i hx; exact (hx _ rfl).elim) | go_prune))))
 have hs_ := ((((HS.out.alloc (.cells #[.int .i64 wi, .int .i64 hi, .slice a n cap] 24)).alloc (.cells (fldA m) 50)).alloc (.cells #[.int .u8 r, .int .u8 g, .int .u8 b, .int .u8 al] 55)).alloc (.cells #[.int .i64 0, .int .i64 0, .slice none 0 0] 24))
 obtain ⟨w1, hw_⟩ : ∃ w1 : World, ((((w.alloc (.cells #[.int .i64 wi, .int .i64 hi, .slice a n cap] 24)).alloc (.cells (fldA m) 50)).alloc (.cells #[.int .u8 r, .int .u8 g, .int .u8 b, .int .u8 al] 55)).alloc (.cells #[.int .i64 0, .int .i64 0, .slice none 0 0] 24)) = w1 := ⟨_, rfl⟩
 rw [hw_] at hs_
 try simp only [World.size_alloc] at hs_
 have HS := Lib.hid hs_
 rw [hw_]
 clear hw_ hs_
 have v0 := cell_of_block (k := 0) (HS.out.blockAt 3 rfl) rfl
 have v1 := cell_of_block (k := 1) (HS.out.blockAt 3 rfl) rfl
 repeat ((fail_if_success (with_reducible refine stop_at (id := 2) ?_)); (first | go_values | go_skip | go_guarded | go_step | go_upon | go_back | (simp only [Int.not_lt, Int.not_le] at *; go_simp) | (go_values <;> (try go_simp)) | (go_ite <;> go_prune <;> (try go_simp)) | (split <;> (first | (rename_i hx; exact (hx _ rfl).elim) | go_prune))))
 clear v0 v1
 obtain ⟨B, hB⟩ : ∃ B, w1.heap.size = B := ⟨_, rfl⟩
 have hs_ := (HS.out.alloc (.cells #[.int .i64 wi, .int .i64 hi, .slice none 0 0] 24))
 obtain ⟨w2, hw_⟩ : ∃ w2 : World, (w1.alloc (.cells #[.int .i64 wi, .int .i64 hi, .slice none 0 0] 24)) = w2 := ⟨_, rfl⟩
 rw [hw_] at hs_
 try simp only [World.size_alloc] at hs_
 have HS := Lib.hid hs_
 rw [hw_]
 clear hw_ hs_
 obtain ⟨N, hN⟩ : ∃ N, w2.heap.size = N := ⟨_, rfl⟩
 have HF := Lib.hid (show FilS w [.blk (w.heap.size + 1 + 1 + 1) (.cells #[.int .i64 0, .int .i64 0, .slice none 0 0] 24 (0, 0)), .blk (w.heap.size + 1 + 1) (.cells #[.int .u8 r, .int .u8 g, .int .u8 b, .int .u8 al] 55 (0, 0)), .blk (w.heap.size + 1) (.cells (fldA m) 50 (0, 0)), .blk w.heap.size (.cells #[.int .i64 wi, .int .i64 hi, .slice a n cap] 24 (0, 0))] N B wi hi (.slice none 0 0) [] w2 from by
  have h1 := HS.out.blockAt 0 rfl
  have h2 := HS.out.ord
  rw [hB] at h1 h2
  have h3 := StO.start HS.out.drop1 74 256 encT
  rw [hN] at h3
  refine ⟨h3, h1, ?_, ?_, ?_⟩
  · exact h2.2.1
  · simp [ItOrd, It.top] at h2; omega
  · rw [← hN]; exact block_lt h1)
 simp only [hB]
 clear hB hN HS
 have v2 := cell_of_block (k := 2) (HF.out.o.st.blockAt 3 rfl) rfl
 go_wp2_with fail
 clear v2
 go_loopw [19] (fun i wr => ∃ (j : Nat) (u : Value), j ≤ n ∧ i = .int .i64 (j : Int) ∧ FilS w [.blk (w.heap.size + 1 + 1 + 1) (.cells #[.int .i64 0, .int .i64 0, .slice none 0 0] 24 (0, 0)), .blk (w.heap.size + 1 + 1) (.cells #[.int .u8 r, .int .u8 g, .int .u8 b, .int .u8 al] 55 (0, 0)), .blk (w.heap.size + 1) (.cells (fldA m) 50 (0, 0)), .blk w.heap.size (.cells #[.int .i64 wi, .int .i64 hi, .slice a n cap] 24 (0, 0))] N B wi hi u ((fillTL m cc wi C.tiles).take j) wr) (fun i _ => n - (intOf i).toNat)
 case atStart => exact ⟨0, _, by omega, rfl, by rw [List.take_zero]; exact HF.out⟩
 case round =>
  obtain ⟨j, u, hj, rfl, hf⟩ := hrel
  clear HF
  have HF := Lib.hid hf
  clear hf
  by_cases hlt : j < n
  · obtain ⟨t, ht⟩ : ∃ t, C.tiles[j]? = some t := ⟨_, List.getElem?_eq_getElem (by rw [HN.out]; exact hlt)⟩
    obtain ⟨bb, off, rfl⟩ : ∃ bb off, a = some ⟨bb, off, none⟩ := by
     rcases HE.out with ⟨e, h⟩ | ⟨b, off, cap', e, -, -⟩
     · omega
     · cases e; exact ⟨b, off, rfl⟩
    have HR := Lib.hid (elem_range encT_len (HE.out.below HF.out.o.st.low) ht HN.out)
    have HTK := Lib.hid (fillTL_get m cc wi ht)
    have HSZ := Lib.hid (size_T t)
    have HZ := Lib.hid (encT_all t)
    have HSS := Lib.hid (St.start wr)
    have HJ := Lib.hid hlt
    have HE1 := Lib.hid (wrap_succ (n := j) (by have := HB.out; omega))
    obtain ⟨qj, hqj⟩ : ∃ qj, j / wi = qj := ⟨_, rfl⟩
    obtain ⟨rj, hrj⟩ : ∃ rj, j % wi = rj := ⟨_, rfl⟩
    have hqn : qj < hi := by
     rw [← hqj]
     have h1 := HB.out
     exact Nat.div_lt_of_lt_mul (by rw [← h1.2.2.2]; exact hlt)
    have hrn : rj < wi := by rw [← hrj]; exact Nat.mod_lt _ (by have := HB.out; omega)
    have HQ := Lib.hid (And.intro hqn (And.intro hrn (And.intro hqj hrj)))
    have eq : (j : Int) / (wi : Int) = (qj : Int) := by rw [← hqj]; rfl
    have er : (j : Int) % (wi : Int) = (rj : Int) := by rw [← hrj]; rfl
    have HEQ := Lib.hid (And.intro eq er)
    clear ht hj hqj hrj hqn hrn eq er
    repeat ((fail_if_success (with_reducible refine stop_at (id := 4) ?_)); (first | go_values | go_skip | go_guarded | go_step | go_upon | go_back | (simp only [Int.not_lt, Int.not_le] at *; go_simp) | (go_values <;> (try go_simp)) | (go_ite <;> go_prune <;> (try go_simp)) | (split <;> (first | (rename_i hx; exact (hx _ rfl).elim) | go_prune))))
    clear hlt
    refine (wpIn_wide (n := 0)).1 ?_
    gi_wp2_with fail
    refine opIn_load_mid 74 _ rfl bb (off + j * 256) rfl (encT t) _ HR.out Try.underlying74 rfl (HSZ.out.trans (by rw [List.size_toArray])) ?_
    simp only [Act.put, List.setIfInBounds_toArray, List.set_cons_succ, List.set_cons_zero]
    gi_step
    gi_step
    gi_step
    gi_step
    gi_step
    gi_step
    gi_step
    refine opIn_store 74 _ _ rfl wr.heap.size 74 Try.zeroCells74 (encT t).toArray rfl rfl (World.alloc_heap_new _ _) HSZ.out (Eq.trans (b := 256) (by kernel_rfl) (by rw [List.size_toArray, encT_len])) HZ.out ?_
    simp only [Act.put, List.setIfInBounds_toArray, List.set_cons_succ, List.set_cons_zero]
    have hs5 := HSS.out.allocRow Try.zeroCells74 (encT t).toArray 74
    obtain ⟨w5, hw5⟩ : ∃ w5, (wr.alloc (.cells Try.zeroCells74 74)).setRow wr.heap.size (encT t).toArray = w5 := ⟨_, rfl⟩
    rw [hw5] at hs5
    rw [hw5]
    obtain ⟨T, hT⟩ : ∃ T, wr.heap.size = T := ⟨_, rfl⟩
    have HF5 := Lib.hid (HF.out.below hs5.low)
    have HTB := Lib.hid (show B < T from by rw [← hT]; exact block_lt HF.out.at_)
    have HTN := Lib.hid (show u.ownBlock ≠ some T from fun e => by have := (HF.out.o.row.lt T e).2; omega)
    have hs6 := hs5.blockAt 0 rfl
    rw [hT] at hs6
    have HT := Lib.hid (show w5.heap[T]? = some (.cells (encT (fillTs m cc wi j t 0)).toArray 74 (0, 0)) by rw [fillTs_zero]; exact hs6)
    simp only [hT]
    clear hs5 hs6 hw5 hT HF HSS
    gi_wp2_with fail
    go_wp2_with fail
    go_loopw [24] (fun i wx => ∃ k : Nat, k ≤ 64 ∧ i = .int .i64 (k : Int) ∧ wx.heap[T]? = some (.cells (encT (fillTs m cc wi j t k)).toArray 74 (0, 0)) ∧ w5.grownBy wx (some T)) (fun i _ => 64 - (intOf i).toNat)
    case atStart => exact ⟨0, by omega, rfl, HT.out, World.grownBy.refl _ _⟩
    case round =>
     obtain ⟨k, hk, rfl, ht, hg⟩ := hrel
     have HF := Lib.hid (HF5.out.other HTB.out HTN.out hg)
     have HG := Lib.hid hg
     clear HT
     have HT := Lib.hid ht
     clear ht hg
     by_cases hlt : k < 64
     · have HK := Lib.hid hlt
       have HE2 := Lib.hid (wrap_succ (n := k) (by omega))
       obtain ⟨q8, hq8⟩ : ∃ q8, qj * 8 = q8 := ⟨_, rfl⟩
       obtain ⟨r8, hr8⟩ : ∃ r8, rj * 8 = r8 := ⟨_, rfl⟩
       obtain ⟨R, hR⟩ : ∃ R, q8 + k / 8 = R := ⟨_, rfl⟩
       obtain ⟨S, hS⟩ : ∃ S, r8 + k % 8 = S := ⟨_, rfl⟩
       have EW := Lib.hid (show wrap64 ((j : Int) / (wi : Int)) = (qj : Int) ∧ wrap64 ((qj : Int) * 8) = (q8 : Int) ∧ wrap64 ((q8 : Int) + (k : Int) / 8) = (R : Int) ∧ wrap64 ((rj : Int) * 8) = (r8 : Int) ∧ wrap64 ((r8 : Int) + (k : Int) % 8) = (S : Int) ∧ R < 32 ∧ S < 32 by
        rw [HEQ.out.1]
        have h1 := HQ.out.1
        have h2 := HQ.out.2.1
        have h3 := HB.out.1
        have h4 := HB.out.2.1
        unfold wrap64
        omega)
       have HM := Lib.hid (show fillTs m cc wi j t (k + 1) = if 0 < m (R * 32 + S) then setT (fillTs m cc wi j t k) k cc else fillTs m cc wi j t k by
        rw [fillTs_succ, HQ.out.2.2.1, HQ.out.2.2.2, hq8, hr8, hR, hS])
       obtain ⟨mv, hmv⟩ : ∃ mv, m (R * 32 + S) = mv := ⟨_, rfl⟩
       have HMV := Lib.hid hmv
       rw [hmv] at HM
       clear hq8 hr8 hR hS hmv
       clear hk
       repeat ((fail_if_success (with_reducible refine stop_at (id := 8) ?_)); (first | go_values | go_skip | go_guarded | go_step | go_upon | go_back | (simp only [Int.not_lt, Int.not_le] at *; go_simp) | (go_values <;> (try go_simp)) | (go_ite <;> go_prune <;> (try go_simp)) | (split <;> (first | (rename_i hx; exact (hx _ rfl).elim) | go_prune))))
       clear hlt
       refine (wpIn_wide (n := 0)).1 ?_
       apply wp_region_vals 20 (Rl := [(eqv _), (eqv _), (eqv _), (eqv _), (eqv _), (eqv _), (eqv _), (eqv _), (eqv _), (eqv _), (eqv _), (eqv _), (eqv _), (eqv _), (eqv _), (eqv _), (eqv _), (eqv _), (eqv _), (eqv _)]) (C := (fun x y => Below x.heap.size x y))
       case hm => kernel_rfl
       case hk => rfl
       case hCr => exact (fun _ => Below.refl _ _)
       case hCt => intro _ _ _; exact (fun h k => grows_trans h k)
       case hst => exact ⟨fun _ _ _ _ h => h, fun _ _ _ _ h => h, fun _ _ _ _ h => h, fun _ _ _ _ h => h, fun _ _ _ _ h => h, fun _ _ _ _ h => h, fun _ _ _ _ h => h, fun _ _ _ _ h => h, fun _ _ _ _ h => h, fun _ _ _ _ h => h, fun _ _ _ _ h => h, fun _ _ _ _ h => h, fun _ _ _ _ h => h, fun _ _ _ _ h => h, fun _ _ _ _ h => h, fun _ _ _ _ h => h, fun _ _ _ _ h => h, fun _ _ _ _ h => h, fun _ _ _ _ h => h, fun _ _ _ _ h => h, trivial⟩
       case hfo => kernel_rfl
       case ht => kernel_rfl
       case hC0 => exact (grows_drew _)
       case hsteps =>
        refine ⟨?_, ?_, ?_, ?_, ?_, ?_, ?_, ?_, ?_, ?_, ?_, ?_, ?_, ?_, ?_, ?_, ?_, ?_, ?_, ?_, trivial⟩
        · intro a' w' hA hC hD; have s8 : a'.tmps[8]? = some _ := (hA.at 8 (by kernel_rfl)).trans rfl; clear hA hD; refine stepOk_plain rfl ?_; intro K hK; gi_wp2; exact hK _ _ rfl ((fun _ => Below.refl _ _) _)
        · intro a' w' hA hC hD; have s3 : a'.tmps[3]? = some _ := (hA.at 3 (by kernel_rfl)).trans rfl; clear hA hD; refine stepOk_plain rfl ?_; intro K hK; gi_wp2; exact hK _ _ rfl ((fun _ => Below.refl _ _) _)
        · intro a' w' hA hC hD; obtain ⟨u28, s28, r28⟩ := hD ⟨1, .data⟩ (by simp) rfl _ rfl; replace r28 : u28 = _ := r28; subst r28
          have c1 := cell_of_block (k := 0) ((HF.out.o.st.below hC).blockAt 3 rfl) rfl
          clear hA hD; refine stepOk_plain rfl ?_; intro K hK; gi_wp2; exact hK _ _ rfl ((fun _ => Below.refl _ _) _)
        · intro a' w' hA hC hD; obtain ⟨u27, s27, r27⟩ := hD ⟨0, .data⟩ (by simp) rfl _ rfl; replace r27 : u27 = _ := r27; subst r27; obtain ⟨u29, s29, r29⟩ := hD ⟨2, .data⟩ (by simp) rfl _ rfl; replace r29 : u29 = _ := r29; subst r29
          have hw0 : ¬ ((wi : Int) = 0) := by (have := HB.out; omega)
          clear hA hD; refine stepOk_plain rfl ?_; intro K hK; gi_wp2; rw [EW.out.1]; exact hK _ _ rfl ((fun _ => Below.refl _ _) _)
        · intro a' w' hA hC hD; obtain ⟨u30, s30, r30⟩ := hD ⟨3, .data⟩ (by simp) rfl _ rfl; replace r30 : u30 = _ := r30; subst r30; clear hA hD; refine stepOk_plain rfl ?_; intro K hK; gi_wp2; rw [EW.out.2.1]; exact hK _ _ rfl ((fun _ => Below.refl _ _) _)
        · intro a' w' hA hC hD; have s10 : a'.tmps[10]? = some _ := (hA.at 10 (by kernel_rfl)).trans rfl; clear hA hD; refine stepOk_plain rfl ?_; intro K hK; gi_wp2; exact hK _ _ rfl ((fun _ => Below.refl _ _) _)
        · intro a' w' hA hC hD; obtain ⟨u32, s32, r32⟩ := hD ⟨5, .data⟩ (by simp) rfl _ rfl; replace r32 : u32 = _ := r32; subst r32; clear hA hD; refine stepOk_plain rfl ?_; intro K hK; gi_wp2; exact hK _ _ rfl ((fun _ => Below.refl _ _) _)
        · intro a' w' hA hC hD; obtain ⟨u31, s31, r31⟩ := hD ⟨4, .data⟩ (by simp) rfl _ rfl; replace r31 : u31 = _ := r31; subst r31; obtain ⟨u33, s33, r33⟩ := hD ⟨6, .data⟩ (by simp) rfl _ rfl; replace r33 : u33 = _ := r33; subst r33; clear hA hD; refine stepOk_plain rfl ?_; intro K hK; gi_wp2; rw [EW.out.2.2.1]; exact hK _ _ rfl ((fun _ => Below.refl _ _) _)
        · intro a' w' hA hC hD; have s8 : a'.tmps[8]? = some _ := (hA.at 8 (by kernel_rfl)).trans rfl; clear hA hD; refine stepOk_plain rfl ?_; intro K hK; gi_wp2; exact hK _ _ rfl ((fun _ => Below.refl _ _) _)
        · intro a' w' hA hC hD; have s3 : a'.tmps[3]? = some _ := (hA.at 3 (by kernel_rfl)).trans rfl; clear hA hD; refine stepOk_plain rfl ?_; intro K hK; gi_wp2; exact hK _ _ rfl ((fun _ => Below.refl _ _) _)
        · intro a' w' hA hC hD; obtain ⟨u36, s36, r36⟩ := hD ⟨9, .data⟩ (by simp) rfl _ rfl; replace r36 : u36 = _ := r36; subst r36
          have c1 := cell_of_block (k := 0) ((HF.out.o.st.below hC).blockAt 3 rfl) rfl
          clear hA hD; refine stepOk_plain rfl ?_; intro K hK; gi_wp2; exact hK _ _ rfl ((fun _ => Below.refl _ _) _)
        · intro a' w' hA hC hD; obtain ⟨u35, s35, r35⟩ := hD ⟨8, .data⟩ (by simp) rfl _ rfl; replace r35 : u35 = _ := r35; subst r35; obtain ⟨u37, s37, r37⟩ := hD ⟨10, .data⟩ (by simp) rfl _ rfl; replace r37 : u37 = _ := r37; subst r37
          have hw0 : ¬ ((wi : Int) = 0) := by (have := HB.out; omega)
          clear hA hD; refine stepOk_plain rfl ?_; intro K hK; gi_wp2; rw [HEQ.out.2]; exact hK _ _ rfl ((fun _ => Below.refl _ _) _)
        · intro a' w' hA hC hD; obtain ⟨u38, s38, r38⟩ := hD ⟨11, .data⟩ (by simp) rfl _ rfl; replace r38 : u38 = _ := r38; subst r38; clear hA hD; refine stepOk_plain rfl ?_; intro K hK; gi_wp2; rw [EW.out.2.2.2.1]; exact hK _ _ rfl ((fun _ => Below.refl _ _) _)
        · intro a' w' hA hC hD; have s10 : a'.tmps[10]? = some _ := (hA.at 10 (by kernel_rfl)).trans rfl; clear hA hD; refine stepOk_plain rfl ?_; intro K hK; gi_wp2; exact hK _ _ rfl ((fun _ => Below.refl _ _) _)
        · intro a' w' hA hC hD; obtain ⟨u40, s40, r40⟩ := hD ⟨13, .data⟩ (by simp) rfl _ rfl; replace r40 : u40 = _ := r40; subst r40; clear hA hD; refine stepOk_plain rfl ?_; intro K hK; gi_wp2; exact hK _ _ rfl ((fun _ => Below.refl _ _) _)
        · intro a' w' hA hC hD; obtain ⟨u39, s39, r39⟩ := hD ⟨12, .data⟩ (by simp) rfl _ rfl; replace r39 : u39 = _ := r39; subst r39; obtain ⟨u41, s41, r41⟩ := hD ⟨14, .data⟩ (by simp) rfl _ rfl; replace r41 : u41 = _ := r41; subst r41; clear hA hD; refine stepOk_plain rfl ?_; intro K hK; gi_wp2; rw [EW.out.2.2.2.2.1]; exact hK _ _ rfl ((fun _ => Below.refl _ _) _)
        · intro a' w' hA hC hD; have s4 : a'.tmps[4]? = some _ := (hA.at 4 (by kernel_rfl)).trans rfl; obtain ⟨u34, s34, r34⟩ := hD ⟨7, .data⟩ (by simp) rfl _ rfl; replace r34 : u34 = _ := r34; subst r34
          have hR := EW.out.2.2.2.2.2.1
          clear hA hD; refine stepOk_plain rfl ?_; intro K hK; gi_wp2; exact hK _ _ rfl ((fun _ => Below.refl _ _) _)
        · intro a' w' hA hC hD; obtain ⟨u43, s43, r43⟩ := hD ⟨16, .data⟩ (by simp) rfl _ rfl; replace r43 : u43 = _ := r43; subst r43; obtain ⟨u42, s42, r42⟩ := hD ⟨15, .data⟩ (by simp) rfl _ rfl; replace r42 : u42 = _ := r42; subst r42
          have hR := EW.out.2.2.2.2.2.2
          clear hA hD; refine stepOk_plain rfl ?_; intro K hK; gi_wp2; exact hK _ _ rfl ((fun _ => Below.refl _ _) _)
        · intro a' w' hA hC hD; obtain ⟨u44, s44, r44⟩ := hD ⟨17, .data⟩ (by simp) rfl _ rfl; replace r44 : u44 = _ := r44; subst r44
          have c1 := cell_of_block ((HF.out.o.st.below hC).blockAt 2 rfl) (fldA_get m (show R * 32 + S < 1024 by have := EW.out; omega)); rw [HMV.out] at c1
          clear hA hD; refine stepOk_plain rfl ?_; intro K hK; gi_wp2; exact hK _ _ rfl ((fun _ => Below.refl _ _) _)
        · intro a' w' hA hC hD; obtain ⟨u45, s45, r45⟩ := hD ⟨18, .data⟩ (by simp) rfl _ rfl; replace r45 : u45 = _ := r45; subst r45; clear hA hD; refine stepOk_plain rfl ?_; intro K hK; gi_wp2; exact hK _ _ rfl ((fun _ => Below.refl _ _) _)
       case hend =>
        intro w6 hC
        simp only [EndFrom, eqv, forall_eq, Act.put, List.length_cons, List.length_nil, List.drop_succ_cons, List.drop_zero, Nat.reduceAdd, List.setIfInBounds_toArray, List.set_cons_succ, List.set_cons_zero]
        have HF := Lib.hid (HF.out.below hC)
        have ht6 := (hC.block T (block_lt HT.out)).trans HT.out
        have hg6 := grownTrans HG.out (show wr.grownBy w6 (some T) from ⟨hC.os, hC.tape, hC.output, hC.size, fun k hk _ => hC.block k hk⟩)
        have HT := Lib.hid ht6
        have HG := Lib.hid hg6
        clear hC ht6 hg6
        gi_wp2
        by_cases hmp : 0 < mv
        · have hp : (0 : Int) < (mv : Int) := by omega
          have hm := HM.out
          rw [if_pos hmp] at hm
          have HM := Lib.hid hm
          obtain ⟨q, hq⟩ : ∃ q, fillTs m cc wi j t k = q := ⟨_, rfl⟩
          rw [hq] at HT HM
          obtain ⟨d, hd⟩ : ∃ d, q.1[k]? = some d := ⟨_, List.getElem?_eq_getElem (by rw [q.2]; exact HK.out)⟩
          have cl : ∀ r v, (encC d)[r]? = some v → w6.cell? ⟨T, k * 4 + r, none⟩ = some v := fun r v hv => cell_of_block HT.out (by
           rw [List.getElem?_toArray, encT_get q k r (List.getElem?_eq_some_iff.1 hv).1, hd]; exact hv)
          have c0 := cl 0 _ rfl
          rw [Nat.add_zero] at c0
          have c1 := cl 1 _ rfl
          have c2 := cl 2 _ rfl
          have c3 := cl 3 _ rfl
          have f0 := free_of_block HT.out
          have d0 := cell_of_block (k := 0) (HF.out.o.st.blockAt 1 rfl) rfl
          have d1 := cell_of_block (k := 1) (HF.out.o.st.blockAt 1 rfl) rfl
          have d2 := cell_of_block (k := 2) (HF.out.o.st.blockAt 1 rfl) rfl
          have d3 := cell_of_block (k := 3) (HF.out.o.st.blockAt 1 rfl) rfl
          have hend := heap_setT HT.out k HK.out cc
          rw [HCC.out] at hend
          have HEND := Lib.hid hend
          have hk64 := HK.out
          clear cl hd hend hm hmp hq
          go_wp2_with fail
          clear c0 c1 c2 c3 d0 d1 d2 d3 f0 hk64 hp
          go_roundw
          case rel =>
           refine ⟨k + 1, HK.out, by first | exact congrArg (Value.int .i64) HE2.out | exact congrArg (Value.int .i64) (Int.natCast_succ k).symm, by rw [HM.out, HCC.out]; exact HEND.out, ?_⟩
           have h1 : ∀ {z : World} (k : Nat) (v : Value), w5.grownBy z (some T) → w5.grownBy (z.setCell ⟨T, k, none⟩ v) (some T) := fun k v h => grownTrans h (grownBy_setCellAt _ T k v)
           exact h1 _ _ (h1 _ _ (h1 _ _ (h1 _ _ HG.out)))
          case measure => (try rw [HE2.out]); have := HK.out; simp only [intOf]; omega
        · obtain rfl : mv = 0 := by omega
          have hm := HM.out
          rw [if_neg hmp] at hm
          have HM := Lib.hid hm
          clear hm hmp
          go_wp2_with fail
          go_roundw
          case rel => exact ⟨k + 1, HK.out, by first | exact congrArg (Value.int .i64) HE2.out | exact congrArg (Value.int .i64) (Int.natCast_succ k).symm, by rw [HM.out]; exact HT.out, HG.out⟩
          case measure => (try rw [HE2.out]); have := HK.out; simp only [intOf]; omega
     · have hk64 : k = 64 := by omega
       subst hk64
       clear hk hlt
       obtain ⟨q, hq⟩ : ∃ q, fillTs m cc wi j t 64 = q := ⟨_, rfl⟩
       rw [hq] at HT HTK
       have HSQ := Lib.hid (size_T q)
       have HNT := Lib.hid (sizeT q)
       have HLJ := Lib.hid (show ((fillTL m cc wi C.tiles).take j).length = j by
        rw [List.length_take]
        unfold fillTL
        rw [List.length_mapIdx, HN.out]
        have := HJ.out
        omega)
       clear hq
       have c2 := cell_of_block (k := 2) HF.out.at_ rfl
       repeat ((fail_if_success (with_reducible refine stop_at (id := 11) ?_)); (first | go_values | go_skip | go_guarded | go_step | go_upon | go_back | (simp only [Int.not_lt, Int.not_le] at *; go_simp) | (go_values <;> (try go_simp)) | (go_ite <;> go_prune <;> (try go_simp)) | (split <;> (first | (rename_i hx; exact (hx _ rfl).elim) | go_prune))))
       refine (wpIn_wide (n := 0)).1 ?_
       gi_wp2_with fail
       clear c2
       refine opIn_load 74 _ rfl T rfl 74 (encT q).toArray (0, 0) _ HT.out Try.underlying74 rfl HSQ.out ?_
       simp only [Act.put, List.setIfInBounds_toArray, List.set_cons_succ, List.set_cons_zero]
       gi_step
       refine opIn_buildSlice_one _ _ rfl (encT q).toArray (by rfl) Try.underlying22 infoT (by decide) (by decide) HNT.out ?_
       simp only [Act.put, List.setIfInBounds_toArray, List.set_cons_succ, List.set_cons_zero]
       gi_wp2_with (gi_at_builtin; refine wpListIn_app1l rowTl encT_len encT_one HF.out.o (Below.refl _ _) q j HLJ.out (by have := HB.out.2.2.1; have := HJ.out; omega) (by decide) _ _ rfl rfl rfl _ rfl (by rfl) ?_; intro v' w7 ho7 hsh hg7 hl7; clear hl7; obtain ⟨ad7, cp7, rfl⟩ := hsh; have hb7 := (hg7.block B (block_lt HF.out.at_) (fun e => HF.out.nb e.symm)).trans HF.out.at_; have c7 := cell_of_block (k := 2) hb7 rfl; have f7 := free_of_block hb7 2; have hp7 := HF.out.push (Below.refl _ _) ho7 hg7; rw [← HTK.out] at hp7; have HP := Lib.hid hp7; clear ho7 hg7 hb7 hp7)
       clear c7 f7
       go_wp2_with fail
       go_roundw
       case rel => exact ⟨j + 1, _, HJ.out, congrArg (Value.int .i64) HE1.out, HP.out⟩
       case measure => rw [HE1.out]; have := HJ.out; simp only [intOf]; omega
  · have hjn : j = n := by omega
    rw [hjn, List.take_of_length_le (by unfold fillTL; rw [List.length_mapIdx, HN.out]; exact Nat.le_refl _)] at HF
    clear hj hjn
    obtain ⟨ua, uc, rfl, hu1, hu2, hu3⟩ := RowGot.of (lo := N) HF.out.o.row (Nat.le_refl _)
    obtain ⟨un, hun⟩ : ∃ un, (fillTL m cc wi C.tiles).length = un := ⟨_, rfl⟩
    rw [hun] at hu1 hu3
    have HU := Lib.hid (And.intro hun (And.intro hu1 (And.intro hu2 hu3)))
    simp only [hun] at HF
    clear hun hu1 hu2 hu3
    have c0 := cell_of_block (k := 0) HF.out.at_ rfl
    have c1 := cell_of_block (k := 1) HF.out.at_ rfl
    have c2 := cell_of_block (k := 2) HF.out.at_ rfl
    have k0 := cell_of_block (k := 0) (HF.out.o.st.blockAt 0 rfl) rfl
    have k1 := cell_of_block (k := 1) (HF.out.o.st.blockAt 0 rfl) rfl
    have k2 := cell_of_block (k := 2) (HF.out.o.st.blockAt 0 rfl) rfl
    have f0 := free_of_block (HF.out.o.st.blockAt 0 rfl)
    go_wp2_with fail
    have h0 := HF.out.o.st.low
    have hs : ∀ {z : World} (k : Nat) (v : Value), Below w.heap.size w z → Below w.heap.size w (z.setCell ⟨w.heap.size + 1 + 1 + 1, k, none⟩ v) := fun k v h => h.setCell (by simp only; omega) v
    have e1 : (filledC C m cc).tiles = fillTL m cc wi C.tiles := by unfold filledC; rw [HWI.out.1]
    have e2 : (filledC C m cc).wide = wi := HWI.out.1
    have e3 : (filledC C m cc).high = hi := HWI.out.2
    have hlo : w.heap.size + 1 + 1 + 1 < N := by
     have h1 := HF.out.lo _ (List.mem_of_getElem? (i := 0) rfl)
     have h2 := HF.out.hb.2
     simp only [It.top] at h1
     omega
    refine bodyPost_ret (v := .agg #[.int .i64 wi, .int .i64 hi, .slice ua un uc]) (by simp [results, Try.results21, go_sem, k0, k1, k2]) rfl ⟨_, rfl, ⟨ua, uc, ?_, ?_, ?_⟩, hs _ _ (hs _ _ (hs _ _ h0))⟩
    · rw [e1, e2, e3, HU.out.1]
    · rw [e1, HU.out.1]; exact HU.out.2.1
    · rw [e1, HU.out.1]
      have ho : ∀ ad, ua = some ad → w.heap.size + 1 + 1 + 1 ≠ ad.block := fun ad e => by have := HU.out.2.2.1 ad e; omega
      exact ((HU.out.2.2.2.other ho _ _).other ho _ _).other ho _ _
end Go.Proofs.Ytodpkgbpcpfamaa
