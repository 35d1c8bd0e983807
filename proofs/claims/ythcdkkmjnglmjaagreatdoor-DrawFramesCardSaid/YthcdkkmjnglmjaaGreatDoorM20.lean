/- Merged texts: DrN DrO DrP Goes Begun Gath PointsI. -/
import Derived.Test.YthcdkkmjnglmjaaGreatDoorM19
import Derived.Test.YthcdkkmjnglmjaaGreatDoorM12
import Derived.Test.YthcdkkmjnglmjaaGreatDoorM13
import Derived.Test.YthcdkkmjnglmjaaGreatDoorM9
/- Package draw: a frame's rows in a map. -/
namespace Go.Proofs.YthcdkkmjnglmjaaGreatDoor
set_option linter.unusedSimpArgs false
set_option linter.unusedVariables false
open Go.RowKit Go.Shelf
attribute [local go_sem] Oper.semAt_some

/-- A row's two ends. -/
def endsL (s : SpT) : List SpT := if s.t ≤ s.f + 1 then [s] else [⟨s.y, s.f, s.f⟩, ⟨s.y, s.t, s.t⟩]
theorem endsL_ne (s : SpT) : endsL s ≠ [] := by unfold endsL; split <;> simp
theorem endsL_len (s : SpT) : (endsL s).length ≤ 2 := by unfold endsL; split <;> simp
theorem endsL_set {s : SpT} (h : s.f ≤ s.t) : SetRow (fun p => hasB [⟨s.y, s.f, s.f⟩, ⟨s.y, s.t, s.t⟩] p = true) (endsL s) := by
 obtain ⟨y, f, t⟩ := s
 simp only at h
 unfold endsL
 by_cases h1 : t ≤ f + 1
 · rw [if_pos h1]
   refine ⟨⟨by simpa using h, List.pairwise_singleton _ _⟩, fun p => ?_⟩
   rw [hasB_iff, hasB_iff]
   simp only [List.mem_cons, List.not_mem_nil, or_false, exists_eq_or_imp, exists_eq_left]
   omega
 · rw [if_neg h1]
   refine ⟨⟨by simp, ?_⟩, fun p => by simp⟩
   simp [ordP]
   omega
/-- A frame's row, of a rectangle's rows. -/
def frL (R : List SpT) (i : Nat) : List SpT := match R[i]? with
 | none => []
 | some s => if i = 0 ∨ i + 1 = R.length then [s] else endsL s
theorem frL_ends {R : List SpT} {i : Nat} {s : SpT} (h : R[i]? = some s) (hi : i = 0 ∨ i + 1 = R.length) : frL R i = [s] := by unfold frL; rw [h]; simp only; rw [if_pos hi]
theorem frL_mid {R : List SpT} {i : Nat} {s : SpT} (h : R[i]? = some s) (hi : ¬ (i = 0 ∨ i + 1 = R.length)) : frL R i = endsL s := by unfold frL; rw [h]; simp only; rw [if_neg hi]
/-- The map holds the first k rows of a frame. -/
structure FrS (wb : World) (R : List SpT) (k : Nat) (W : World) : Prop where
 low : Below wb.heap.size wb W
 gr : ∃ D F G, GrD W (wb.heap.size + 1) wb.heap.size k D F G ∧ ∀ j : Nat, j < k → G (j : Int) = frL R j
theorem FrS.start (wb : World) (R : List SpT) : FrS wb R 0 (wb.alloc (.map #[] 0)) := ⟨(Below.refl _ _).alloc (Nat.le_refl _) _, _, _, _, GrD.start wb, fun j h => absurd h (Nat.not_lt_zero _)⟩
theorem FrS.size {wb W : World} {R : List SpT} {k : Nat} (h : FrS wb R k W) : wb.heap.size < W.heap.size := by
 obtain ⟨D, F, G, h1, -⟩ := h.gr
 rcases Nat.lt_or_ge wb.heap.size W.heap.size with h2 | h2
 · exact h2
 · obtain ⟨es, c, h3, -⟩ := h1.map
   have := block_lt h3
   omega
theorem FrS.below {wb x y : World} {R : List SpT} {k : Nat} (h : FrS wb R k x) (hb : Below x.heap.size x y) : FrS wb R k y := by
 obtain ⟨D, F, G, h1, h2⟩ := h.gr
 exact ⟨h.low.trans (hb.mono h.low.size), D, F, G, h1.kept hb, h2⟩
theorem FrS.put {wb x y : World} {R : List SpT} {k : Nat} (h : FrS wb R k x) (hk : k < 1000) (hb : Below x.heap.size x y) {v : Value} {L : List SpT} (hrow : y.ownsRow x.heap.size 60 3 v L.length (L.flatMap encS)) (hL : L ≠ []) (hfr : frL R k = L) :
 ∃ w2, (Instr.mapUpdate 90 (.map (some wb.heap.size)) (.int .i64 (k : Int)) v).run Tryz.prog y = .ok () w2 ∧ FrS wb R (k + 1) w2 := by
 obtain ⟨D, F, G, h1, h2⟩ := h.gr
 have hs := h.size
 obtain ⟨w2, hr, hg, hgb⟩ := h1.put (y := (k : Int)) (by unfold inK; omega) (by unfold maxLen; omega) (w := y) ⟨hb.os, hb.tape, hb.output, hb.size, fun q hq _ => hb.block q hq⟩ (v' := v) (L := L) (ownsRow_mono hrow (by omega)) hL (by
  obtain ⟨h3, ⟨h4, h5⟩ | ⟨g, cap, cur, h4, h5, -⟩⟩ := hrow
  · exact absurd (List.length_eq_zero_iff.1 h5) hL
  · rw [h4]; exact .inr ⟨g, rfl, h5⟩)
 refine ⟨w2, hr, ⟨(h.low.trans (hb.mono h.low.size)).grown hgb (Nat.le_trans h.low.size hb.size) (fun j e => by cases e; exact Nat.le_refl _), _, _, _, hg, fun j hj => ?_⟩⟩
 by_cases e : j = k
 · subst e; simp [hfr]
 · have e2 : ¬ ((j : Int) = (k : Int)) := by omega
   simp only [if_neg e2]
   exact h2 j (by omega)
/-- Painted row for row. -/
def frameK (C : CanT) (R : List SpT) (c : ColT) (k : Nat) : CanT := (List.range k).foldl (fun D i => paintC D (frL R i) (fpaint c)) C
theorem frameK_succ (C : CanT) (R : List SpT) (c : ColT) (k : Nat) : frameK C R c (k + 1) = paintC (frameK C R c k) (frL R k) (fpaint c) := by unfold frameK; rw [List.range_succ, List.foldl_append]; rfl
theorem frameK_ok {C : CanT} (hC : okCan C) (R : List SpT) {c : ColT} (hc : okC c) : ∀ k, okCan (frameK C R c k)
 | 0 => hC
 | k + 1 => by rw [frameK_succ]; exact paintC_ok (frameK_ok hC R hc k) _ (fpaint_ok hc)
theorem frL_right {R : List SpT} (hR : ∀ s ∈ R, s.f ≤ s.t ∧ (-256 ≤ s.y ∧ s.y ≤ 255) ∧ (-256 ≤ s.f ∧ s.f ≤ 255) ∧ (-256 ≤ s.t ∧ s.t ≤ 255)) (i : Nat) : rightB (frL R i) = true := by
 have h1 : ∀ s ∈ R, rightB [s] = true ∧ rightB (endsL s) = true := fun s hs => by
  have h := hR s hs
  refine ⟨rightB_ofD ⟨by simpa using h.1, List.pairwise_singleton _ _⟩ (by simp; omega), rightB_ofD (endsL_set h.1).row fun q hq => ?_⟩
  unfold endsL at hq
  split at hq
  · rw [List.mem_singleton.1 hq]; omega
  · simp only [List.mem_cons, List.not_mem_nil, or_false] at hq
    rcases hq with rfl | rfl <;> simp only <;> omega
 unfold frL
 cases hx : R[i]? with
 | none => exact rightB_ofD rowP_nil (by simp)
 | some s =>
  have h2 := h1 s (List.mem_of_getElem? hx)
  simp only
  split
  · exact h2.1
  · exact h2.2
theorem frL_len {R : List SpT} (i : Nat) : (frL R i).length ≤ 2 := by
 unfold frL
 split
 · simp
 · split
   · simp
   · exact endsL_len _
/-- The frame is painted up to a row. -/
structure FrP (w : World) (b E qc : Nat) (c : ColT) (C : CanT) (R : List SpT) (n j : Nat) (W : World) : Prop where
 gr : ∃ D F G, GrD W (b + 1) b n D F G ∧ ∀ i : Nat, i < n → G (i : Int) = frL R i
 tu : Turned (fun k => k = E) w W
 ex : ∃ d, W.heap[E]? = some (.cells #[.pointer (some ⟨d, 0, none⟩)] 127 (0, 0)) ∧ CanAt W d (frameK C R c j)
 col : W.heap[qc]? = some (.cells #[.int .u8 c.r, .int .u8 c.g, .int .u8 c.b, .int .u8 c.a] 34 (0, 0))
theorem FrP.step {w W W' : World} {b E qc : Nat} {c : ColT} {C : CanT} {R : List SpT} {n j : Nat} {e : Ending} (h : FrP w b E qc c C R n j W) (hE : E < b) (h2 : Drew E 0 (paintC (frameK C R c j) (frL R j) (fpaint c)) W e W') : e = .returned (.tuple #[]) ∧ FrP w b E qc c C R n (j + 1) W' := by
 obtain ⟨D, F, G, h3, h4⟩ := h.gr
 obtain ⟨he, d', hd1, hd2⟩ := h2.2.1 rfl
 obtain ⟨d, hd3, -⟩ := h.ex
 have hne : qc ≠ E := by
  intro e
  have := h.col
  rw [e, hd3] at this
  simp at this
 have hg : W.grownBy W' (some E) := ⟨h2.1.os, h2.1.tape, h2.1.output, h2.1.size, fun k hk hn => h2.1.block k hk (fun e => hn (by rw [e]))⟩
 refine ⟨he, ⟨D, F, G, h3.other hg (fun e => by cases e; omega) (fun z hz => ?_), h4⟩, (h.tu.trans h2.1).mono (fun k _ hs => hs.elim id id), ⟨d', hd1, by rw [frameK_succ]; exact hd2⟩, (h2.1.block _ (block_lt h.col) hne).trans h.col⟩
 cases hv : (F z).ownBlock with
 | none => exact .inl rfl
 | some q => exact .inr fun e => by have := ((h3.row z hz).lt q hv).1; cases e; omega
end Go.Proofs.YthcdkkmjnglmjaaGreatDoor

/- Package draw: Frame. -/
namespace Go.Proofs.YthcdkkmjnglmjaaGreatDoor
set_option linter.unusedSimpArgs false
set_option linter.unusedVariables false
open Go.RowKit Go.Shelf
attribute [local go_sem] Oper.semAt_some
theorem ownsRow_one {y : World} {g base : Nat} {s : SpT} (h : y.heap[g]? = some (.cells #[.int .i64 s.y, .int .i64 s.f, .int .i64 s.t] 60 (0, 0))) (hb : base ≤ g) : y.ownsRow base 60 3 (.slice (some ⟨g, 0, none⟩) 1 1) [s].length ([s].flatMap encS) :=
 ⟨rfl, .inr ⟨g, 1, _, rfl, hb, h, Nat.le_refl _, by unfold maxLen; omega, rfl, rfl⟩⟩

set_option maxRecDepth 100000 in
set_option maxHeartbeats 4000000 in
theorem dFrame1_any (c : ColT) (hc : okC c) (f t : PtT) (E p qf qt qc : Nat) (C : CanT)
 (w : World) (hE : w.heap[E]? = some (.cells #[.pointer (some ⟨p, 0, none⟩)] 127 (0, 0))) (hC : CanAt w p C)
 (hf : BlkA qf (.cells #[.int .i64 f.x, .int .i64 f.y] 26 (0, 0)) w) (ht : BlkA qt (.cells #[.int .i64 t.x, .int .i64 t.y] 26 (0, 0)) w) (hq : BlkA qc (.cells #[.int .u8 c.r, .int .u8 c.g, .int .u8 c.b, .int .u8 c.a] 34 (0, 0)) w) :
 Calls Tryz.prog 49 #[.pointer (some ⟨E, 0, none⟩), .pointer (some ⟨qf, 0, none⟩), .pointer (some ⟨qt, 0, none⟩), .pointer (some ⟨qc, 0, none⟩)] w (Drew E (errOf (drawnB f && drawnB t) 2) (frameK C (rectL f t) c (rectL f t).length) w) := by
 have HEA := Lib.hid (BlkA.mk hE)
 have HCC := Lib.hid hC
 have HQ := Lib.hid hq
 have HRC := Lib.hid (fun w' => shRect_any f t w')
 unfold PtT.val at HRC
 have x0 := cell_of_block (k := 0) hf.at_ rfl
 have x1 := cell_of_block (k := 1) hf.at_ rfl
 have y0 := cell_of_block (k := 0) ht.at_ rfl
 have y1 := cell_of_block (k := 1) ht.at_ rfl
 have hmm := makeMap_rows
 clear hE hC hf ht hq
 cases hok : (drawnB f && drawnB t) with
 | false =>
  have HOK := Lib.hid hok
  simp only [errOf]
  clear hok
  go_enter Tryz.func49, Tryz.ntmps49
  go_wp2_with fail
  clear x0 x1 y0 y1
  refine (HRC.out _).mono ?_
  intro e w1 h
  obtain ⟨v, rfl, hb⟩ := rect_bad HOK.out h
  clear h
  go_wp2_with fail
  refine (sureS_no _ 2 (by decide) _).mono ?_
  rintro e w2 ⟨h1, rfl⟩
  unfold PanicE at h1
  subst h1
  exact ⟨rfl, ⟨(Turned.refl (fun k => k = E) w).belowT hb, fun h => absurd h (by decide), fun _ => rfl⟩⟩
 | true =>
  have HOK := Lib.hid hok
  simp only [errOf]
  clear hok
  go_enter Tryz.func49, Tryz.ntmps49
  go_wp2_with fail
  clear x0 x1 y0 y1
  refine (HRC.out _).mono ?_
  intro e w1 h
  rw [HOK.out] at h
  have hd := Bool.and_eq_true_iff.1 HOK.out
  have hsm := rectL_small hd.1 hd.2
  have hst := rectL_set hd.1 hd.2
  have hnr := rect_near HOK.out
  obtain ⟨hgl, a, cap, rfl, hel, hb1⟩ := h.got encS_len
  obtain ⟨R, hR⟩ : ∃ R, rectL f t = R := ⟨_, rfl⟩
  rw [hR] at hel hsm hst
  obtain ⟨n, hn⟩ : ∃ n, R.length = n := ⟨_, rfl⟩
  rw [hn] at hel hsm
  have HR := Lib.hid (And.intro hR (And.intro hn hsm))
  have HEL := Lib.hid hel
  have HST := Lib.hid (And.intro hst hnr)
  have HCC := Lib.hid (HCC.out.below hb1)
  have HEA := Lib.hid (HEA.out.below hb1)
  have HQ := Lib.hid (HQ.out.below hb1)
  have HLW := Lib.hid (LowAt.mk hb1)
  simp only [hR, hn]
  clear h hgl hb1 hel hsm hst hnr hR hd HRC
  go_wp2_with fail
  refine (sureS_ok _ _).mono ?_
  rintro e w2 ⟨rfl, rfl⟩
  go_wp2_with fail
  clear hmm
  have HFS := Lib.hid (FrS.start w1 R)
  go_loopw [19] (fun i wr => ∃ k : Nat, k ≤ n ∧ i = .int .i64 (k : Int) ∧ FrS w1 R k wr) (fun i _ => n - (intOf i).toNat)
  case atStart => exact ⟨0, by omega, rfl, HFS.out⟩
  case round =>
   obtain ⟨k, hk, rfl, hg⟩ := hrel
   clear HFS
   have HG := Lib.hid hg
   clear hg
   by_cases hlt : k < n
   · have HK := Lib.hid hlt
     have e3 : wrap64 ((k : Int) + 1) = ((k + 1 : Nat) : Int) := by have := HR.out.2.2; unfold wrap64; omega
     have HWK := Lib.hid e3
     obtain ⟨s, hx⟩ : ∃ s, R[k]? = some s := ⟨_, List.getElem?_eq_getElem (by rw [HR.out.2.1]; exact hlt)⟩
     have HX := Lib.hid hx
     obtain ⟨bb, off, rfl, hbb, c0, c1, c2⟩ := spCells HR.out.2.1 HEL.out k s hx
     have c0' := (HG.out.low.cell (p := ⟨bb, off + k * 3, none⟩) hbb).trans c0
     have c1' := (HG.out.low.cell (p := ⟨bb, off + k * 3 + 1, none⟩) hbb).trans c1
     have c2' := (HG.out.low.cell (p := ⟨bb, off + k * 3 + 2, none⟩) hbb).trans c2
     clear c0 c1 c2 hx hbb e3
     have HS := Lib.hid (St.start wr)
     repeat ((fail_if_success (with_reducible refine stop_at (id := 5) ?_)); (first | go_values | go_skip | go_guarded | go_step | go_upon | go_back | (simp only [Int.not_lt, Int.not_le] at *; go_simp) | (go_values <;> (try go_simp)) | (go_ite <;> go_prune <;> (try go_simp)) | (split <;> (first | (rename_i hx; exact (hx _ rfl).elim) | go_prune))))
     clear c0' c1' c2'
     have hs_ := (HS.out.alloc (.cells #[.int .i64 s.y, .int .i64 s.f, .int .i64 s.t] 60))
     have hk_HG := HG.out.below ((Below.refl _ _).alloc (by exact Nat.le_refl _) (.cells #[.int .i64 s.y, .int .i64 s.f, .int .i64 s.t] 60))
     obtain ⟨w2, hw_⟩ : ∃ w2 : World, (wr.alloc (.cells #[.int .i64 s.y, .int .i64 s.f, .int .i64 s.t] 60)) = w2 := ⟨_, rfl⟩
     rw [hw_] at hs_ hk_HG
     try simp only [World.size_alloc] at hs_
     have HS := Lib.hid hs_
     have HG := Lib.hid hk_HG
     rw [hw_]
     clear hw_ hs_ hk_HG
     have hw : wrap64 ((n : Int) - 1) = (n : Int) - 1 := by have := HR.out.2.2; unfold wrap64; omega
     by_cases hk0 : k = 0
     · have hb0 : ((k : Int) == 0) = true := by simp; omega
       have z0 := cell_of_block (k := 0) (HS.out.blockAt 0 rfl) rfl
       have z1 := cell_of_block (k := 1) (HS.out.blockAt 0 rfl) rfl
       have z2 := cell_of_block (k := 2) (HS.out.blockAt 0 rfl) rfl
       have hnb := (World.alloc_heap_new w2 (.cells #[.int .i64 s.y, .int .i64 s.f, .int .i64 s.t] 60))
       obtain ⟨w5, hrun, hfs⟩ := HG.out.put (by have := HR.out.2.2; omega) ((Below.refl w2.heap.size w2).alloc (Nat.le_refl _) (.cells #[.int .i64 s.y, .int .i64 s.f, .int .i64 s.t] 60)) (ownsRow_one hnb (Nat.le_refl _)) (by simp) (frL_ends HX.out (.inl hk0))
       have hrun0 := hrun
       rw [show (k : Int) = 0 by omega] at hrun0
       have HFS := Lib.hid hfs
       have e3 := HWK.out
       go_wp2_with fail
       clear z0 z1 z2 hrun hrun0 hb0
       go_roundw
       case rel => exact ⟨k + 1, by omega, by first | exact congrArg (Value.int .i64) HWK.out | exact congrArg (Value.int .i64) (Int.natCast_succ k).symm | (congr 1; omega), HFS.out⟩
       case measure => (try rw [HWK.out]); have := HK.out; simp only [intOf]; omega
     · have hb0 : ((k : Int) == 0) = false := by simp; omega
       by_cases hkn : k + 1 = n
       · have hbn : ((k : Int) == (n : Int) - 1) = true := by simp; omega
         have z0 := cell_of_block (k := 0) (HS.out.blockAt 0 rfl) rfl
         have z1 := cell_of_block (k := 1) (HS.out.blockAt 0 rfl) rfl
         have z2 := cell_of_block (k := 2) (HS.out.blockAt 0 rfl) rfl
         have hnb := (World.alloc_heap_new w2 (.cells #[.int .i64 s.y, .int .i64 s.f, .int .i64 s.t] 60))
         obtain ⟨w5, hrun, hfs⟩ := HG.out.put (by have := HR.out.2.2; omega) ((Below.refl w2.heap.size w2).alloc (Nat.le_refl _) (.cells #[.int .i64 s.y, .int .i64 s.f, .int .i64 s.t] 60)) (ownsRow_one hnb (Nat.le_refl _)) (by simp) (frL_ends HX.out (.inr (by rw [HR.out.2.1]; exact hkn)))
         have hrun0 := hrun
         rw [show (k : Int) = (n : Int) - 1 by omega] at hrun0
         have HFS := Lib.hid hfs
         have e3 := HWK.out
         go_wp2_with fail
         clear z0 z1 z2 hrun hrun0 hbn hb0
         go_roundw
         case rel => exact ⟨k + 1, by omega, by first | exact congrArg (Value.int .i64) HWK.out | exact congrArg (Value.int .i64) (Int.natCast_succ k).symm | (congr 1; omega), HFS.out⟩
         case measure => (try rw [HWK.out]); have := HK.out; simp only [intOf]; omega
       · have hbn : ((k : Int) == (n : Int) - 1) = false := by simp; omega
         have hsR : s ∈ R := List.mem_of_getElem? HX.out
         have hft := HST.out.1.row.sp s hsR
         have hn1 := HST.out.2 _ ((HST.out.1.has ⟨s.f, s.y⟩).1 ((hasB_iff _ _).2 ⟨s, hsR, rfl, Int.le_refl _, hft⟩))
         have hn2 := HST.out.2 _ ((HST.out.1.has ⟨s.t, s.y⟩).1 ((hasB_iff _ _).2 ⟨s, hsR, rfl, hft, Int.le_refl _⟩))
         simp only at hn1 hn2
         have hr1 : rightB [⟨s.y, s.f, s.f⟩] = true := rightB_ofD ⟨by simp, List.pairwise_singleton _ _⟩ (by simp; omega)
         have hr2 : rightB [⟨s.y, s.t, s.t⟩] = true := rightB_ofD ⟨by simp, List.pairwise_singleton _ _⟩ (by simp; omega)
         have HRT := Lib.hid (And.intro hft (And.intro hr1 hr2))
         clear hn1 hn2 hr1 hr2 hft hsR
         repeat ((fail_if_success (with_reducible refine stop_at (id := 7) ?_)); (first | go_values | go_skip | go_guarded | go_step | go_upon | go_back | (simp only [Int.not_lt, Int.not_le] at *; go_simp) | (go_values <;> (try go_simp)) | (go_ite <;> go_prune <;> (try go_simp)) | (split <;> (first | (rename_i hx; exact (hx _ rfl).elim) | go_prune))))
         clear hb0 hbn hw
         have z0 := cell_of_block (k := 0) (HS.out.blockAt 0 rfl) rfl
         have z1 := cell_of_block (k := 1) (HS.out.blockAt 0 rfl) rfl
         have z2 := cell_of_block (k := 2) (HS.out.blockAt 0 rfl) rfl
         have r0 := cell_of_block (k := 0) (heap_alloc_keeps (HS.out.blockAt 0 rfl) (.cells #[.int .i64 s.y, .int .i64 s.f, .int .i64 s.f] 60)) rfl
         have r2 := cell_of_block (k := 2) (heap_alloc_keeps (HS.out.blockAt 0 rfl) (.cells #[.int .i64 s.y, .int .i64 s.f, .int .i64 s.f] 60)) rfl
         go_wp2_with fail
         clear z0 z1 z2 r0 r2
         have hs_ := (((HS.out.alloc (.cells #[.int .i64 s.y, .int .i64 s.f, .int .i64 s.f] 60)).alloc (.cells #[.int .i64 s.y, .int .i64 s.t, .int .i64 s.t] 60)).alloc (.cells #[.slice (some ⟨w2.heap.size, 0, none⟩) 1 1, .slice (some ⟨w2.heap.size + 1, 0, none⟩) 1 1] 57))
         have hk_HG := HG.out.below ((((Below.refl _ _).alloc (by exact Nat.le_refl _) (.cells #[.int .i64 s.y, .int .i64 s.f, .int .i64 s.f] 60)).alloc (by simp only [World.size_alloc]; omega) (.cells #[.int .i64 s.y, .int .i64 s.t, .int .i64 s.t] 60)).alloc (by simp only [World.size_alloc]; omega) (.cells #[.slice (some ⟨w2.heap.size, 0, none⟩) 1 1, .slice (some ⟨w2.heap.size + 1, 0, none⟩) 1 1] 57))
         obtain ⟨w3, hw_⟩ : ∃ w3 : World, (((w2.alloc (.cells #[.int .i64 s.y, .int .i64 s.f, .int .i64 s.f] 60)).alloc (.cells #[.int .i64 s.y, .int .i64 s.t, .int .i64 s.t] 60)).alloc (.cells #[.slice (some ⟨w2.heap.size, 0, none⟩) 1 1, .slice (some ⟨w2.heap.size + 1, 0, none⟩) 1 1] 57)) = w3 := ⟨_, rfl⟩
         rw [hw_] at hs_ hk_HG
         try simp only [World.size_alloc] at hs_
         have HS := Lib.hid hs_
         have HG := Lib.hid hk_HG
         rw [hw_]
         clear hw_ hs_ hk_HG
         have hrw : RowsR w3 (some ⟨w2.heap.size + 1 + 1, 0, none⟩) [[⟨s.y, s.f, s.f⟩], [⟨s.y, s.t, s.t⟩]] := by
          intro q l hq
          match q, hq with
          | 0, hq => cases hq; exact ⟨_, 0, _, 1, rfl, HS.out.lt 0 rfl, cell_of_block (k := 0) (HS.out.blockAt 0 rfl) rfl, ownsRow_rows encS_len (ownsRow_one (s := ⟨s.y, s.f, s.f⟩) (HS.out.blockAt 2 rfl) (Nat.zero_le _))⟩
          | 1, hq => cases hq; exact ⟨_, 0, _, 1, rfl, HS.out.lt 0 rfl, cell_of_block (k := 1) (HS.out.blockAt 0 rfl) rfl, ownsRow_rows encS_len (ownsRow_one (s := ⟨s.y, s.t, s.t⟩) (HS.out.blockAt 1 rfl) (Nat.zero_le _))⟩
          | q + 2, hq => simp at hq
         refine (shUnion_any (some ⟨w2.heap.size + 1 + 1, 0, none⟩) 2 2 [[⟨s.y, s.f, s.f⟩], [⟨s.y, s.t, s.t⟩]] rfl (by decide) (by simp) w3 hrw).mono ?_
         intro e w4 h
         obtain ⟨M, hM, -, -, v, rfl, hrow, hb4⟩ := h
         have hall : ([[⟨s.y, s.f, s.f⟩], [⟨s.y, s.t, s.t⟩]] : List (List SpT)).all rightB = true := by simp [HRT.out.2.1, HRT.out.2.2]
         rw [hall]
         obtain rfl : M = endsL s := (hM hall).unique (endsL_set HRT.out.1)
         rw [show errOf true 160 = 0 from rfl]
         obtain ⟨w5, hrun, hfs⟩ := HG.out.put (by have := HR.out.2.2; omega) hb4 hrow (endsL_ne s) (frL_mid HX.out (by rw [HR.out.2.1]; omega))
         have HFS := Lib.hid hfs
         have e3 := HWK.out
         clear hM hrow hb4 hfs hrw hall
         go_wp2_with fail
         refine (sureS_ok _ _).mono ?_
         rintro e w6 ⟨rfl, rfl⟩
         go_wp2_with fail
         clear hrun
         go_roundw
         case rel => exact ⟨k + 1, by omega, by first | exact congrArg (Value.int .i64) HWK.out | exact congrArg (Value.int .i64) (Int.natCast_succ k).symm | (congr 1; omega), HFS.out⟩
         case measure => (try rw [HWK.out]); have := HK.out; simp only [intOf]; omega
   · obtain rfl : k = n := by omega
     have hwb : w.heap.size ≤ w1.heap.size := HLW.out.low.size
     have hEb : E < w1.heap.size := block_lt HEA.out.at_
     have hfp : FrP w w1.heap.size E qc c C R k 0 wr := by
      obtain ⟨D, F, G, h1, h2⟩ := HG.out.gr
      exact ⟨⟨D, F, G, h1, h2⟩, (Turned.refl (fun k => k = E) w).belowT (HLW.out.low.trans (HG.out.low.mono hwb)), ⟨p, (HG.out.low.block E hEb).trans HEA.out.at_, HCC.out.below HG.out.low⟩, (HG.out.low.block qc (block_lt HQ.out.at_)).trans HQ.out.at_⟩
     have hRr : ∀ s ∈ R, s.f ≤ s.t ∧ (-256 ≤ s.y ∧ s.y ≤ 255) ∧ (-256 ≤ s.f ∧ s.f ≤ 255) ∧ (-256 ≤ s.t ∧ s.t ≤ 255) := fun s hsR => by
      have hft := HST.out.1.row.sp s hsR
      have hn1 := HST.out.2 _ ((HST.out.1.has ⟨s.f, s.y⟩).1 ((hasB_iff _ _).2 ⟨s, hsR, rfl, Int.le_refl _, hft⟩))
      have hn2 := HST.out.2 _ ((HST.out.1.has ⟨s.t, s.y⟩).1 ((hasB_iff _ _).2 ⟨s, hsR, rfl, hft, Int.le_refl _⟩))
      simp only at hn1 hn2
      omega
     have HFP := Lib.hid hfp
     have HRR := Lib.hid hRr
     have HEB := Lib.hid hEb
     have HCO := Lib.hid hc
     clear hfp hRr hEb hwb HG HST HEA HCC HQ HEL HLW hlt hk hc
     go_wp2_with fail
     go_loopw [63] (fun i wx => ∃ j : Nat, j ≤ k ∧ i = .int .i64 (j : Int) ∧ FrP w w1.heap.size E qc c C R k j wx) (fun i _ => k - (intOf i).toNat)
     case atStart => exact ⟨0, by omega, rfl, HFP.out⟩
     case round =>
      obtain ⟨j, hj, rfl, hg⟩ := hrel
      clear HFP
      have HG := Lib.hid hg
      by_cases hlt : j < k
      · have HK := Lib.hid hlt
        have e3 : wrap64 ((j : Int) + 1) = ((j + 1 : Nat) : Int) := by have := HR.out.2.2; unfold wrap64; omega
        have HWK := Lib.hid e3
        obtain ⟨D, F, G, h1, h2⟩ := hg.gr
        obtain ⟨d, hd1, hd2⟩ := hg.ex
        have hik : inK (j : Int) := by have := HR.out.2.2; unfold inK; omega
        have hlook := h1.look hik
        have hrow := h1.row _ hik
        rw [h2 j hlt] at hrow
        have hel := ownsRow_rows encS_len hrow
        obtain ⟨fa, fc, hF, -⟩ := hel.shape
        rw [hF] at hlook hel
        have hpt := epaint_any c HCO.out E d (frameK C R c j) fa _ fc (frL R j) rfl (by have := frL_len (R := R) j; omega) wr hd1 hd2 hel
        rw [frL_right HRR.out] at hpt
        obtain ⟨fn, hfn⟩ : ∃ fn, (frL R j).length = fn := ⟨_, rfl⟩
        rw [hfn] at hlook hpt
        have HPT := Lib.hid hpt
        have c0 := cell_of_block (k := 0) hg.col rfl
        have c1 := cell_of_block (k := 1) hg.col rfl
        have c2 := cell_of_block (k := 2) hg.col rfl
        have c3 := cell_of_block (k := 3) hg.col rfl
        unfold ColT.val at HPT
        clear hpt hel hrow h1 h2 hd1 hd2 hfn hF hg hik
        go_wp2_with fail
        clear c0 c1 c2 c3 hlook
        refine HPT.out.mono ?_
        intro e w2 h
        obtain ⟨rfl, hg2⟩ := HG.out.step HEB.out h
        have HG2 := Lib.hid hg2
        clear h hg2 HPT HG
        go_wp2_with fail
        go_roundw
        case rel => exact ⟨j + 1, by omega, by first | exact congrArg (Value.int .i64) HWK.out | exact congrArg (Value.int .i64) (Int.natCast_succ j).symm | (congr 1; omega), HG2.out⟩
        case measure => (try rw [HWK.out]); have := HK.out; simp only [intOf]; omega
      · obtain rfl : j = k := by omega
        clear hg
        go_wp2_with fail
        go_end0
        have hRl : rectL f t = R := HR.out.1
        have hnl : R.length = j := HR.out.2.1
        exact ⟨HG.out.tu, fun _ => ⟨rfl, by rw [hRl, hnl]; exact HG.out.ex⟩, fun h => absurd rfl h⟩
end Go.Proofs.YthcdkkmjnglmjaaGreatDoor

/- Package draw: Frame itself. -/
namespace Go.Proofs.YthcdkkmjnglmjaaGreatDoor
set_option linter.unusedSimpArgs false
set_option linter.unusedVariables false
open Go.RowKit Go.Shelf
attribute [local go_sem] Oper.semAt_some
set_option maxRecDepth 100000 in
set_option maxHeartbeats 1000000 in
theorem dFrame_any (c : ColT) (hc : okC c) (f t : PtT) (p : Nat) (C : CanT) (w : World) (hC : CanAt w p C) :
 Calls Tryz.prog 12 #[.pointer (some ⟨p, 0, none⟩), c.val, f.val, t.val] w (Drawn (errOf (drawnB f && drawnB t) 2) (frameK C (rectL f t) c (rectL f t).length) w) := by
 have HS := Lib.hid (St.start w)
 have HD := Lib.hid (fun E qf qt qb w1 (hb : Below w.heap.size w w1) hE h1 h2 h3 => dFrame1_any c hc f t E p qf qt qb C w1 hE (hC.below hb) h1 h2 h3)
 have hmf : ∀ (fn : Fn) (first cap : Array Value) (w : World), (Instr.makeFunc fn first cap).run Tryz.prog w = .ok (.func fn first cap) w := fun _ _ _ _ => rfl
 obtain ⟨S, hS⟩ : ∃ S, frameK C (rectL f t) c (rectL f t).length = S := ⟨_, rfl⟩
 obtain ⟨er, her⟩ : ∃ er, errOf (drawnB f && drawnB t) 2 = er := ⟨_, rfl⟩
 rw [hS, her] at HD ⊢
 unfold ColT.val PtT.val
 clear hC hc hS her
 go_enter Tryz.func12, Tryz.ntmps12
 repeat ((fail_if_success (with_reducible refine stop_at (id := 1) ?_)); (first | go_values | go_skip | go_guarded | go_step | go_upon | go_back | (simp only [Int.not_lt, Int.not_le] at *; go_simp) | (go_values <;> (try go_simp)) | (go_ite <;> go_prune <;> (try go_simp)) | (split <;> (first | (rename_i hx; exact (hx _ rfl).elim) | go_prune))))
 have hs_ := (((HS.out.alloc (.cells #[.int .u8 c.r, .int .u8 c.g, .int .u8 c.b, .int .u8 c.a] 34)).alloc (.cells #[.int .i64 f.x, .int .i64 f.y] 26)).alloc (.cells #[.int .i64 t.x, .int .i64 t.y] 26))
 obtain ⟨w1, hw_⟩ : ∃ w1 : World, (((w.alloc (.cells #[.int .u8 c.r, .int .u8 c.g, .int .u8 c.b, .int .u8 c.a] 34)).alloc (.cells #[.int .i64 f.x, .int .i64 f.y] 26)).alloc (.cells #[.int .i64 t.x, .int .i64 t.y] 26)) = w1 := ⟨_, rfl⟩
 rw [hw_] at hs_
 try simp only [World.size_alloc] at hs_
 have HS := Lib.hid hs_
 rw [hw_]
 clear hw_ hs_
 go_wp2_with fail
 refine (dTries_any 49 #[.pointer (some ⟨w.heap.size + 1, 0, none⟩), .pointer (some ⟨w.heap.size + 1 + 1, 0, none⟩), .pointer (some ⟨w.heap.size, 0, none⟩)] p er S w1 (fun _ _ => by simp [go_sem]) (fun w2 E hE hb hE2 => HD.out E (w.heap.size + 1) (w.heap.size + 1 + 1) w.heap.size w2 (HS.out.below hb).low hE2 ⟨(HS.out.below hb).blockAt 1 rfl⟩ ⟨(HS.out.below hb).blockAt 0 rfl⟩ ⟨(HS.out.below hb).blockAt 2 rfl⟩)).mono ?_
 intro e w3 h
 have HR := Lib.hid (h.of_below HS.out.low)
 clear h
 rcases Classical.em (er = 0) with h0 | h0
 · obtain ⟨d, rfl, -⟩ := HR.out.2.1 h0
   go_wp2_with fail
   refine bodyPost_ret (v := .tuple #[.pointer (some ⟨d, 0, none⟩), .int .i64 0]) (by simp [results, Tryz.results12, go_sem]) rfl HR.out
 · obtain rfl := HR.out.2.2 h0
   go_wp2_with fail
   refine bodyPost_ret (v := .tuple #[.pointer none, .int .i64 er]) (by simp [results, Tryz.results12, go_sem]) rfl HR.out
end Go.Proofs.YthcdkkmjnglmjaaGreatDoor

/- Layer 8: goes. -/
namespace Go.Proofs.YthcdkkmjnglmjaaGreatDoor
set_option linter.unusedSimpArgs false
set_option linter.unusedVariables false
open Go.RowKit Go.Shelf
attribute [local go_sem] Oper.semAt_some

end Go.Proofs.YthcdkkmjnglmjaaGreatDoor

/- Layer 8: of, tolerant, begun. -/
namespace Go.Proofs.YthcdkkmjnglmjaaGreatDoor
set_option linter.unusedSimpArgs false
set_option linter.unusedVariables false
open Go.RowKit Go.Shelf
attribute [local go_sem] Oper.semAt_some

end Go.Proofs.YthcdkkmjnglmjaaGreatDoor

/- Layer 8: gathered, for each closure. -/
namespace Go.Proofs.YthcdkkmjnglmjaaGreatDoor
set_option linter.unusedSimpArgs false
set_option linter.unusedVariables false
open Go.RowKit Go.Shelf
attribute [local go_sem] Oper.semAt_some

/-- Place k of a canvas W wide, row by row. -/
def ptK (W k : Nat) : PtT := ⟨((k % W : Nat) : Int), ((k / W : Nat) : Int)⟩
def gathL (W : Nat) (is : Nat → Bool) (k : Nat) : List PtT := ((List.range k).filter is).map (ptK W)
theorem ptK_at {W x y : Nat} (hx : x < W) : ptK W (y * W + x) = ⟨(x : Int), (y : Int)⟩ := by
 unfold ptK
 rw [show (y * W + x) % W = x by rw [Nat.add_comm, Nat.add_mul_mod_self_right]; exact Nat.mod_eq_of_lt hx, show (y * W + x) / W = y by rw [Nat.add_comm, Nat.add_mul_div_right _ _ (by omega), Nat.div_eq_of_lt hx]; omega]
/-- What gathered keeps behind k places. -/
structure GatS (y0 : World) (S : Nat) (W : Nat) (is : Nat → Bool) (Inv : Nat → World → Prop) (k : Nat) (v : Value) (x : World) : Prop where
 o : StO (cutW y0 S) [] y0.heap.size 26 2 encP v (gathL W is k) x
 inv : Inv k x
 tu : Turned (fun j => j = S) y0 x
 sl : S < y0.heap.size
theorem GatS.start {y0 : World} {S W : Nat} {is : Nat → Bool} {Inv : Nat → World → Prop} (hS : S < y0.heap.size) (h0 : Inv 0 y0) : GatS y0 S W is Inv 0 (.slice none 0 0) y0 :=
 ⟨StO.start (its := []) ⟨by rw [cutW_size (Nat.le_of_lt hS)]; exact cutW_below (Nat.le_of_lt hS), by simp, trivial, by simp⟩ _ _ _, h0, Turned.refl _ _, hS⟩
theorem GatS.oturn {y0 : World} {S W : Nat} {is : Nat → Bool} {Inv : Nat → World → Prop} {k : Nat} {v : Value} {x y : World} (h : GatS y0 S W is Inv k v x) (ht : Turned (fun j => j = S) x y) : StO (cutW y0 S) [] y0.heap.size 26 2 encP v (gathL W is k) y := by
 have hcz := cutW_size (Nat.le_of_lt h.sl)
 refine ⟨⟨?_, by simp, trivial, by simp⟩, ?_, h.o.low, by simp, Nat.le_trans h.o.hi ht.size⟩
 · have h1 := h.o.st.low
   rw [hcz] at h1 ⊢
   exact h1.trans (ht.below (by have := h1.size; rw [hcz] at this; exact this) (fun j hj => by rw [hj]; exact Nat.le_refl _))
 · refine ⟨h.o.row.1, ?_⟩
   rcases h.o.row.2 with h1 | ⟨g, cap, cur, e1, hg, hgg, rest⟩
   · exact .inl h1
   · exact .inr ⟨g, cap, cur, e1, hg, (ht.block g (block_lt hgg) (fun e => by have := h.sl; omega)).trans hgg, rest⟩
theorem GatS.turn {y0 : World} {S W : Nat} {is : Nat → Bool} {Inv : Nat → World → Prop} {k k' : Nat} {v : Value} {x y : World} (h : GatS y0 S W is Inv k v x) (ht : Turned (fun j => j = S) x y) (hi : Inv k' y) (hl : gathL W is k' = gathL W is k) : GatS y0 S W is Inv k' v y :=
 ⟨by rw [hl]; exact h.oturn ht, hi, (h.tu.trans ht).mono fun k _ hk => (by rcases hk with hk | hk <;> exact hk), h.sl⟩
theorem GatS.below {y0 : World} {S W : Nat} {is : Nat → Bool} {Inv : Nat → World → Prop} {k : Nat} {v : Value} {x y : World} (hloc : ∀ k wr wr', Inv k wr → (∀ j, j < y0.heap.size → wr'.heap[j]? = wr.heap[j]?) → Inv k wr') (h : GatS y0 S W is Inv k v x) (hb : Below x.heap.size x y) : GatS y0 S W is Inv k v y :=
 ⟨h.o.below hb, hloc k x y h.inv (fun j hj => hb.block j (Nat.lt_of_lt_of_le hj h.o.hi)), h.tu.belowT hb, h.sl⟩
end Go.Proofs.YthcdkkmjnglmjaaGreatDoor

/- Layer 5: the points of a canvas, told one by one. -/
namespace Go.Proofs.YthcdkkmjnglmjaaGreatDoor
set_option linter.unusedSimpArgs false
set_option linter.unusedVariables false
open Go.RowKit Go.Shelf
attribute [local go_sem] Oper.semAt_some

set_option maxRecDepth 100000 in
set_option maxHeartbeats 2000000 in
theorem points1_any (n : Nat) (hn : 1 ≤ n) (own : World → Nat → Prop) (N0 : Nat) (ho : OwnSt own N0) (L Bs : Nat) (bs : List Nat) (wi hi Wd Hd : Nat) (hwi : 8 * wi = Wd) (hhi : 8 * hi = Hd) (hw : wi ≤ 4) (hh : hi ≤ 4)
 (J Jx : List (Fin (Hd * Wd)) → World → Prop) (hJd : ∀ pre x y, J pre x → Below x.heap.size x y → J pre y) (hb1 : Bs ∈ bs)
 (hY : ∀ pre x W, J pre W → pre.length < Hd * Wd → YieldAt Fence.wide (n - 1) Tryz.prog L #[(ptK Wd x.1).val] W fun e W' =>
  (e = .returned (.bool true) ∧ J (pre ++ [x]) W' ∧ KO own bs N0 W W') ∨ (e = .returned (.bool false) ∧ Jx (pre ++ [x]) W'))
 (W : World) (hN : N0 ≤ W.heap.size) (hBs : ∀ c ∈ bs, c < W.heap.size) (hwf : ∀ q, own W q → q < W.heap.size) (hc0 : W.cell? ⟨Bs, 0, none⟩ = some (.int .i64 wi)) (hc1 : W.cell? ⟨Bs, 1, none⟩ = some (.int .i64 hi)) (h0 : J [] W) :
 CallsIn Fence.wide n Tryz.prog 106 #[.func (.yield L) #[] #[], .pointer (some ⟨Bs, 0, none⟩)] W fun e W' => (∃ v, e = .returned v) ∧
  ((∃ ys, ys = List.finRange (Hd * Wd) ∧ J ys W') ∨ (∃ pre, pre <+: List.finRange (Hd * Wd) ∧ Jx pre W')) := by
 have HY := Lib.hid hY
 have HD := Lib.hid (fun (p : Nat) (x y : World) (h : AllAt own bs N0 (Hd * Wd) J W p x) (hb : Below x.heap.size x y) => h.below ho hJd hN hBs hb)
 have HC : Hid (∀ wr, KeepsAt bs W wr → wr.cell? ⟨Bs, 0, none⟩ = some (.int .i64 wi) ∧ wr.cell? ⟨Bs, 1, none⟩ = some (.int .i64 hi)) := Lib.hid fun wr hk => ⟨cell_keepsAt hc0 hb1 hk, cell_keepsAt hc1 hb1 hk⟩
 have HA := Lib.hid (show AllAt own bs N0 (Hd * Wd) J W 0 W from ⟨h0, KO.refl _ _ _ _, hwf⟩)
 have HB := Lib.hid (show Wd ≤ 32 ∧ Hd ≤ 32 by omega)
 have HE := Lib.hid (show wrap64 (8 * (wi : Int)) = (Wd : Int) ∧ wrap64 (8 * (hi : Int)) = (Hd : Int) by unfold wrap64; omega)
 have c1 := (HC.out W (KeepsAt.refl _ _)).2
 have e1 := HE.out.2
 clear hY ho hJd hb1 hBs hc0 hc1 h0 hwf hN hwi hhi hw hh
 refine callsIn_of_wp Tryz.func106 rfl trivial ?_ rfl
 simp only [Tryz.ntmps106, List.size_toArray, List.length_cons, List.length_nil, Nat.reduceAdd, Nat.reduceSub, Array.replicate_succ, Array.replicate_zero, List.push_toArray, List.append_toArray, List.nil_append, List.cons_append]
 apply wpIn_scope
 gi_wp2
 apply wpIn_label
 gi_wp2; rw [HE.out.2]
 clear c1 e1
 gi_loopw [8] (fun i wr => ∃ k : Nat, k ≤ Hd ∧ i = .int .i64 k ∧ AllAt own bs N0 (Hd * Wd) J W (k * Wd) wr) (fun i _ => Hd - (intOf i).toNat)
 case atStart => exact ⟨0, by omega, rfl, by rw [Nat.zero_mul]; exact HA.out⟩
 case round =>
  obtain ⟨k, hk, rfl, ha⟩ := hrel
  clear HA
  have HA := Lib.hid ha
  clear ha
  by_cases hlt : k < Hd
  · have HLT := Lib.hid hlt
    have wk : wrap64 ((k : Int) + 1) = ((k + 1 : Nat) : Int) := by have := HB.out; unfold wrap64; omega
    have HWK := Lib.hid wk
    have c0 := (HC.out wr HA.out.ko.at_).1
    have e0 := HE.out.1
    clear wk
    gi_wp2; rw [HE.out.1]
    clear c0 e0 hlt hk
    gi_loopw [14] (fun x wi => ∃ i : Nat, i ≤ Wd ∧ x = .int .i64 (i : Int) ∧ AllAt own bs N0 (Hd * Wd) J W (k * Wd + i) wi) (fun x _ => Wd - (intOf x).toNat)
    case atStart => exact ⟨0, by omega, rfl, HA.out⟩
    case round =>
     obtain ⟨i, hi, rfl, ha⟩ := hrel
     clear HA
     have HA := Lib.hid ha
     clear ha
     by_cases hlt2 : i < Wd
     · have HLT2 := Lib.hid hlt2
       have wi1 : wrap64 ((i : Int) + 1) = ((i + 1 : Nat) : Int) := by have := HB.out; unfold wrap64; omega
       have HWI := Lib.hid wi1
       have hpl : k * Wd + i < Hd * Wd := by
        have h1 : (k + 1) * Wd ≤ Hd * Wd := Nat.mul_le_mul_right _ HLT.out
        rw [Nat.succ_mul] at h1
        omega
       obtain ⟨fn, tmps, assign, body, hy, hR⟩ := HY.out _ (⟨k * Wd + i, hpl⟩ : Fin (Hd * Wd)) wr HA.out.j (by rw [firsts_length (Nat.le_of_lt hpl)]; exact hpl)
       have he : ptK Wd (k * Wd + i) = ⟨(i : Int), (k : Int)⟩ := ptK_at hlt2
       simp only [he, PtT.val] at hy
       have hs := firsts_succ (N := Hd * Wd) (k := k * Wd + i) hpl
       rw [hs] at hR
       clear hs he hpl wi1 hi
       gi_wp2
       refine hR.mono ?_
       rintro e w4 (⟨rfl, hJ4, hk4⟩ | ⟨rfl, hJx⟩)
       · have HA4 := Lib.hid (show AllAt own bs N0 (Hd * Wd) J W (k * Wd + (i + 1)) w4 from ⟨hJ4, HA.out.ko.trans hk4, hk4.wf HA.out.wf⟩)
         clear hJ4 hk4
         gi_wp2
         go_roundw
         case rel => exact ⟨i + 1, HLT2.out, by first | exact congrArg (Value.int .i64) HWI.out | exact congrArg (Value.int .i64) (Int.natCast_succ i).symm, HA4.out⟩
         case measure => (try rw [HWI.out]); have := HLT2.out; simp only [intOf]; omega
       · have HJ3 := Lib.hid hJx
         clear hJx
         gi_wp2; rw [Exit.noGoto_normal]
         go_end0
         exact ⟨⟨_, rfl⟩, .inr ⟨_, firsts_prefix _ _, HJ3.out⟩⟩
     · have HN2 := Lib.hid (show k * Wd + i = (k + 1) * Wd by rw [Nat.succ_mul]; omega)
       clear hi
       gi_wp2
       go_roundw
       case rel => exact ⟨k + 1, HLT.out, by first | exact congrArg (Value.int .i64) HWK.out | exact congrArg (Value.int .i64) (Int.natCast_succ k).symm, by have := HA.out; rwa [HN2.out] at this⟩
       case measure => (try rw [HWK.out]); have := HLT.out; simp only [intOf]; omega
  · obtain rfl : k = Hd := by omega
    have HJ := Lib.hid (show J (List.finRange (k * Wd)) wr by have := HA.out.j; rwa [firsts_all] at this)
    clear hk hlt
    gi_wp2; rw [Exit.noGoto_normal]
    go_end0
    exact ⟨⟨_, rfl⟩, .inl ⟨_, rfl, HJ.out⟩⟩

theorem points_iter (own : World → Nat → Prop) (w : World) (ho : OwnSt own w.heap.size) (hwf : ∀ q, own w q → q < w.heap.size) (Bs : Nat) (bs : List Nat) (wi hi Wd Hd : Nat) (hwi : 8 * wi = Wd) (hhi : 8 * hi = Hd) (hw : wi ≤ 4) (hh : hi ≤ 4)
 (hbs : ∀ c ∈ bs, c < w.heap.size) (hb1 : Bs ∈ bs) (hc0 : w.cell? ⟨Bs, 0, none⟩ = some (.int .i64 wi)) (hc1 : w.cell? ⟨Bs, 1, none⟩ = some (.int .i64 hi)) :
 IterO Tryz.prog 106 #[.pointer (some ⟨Bs, 0, none⟩)] (Hd * Wd) (fun i => #[(ptK Wd i.1).val]) own bs w := by
 intro n hn1 L J Jx W hW hJ _ hY h0
 have e := ho w W (fun k hk => hW.block k hk)
 exact points1_any n hn1 own w.heap.size ho L Bs bs wi hi Wd Hd hwi hhi hw hh J Jx (fun pre x y h hb => hJ pre x y none h (below_grown hb) (by simp)) hb1 hY W hW.size (fun c hc => Nat.lt_of_lt_of_le (hbs c hc) hW.size) (fun q hq => Nat.lt_of_lt_of_le (hwf q ((e q).1 hq)) hW.size)
  ((hW.cell (p := ⟨Bs, 0, none⟩) (hbs Bs hb1)).trans hc0) ((hW.cell (p := ⟨Bs, 1, none⟩) (hbs Bs hb1)).trans hc1) h0

theorem points_cl (wi hi : Int) (w : World) :
 Calls Tryz.prog 79 #[.agg #[.int .i64 wi, .int .i64 hi]] w fun e w' => e = .returned (.func (.func 106) #[] #[.pointer (some ⟨w.heap.size, 0, none⟩)]) ∧ w.alloc (.cells #[.int .i64 wi, .int .i64 hi] 79) = w' := by
 go_enter Tryz.func79, Tryz.ntmps79
 go_wp2
 go_ret
 exact ⟨rfl, rfl⟩
end Go.Proofs.YthcdkkmjnglmjaaGreatDoor
