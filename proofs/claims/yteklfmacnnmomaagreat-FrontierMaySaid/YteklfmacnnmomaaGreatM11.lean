/- Merged texts: FrG FrH FrI FrJ FrK. -/
import Derived.Test.YteklfmacnnmomaaGreatM10
set_option linter.unusedSimpArgs false
set_option linter.unusedVariables false
/- Rows of numbers: slices.Equal, Contains, Clone. -/
namespace Go.Proofs.YteklfmacnnmomaaGreat
open Go.RowKit Go.Shelf
attribute [local go_sem] Oper.semAt_some
theorem rowZ : RowT Tryz.prog 30 3 1 8 := .of (z := .int .i64 0) Tryz.underlying30 (by kernel_rfl) rfl (by decide)
def encZ (y : Int) : List Value := [.int .i64 y]
theorem encZ_len (y : Int) : (encZ y).length = 1 := rfl
theorem encZ_one (y : Int) : ∀ u ∈ encZ y, u.oneCell' = true := by
 intro u hu
 simp [encZ] at hu
 subst hu
 rfl
theorem zCells {w : World} {a : Option Addr} {n cap : Nat} {l : List Int} (hn : l.length = n) (h : Elems w (.slice a n cap) n 1 (rowC encZ l)) (k : Nat) (x : Int) (hx : l[k]? = some x) :
 ∃ b off, a = some ⟨b, off, none⟩ ∧ b < w.heap.size ∧ w.cell? ⟨b, off + k, none⟩ = some (.int .i64 x) := by
 subst hn
 have hk := (List.getElem?_eq_some_iff.1 hx).1
 obtain ⟨e, h0⟩ | ⟨b, off, cap', e, hlt, hc⟩ := h
 · omega
 · cases e
   refine ⟨b, off, rfl, hlt, ?_⟩
   have h1 := rowElem (enc := encZ) encZ_len hc hx
   have h2 := h1 0 _ rfl
   simpa using h2
theorem infoZ : (Tryz.prog.info? 3).map (fun i => (i.zero, i.size, i.bytes)) = some (some (.int .i64 0), 1, 8) := by kernel_rfl
theorem lay_cloneZ : Go.Proofs.SlLaysE0.n41 Tryz.prog ⟨fun | 41 => 32 | n => n, fun | 22 => 30 | 23 => 3 | 4 => 4 | n => n, fun | n => n⟩ := {
 mixed := by kernel_rfl
 f41 := ⟨Tryz.f32.name, by decide, Tryz.func32.trans (congrArg some (by kernel_rfl))⟩
 t22 := Tryz.underlying30
 a22 := Tryz.isAgg30
 z22 := Tryz.sizeOf30
 v22 := Tryz.zeroValue30
 t4 := Tryz.underlying4
 a4 := Tryz.isAgg4
 z4 := Tryz.sizeOf4
 v4 := Tryz.zeroValue4 }
theorem cloneZ_any (sv : Value) (l : List Int) (w : World) (h : Elems w sv l.length 1 (rowC encZ l)) (hl : l.length ≤ 1000000000) :
 Calls Tryz.prog 32 #[sv] w (Cloned 3 1 l.length (l.flatMap encZ) sv w) := by
 obtain ⟨i0, hi, hz0, hz1, hz2⟩ := info_parts infoZ
 exact cloneRows lay_cloneZ i0 _ 1 8 hi hz0 hz1 hz2 rfl (by omega) Tryz.sizeOf3 encZ encZ_len encZ_one sv l w h hl (by omega)
theorem take_eq_succZ {l m : List Int} {k : Nat} {x y : Int} (h : l.take k = m.take k) (hx : l[k]? = some x) (hy : m[k]? = some y) : l.take (k + 1) = m.take (k + 1) ↔ x = y := by
 rw [List.take_add_one, List.take_add_one, hx, hy, h]
 simp
set_option maxRecDepth 100000 in
set_option maxHeartbeats 1000000 in
theorem eqZ_any (a1 a2 : Option Addr) (n m c d : Nat) (l k : List Int) (hl : l.length = n) (hk : k.length = m) (hn : n ≤ 1000000) (w : World) (h1 : Elems w (.slice a1 n c) n 1 (rowC encZ l)) (h2 : Elems w (.slice a2 m d) m 1 (rowC encZ k)) :
 Calls Tryz.prog 30 #[.slice a1 n c, .slice a2 m d] w (Gives (.bool (decide (l = k))) w) := by
 have HE := H7 (And.intro h1 h2)
 have HL := H7 (And.intro hl hk)
 have HS := H7 (St.start w)
 by_cases hnm : n = m
 · subst hnm
   clear h1 h2 hl hk
   go_enter Tryz.func30, Tryz.ntmps30
   go_wp2_with fail
   go_loopw [13] (fun i wr => ∃ j : Nat, j ≤ n ∧ i = .int .i64 (j : Int) ∧ l.take j = k.take j ∧ Below w.heap.size w wr) (fun i _ => n - (intOf i).toNat)
   case atStart => exact ⟨0, by omega, rfl, by simp, B7 _ _⟩
   case round =>
    obtain ⟨j, hj, rfl, ht, hb⟩ := hrel
    have HT := H7 ht
    have HB := H7 hb
    clear ht hb
    by_cases hlt : j < n
    · obtain ⟨x, hx⟩ : ∃ x, l[j]? = some x := ⟨_, List.getElem?_eq_getElem (by rw [HL.out.1]; exact hlt)⟩
      obtain ⟨y, hy⟩ : ∃ y, k[j]? = some y := ⟨_, List.getElem?_eq_getElem (by rw [HL.out.2]; exact hlt)⟩
      obtain ⟨b1, o1, rfl, hb1, hc1⟩ := zCells HL.out.1 HE.out.1 j x hx
      obtain ⟨b2, o2, rfl, hb2, hc2⟩ := zCells HL.out.2 HE.out.2 j y hy
      have HC1 := H7 (And.intro (Nat.lt_of_lt_of_le hb1 HB.out.size) ((HB.out.cell (p := ⟨b1, o1 + j, none⟩) hb1).trans hc1))
      have HC2 := H7 (And.intro (Nat.lt_of_lt_of_le hb2 HB.out.size) ((HB.out.cell (p := ⟨b2, o2 + j, none⟩) hb2).trans hc2))
      have HXY := H7 (And.intro hx hy)
      clear hb1 hc1 hb2 hc2 hx hy
      repeat ((fail_if_success (with_reducible refine stop_at (id := 6) ?_)); (first | go_values | go_skip | go_guarded | go_step | go_upon | go_back | (simp only [Int.not_lt, Int.not_le] at *; go_simp) | (go_values <;> (try go_simp)) | (go_ite <;> go_prune <;> (try go_simp)) | (split <;> (first | (rename_i hx; exact (hx _ rfl).elim) | go_prune))))
      refine (wpIn_wide (n := 0)).1 ?_
      apply w7v 9 (Rl := [(eqv _), (eqv _), (eqv _), (eqv _), (eqv _), (eqv _), (eqv _), (eqv _), (eqv _)]) (C := (fun x y => Below x.heap.size x y))
      case hm => kernel_rfl
      case hk => rfl
      case hCr => exact (fun _ => B7 _ _)
      case hCt => intro _ _ _; exact (fun h k => g7t h k)
      case hst => repeat (first | exact trivial | refine ⟨fun _ _ _ _ h => h, ?_⟩)
      case hfo => kernel_rfl
      case ht => kernel_rfl
      case hC0 => exact (g7d _)
      case hsteps =>
       refine ⟨?_, ?_, ?_, ?_, ?_, ?_, ?_, ?_, ?_, trivial⟩
       · intro a' w' hA hC hD; have s0 := hA.to 0 (by kernel_rfl) rfl; clear hA hD; refine o7p rfl ?_; intro K hK; gi_wp2; exact hK _ _ rfl (B7 _ _)
       · intro a' w' hA hC hD; have s5 := hA.to 5 (by kernel_rfl) rfl; clear hA hD; refine o7p rfl ?_; intro K hK; gi_wp2; exact hK _ _ rfl (B7 _ _)
       · intro a' w' hA hC hD; obtain ⟨u16, s16, rfl⟩ := hD ⟨0, .data⟩ (by simp) rfl _ rfl; obtain ⟨u17, s17, rfl⟩ := hD ⟨1, .data⟩ (by simp) rfl _ rfl; clear hA hD; refine o7p rfl ?_; intro K hK; gi_wp2; exact hK _ _ rfl (B7 _ _)
       · intro a' w' hA hC hD; obtain ⟨u18, s18, rfl⟩ := hD ⟨2, .data⟩ (by simp) rfl _ rfl
         have c1 := (hC.cell (p := ⟨b1, o1 + j, none⟩) HC1.out.1).trans HC1.out.2
         clear hA hD; refine o7p rfl ?_; intro K hK; gi_wp2; exact hK _ _ rfl (B7 _ _)
       · intro a' w' hA hC hD; have s1 := hA.to 1 (by kernel_rfl) rfl; clear hA hD; refine o7p rfl ?_; intro K hK; gi_wp2; exact hK _ _ rfl (B7 _ _)
       · intro a' w' hA hC hD; have s5 := hA.to 5 (by kernel_rfl) rfl; clear hA hD; refine o7p rfl ?_; intro K hK; gi_wp2; exact hK _ _ rfl (B7 _ _)
       · intro a' w' hA hC hD; obtain ⟨u20, s20, rfl⟩ := hD ⟨4, .data⟩ (by simp) rfl _ rfl; obtain ⟨u21, s21, rfl⟩ := hD ⟨5, .data⟩ (by simp) rfl _ rfl; clear hA hD; refine o7p rfl ?_; intro K hK; gi_wp2; exact hK _ _ rfl (B7 _ _)
       · intro a' w' hA hC hD; obtain ⟨u22, s22, rfl⟩ := hD ⟨6, .data⟩ (by simp) rfl _ rfl
         have c2 := (hC.cell (p := ⟨b2, o2 + j, none⟩) HC2.out.1).trans HC2.out.2
         clear hA hD; refine o7p rfl ?_; intro K hK; gi_wp2; exact hK _ _ rfl (B7 _ _)
       · intro a' w' hA hC hD; obtain ⟨u19, s19, rfl⟩ := hD ⟨3, .data⟩ (by simp) rfl _ rfl; obtain ⟨u23, s23, rfl⟩ := hD ⟨7, .data⟩ (by simp) rfl _ rfl; clear hA hD; refine o7p rfl ?_; intro K hK; gi_wp2; exact hK _ _ rfl (B7 _ _)
      case hend =>
       intro w2 hC
       simp only [EndFrom, eqv, forall_eq, Act.put, List.length_cons, List.length_nil, List.drop_succ_cons, List.drop_zero, Nat.reduceAdd, List.setIfInBounds_toArray, List.set_cons_succ, List.set_cons_zero]
       have HB2 := H7 (HB.out.trans (hC.mono HB.out.size))
       clear hC
       by_cases hxy : x = y
       · have HQ := H7 ((take_eq_succZ HT.out HXY.out.1 HXY.out.2).2 hxy)
         gi_wp2_with fail
         go_wp2_with fail
         go_roundw
         case rel => exact ⟨j + 1, hlt, by simp, HQ.out, HB2.out⟩
         case measure => simp [intOf]; omega
       · have HQ := H7 (show ¬ l = k from fun e => hxy (by have h1 := HXY.out.1; rw [e, HXY.out.2] at h1; exact (Option.some.inj h1).symm))
         gi_wp2_with fail
         go_wp2_with fail
         go_ret
         exact ⟨ret_bool (by symm; exact decide_eq_false HQ.out), HB2.out⟩
    · obtain rfl : j = n := by omega
      have HQ := H7 (show l = k by
       have h := HT.out
       rw [List.take_of_length_le (Nat.le_of_eq HL.out.1), List.take_of_length_le (Nat.le_of_eq HL.out.2)] at h
       exact h)
      go_wp2_with fail
      go_ret
      exact ⟨ret_bool (by symm; exact decide_eq_true HQ.out), HB.out⟩
 · have hne : ¬ l = k := fun e => hnm (by rw [← hl, ← hk, e])
   have HQ := H7 hne
   have hnm' : ¬ (n : Int) = (m : Int) := by omega
   clear h1 h2 hl hk hne
   go_enter Tryz.func30, Tryz.ntmps30
   go_wp2_with fail
   go_ret
   exact ⟨ret_bool (by symm; exact decide_eq_false HQ.out), B7 _ _⟩
set_option maxRecDepth 100000 in
set_option maxHeartbeats 1000000 in
theorem idxZ_any (a1 : Option Addr) (n c : Nat) (l : List Int) (x : Int) (hl : l.length = n) (hn : n ≤ 1000000) (w : World) (h1 : Elems w (.slice a1 n c) n 1 (rowC encZ l)) :
 Calls Tryz.prog 61 #[.slice a1 n c, .int .i64 x] w fun e w' => ∃ i : Int, e = .returned (.int .i64 i) ∧ Below w.heap.size w w' ∧ decide (i ≥ 0) = decide (x ∈ l) := by
 have HE := H7 h1
 have HL := H7 hl
 have HS := H7 (St.start w)
 clear h1 hl
 go_enter Tryz.func61, Tryz.ntmps61
 repeat ((fail_if_success (with_reducible refine stop_at (id := 2) ?_)); (first | go_values | go_skip | go_guarded | go_step | go_upon | go_back | (simp only [Int.not_lt, Int.not_le] at *; go_simp) | (go_values <;> (try go_simp)) | (go_ite <;> go_prune <;> (try go_simp)) | (split <;> (first | (rename_i hx; exact (hx _ rfl).elim) | go_prune))))
 go_wp2_with fail
 go_loopw [8] (fun i wr => ∃ j : Nat, j ≤ n ∧ i = .int .i64 (j : Int) ∧ (¬ x ∈ l.take j) ∧ Below w.heap.size w wr) (fun i _ => n - (intOf i).toNat)
 case atStart => exact ⟨0, by omega, rfl, by simp, B7 _ _⟩
 case round =>
  obtain ⟨j, hj, rfl, ht, hb⟩ := hrel
  have HT := H7 ht
  have HB := H7 hb
  clear ht hb
  by_cases hlt : j < n
  · obtain ⟨y, hy⟩ : ∃ y, l[j]? = some y := ⟨_, List.getElem?_eq_getElem (by rw [HL.out]; exact hlt)⟩
    obtain ⟨b1, o1, rfl, hb1, hc1⟩ := zCells HL.out HE.out j y hy
    have c1 := (HB.out.cell (p := ⟨b1, o1 + j, none⟩) hb1).trans hc1
    have HY := H7 hy
    clear hb1 hc1 hy
    by_cases hxy : x = y
    · have e1 : (x == y) = true := beq_iff_eq.2 hxy
      have HQ := H7 (show x ∈ l from hxy ▸ List.mem_of_getElem? HY.out)
      clear hxy
      go_wp2_with fail
      go_ret
      exact ⟨(j : Int), rfl, HB.out, by rw [decide_eq_true HQ.out]; simp⟩
    · have e1 : (x == y) = false := beq_eq_false_iff_ne.2 hxy
      have HQ := H7 (show ¬ x ∈ l.take (j + 1) from fun h => by
       rw [List.take_add_one, HY.out, List.mem_append] at h
       rcases h with h | h
       · exact HT.out h
       · exact hxy (by simpa using h))
      clear hxy
      go_wp2_with fail
      go_roundw
      case rel => exact ⟨j + 1, hlt, by simp, HQ.out, HB.out⟩
      case measure => simp [intOf]; omega
  · obtain rfl : j = n := by omega
    have HQ := H7 (show ¬ x ∈ l from fun h => HT.out (by rw [List.take_of_length_le (Nat.le_of_eq HL.out)]; exact h))
    go_wp2_with fail
    go_ret
    exact ⟨-1, rfl, HB.out, by rw [decide_eq_false HQ.out]; rfl⟩
theorem conZ_any (a1 : Option Addr) (n c : Nat) (l : List Int) (x : Int) (hl : l.length = n) (hn : n ≤ 1000000) (w : World) (h1 : Elems w (.slice a1 n c) n 1 (rowC encZ l)) :
 Calls Tryz.prog 33 #[.slice a1 n c, .int .i64 x] w (Gives (.bool (decide (x ∈ l))) w) := by
 have HI := H7 (fun w' (hb : Below w.heap.size w w') => idxZ_any a1 n c l x hl hn w' (h1.below hb))
 obtain ⟨r, hr⟩ : ∃ r, decide (x ∈ l) = r := ⟨_, rfl⟩
 rw [hr] at HI ⊢
 clear hr h1
 go_enter Tryz.func33, Tryz.ntmps33
 go_wp2_with fail
 refine (HI.out _ (B7 _ _)).mono ?_
 rintro e w2 ⟨i, rfl, hb, hi⟩
 have HB := H7 hb
 clear hb
 go_wp2_with fail
 go_ret
 exact ⟨rfl, HB.out⟩
/- Layer 18: all. -/
def natI (l : List Nat) : List Int := l.map fun k : Nat => (k : Int)
theorem natI_snoc (l : List Nat) (k : Nat) : natI (l ++ [k]) = natI l ++ [(k : Int)] := by simp [natI]
theorem natI_len (l : List Nat) : (natI l).length = l.length := by simp [natI]
theorem regN_all (f : Frt) : (List.finRange (regL f).length).map (regN f) = regL f := by
 refine List.ext_getElem (by simp) fun i h1 h2 => ?_
 simp [regN]
theorem regL_len (f : Frt) : (regL f).length ≤ 9 := by
 unfold regL
 refine Nat.le_trans (List.length_filter_le _ _) ?_
 simp
set_option maxRecDepth 100000 in
set_option maxHeartbeats 2000000 in
theorem frAll_any (f : Frt) (w : World) : Calls Tryz.prog 58 #[.agg f.cells] w (GivesRow 3 1 (regL f).length ((natI (regL f)).flatMap encZ) w) := by
 refine (callsIn_wide (n := 10)).1 ?_
 refine callsIn_of_wp_marks Tryz.func58 rfl trivial ?_ rfl
 simp only [Tryz.ntmps58, List.size_toArray, List.length_cons, List.length_nil, Nat.reduceAdd, Nat.reduceSub, Array.replicate_succ, Array.replicate_zero, List.push_toArray, List.append_toArray, List.nil_append, List.cons_append]
 have HS := H7 (St.start w)
 repeat ((fail_if_success (with_reducible refine stop_atI (id := 2) ?_)); (first | go_values | gi_guarded | gi_step | gi_upon | gi_back | (simp only [Int.not_lt, Int.not_le] at *; go_simp) | (go_values <;> (try go_simp)) | (go_ite <;> go_prune <;> (try go_simp)) | (split <;> (first | (rename_i hx; exact (hx _ rfl).elim) | go_prune))))
 have hs_ := ((HS.out.alloc (.cells f.cells 29)).alloc (.cells #[.slice none 0 0] 30))
 obtain ⟨w1, hw_⟩ : ∃ w1 : World, ((w.alloc (.cells f.cells 29)).alloc (.cells #[.slice none 0 0] 30)) = w1 := ⟨_, rfl⟩
 rw [hw_] at hs_
 try simp only [World.size_alloc] at hs_
 have HS := H7 hs_
 rw [hw_]
 clear hw_ hs_
 repeat (first | (refine ldF _ rfl rfl (HS.out.blockAt 1 rfl) ?_; simp only [Act.put, List.setIfInBounds_toArray, List.set_cons_succ, List.set_cons_zero]) | gi_step)
 refine (callsIn_wide.2 (registered_any f _)).mono ?_
 rintro e w2 ⟨rfl, rfl⟩
 gi_wp2_with fail
 have hs_ := HS.out.alloc (.cells f.cells 29 (0, 0))
 have hz := HS.out.lt 0 rfl
 obtain ⟨g, hg⟩ : ∃ g, w1.heap.size = g := ⟨_, rfl⟩
 obtain ⟨w3, hw3⟩ : ∃ w3, w1.alloc (.cells f.cells 29) = w3 := ⟨_, rfl⟩
 have hz3 : w3.heap.size = g + 1 := by rw [← hw3, ← hg]; simp
 rw [hg] at hs_ hz ⊢
 rw [hw3] at hs_ ⊢
 have HS := H7 hs_
 have HZ := H7 (And.intro hz hz3)
 clear hs_ hw3 hg hz hz3
 have hbx : BoxS w [.blk w.heap.size (.cells f.cells 29 (0, 0))] w3.heap.size (w.heap.size + 1) 30 3 1 encZ (.slice none 0 0) [] w3 :=
  ⟨StO.start HS.out.tl.tl _ _ _, HS.out.blockAt 1 rfl, by intro i hi; rw [List.mem_singleton.1 hi]; simp [It.top], by have := HZ.out; omega⟩
 have HBX := H7 hbx
 clear hbx
 refine range_iterF (gf := 87) (lb := #[.pointer (some ⟨g, 0, none⟩)]) (w0 := w3)
  (reg_iter g f _ (HS.out.blockAt 0 rfl)) (by omega) rfl (enters_of Tryz.func87 (by kernel_rfl) rfl) (by intro c hc; cases hc) (B7 _ _) (fun _ => rfl)
  (fun x => [(7, .int .i64 ((regN f x : Nat) : Int)), (8, .agg (f.site (regN f x)).cells)]) (fun _ => by simp [regArgs])
  (fun pre W => ∃ v, BoxS w [.blk w.heap.size (.cells f.cells 29 (0, 0))] w3.heap.size (w.heap.size + 1) 30 3 1 encZ v (natI (pre.map (regN f))) W)
  (fun _ _ _ => False)
  (ownFrom_BoxS (its := [.blk w.heap.size (.cells f.cells 29 (0, 0))]) _ HS.out.low.size (fun b o hb => by cases List.mem_singleton.1 hb; rfl))
  (fun c => ownFrom_pure _ _)
  ⟨_, HBX.out⟩
  (fun x a' W => a' = ⟨#[.agg f.cells, .pointer (some ⟨w.heap.size, 0, none⟩), .slice none 0 0, .pointer (some ⟨w.heap.size + 1, 0, none⟩), .int .i64 ((regN f x : Nat) : Int), .agg f.cells, .func (.func 87) #[] #[.pointer (some ⟨g, 0, none⟩)], .int .i64 ((regN f x : Nat) : Int), .agg (f.site (regN f x)).cells, undef, undef, undef, undef, undef], []⟩)
  ?hAx ?assign ?body ?done ?stop
 case hAx =>
  rintro x a' s X Y row e hg hr
  exact e
 case assign =>
  rintro l pre x W K hI hK
  simp only [loopAct, List.foldl, List.cons_append, List.nil_append] at hK ⊢
  have HK := H7 hK
  have HI := H7 hI
  clear hK hI
  gi_wp2_with fail
  exact HK.out _ _ (keepsFrom_belowF (B7 _ _)) (fun b h => by cases h) HI.out rfl
 case body =>
  rintro l pre x a' W ⟨v, hI⟩ rfl hlt
  have hn0 : (natI (pre.map (regN f))).length ≤ 9 := by rw [natI_len, List.length_map]; have := regL_len f; omega
  have hsn : natI ((pre ++ [x]).map (regN f)) = natI (pre.map (regN f)) ++ [(regN f x : Int)] := by rw [List.map_append, List.map_singleton, natI_snoc]
  generalize natI (pre.map (regN f)) = L0 at hI hn0 hsn
  have HSN := H7 hsn
  clear hsn
  obtain ⟨n0, hn⟩ : ∃ n0, L0.length = n0 := ⟨_, rfl⟩
  have HN := H7 (And.intro hn (show n0 ≤ 9 from hn ▸ hn0))
  have HBX := H7 hI
  have f6 := c7b (k := 0) hI.at_ rfl
  clear hI hn hn0
  gi_wp2_with (gi_at_builtin; refine wpListIn_app1l rowZ encZ_len encZ_one HBX.out.o (B7 _ _) (regN f x : Int) n0 HN.out.1 (by have := HN.out.2; omega) (by decide) _ _ rfl rfl rfl _ rfl (by rfl) ?_; intro v' W3 ho3 hsh hg3 hl3; obtain ⟨ad3, cp3, rfl⟩ := hsh; have c3 := c7b (k := 0) ((hg3.block _ (b7t HBX.out.at_) (fun e => HBX.out.nb e.symm)).trans HBX.out.at_) rfl; have f3 := f7b ((hg3.block _ (b7t HBX.out.at_) (fun e => HBX.out.nb e.symm)).trans HBX.out.at_) 0; have HO3 := H7 ho3; have HG3 := H7 hg3; have HL3 := H7 hl3; clear ho3 hg3 hl3)
  exact ⟨HBX.out.keepsFrom (B7 _ _) HG3.out, (fun b h => by cases h), _, by rw [HSN.out]; exact HBX.out.push (B7 _ _) HO3.out HG3.out⟩
 case done =>
  rintro D W hD ⟨v, hI⟩ hK
  rw [regN_all] at hI
  obtain ⟨ad, cap, rfl, -⟩ := hI.o.shape
  have c6 := c7b (k := 0) hI.at_ rfl
  have HI := H7 hI
  have HK := H7 hK
  have HDD := H7 (show w.heap.size ≤ D by have := HZ.out; omega)
  clear hI hK hD
  gi_wp2_with fail
  refine ret_marked rfl HK.out (v := .slice ad (natI (regL f)).length cap) (by simp [results, Tryz.results58, go_sem]) ⟨_, rfl, ?_, below_putObj HI.out.o.st.low HK.out HDD.out _⟩
  rw [← natI_len]
  refine ownsRow_mono (HI.out.o.row.kept (grownBy_putObj' W D _) ?_) HS.out.low.size
  cases hv : (Value.slice ad (natI (regL f)).length cap).ownBlock with
  | none => exact .inl rfl
  | some b =>
   refine .inr fun e => ?_
   obtain ⟨cs, fr, h1⟩ := ownsRow_typed HI.out.o.row b hv
   cases e
   rw [HK.out] at h1
   cases h1
 case stop =>
  rintro D c pre W hD _ hx hK
  exact hx.elim
/- Layer 18: sifted. -/
theorem filter_take {q : Int → Bool} {l : List Int} {j : Nat} {x : Int} (h : l[j]? = some x) : (l.take (j + 1)).filter q = (l.take j).filter q ++ if q x = true then [x] else [] := by
 rw [List.take_add_one, h, List.filter_append]
 by_cases hq : q x = true
 · simp [hq]
 · simp [hq]
set_option maxRecDepth 100000 in
set_option maxHeartbeats 2000000 in
theorem sifted_any (g : Nat) (caps : Array Value) (q : Int → Bool) (hg : ∀ args w, (callFunc g args).run Tryz.prog w = .ok (.enter g args) w) (a : Option Addr) (n c : Nat) (l : List Int) (hl : l.length = n) (hn : n ≤ 1000000) (w : World) (h1 : Elems w (.slice a n c) n 1 (rowC encZ l))
 (hq : ∀ x w', x ∈ l → Below w.heap.size w w' → Calls Tryz.prog g (#[.int .i64 x] ++ caps) w' (Gives (.bool (q x)) w')) :
 Calls Tryz.prog 57 #[.slice a n c, .func (.func g) #[] caps] w (GivesRow 3 1 (l.filter q).length ((l.filter q).flatMap encZ) w) := by
 have HE := H7 h1
 have HL := H7 hl
 have HQ := H7 hq
 have HG := H7 hg
 clear h1 hl hq hg
 go_enter Tryz.func57, Tryz.ntmps57
 repeat ((fail_if_success (with_reducible refine stop_at (id := 3) ?_)); (first | go_values | go_skip | go_guarded | go_step | go_upon | go_back | (simp only [Int.not_lt, Int.not_le] at *; go_simp) | (go_values <;> (try go_simp)) | (go_ite <;> go_prune <;> (try go_simp)) | (split <;> (first | (rename_i hx; exact (hx _ rfl).elim) | go_prune))))
 go_wp2_with fail
 go_loopw [10, 5] (fun i v wr => ∃ j : Nat, j ≤ n ∧ i = .int .i64 (j : Int) ∧ StO w [] w.heap.size 3 1 encZ v ((l.take j).filter q) wr) (fun i _ _ => n - (intOf i).toNat)
 case atStart => exact ⟨0, by omega, rfl, StO.start (St.start w) _ _ _⟩
 case round =>
  obtain ⟨j, hj, rfl, ho⟩ := hrel
  have HO := H7 ho
  clear ho
  by_cases hlt : j < n
  · obtain ⟨y, hy⟩ : ∃ y, l[j]? = some y := ⟨_, List.getElem?_eq_getElem (by rw [HL.out]; exact hlt)⟩
    obtain ⟨b1, o1, rfl, hb1, hc1⟩ := zCells HL.out HE.out j y hy
    have c1 := (HO.out.st.low.cell (p := ⟨b1, o1 + j, none⟩) hb1).trans hc1
    have HLT := H7 hlt
    have HC := H7 (HQ.out y _ (List.mem_of_getElem? hy) HO.out.st.low)
    have hft := filter_take (q := q) hy
    obtain ⟨n0, hn0⟩ : ∃ n0, ((l.take j).filter q).length = n0 := ⟨_, rfl⟩
    have HN := H7 (And.intro hn0 (show n0 ≤ 1000000 by
     have h1 := List.length_filter_le q (l.take j)
     rw [List.length_take] at h1
     omega))
    generalize (l.take j).filter q = L0 at hft hn0 HO HN
    have HFT := H7 hft
    have hgo := HG.out
    clear hb1 hc1 hy hft hn0
    repeat ((fail_if_success (with_reducible refine stop_at (id := 4) ?_)); (first | go_values | go_skip | go_guarded | go_step | go_upon | go_back | (simp only [Int.not_lt, Int.not_le] at *; go_simp) | (go_values <;> (try go_simp)) | (go_ite <;> go_prune <;> (try go_simp)) | (split <;> (first | (rename_i hx; exact (hx _ rfl).elim) | go_prune))))
    go_wp2_with fail
    clear c1
    refine HC.out.mono ?_
    rintro e w2 ⟨rfl, hb⟩
    have HB := H7 hb
    clear hb hgo HC
    cases hqy : q y with
    | false =>
     have HT := H7 (show (l.take (j + 1)).filter q = L0 from by rw [HFT.out, if_neg (by rw [hqy]; simp), List.append_nil])
     clear hqy
     have hlt := HLT.out
     go_wp2_with fail
     go_roundw
     case rel => exact ⟨j + 1, hlt, by simp, by rw [HT.out]; exact HO.out.below HB.out⟩
     case measure => simp [intOf]; omega
    | true =>
     have HT := H7 (show (l.take (j + 1)).filter q = L0 ++ [y] from by rw [HFT.out, if_pos hqy])
     clear hqy
     have hlt := HLT.out
     go_wp2_with (at_builtin; refine wpList_app1l rowZ encZ_len encZ_one HO.out HB.out y n0 HN.out.1 (by have := HN.out.2; omega) (by decide) _ _ rfl rfl rfl _ rfl (by rfl) ?_; intro v' W3 ho3 hsh hg3 hl3; obtain ⟨ad3, cp3, rfl⟩ := hsh; have HO3 := H7 ho3; clear ho3 hg3 hl3)
     go_roundw
     case rel => exact ⟨j + 1, hlt, by simp, by rw [HT.out]; exact HO3.out⟩
     case measure => simp [intOf]; omega
  · obtain rfl : j = n := by omega
    have hft : (l.take j).filter q = l.filter q := by rw [List.take_of_length_le (Nat.le_of_eq HL.out)]
    rw [hft] at HO
    obtain ⟨ad, cap, rfl, -⟩ := HO.out.shape
    clear hft
    go_wp2_with fail
    go_ret
    exact ⟨_, rfl, HO.out.row, HO.out.st.low⟩
/- Layer 18: tries. -/
/-- It panics with an error's number. -/
def PanicF (x : Int) (e : Ending) : Prop := e = .panicked [{ v := .iface 34 (.int .i64 x), recovered := false }]
/-- How a closure ends that changes a frontier in block b. -/
def EndsF (b : Nat) (f' : Frt) (er : Int) (w : World) (e : Ending) (w' : World) : Prop :=
 Turned (fun j => j = b) w w' ∧ (er = 0 → e = .returned (.tuple #[]) ∧ w'.heap[b]? = some (.cells f'.cells 85 (0, 0))) ∧ (er ≠ 0 → PanicF er e)
def trE (f : Frt) (er : Int) : Int := if f.okB = true then er else 280
def trF (f f' : Frt) (er : Int) : Frt := if trE f er = 0 then f' else frZ
theorem zeroF : Tryz.zeroCells29 = frZ.cells := by kernel_rfl
theorem built_line (f : Frt) : Tryz.prog.built 85 [(0, .agg f.cells)] = some f.cells := built_one' (n := 119) (by kernel_rfl) Tryz.underlying85 (by kernel_rfl) f.size
theorem bdL (x : Operand) {F : Fence} {n : Nat} {w : World} {o : Oper} {a : Act} {K : Act → World → Prop} {Q : Exit → Act → World → Prop} (ho : o.op = .build 85 #[(0, x)]) {f : Frt} (hx : a.eval x = .agg f.cells) (hK : K (a.put o.dst (.agg f.cells)) w) : o.wpIn F n Tryz.prog a w K Q :=
 opIn_build _ _ ho _ (by simp only [List.map_toArray, List.map_cons, List.map_nil, hx]; exact built_line f) hK
set_option maxRecDepth 100000 in
set_option maxHeartbeats 1000000 in
theorem frCatch_panicking (p q : Nat) (hpq : p ≠ q) (f0 : Frt) (y x : Int) (older : List PanicEntry) (w : World) (hp : w.heap[p]? = some (.cells f0.cells 29 (0, 0))) (hq : w.heap[q]? = some (.cells #[.int .i64 y] 34 (0, 0))) :
 CallsD Tryz.prog 64 #[.pointer (some ⟨p, 0, none⟩), .pointer (some ⟨q, 0, none⟩)] (.panicking ({ v := .iface 34 (.int .i64 x), recovered := false } :: older)) w fun e u' w' =>
  e = .returned (.tuple #[]) ∧ u' = .panicking ({ v := .iface 34 (.int .i64 x), recovered := true } :: older) ∧ w' = (w.setRow p frZ.cells).setCell ⟨q, 0, none⟩ (.int .i64 x) := by
 have dq := c7b (k := 0) hq rfl
 have fq := f7b hq 0
 have lq := b7t hq
 have Hq := H7 hq
 have Hp := H7 hp
 have hqp : ¬ q = p := fun e => hpq e.symm
 have dq' := c7b (k := 0) ((setRow_other w p q frZ.cells hqp).trans hq) rfl
 have fq' := f7b ((setRow_other w p q frZ.cells hqp).trans hq) 0
 clear hq hp
 refine callsD_of_wpS Tryz.func64 rfl fun c₀ cs hu => ?_
 simp only [Tryz.ntmps64, List.size_toArray, List.length_cons, List.length_nil, Nat.reduceAdd, Nat.reduceSub, Array.replicate_succ, Array.replicate_zero, List.push_toArray, List.append_toArray, List.nil_append, List.cons_append]
 apply wpS_seq
 apply wpS_region
 simp [wpOpsS, go_sem, recoverD, hu, Exit.thenS]
 refine wpS_of_wp ?_
 have hta : ∀ w, (Instr.typeAssert (.iface 34 (.int .i64 x)) 20 34 true).run Tryz.prog w = .ok (.tuple #[.int .i64 x, .bool true]) w := fun _ => by kernel_rfl
 repeat ((fail_if_success (with_reducible refine stop_at (id := 5) ?_)); (first | go_values | go_skip | go_guarded | go_step | go_upon | go_back | (simp only [Int.not_lt, Int.not_le] at *; go_simp) | (go_values <;> (try go_simp)) | (go_ite <;> go_prune <;> (try go_simp)) | (split <;> (first | (rename_i hx; exact (hx _ rfl).elim) | go_prune))))
 refine (wpIn_wide (n := 0)).1 ?_
 repeat (first | (refine bdF _ rfl rfl ?_; simp only [Act.put, List.setIfInBounds_toArray, List.set_cons_succ, List.set_cons_zero]) | (refine stF _ _ rfl rfl Hp.out rfl rfl ?_; simp only [Act.put, List.setIfInBounds_toArray, List.set_cons_succ, List.set_cons_zero]) | gi_step)
 gi_wp2_with fail
 exact ⟨rfl, _, rfl, _, results_none rfl _ _ _, rfl, rfl, rfl⟩
theorem frCatch_idle (p q : Addr) (w : World) :
 CallsD Tryz.prog 64 #[.pointer (some p), .pointer (some q)] .returning w fun e u' w' => e = .returned (.tuple #[]) ∧ u' = .returning ∧ w = w' := by
 refine callsD_of_wpS Tryz.func64 rfl fun c₀ cs hu => ?_
 simp only [Tryz.ntmps64, List.size_toArray, List.length_cons, List.length_nil, Nat.reduceAdd, Nat.reduceSub, Array.replicate_succ, Array.replicate_zero, List.push_toArray, List.append_toArray, List.nil_append, List.cons_append]
 apply wpS_seq
 apply wpS_region
 simp [wpOpsS, go_sem, recoverD, hu, Exit.thenS]
 refine wpS_of_wp ?_
 go_wp2
 exact ⟨rfl, c₀.mode, rfl, _, results_none rfl _ _ _, rfl, hu, rfl⟩
theorem frOut0 {w w2 : World} {f0 : Frt} {y : Int} {P Q : Nat} (hlow : Below w.heap.size w w2) (hp : w2.heap[P]? = some (.cells f0.cells 29 (0, 0))) (hq : w2.heap[Q]? = some (.cells #[.int .i64 y] 34 (0, 0))) (tmps : Array Value) (h4 : tmps.getD 4 undef = .pointer (some ⟨P, 0, none⟩)) (h5 : tmps.getD 5 undef = .pointer (some ⟨Q, 0, none⟩)) :
 ∃ v, (results Tryz.f39 tmps).run Tryz.prog w2 = .ok v w2 ∧ Gives (.tuple #[.agg f0.cells, .int .i64 y]) w (.returned v) w2 := by
 have d0 := c7b (k := 0) hq rfl
 exact ⟨_, resCell rfl h4 h5 hp Tryz.underlying29 rfl (size_F f0) (v := .int .i64 y) (by simp [go_sem, d0, Tryz.isAgg34]), rfl, hlow⟩
theorem frOut {w w2 : World} {f0 : Frt} {y : Int} (hlow : Below w.heap.size w w2) (hp : w2.heap[w.heap.size + 1]? = some (.cells f0.cells 29 (0, 0))) (hq : w2.heap[w.heap.size + 1 + 1]? = some (.cells #[.int .i64 y] 34 (0, 0))) (x : Int) {tmps : Array Value} (h4 : tmps.getD 4 undef = .pointer (some ⟨w.heap.size + 1, 0, none⟩)) (h5 : tmps.getD 5 undef = .pointer (some ⟨w.heap.size + 1 + 1, 0, none⟩)) :
 ∃ v, (results Tryz.f39 tmps).run Tryz.prog ((w2.setRow (w.heap.size + 1) frZ.cells).setCell ⟨w.heap.size + 1 + 1, 0, none⟩ (.int .i64 x)) = .ok v ((w2.setRow (w.heap.size + 1) frZ.cells).setCell ⟨w.heap.size + 1 + 1, 0, none⟩ (.int .i64 x)) ∧
  Gives (.tuple #[.agg frZ.cells, .int .i64 x]) w (.returned v) ((w2.setRow (w.heap.size + 1) frZ.cells).setCell ⟨w.heap.size + 1 + 1, 0, none⟩ (.int .i64 x)) := by
 have hs := setRow_heap w2 (w.heap.size + 1) f0.cells frZ.cells _ _ hp
 have hq2 := (setRow_other w2 (w.heap.size + 1) (w.heap.size + 1 + 1) frZ.cells (by omega)).trans hq
 refine frOut0 ?_ (h7o hs (by omega) _) (h7s hq2 _) tmps h4 h5
 have h1 : Below w.heap.size w (w2.setRow (w.heap.size + 1) frZ.cells) := hlow.trans ⟨rfl, rfl, rfl, by simp, fun k hk => setRow_other _ _ _ _ (by omega)⟩
 exact h1.setCell (p := ⟨w.heap.size + 1 + 1, 0, none⟩) (by simp; omega) _
set_option maxRecDepth 100000 in
set_option maxHeartbeats 2000000 in
theorem frTries_any (g : Nat) (caps : Array Value) (f f' : Frt) (er : Int) (w : World) (hg : ∀ args w, (callFunc g args).run Tryz.prog w = .ok (.enter g args) w)
 (h : f.okB = true → ∀ (w1 : World) (b : Nat), Below w.heap.size w w1 → w.heap.size ≤ b → w1.heap[b]? = some (.cells f.cells 85 (0, 0)) → Calls Tryz.prog g (#[.pointer (some ⟨b, 0, none⟩)] ++ caps) w1 (EndsF b f' er w1)) :
 Calls Tryz.prog 39 #[.agg f.cells, .func (.func g) #[] caps] w (Gives (.tuple #[.agg (trF f f' er).cells, .int .i64 (trE f er)]) w) := by
 have hmf : ∀ (fn : Fn) (first cap : Array Value) (w : World), (Instr.makeFunc fn first cap).run Tryz.prog w = .ok (.func fn first cap) w := fun _ _ _ _ => rfl
 have HS := H7 (St.start w)
 have Hx := H7 h
 have HC := H7 (fun w' => frCheck_any f w')
 obtain ⟨E, hE⟩ : ∃ E, trE f er = E := ⟨_, rfl⟩
 obtain ⟨f2, hf2⟩ : ∃ f2, trF f f' er = f2 := ⟨_, rfl⟩
 have HE := H7 hE
 have HF := H7 hf2
 rw [hE, hf2]
 clear h hE hf2
 go_enter_defers Tryz.func39, Tryz.ntmps39
 repeat ((fail_if_success (with_reducible refine stop_at (id := 1) ?_)); (first | go_values | go_skip | go_guarded | go_step | go_upon | go_back | (simp only [Int.not_lt, Int.not_le] at *; go_simp) | (go_values <;> (try go_simp)) | (go_ite <;> go_prune <;> (try go_simp)) | (split <;> (first | (rename_i hx; exact (hx _ rfl).elim) | go_prune))))
 rw [zeroF]
 have hs_ := (((HS.out.alloc (.cells f.cells 29)).alloc (.cells frZ.cells 29)).alloc (.cells #[.int .i64 0] 34))
 obtain ⟨w1, hw_⟩ : ∃ w1 : World, (((w.alloc (.cells f.cells 29)).alloc (.cells frZ.cells 29)).alloc (.cells #[.int .i64 0] 34)) = w1 := ⟨_, rfl⟩
 rw [hw_] at hs_
 try simp only [World.size_alloc] at hs_
 have HS := H7 hs_
 rw [hw_]
 clear hw_ hs_
 repeat ((fail_if_success (with_reducible refine stop_at (id := 2) ?_)); (first | go_values | go_skip | go_guarded | go_step | go_upon | go_back | (simp only [Int.not_lt, Int.not_le] at *; go_simp) | (go_values <;> (try go_simp)) | (go_ite <;> go_prune <;> (try go_simp)) | (split <;> (first | (rename_i hx; exact (hx _ rfl).elim) | go_prune))))
 refine (wpIn_wide (n := 0)).1 ?_
 repeat (first | (refine ldF _ rfl rfl (HS.out.blockAt 2 rfl) ?_; simp only [Act.put, List.setIfInBounds_toArray, List.set_cons_succ, List.set_cons_zero]) | gi_step)
 refine (callsIn_wide.2 (HC.out _)).mono ?_
 rintro e w2 ⟨rfl, hb_⟩
 have HS := H7 (HS.out.below hb_)
 clear hb_ HC
 cases hok : f.okB with
 | false =>
  have HE2 := H7 (show E = 280 from by rw [← HE.out]; unfold trE; rw [hok]; rfl)
  have HF2 := H7 (show f2 = frZ from by rw [← HF.out]; unfold trF; rw [HE.out, HE2.out]; rfl)
  rw [show errOf false 280 = 280 from rfl]
  gi_wp2_with (gi_at_call 41; refine (callsIn_wide.2 (frNeed_no _ _)).mono ?_; rintro e w' ⟨rfl, rfl⟩)
  rw [HE2.out, HF2.out]
  have hp := HS.out.blockAt 1 rfl
  have hq := HS.out.blockAt 0 rfl
  have hlow := HS.out.low
  refine leaves_cons (f := 64) (args := #[.pointer (some ⟨w.heap.size + 1, 0, none⟩), .pointer (some ⟨w.heap.size + 1 + 1, 0, none⟩)]) (by simp) (by simp [go_sem]) ?_
  refine (frCatch_panicking _ _ (by omega) _ _ _ _ _ hp hq).mono ?_
  rintro e u' W2 ⟨rfl, rfl, rfl⟩
  exact frOut hlow hp hq 280 rfl rfl
 | true =>
  rw [show errOf true 280 = 0 from rfl]
  gi_wp2_with (gi_at_call 41; refine (callsIn_wide.2 (frNeed_ok _ _)).mono ?_; rintro e w' ⟨rfl, rfl⟩)
  repeat ((fail_if_success (with_reducible refine stop_at (id := 3) ?_)); (first | go_values | go_skip | go_guarded | go_step | go_upon | go_back | (simp only [Int.not_lt, Int.not_le] at *; go_simp) | (go_values <;> (try go_simp)) | (go_ite <;> go_prune <;> (try go_simp)) | (split <;> (first | (rename_i hx; exact (hx _ rfl).elim) | go_prune))))
  refine (wpIn_wide (n := 0)).1 ?_
  repeat (first | (refine ldF _ rfl rfl (HS.out.blockAt 2 rfl) ?_; simp only [Act.put, List.setIfInBounds_toArray, List.set_cons_succ, List.set_cons_zero]) | (refine bdL _ rfl rfl ?_; simp only [Act.put, List.setIfInBounds_toArray, List.set_cons_succ, List.set_cons_zero]) | gi_step)
  gi_wp2_with fail
  have HE2 := H7 (show E = er from by rw [← HE.out]; unfold trE; rw [if_pos hok])
  have HF2 := H7 (show f2 = if er = 0 then f' else frZ from by rw [← HF.out]; unfold trF trE; rw [if_pos hok])
  have hs_ := (HS.out.alloc (.cells f.cells 85))
  obtain ⟨w3, hw_⟩ : ∃ w3 : World, (w2.alloc (.cells f.cells 85)) = w3 := ⟨_, rfl⟩
  rw [hw_] at hs_
  try simp only [World.size_alloc] at hs_
  have HS := H7 hs_
  rw [hw_]
  clear hw_ hs_
  repeat ((fail_if_success (with_reducible refine stop_at (id := 4) ?_)); (first | go_values | go_skip | go_guarded | go_step | go_upon | go_back | (simp only [Int.not_lt, Int.not_le] at *; go_simp) | (go_values <;> (try go_simp)) | (go_ite <;> go_prune <;> (try go_simp)) | (split <;> (first | (rename_i hx; exact (hx _ rfl).elim) | go_prune))))
  have hcall := Hx.out hok w3 w2.heap.size HS.out.low (by have h1 := HS.out.ord; have h2 := HS.out.size; simp [ItOrd, It.top] at h1; omega) (HS.out.blockAt 0 rfl)
  clear Hx
  go_wp2_with fail
  refine hcall.mono ?_
  rintro e w4 ⟨ht, hyes, hno⟩
  have hord := HS.out.ord
  simp [ItOrd, It.top] at hord
  have hlt := HS.out.lt 0 rfl
  have HP := H7 ((ht.block (w.heap.size + 1) (HS.out.lt 2 rfl) (by omega)).trans (HS.out.blockAt 2 rfl))
  have HQ := H7 ((ht.block (w.heap.size + 1 + 1) (HS.out.lt 1 rfl) (by omega)).trans (HS.out.blockAt 1 rfl))
  have HL := H7 (HS.out.low.trans (ht.below HS.out.size (by rintro k rfl; omega)))
  have HNE := H7 (show ¬ w2.heap.size = w.heap.size + 1 ∧ ¬ w2.heap.size = w.heap.size + 1 + 1 from by omega)
  by_cases her : er = 0
  · obtain ⟨rfl, hb⟩ := hyes her
    have HB := H7 hb
    clear hyes hno ht hcall hb hord hlt
    repeat ((fail_if_success (with_reducible refine stop_at (id := 5) ?_)); (first | go_values | go_skip | go_guarded | go_step | go_upon | go_back | (simp only [Int.not_lt, Int.not_le] at *; go_simp) | (go_values <;> (try go_simp)) | (go_ite <;> go_prune <;> (try go_simp)) | (split <;> (first | (rename_i hx; exact (hx _ rfl).elim) | go_prune))))
    have hq5 := (setRow_other w4 (w.heap.size + 1) (w.heap.size + 1 + 1) f'.cells (by omega)).trans HQ.out
    have c5 := c7b (k := 0) hq5 rfl
    have f5 := f7b hq5 0
    refine (wpIn_wide (n := 0)).1 ?_
    repeat (first | (refine ldF _ rfl rfl HB.out ?_; simp only [Act.put, List.setIfInBounds_toArray, List.set_cons_succ, List.set_cons_zero]) | (refine stF _ _ rfl rfl HP.out rfl rfl ?_; simp only [Act.put, List.setIfInBounds_toArray, List.set_cons_succ, List.set_cons_zero]) | gi_step)
    gi_wp2_with fail
    clear c5 f5
    have hs := setRow_heap w4 (w.heap.size + 1) _ f'.cells _ _ HP.out
    have g1 := h7o (k := 0) hs (show w.heap.size + 1 + 1 ≠ w.heap.size + 1 from by omega) (.int .i64 0)
    have g2 := h7s (k := 0) hq5 (.int .i64 0)
    have hl : Below w.heap.size w (w4.setRow (w.heap.size + 1) f'.cells) := HL.out.trans ⟨rfl, rfl, rfl, by simp, fun k hk => setRow_other _ _ _ _ (by omega)⟩
    have hl2 := hl.setCell (p := ⟨w.heap.size + 1 + 1, 0, none⟩) (by simp; omega) (.int .i64 0)
    revert g1 g2 hl2
    generalize (w4.setRow (w.heap.size + 1) f'.cells).setCell ⟨w.heap.size + 1 + 1, 0, none⟩ (.int .i64 0) = W2
    intro g1 g2 hl2
    go_wp2_with fail
    refine leaves_cons (f := 64) (args := #[.pointer (some ⟨w.heap.size + 1, 0, none⟩), .pointer (some ⟨w.heap.size + 1 + 1, 0, none⟩)]) (by simp) (by simp [go_sem]) ?_
    refine (frCatch_idle _ _ _).mono ?_
    rintro e u' w'' ⟨rfl, rfl, rfl⟩
    have d0 := c7b (k := 0) g2 rfl
    exact ⟨_, resCell rfl rfl rfl g1 Tryz.underlying29 rfl (size_F f') (v := .int .i64 0) (by simp [go_sem, d0, Tryz.isAgg34]), by rw [HE2.out, HF2.out, if_pos her, her], hl2⟩
  · have he2 := hno her
    unfold PanicF at he2
    subst he2
    rw [HE2.out, HF2.out, if_neg her]
    clear hyes hno ht hcall hord hlt
    have hp := HP.out
    have hq := HQ.out
    have hlow := HL.out
    refine leaves_cons (f := 64) (args := #[.pointer (some ⟨w.heap.size + 1, 0, none⟩), .pointer (some ⟨w.heap.size + 1 + 1, 0, none⟩)]) (by simp) (by simp [go_sem]) ?_
    refine (frCatch_panicking _ _ (by omega) _ _ _ _ _ hp hq).mono ?_
    rintro e u' W2 ⟨rfl, rfl, rfl⟩
    exact frOut hlow hp hq er rfl rfl
/- Layer 18: Register. -/
def regE (f : Frt) (n : Int) : Int := if siteB n = false then 2 else if (f.site n.toNat).inn = true then 5 else 0
def regF (f : Frt) (n : Int) : Frt := f.put n.toNat (plIn (max f.folded f.prop))
theorem siteB_nat {n : Int} (h : siteB n = true) : ∃ k : Nat, n = (k : Int) ∧ 1 ≤ k ∧ k < 9 := by
 unfold siteB at h
 simp only [Bool.and_eq_true, decide_eq_true_eq] at h
 exact ⟨n.toNat, by omega, by omega, by omega⟩
theorem frtPut_at {w : World} {b n : Nat} {f : Frt} {t : TypeId} {fr : Nat × Nat} (h : w.heap[b]? = some (.cells f.cells t fr)) (hn : n < 9) (p : Plg) : (w.setCells b (11 + n * 12) p.l).heap[b]? = some (.cells (f.put n p).cells t fr) := by
 rw [heap_putAt p.l (11 + n * 12) h, frt_put hn p]
theorem turned_setCells {b : Nat} : ∀ (vs : List Value) (o : Nat) (w : World), Turned (fun j => j = b) w (w.setCells b o vs)
 | [], _, w => Turned.refl _ w
 | v :: vs, o, w => ((⟨rfl, rfl, rfl, by simp, fun k hk hne => Below.heap_setCell w ⟨b, o, none⟩ v k (by simpa using hne)⟩ : Turned (fun j => j = b) w (w.setCell ⟨b, o, none⟩ v)).trans (turned_setCells vs (o + 1) (w.setCell ⟨b, o, none⟩ v))).mono fun k _ hk => hk.elim id id
theorem turned_cells {b : Nat} {x y : World} (h : Below x.heap.size x y) (o : Nat) (vs : List Value) : Turned (fun j => j = b) x (y.setCells b o vs) :=
 ((Turned.ofBelow (fun j => j = b) h).trans (turned_setCells vs o y)).mono fun k _ hk => hk.elim id id
theorem Frt.cell0 {w : World} {b : Nat} {f : Frt} {t : TypeId} {fr : Nat × Nat} (h : w.heap[b]? = some (.cells f.cells t fr)) {n : Nat} (hn : n < 9) {v : Value} (hv : (f.site n).l[0]? = some v) : w.cell? ⟨b, 11 + n * 12, none⟩ = some v := by
 have := Frt.cell h hn hv
 rwa [Nat.add_zero] at this
set_option maxRecDepth 100000 in
set_option maxHeartbeats 2000000 in
theorem register1_any (f : Frt) (n : Int) (b c : Nat) (w : World) (hb : w.heap[b]? = some (.cells f.cells 85 (0, 0))) (hc : w.heap[c]? = some (.cells #[.int .i64 n] 3 (0, 0))) :
 Calls Tryz.prog 40 #[.pointer (some ⟨b, 0, none⟩), .pointer (some ⟨c, 0, none⟩)] w (EndsF b (regF f n) (regE f n) w) := by
 have HS := H7 (St.start w)
 have HB := H7 (BlkA.mk hb)
 have HC := H7 (BlkA.mk hc)
 obtain ⟨E, hE⟩ : ∃ E, regE f n = E := ⟨_, rfl⟩
 rw [hE]
 unfold regE at hE
 have c0 := c7b (k := 0) hc rfl
 clear hb hc
 cases hs : siteB n with
 | false =>
  rw [if_pos hs] at hE
  subst hE
  go_enter Tryz.func40, Tryz.ntmps40
  go_wp2_with fail
  clear c0
  refine (frSite_any _ _).mono ?_
  rintro e w2 ⟨rfl, rfl⟩
  rw [hs]
  go_wp2_with (go_at_call 41; refine (frNeed_no _ _).mono ?_; rintro e w' ⟨rfl, rfl⟩)
  exact ⟨rfl, Turned.refl _ _, fun h => absurd h (by decide), fun _ => rfl⟩
 | true =>
  obtain ⟨k, rfl, h1, h9⟩ := siteB_nat hs
  rw [if_neg (by rw [hs]; decide), Int.toNat_natCast] at hE
  unfold regF
  rw [Int.toNat_natCast]
  have HK := H7 h9
  cases hi : (f.site k).inn with
  | true =>
   rw [if_pos hi] at hE
   subst hE
   have HI := H7 (show (f.site k).l[0]? = some (.bool true) from by rw [← hi]; rfl)
   clear hi
   go_enter Tryz.func40, Tryz.ntmps40
   go_wp2_with fail
   clear c0
   refine (frSite_any _ _).mono ?_
   rintro e w2 ⟨rfl, rfl⟩
   rw [hs]
   clear hs
   go_wp2_with (go_at_call 41; refine (frNeed_ok _ _).mono ?_; rintro e w' ⟨rfl, rfl⟩)
   repeat ((fail_if_success (with_reducible refine stop_at (id := 1) ?_)); (first | go_values | go_skip | go_guarded | go_step | go_upon | go_back | (simp only [Int.not_lt, Int.not_le] at *; go_simp) | (go_values <;> (try go_simp)) | (go_ite <;> go_prune <;> (try go_simp)) | (split <;> (first | (rename_i hx; exact (hx _ rfl).elim) | go_prune))))
   refine (wpIn_wide (n := 0)).1 ?_
   apply w7v 10 (Rl := [(eqv _), (eqv _), (eqv _), (eqv _), (eqv _), (eqv _), (eqv _), (eqv _), (eqv _), (fun v_ w_ => False)]) (C := (fun x y => Below x.heap.size x y))
   case hm => kernel_rfl
   case hk => rfl
   case hCr => exact (fun _ => B7 _ _)
   case hCt => intro _ _ _; exact (fun h k => g7t h k)
   case hst => exact ⟨fun _ _ _ _ h => h, fun _ _ _ _ h => h, fun _ _ _ _ h => h, fun _ _ _ _ h => h, fun _ _ _ _ h => h, fun _ _ _ _ h => h, fun _ _ _ _ h => h, fun _ _ _ _ h => h, fun _ _ _ _ h => h, fun _ _ _ hC h => h, trivial⟩
   case hfo => kernel_rfl
   case ht => kernel_rfl
   case hC0 => exact (g7d _)
   case hsteps =>
    refine ⟨?_, ?_, ?_, ?_, ?_, ?_, ?_, ?_, ?_, ?_, trivial⟩
    · intro a' w' hA hC hD; have s0 := hA.to 0 (by kernel_rfl) rfl; clear hA hD; refine o7p rfl ?_; intro K hK; gi_wp2; exact hK _ _ rfl (B7 _ _)
    · intro a' w' hA hC hD; have s1 := hA.to 1 (by kernel_rfl) rfl
      have c1 := c7b (k := 0) (HC.out.below hC).at_ rfl
      clear hA hD; refine o7p rfl ?_; intro K hK; gi_wp2; exact hK _ _ rfl (B7 _ _)
    · intro a' w' hA hC hD; obtain ⟨u6, s6, rfl⟩ := hD ⟨0, .data⟩ (by simp) rfl _ rfl; clear hA hD; refine o7p rfl ?_; intro K hK; gi_wp2; exact hK _ _ rfl (B7 _ _)
    · intro a' w' hA hC hD; obtain ⟨u8, s8, rfl⟩ := hD ⟨2, .data⟩ (by simp) rfl _ rfl; clear hA hD; refine o7p rfl ?_; intro K hK; gi_wp2; exact hK _ _ rfl (B7 _ _)
    · intro a' w' hA hC hD; obtain ⟨u9, s9, rfl⟩ := hD ⟨3, .data⟩ (by simp) rfl _ rfl; clear hA hD; refine o7p rfl ?_; intro K hK; gi_wp2; exact hK _ _ rfl (B7 _ _)
    · intro a' w' hA hC hD; obtain ⟨u10, s10, rfl⟩ := hD ⟨4, .data⟩ (by simp) rfl _ rfl; obtain ⟨u7, s7, rfl⟩ := hD ⟨1, .data⟩ (by simp) rfl _ rfl
      have hk9 := HK.out
      clear hA hD; refine o7p rfl ?_; intro K hK; gi_wp2; exact hK _ _ rfl (B7 _ _)
    · intro a' w' hA hC hD; obtain ⟨u11, s11, rfl⟩ := hD ⟨5, .data⟩ (by simp) rfl _ rfl; clear hA hD; refine o7p rfl ?_; intro K hK; gi_wp2; exact hK _ _ rfl (B7 _ _)
    · intro a' w' hA hC hD; obtain ⟨u12, s12, rfl⟩ := hD ⟨6, .data⟩ (by simp) rfl _ rfl
      have c7 := Frt.cell0 (HB.out.below hC).at_ HK.out HI.out
      clear hA hD; refine o7p rfl ?_; intro K hK; gi_wp2; exact hK _ _ rfl (B7 _ _)
    · intro a' w' hA hC hD; obtain ⟨u13, s13, rfl⟩ := hD ⟨7, .data⟩ (by simp) rfl _ rfl; clear hA hD; refine o7p rfl ?_; intro K hK; gi_wp2; exact hK _ _ rfl (B7 _ _)
    · intro a' w' hA hC hD; obtain ⟨u14, s14, rfl⟩ := hD ⟨8, .data⟩ (by simp) rfl _ rfl
      have hdf := hA.defers
      clear hA hD; refine o7p rfl ?_; intro K hK; gi_wp2
      refine (callsIn_wide.2 (frNeed_no _ _)).mono ?_; rintro e w5 ⟨rfl, rfl⟩; exact ⟨hdf, Turned.ofBelow _ hC, fun h => absurd h (by decide), fun _ => rfl⟩
   case hend =>
    intro w5 hC
    simp only [EndFrom, eqv, forall_eq, Act.put, List.length_cons, List.length_nil, List.drop_succ_cons, List.drop_zero, Nat.reduceAdd, List.setIfInBounds_toArray, List.set_cons_succ, List.set_cons_zero]
    intro v h9
    exact h9.elim
  | false =>
   rw [if_neg (by rw [hi]; decide)] at hE
   subst hE
   have HI := H7 (show (f.site k).l[0]? = some (.bool false) from by rw [← hi]; rfl)
   clear hi
   go_enter Tryz.func40, Tryz.ntmps40
   go_wp2_with fail
   clear c0
   refine (frSite_any _ _).mono ?_
   rintro e w2 ⟨rfl, rfl⟩
   rw [hs]
   clear hs
   go_wp2_with (go_at_call 41; refine (frNeed_ok _ _).mono ?_; rintro e w' ⟨rfl, rfl⟩)
   repeat ((fail_if_success (with_reducible refine stop_at (id := 1) ?_)); (first | go_values | go_skip | go_guarded | go_step | go_upon | go_back | (simp only [Int.not_lt, Int.not_le] at *; go_simp) | (go_values <;> (try go_simp)) | (go_ite <;> go_prune <;> (try go_simp)) | (split <;> (first | (rename_i hx; exact (hx _ rfl).elim) | go_prune))))
   refine (wpIn_wide (n := 0)).1 ?_
   apply w7v 10 (Rl := [(eqv _), (eqv _), (eqv _), (eqv _), (eqv _), (eqv _), (eqv _), (eqv _), (eqv _), (eqv _)]) (C := (fun x y => Below x.heap.size x y))
   case hm => kernel_rfl
   case hk => rfl
   case hCr => exact (fun _ => B7 _ _)
   case hCt => intro _ _ _; exact (fun h k => g7t h k)
   case hst => repeat (first | exact trivial | refine ⟨fun _ _ _ _ h => h, ?_⟩)
   case hfo => kernel_rfl
   case ht => kernel_rfl
   case hC0 => exact (g7d _)
   case hsteps =>
    refine ⟨?_, ?_, ?_, ?_, ?_, ?_, ?_, ?_, ?_, ?_, trivial⟩
    · intro a' w' hA hC hD; have s0 := hA.to 0 (by kernel_rfl) rfl; clear hA hD; refine o7p rfl ?_; intro K hK; gi_wp2; exact hK _ _ rfl (B7 _ _)
    · intro a' w' hA hC hD; have s1 := hA.to 1 (by kernel_rfl) rfl
      have c1 := c7b (k := 0) (HC.out.below hC).at_ rfl
      clear hA hD; refine o7p rfl ?_; intro K hK; gi_wp2; exact hK _ _ rfl (B7 _ _)
    · intro a' w' hA hC hD; obtain ⟨u6, s6, rfl⟩ := hD ⟨0, .data⟩ (by simp) rfl _ rfl; clear hA hD; refine o7p rfl ?_; intro K hK; gi_wp2; exact hK _ _ rfl (B7 _ _)
    · intro a' w' hA hC hD; obtain ⟨u8, s8, rfl⟩ := hD ⟨2, .data⟩ (by simp) rfl _ rfl; clear hA hD; refine o7p rfl ?_; intro K hK; gi_wp2; exact hK _ _ rfl (B7 _ _)
    · intro a' w' hA hC hD; obtain ⟨u9, s9, rfl⟩ := hD ⟨3, .data⟩ (by simp) rfl _ rfl; clear hA hD; refine o7p rfl ?_; intro K hK; gi_wp2; exact hK _ _ rfl (B7 _ _)
    · intro a' w' hA hC hD; obtain ⟨u10, s10, rfl⟩ := hD ⟨4, .data⟩ (by simp) rfl _ rfl; obtain ⟨u7, s7, rfl⟩ := hD ⟨1, .data⟩ (by simp) rfl _ rfl
      have hk9 := HK.out
      clear hA hD; refine o7p rfl ?_; intro K hK; gi_wp2; exact hK _ _ rfl (B7 _ _)
    · intro a' w' hA hC hD; obtain ⟨u11, s11, rfl⟩ := hD ⟨5, .data⟩ (by simp) rfl _ rfl; clear hA hD; refine o7p rfl ?_; intro K hK; gi_wp2; exact hK _ _ rfl (B7 _ _)
    · intro a' w' hA hC hD; obtain ⟨u12, s12, rfl⟩ := hD ⟨6, .data⟩ (by simp) rfl _ rfl
      have c7 := Frt.cell0 (HB.out.below hC).at_ HK.out HI.out
      clear hA hD; refine o7p rfl ?_; intro K hK; gi_wp2; exact hK _ _ rfl (B7 _ _)
    · intro a' w' hA hC hD; obtain ⟨u13, s13, rfl⟩ := hD ⟨7, .data⟩ (by simp) rfl _ rfl; clear hA hD; refine o7p rfl ?_; intro K hK; gi_wp2; exact hK _ _ rfl (B7 _ _)
    · intro a' w' hA hC hD; obtain ⟨u14, s14, rfl⟩ := hD ⟨8, .data⟩ (by simp) rfl _ rfl; clear hA hD; refine o7p rfl ?_; intro K hK
      gi_wp2_with fail; refine (callsIn_wide.2 (frNeed_ok _ _)).mono ?_; rintro e w2 ⟨rfl, rfl⟩; exact hK _ _ rfl (B7 _ _)
   case hend =>
    intro w5 hC
    simp only [EndFrom, eqv, forall_eq, Act.put, List.length_cons, List.length_nil, List.drop_succ_cons, List.drop_zero, Nat.reduceAdd, List.setIfInBounds_toArray, List.set_cons_succ, List.set_cons_zero]
    have hc_ := hC
    have HS := H7 (HS.out.below hc_)
    have HB := H7 (HB.out.below hc_)
    have HC := H7 (HC.out.below hc_)
    clear hc_
    have HL := H7 hC
    clear hC
    gi_wp2
    repeat ((fail_if_success (with_reducible refine stop_at (id := 2) ?_)); (first | go_values | go_skip | go_guarded | go_step | go_upon | go_back | (simp only [Int.not_lt, Int.not_le] at *; go_simp) | (go_values <;> (try go_simp)) | (go_ite <;> go_prune <;> (try go_simp)) | (split <;> (first | (rename_i hx; exact (hx _ rfl).elim) | go_prune))))
    refine (wpIn_wide (n := 0)).1 ?_
    apply w7v 18 (Rl := [(eqv _), (eqv _), (eqv _), (eqv _), (eqv _), (eqv _), (eqv _), (eqv _), (eqv _), (eqv _), (eqv _), (eqv _), (eqv _), (eqv _), (eqv _), (eqv _), (eqv _), (eqv _)]) (C := (fun x y => Below x.heap.size x y))
    case hm => kernel_rfl
    case hk => rfl
    case hCr => exact (fun _ => B7 _ _)
    case hCt => intro _ _ _; exact (fun h k => g7t h k)
    case hst => repeat (first | exact trivial | refine ⟨fun _ _ _ _ h => h, ?_⟩)
    case hfo => kernel_rfl
    case ht => kernel_rfl
    case hC0 => exact (g7d _)
    case hsteps =>
     refine ⟨?_, ?_, ?_, ?_, ?_, ?_, ?_, ?_, ?_, ?_, ?_, ?_, ?_, ?_, ?_, ?_, ?_, ?_, trivial⟩
     · intro a' w' hA hC hD; have s0 := hA.to 0 (by kernel_rfl) rfl; clear hA hD; refine o7p rfl ?_; intro K hK; gi_wp2; exact hK _ _ rfl (B7 _ _)
     · intro a' w' hA hC hD; have s1 := hA.to 1 (by kernel_rfl) rfl
       have c1 := c7b (k := 0) (HC.out.below hC).at_ rfl
       clear hA hD; refine o7p rfl ?_; intro K hK; gi_wp2; exact hK _ _ rfl (B7 _ _)
     · intro a' w' hA hC hD; have s0 := hA.to 0 (by kernel_rfl) rfl; clear hA hD; refine o7p rfl ?_; intro K hK; gi_wp2; exact hK _ _ rfl (B7 _ _)
     · intro a' w' hA hC hD; obtain ⟨u18, s18, rfl⟩ := hD ⟨2, .data⟩ (by simp) rfl _ rfl; clear hA hD; refine o7p rfl ?_; intro K hK; gi_wp2; exact hK _ _ rfl (B7 _ _)
     · intro a' w' hA hC hD; obtain ⟨u19, s19, rfl⟩ := hD ⟨3, .data⟩ (by simp) rfl _ rfl; clear hA hD; refine o7p rfl ?_; intro K hK; gi_wp2; exact hK _ _ rfl (B7 _ _)
     · intro a' w' hA hC hD; obtain ⟨u20, s20, rfl⟩ := hD ⟨4, .data⟩ (by simp) rfl _ rfl; clear hA hD; refine o7p rfl ?_; intro K hK; gi_wp2; exact hK _ _ rfl (B7 _ _)
     · intro a' w' hA hC hD; obtain ⟨u21, s21, rfl⟩ := hD ⟨5, .data⟩ (by simp) rfl _ rfl
       have c1 := Frt.foldedC (HB.out.below hC).at_
       clear hA hD; refine o7p rfl ?_; intro K hK; gi_wp2; exact hK _ _ rfl (B7 _ _)
     · intro a' w' hA hC hD; have s0 := hA.to 0 (by kernel_rfl) rfl; clear hA hD; refine o7p rfl ?_; intro K hK; gi_wp2; exact hK _ _ rfl (B7 _ _)
     · intro a' w' hA hC hD; obtain ⟨u23, s23, rfl⟩ := hD ⟨7, .data⟩ (by simp) rfl _ rfl; clear hA hD; refine o7p rfl ?_; intro K hK; gi_wp2; exact hK _ _ rfl (B7 _ _)
     · intro a' w' hA hC hD; obtain ⟨u24, s24, rfl⟩ := hD ⟨8, .data⟩ (by simp) rfl _ rfl; clear hA hD; refine o7p rfl ?_; intro K hK; gi_wp2; exact hK _ _ rfl (B7 _ _)
     · intro a' w' hA hC hD; obtain ⟨u25, s25, rfl⟩ := hD ⟨9, .data⟩ (by simp) rfl _ rfl; clear hA hD; refine o7p rfl ?_; intro K hK; gi_wp2; exact hK _ _ rfl (B7 _ _)
     · intro a' w' hA hC hD; obtain ⟨u26, s26, rfl⟩ := hD ⟨10, .data⟩ (by simp) rfl _ rfl
       have c1 := Frt.propC (HB.out.below hC).at_
       clear hA hD; refine o7p rfl ?_; intro K hK; gi_wp2; exact hK _ _ rfl (B7 _ _)
     · intro a' w' hA hC hD; obtain ⟨u22, s22, rfl⟩ := hD ⟨6, .data⟩ (by simp) rfl _ rfl; obtain ⟨u27, s27, rfl⟩ := hD ⟨11, .data⟩ (by simp) rfl _ rfl; clear hA hD; refine o7p rfl ?_; intro K hK; gi_wp2; exact hK _ _ rfl (B7 _ _)
     · intro a' w' hA hC hD; obtain ⟨u28, s28, rfl⟩ := hD ⟨12, .data⟩ (by simp) rfl _ rfl; clear hA hD; refine o7p rfl ?_; intro K hK
       refine bdI _ rfl (x := max f.folded f.prop) (by simp [Act.eval, s28]) ?_; exact hK _ _ rfl (B7 _ _)
     · intro a' w' hA hC hD; obtain ⟨u16, s16, rfl⟩ := hD ⟨0, .data⟩ (by simp) rfl _ rfl; clear hA hD; refine o7p rfl ?_; intro K hK; gi_wp2; exact hK _ _ rfl (B7 _ _)
     · intro a' w' hA hC hD; obtain ⟨u30, s30, rfl⟩ := hD ⟨14, .data⟩ (by simp) rfl _ rfl; clear hA hD; refine o7p rfl ?_; intro K hK; gi_wp2; exact hK _ _ rfl (B7 _ _)
     · intro a' w' hA hC hD; obtain ⟨u31, s31, rfl⟩ := hD ⟨15, .data⟩ (by simp) rfl _ rfl; clear hA hD; refine o7p rfl ?_; intro K hK; gi_wp2; exact hK _ _ rfl (B7 _ _)
     · intro a' w' hA hC hD; obtain ⟨u32, s32, rfl⟩ := hD ⟨16, .data⟩ (by simp) rfl _ rfl; obtain ⟨u17, s17, rfl⟩ := hD ⟨1, .data⟩ (by simp) rfl _ rfl
       have hk9 := HK.out
       clear hA hD; refine o7p rfl ?_; intro K hK; gi_wp2; exact hK _ _ rfl (B7 _ _)
    case hend =>
     intro w6 hC
     simp only [EndFrom, eqv, forall_eq, Act.put, List.length_cons, List.length_nil, List.drop_succ_cons, List.drop_zero, Nat.reduceAdd, List.setIfInBounds_toArray, List.set_cons_succ, List.set_cons_zero]
     have hb6 := (HB.out.below hC).at_
     have HT := H7 (turned_cells (b := b) (HL.out.trans (hC.mono HL.out.size)) (11 + k * 12) (plIn (max f.folded f.prop)).l)
     repeat (first | (refine stSite _ _ rfl rfl hb6 HK.out rfl ?_; simp only [Act.put, List.setIfInBounds_toArray, List.set_cons_succ, List.set_cons_zero]) | gi_step)
     gi_wp2_with fail
     have h2 := H7 (frtPut_at hb6 HK.out (plIn (max f.folded f.prop)))
     clear hb6
     go_wp2_with fail
     go_end0
     exact ⟨HT.out, fun _ => ⟨rfl, h2.out⟩, fun h => absurd rfl h⟩
theorem register_tries (f : Frt) (n : Int) (c : Nat) (w : World) (hc : w.heap[c]? = some (.cells #[.int .i64 n] 3 (0, 0))) :
 Calls Tryz.prog 39 #[.agg f.cells, .func (.func 40) #[] #[.pointer (some ⟨c, 0, none⟩)]] w (Gives (.tuple #[.agg (trF f (regF f n) (regE f n)).cells, .int .i64 (trE f (regE f n))]) w) :=
 frTries_any 40 _ f (regF f n) (regE f n) w (enters_of Tryz.func40 (by kernel_rfl) rfl) (fun _ w2 b hb hge hbk => register1_any f n b c w2 hbk ((hb.block _ (b7t hc)).trans hc))
set_option maxRecDepth 100000 in
set_option maxHeartbeats 2000000 in
theorem register_any (f : Frt) (n : Int) (w : World) : Calls Tryz.prog 10 #[.agg f.cells, .int .i64 n] w (Gives (.tuple #[.agg (trF f (regF f n) (regE f n)).cells, .int .i64 (trE f (regE f n))]) w) := by
 have hmf : ∀ (fn : Fn) (first cap : Array Value) (w : World), (Instr.makeFunc fn first cap).run Tryz.prog w = .ok (.func fn first cap) w := fun _ _ _ _ => rfl
 have HS := H7 (St.start w)
 have HT := H7 (register_tries f n (w.heap.size + 1))
 generalize trF f (regF f n) (regE f n) = f2 at HT ⊢
 generalize trE f (regE f n) = E at HT ⊢
 go_enter Tryz.func10, Tryz.ntmps10
 repeat ((fail_if_success (with_reducible refine stop_at (id := 1) ?_)); (first | go_values | go_skip | go_guarded | go_step | go_upon | go_back | (simp only [Int.not_lt, Int.not_le] at *; go_simp) | (go_values <;> (try go_simp)) | (go_ite <;> go_prune <;> (try go_simp)) | (split <;> (first | (rename_i hx; exact (hx _ rfl).elim) | go_prune))))
 rw [zeroF]
 have hs_ := (((HS.out.alloc (.cells f.cells 29)).alloc (.cells #[.int .i64 n] 3)).alloc (.cells frZ.cells 29))
 obtain ⟨w1, hw_⟩ : ∃ w1 : World, (((w.alloc (.cells f.cells 29)).alloc (.cells #[.int .i64 n] 3)).alloc (.cells frZ.cells 29)) = w1 := ⟨_, rfl⟩
 rw [hw_] at hs_
 try simp only [World.size_alloc] at hs_
 have HS := H7 hs_
 rw [hw_]
 clear hw_ hs_
 refine (wpIn_wide (n := 0)).1 ?_
 repeat (first | (refine ldF _ rfl rfl (HS.out.blockAt 2 rfl) ?_; simp only [Act.put, List.setIfInBounds_toArray, List.set_cons_succ, List.set_cons_zero]) | gi_step)
 refine (callsIn_wide.2 (HT.out _ (HS.out.blockAt 1 rfl))).mono ?_
 rintro e w2 ⟨rfl, hb_⟩
 have HS := H7 (HS.out.below hb_)
 clear hb_ HT
 simp only []; go_at_K
 repeat (first | (refine stF _ _ rfl rfl (HS.out.blockAt 0 rfl) rfl rfl ?_; simp only [Act.put, List.setIfInBounds_toArray, List.set_cons_succ, List.set_cons_zero]) | gi_step)
 gi_wp2_with fail
 go_wp2_with fail
 have hs := HS.out.putRow (c' := f2.cells) (pre := []) (by intro i hi; cases hi)
 simp only [List.nil_append] at hs
 refine bodyPost_ret (resFt rfl rfl rfl (hs.blockAt 0 rfl)) rfl ⟨rfl, hs.low⟩
end Go.Proofs.YteklfmacnnmomaaGreat
