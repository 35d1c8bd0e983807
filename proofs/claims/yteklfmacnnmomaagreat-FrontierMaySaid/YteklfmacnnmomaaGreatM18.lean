/- Merged texts: FsB FrWa RevR FrWb FsC. -/
import Derived.Test.YteklfmacnnmomaaGreatM17
import Derived.Test.YteklfmacnnmomaaGreatM16
import Derived.Test.YteklfmacnnmomaaGreatM1
import Derived.Shelf.SlicesQ.Reverse
set_option linter.unusedSimpArgs false
set_option linter.unusedVariables false
/- Layer 18: the document's Waits, Ready. -/
namespace Go.Proofs.YteklfmacnnmomaaGreat
open Go.RowKit Go.Shelf
attribute [local go_sem] Oper.semAt_some
def wB (f : Frt) (S : Nat → Int) (k : Nat) : Bool := (f.site k).inn && ((decide ((f.site k).floor < f.prop) || decide ((f.site k).seq > S k)) || !covers (f.site k).has (askR f))
def wTo (f : Frt) (S : Nat → Int) (k : Nat) : List Int := natI ((List.range k).filter (wB f S))
theorem wTo_yes {f : Frt} {S : Nat → Int} {k : Nat} (h : wB f S k = true) : wTo f S (k + 1) = wTo f S k ++ [(k : Int)] := by
 unfold wTo
 rw [List.range_succ, List.filter_append, ← natI_snoc]
 simp [h]
theorem wTo_no {f : Frt} {S : Nat → Int} {k : Nat} (h : wB f S k = false) : wTo f S (k + 1) = wTo f S k := by
 unfold wTo
 rw [List.range_succ, List.filter_append]
 simp [h]
theorem wTo_len (f : Frt) (S : Nat → Int) (k : Nat) : (wTo f S k).length ≤ k := by
 unfold wTo
 rw [natI_len]
 have := List.length_filter_le (wB f S) (List.range k)
 rwa [List.length_range] at this
/-- What has been since. -/
structure BlA (x y : World) : Prop where
 b : Below x.heap.size x y
theorem BlA.below {x y z : World} (h : BlA x y) (hb : Below y.heap.size y z) : BlA x z := ⟨h.b.trans (hb.mono h.b.size)⟩
theorem covers_congr {a b c : Nat → Int} (h : ∀ s, s < 9 → b s = c s) : covers a b = covers a c := by
 unfold covers vecOk sitesOk vecEq
 simp only [show List.range 9 = [0, 1, 2, 3, 4, 5, 6, 7, 8] from rfl, List.all_cons, List.all_nil, h 0 (by decide), h 1 (by decide), h 2 (by decide), h 3 (by decide), h 4 (by decide), h 5 (by decide), h 6 (by decide), h 7 (by decide), h 8 (by decide)]
theorem ask_same {f : Frt} (h : f.okB = true) (s : Nat) (hs : s < 9) : askR f s = askF f s := by
 unfold askR askF
 cases hi : (f.site s).inn
 · have h1 := sitOk_out ((okB_parts h).2.2.2 s hs) hi
   have h2 := (plEq_iff _ _).1 h1
   have h3 : (f.site s).l[2]? = plZ.l[2]? := by rw [h2]
   have h4 : some (Value.int .u64 (f.site s).seq) = some (Value.int .u64 0) := h3
   injection h4 with h5
   injection h5 with _ h6
 · rfl
theorem wB_eq {f : Frt} (h : f.okB = true) (S : Nat → Int) {k : Nat} (hk : k < 9) : wB f S k = ((f.site k).inn && waitB f (askF f) S k) := by
 unfold wB waitB
 rw [covers_congr (ask_same h)]
 cases hi : (f.site k).inn
 · rfl
 · have : askF f k = (f.site k).seq := by unfold askF; rw [hi]; rfl
   rw [this]
theorem waits_same {f : Frt} (h : f.okB = true) (S : Nat → Int) : wTo f S 9 = waitL f S := by
 unfold wTo waitL natI regL
 rw [List.filter_map, List.filter_filter]
 congr 1
 refine List.filter_congr fun k hk => ?_
 rw [wB_eq h S (List.mem_range.1 hk), Bool.and_comm]
 rfl
set_option maxRecDepth 100000 in
set_option maxHeartbeats 4000000 in
theorem r18Waits_any (f : Frt) (S : Nat → Int) (w : World) : Calls Tryz.prog 26 #[.agg f.cells, vecV S] w (GivesRow 3 1 (wTo f S 9).length ((wTo f S 9).flatMap encZ) w) := by
 have HS := H7 (St.start w)
 go_enter Tryz.func26, Tryz.ntmps26
 simp only [vecV]
 repeat ((fail_if_success (with_reducible refine stop_at (id := 1) ?_)); (first | go_values | go_skip | go_guarded | go_step | go_upon | go_back | (simp only [Int.not_lt, Int.not_le] at *; go_simp) | (go_values <;> (try go_simp)) | (go_ite <;> go_prune <;> (try go_simp)) | (split <;> (first | (rename_i hx; exact (hx _ rfl).elim) | go_prune))))
 have hs_ := ((HS.out.alloc (.cells f.cells 29)).alloc (.cells (lit9 S) 24))
 obtain ⟨w1, hw_⟩ : ∃ w1 : World, ((w.alloc (.cells f.cells 29)).alloc (.cells (lit9 S) 24)) = w1 := ⟨_, rfl⟩
 rw [hw_] at hs_
 try simp only [World.size_alloc] at hs_
 have HS := H7 hs_
 rw [hw_]
 clear hw_ hs_
 repeat ((fail_if_success (with_reducible refine stop_at (id := 2) ?_)); (first | go_values | go_skip | go_guarded | go_step | go_upon | go_back | (simp only [Int.not_lt, Int.not_le] at *; go_simp) | (go_values <;> (try go_simp)) | (go_ite <;> go_prune <;> (try go_simp)) | (split <;> (first | (rename_i hx; exact (hx _ rfl).elim) | go_prune))))
 refine (wpIn_wide (n := 0)).1 ?_
 repeat (first | (refine ldSites _ rfl rfl (HS.out.blockAt 1 rfl) ?_; simp only [Act.put, List.setIfInBounds_toArray, List.set_cons_succ, List.set_cons_zero]) | gi_step)
 gi_wp2_with fail
 go_wp2_with fail
 go_loopw [10, 5] (fun i v wr => ∃ k : Nat, k ≤ 9 ∧ i = .int .i64 (k : Int) ∧ StO w [.blk (w.heap.size + 1) (.cells (lit9 S) 24 (0, 0)), .blk w.heap.size (.cells f.cells 29 (0, 0))] w1.heap.size 3 1 encZ v (wTo f S k) wr) (fun i _ _ => 9 - (intOf i).toNat)
 case atStart => exact ⟨0, by omega, rfl, StO.start HS.out _ _ _⟩
 case round =>
  obtain ⟨k, hk, rfl, ho⟩ := hrel
  clear HS
  have HO := H7 ho
  have HS := H7 ho.st
  clear ho
  by_cases hlt : k < 9
  · have HLT := H7 hlt
    obtain ⟨n0, hn0⟩ : ∃ n0, (wTo f S k).length = n0 := ⟨_, rfl⟩
    have HN := H7 (And.intro hn0 (show n0 ≤ 9 from by have := wTo_len f S k; omega))
    clear hn0
    repeat ((fail_if_success (with_reducible refine stop_at (id := 4) ?_)); (first | go_values | go_skip | go_guarded | go_step | go_upon | go_back | (simp only [Int.not_lt, Int.not_le] at *; go_simp) | (go_values <;> (try go_simp)) | (go_ite <;> go_prune <;> (try go_simp)) | (split <;> (first | (rename_i hx; exact (hx _ rfl).elim) | go_prune))))
    refine (wpIn_wide (n := 0)).1 ?_
    repeat (first | (refine ixS _ _ rfl rfl rfl HLT.out ?_; simp only [Act.put, List.setIfInBounds_toArray, List.set_cons_succ, List.set_cons_zero]) | (refine nwP rfl ?_; simp only [Act.put, List.setIfInBounds_toArray, List.set_cons_succ, List.set_cons_zero]) | (refine stNewP _ _ rfl rfl rfl rfl rfl ?_; simp only [Act.put, List.setIfInBounds_toArray, List.set_cons_succ, List.set_cons_zero]) | gi_step)
    gi_wp2_with fail
    clear hlt hk
    have HBW := H7 (BlA.mk (B7 wr.heap.size wr))
    have hs_ := HS.out.alloc (.cells (f.site k).cells 26)
    have hk_HBW := HBW.out.below ((B7 _ _).alloc (Nat.le_refl _) (.cells (f.site k).cells 26))
    obtain ⟨w4, hw_⟩ : ∃ w4 : World, wr.alloc (.cells (f.site k).cells 26) = w4 := ⟨_, rfl⟩
    rw [hw_] at hs_ hk_HBW
    have HS := H7 hs_
    have HBW := H7 hk_HBW
    rw [hw_]
    clear hw_ hs_ hk_HBW
    have HB := H7 HBW.out.b
    clear HBW
    obtain ⟨xi, hi⟩ : ∃ x, (f.site k).inn = x := ⟨_, rfl⟩
    obtain ⟨x1, h1⟩ : ∃ x, decide ((f.site k).floor < f.prop) = x := ⟨_, rfl⟩
    obtain ⟨x2, h2⟩ : ∃ x, decide ((f.site k).seq > S k) = x := ⟨_, rfl⟩
    obtain ⟨x3, h3⟩ : ∃ x, covers (f.site k).has (askR f) = x := ⟨_, rfl⟩
    have HI := H7 hi
    have H1 := H7 h1
    have H2 := H7 h2
    have H3 := H7 h3
    clear hi h1 h2 h3
    repeat ((fail_if_success (with_reducible refine stop_at (id := 5) ?_)); (first | go_values | go_skip | go_guarded | go_step | go_upon | go_back | (simp only [Int.not_lt, Int.not_le] at *; go_simp) | (go_values <;> (try go_simp)) | (go_ite <;> go_prune <;> (try go_simp)) | (split <;> (first | (rename_i hx; exact (hx _ rfl).elim) | go_prune))))
    refine (wpIn_wide (n := 0)).1 ?_
    cases xi
    · skip
      apply w7v 25 (Rl := [(eqv _), (eqv _), (eqv _), (fun v_ _ => v_ = (undef : Value)), (fun v_ _ => v_ = (undef : Value)), (fun v_ _ => v_ = (undef : Value)), (fun v_ _ => v_ = (undef : Value)), (fun v_ _ => v_ = (undef : Value)), (fun v_ _ => v_ = (undef : Value)), (fun v_ _ => v_ = (undef : Value)), (fun v_ _ => v_ = (undef : Value)), (fun v_ _ => v_ = (undef : Value)), (fun v_ _ => v_ = (undef : Value)), (fun v_ _ => v_ = (undef : Value)), (fun v_ _ => v_ = (undef : Value)), (fun v_ _ => v_ = (undef : Value)), (fun v_ _ => v_ = (undef : Value)), (fun v_ _ => v_ = (undef : Value)), (fun v_ _ => v_ = (undef : Value)), (fun v_ _ => v_ = (undef : Value)), (fun v_ _ => v_ = (undef : Value)), (fun v_ _ => v_ = (undef : Value)), (fun v_ _ => v_ = (undef : Value)), (fun v_ _ => v_ = (undef : Value)), (eqv _)]) (C := (fun x y => Below x.heap.size x y))
      case hm => kernel_rfl
      case hk => rfl
      case hCr => exact (fun _ => B7 _ _)
      case hCt => intro _ _ _; exact (fun h k => g7t h k)
      case hst => repeat (first | exact trivial | refine ⟨fun _ _ _ _ h => h, ?_⟩)
      case hfo => kernel_rfl
      case ht => kernel_rfl
      case hC0 => exact (g7d _)
      case hsteps =>
       refine ⟨?_, ?_, ?_, ?_, ?_, ?_, ?_, ?_, ?_, ?_, ?_, ?_, ?_, ?_, ?_, ?_, ?_, ?_, ?_, ?_, ?_, ?_, ?_, ?_, ?_, trivial⟩
       · intro a' w' hA hC hD; have s7 := hA.to 7 (by kernel_rfl) rfl; clear hA hD; refine o7p rfl ?_; intro K hK; gi_wp2; exact hK _ _ rfl (B7 _ _)
       · intro a' w' hA hC hD; obtain ⟨u14, s14, rfl⟩ := hD ⟨0, .data⟩ (by simp) rfl _ rfl
         have c1 := (plgCells ((HS.out.below hC).blockAt 0 rfl)).1
         clear hA hD; refine o7p rfl ?_; intro K hK; gi_wp2; rw [HI.out]; exact hK _ _ rfl (B7 _ _)
       · intro a' w' hA hC hD; obtain ⟨u15, s15, rfl⟩ := hD ⟨1, .data⟩ (by simp) rfl _ rfl; clear hA hD; refine o7p rfl ?_; intro K hK; gi_wp2; exact hK _ _ rfl (B7 _ _)
       · intro a' w' hA hC hD; have s7 := hA.to 7 (by kernel_rfl) rfl; obtain ⟨u16, s16, rfl⟩ := hD ⟨2, .guard⟩ (by simp) rfl _ rfl; clear hA hD
         exact o7s rfl rfl s16 rfl
       · intro a' w' hA hC hD; obtain ⟨u17, s17, r17⟩ := hD ⟨3, .data⟩ (by simp) rfl _ rfl; replace r17 : u17 = undef := r17; subst r17; obtain ⟨u16, s16, rfl⟩ := hD ⟨2, .guard⟩ (by simp) rfl _ rfl; clear hA hD
         exact o7s rfl rfl s16 rfl
       · intro a' w' hA hC hD; have s2 := hA.to 2 (by kernel_rfl) rfl; obtain ⟨u16, s16, rfl⟩ := hD ⟨2, .guard⟩ (by simp) rfl _ rfl; clear hA hD
         exact o7s rfl rfl s16 rfl
       · intro a' w' hA hC hD; obtain ⟨u19, s19, r19⟩ := hD ⟨5, .data⟩ (by simp) rfl _ rfl; replace r19 : u19 = undef := r19; subst r19; obtain ⟨u16, s16, rfl⟩ := hD ⟨2, .guard⟩ (by simp) rfl _ rfl; clear hA hD
         exact o7s rfl rfl s16 rfl
       · intro a' w' hA hC hD; obtain ⟨u18, s18, r18⟩ := hD ⟨4, .data⟩ (by simp) rfl _ rfl; replace r18 : u18 = undef := r18; subst r18; obtain ⟨u20, s20, r20⟩ := hD ⟨6, .data⟩ (by simp) rfl _ rfl; replace r20 : u20 = undef := r20; subst r20; obtain ⟨u16, s16, rfl⟩ := hD ⟨2, .guard⟩ (by simp) rfl _ rfl; clear hA hD
         exact o7s rfl rfl s16 rfl
       · intro a' w' hA hC hD; obtain ⟨u21, s21, r21⟩ := hD ⟨7, .data⟩ (by simp) rfl _ rfl; replace r21 : u21 = undef := r21; subst r21; obtain ⟨u16, s16, rfl⟩ := hD ⟨2, .chain⟩ (by simp) rfl _ rfl; clear hA hD
         exact o7s rfl rfl s16 rfl
       · intro a' w' hA hC hD; have s7 := hA.to 7 (by kernel_rfl) rfl; obtain ⟨u22, s22, r22⟩ := hD ⟨8, .guard⟩ (by simp) rfl _ rfl; replace r22 : u22 = undef := r22; subst r22; clear hA hD
         exact stepOk_skip' rfl rfl s22 rfl
       · intro a' w' hA hC hD; obtain ⟨u23, s23, r23⟩ := hD ⟨9, .data⟩ (by simp) rfl _ rfl; replace r23 : u23 = undef := r23; subst r23; obtain ⟨u22, s22, r22⟩ := hD ⟨8, .guard⟩ (by simp) rfl _ rfl; replace r22 : u22 = undef := r22; subst r22; clear hA hD
         exact stepOk_skip' rfl rfl s22 rfl
       · intro a' w' hA hC hD; have s6 := hA.to 6 (by kernel_rfl) rfl; obtain ⟨u22, s22, r22⟩ := hD ⟨8, .guard⟩ (by simp) rfl _ rfl; replace r22 : u22 = undef := r22; subst r22; clear hA hD
         exact stepOk_skip' rfl rfl s22 rfl
       · intro a' w' hA hC hD; have s3 := hA.to 3 (by kernel_rfl) rfl; obtain ⟨u25, s25, r25⟩ := hD ⟨11, .data⟩ (by simp) rfl _ rfl; replace r25 : u25 = undef := r25; subst r25; obtain ⟨u22, s22, r22⟩ := hD ⟨8, .guard⟩ (by simp) rfl _ rfl; replace r22 : u22 = undef := r22; subst r22; clear hA hD
         exact stepOk_skip' rfl rfl s22 rfl
       · intro a' w' hA hC hD; obtain ⟨u26, s26, r26⟩ := hD ⟨12, .data⟩ (by simp) rfl _ rfl; replace r26 : u26 = undef := r26; subst r26; obtain ⟨u22, s22, r22⟩ := hD ⟨8, .guard⟩ (by simp) rfl _ rfl; replace r22 : u22 = undef := r22; subst r22; clear hA hD
         exact stepOk_skip' rfl rfl s22 rfl
       · intro a' w' hA hC hD; obtain ⟨u24, s24, r24⟩ := hD ⟨10, .data⟩ (by simp) rfl _ rfl; replace r24 : u24 = undef := r24; subst r24; obtain ⟨u27, s27, r27⟩ := hD ⟨13, .data⟩ (by simp) rfl _ rfl; replace r27 : u27 = undef := r27; subst r27; obtain ⟨u22, s22, r22⟩ := hD ⟨8, .guard⟩ (by simp) rfl _ rfl; replace r22 : u22 = undef := r22; subst r22; clear hA hD
         exact stepOk_skip' rfl rfl s22 rfl
       · intro a' w' hA hC hD; obtain ⟨u22, s22, r22⟩ := hD ⟨8, .data⟩ (by simp) rfl _ rfl; replace r22 : u22 = undef := r22; subst r22; obtain ⟨u28, s28, r28⟩ := hD ⟨14, .data⟩ (by simp) rfl _ rfl; replace r28 : u28 = undef := r28; subst r28; obtain ⟨u16, s16, rfl⟩ := hD ⟨2, .guard⟩ (by simp) rfl _ rfl; clear hA hD
         exact o7s rfl rfl s16 rfl
       · intro a' w' hA hC hD; obtain ⟨u29, s29, r29⟩ := hD ⟨15, .data⟩ (by simp) rfl _ rfl; replace r29 : u29 = undef := r29; subst r29; obtain ⟨u16, s16, rfl⟩ := hD ⟨2, .guard⟩ (by simp) rfl _ rfl; clear hA hD
         exact o7s rfl rfl s16 rfl
       · intro a' w' hA hC hD; have s7 := hA.to 7 (by kernel_rfl) rfl; obtain ⟨u30, s30, r30⟩ := hD ⟨16, .guard⟩ (by simp) rfl _ rfl; replace r30 : u30 = undef := r30; subst r30; clear hA hD
         exact stepOk_skip' rfl rfl s30 rfl
       · intro a' w' hA hC hD; obtain ⟨u31, s31, r31⟩ := hD ⟨17, .data⟩ (by simp) rfl _ rfl; replace r31 : u31 = undef := r31; subst r31; obtain ⟨u30, s30, r30⟩ := hD ⟨16, .guard⟩ (by simp) rfl _ rfl; replace r30 : u30 = undef := r30; subst r30; clear hA hD
         exact stepOk_skip' rfl rfl s30 rfl
       · intro a' w' hA hC hD; have s2 := hA.to 2 (by kernel_rfl) rfl; obtain ⟨u30, s30, r30⟩ := hD ⟨16, .guard⟩ (by simp) rfl _ rfl; replace r30 : u30 = undef := r30; subst r30; clear hA hD
         exact stepOk_skip' rfl rfl s30 rfl
       · intro a' w' hA hC hD; obtain ⟨u33, s33, r33⟩ := hD ⟨19, .data⟩ (by simp) rfl _ rfl; replace r33 : u33 = undef := r33; subst r33; obtain ⟨u30, s30, r30⟩ := hD ⟨16, .chain⟩ (by simp) rfl _ rfl; replace r30 : u30 = undef := r30; subst r30; clear hA hD
         exact stepOk_skip' rfl rfl s30 rfl
       · intro a' w' hA hC hD; obtain ⟨u32, s32, r32⟩ := hD ⟨18, .data⟩ (by simp) rfl _ rfl; replace r32 : u32 = undef := r32; subst r32; obtain ⟨u34, s34, r34⟩ := hD ⟨20, .data⟩ (by simp) rfl _ rfl; replace r34 : u34 = undef := r34; subst r34; obtain ⟨u30, s30, r30⟩ := hD ⟨16, .guard⟩ (by simp) rfl _ rfl; replace r30 : u30 = undef := r30; subst r30; clear hA hD
         exact stepOk_skip' rfl rfl s30 rfl
       · intro a' w' hA hC hD; obtain ⟨u35, s35, r35⟩ := hD ⟨21, .data⟩ (by simp) rfl _ rfl; replace r35 : u35 = undef := r35; subst r35; obtain ⟨u30, s30, r30⟩ := hD ⟨16, .guard⟩ (by simp) rfl _ rfl; replace r30 : u30 = undef := r30; subst r30; clear hA hD
         exact stepOk_skip' rfl rfl s30 rfl
       · intro a' w' hA hC hD; obtain ⟨u30, s30, r30⟩ := hD ⟨16, .data⟩ (by simp) rfl _ rfl; replace r30 : u30 = undef := r30; subst r30; obtain ⟨u36, s36, r36⟩ := hD ⟨22, .data⟩ (by simp) rfl _ rfl; replace r36 : u36 = undef := r36; subst r36; obtain ⟨u16, s16, rfl⟩ := hD ⟨2, .guard⟩ (by simp) rfl _ rfl; clear hA hD
         exact o7s rfl rfl s16 rfl
       · intro a' w' hA hC hD; obtain ⟨u16, s16, rfl⟩ := hD ⟨2, .data⟩ (by simp) rfl _ rfl; obtain ⟨u37, s37, r37⟩ := hD ⟨23, .data⟩ (by simp) rfl _ rfl; replace r37 : u37 = undef := r37; subst r37; clear hA hD; refine o7p rfl ?_; intro K hK; gi_wp2; exact hK _ _ rfl (B7 _ _)
      case' hend =>
       intro w5 hC
       simp only [EndFrom, eqv, forall_eq, Act.put, List.length_cons, List.length_nil, List.drop_succ_cons, List.drop_zero, Nat.reduceAdd, List.setIfInBounds_toArray, List.set_cons_succ, List.set_cons_zero]
       have HB := H7 (HB.out.trans (hC.mono HB.out.size))
       clear hC HS
       gi_wp2_with fail
       have HT := H7 (wTo_no (f := f) (S := S) (k := k) (by unfold wB; rw [HI.out]; rfl))
       have hlt := HLT.out
       go_wp2_with fail
       go_roundw
       case rel => exact ⟨k + 1, hlt, by simp, by rw [HT.out]; exact HO.out.below HB.out⟩
       case measure => simp [intOf]; omega
    · cases x1
      · cases x2
        · skip
          apply w7v 25 (Rl := [(eqv _), (eqv _), (eqv _), (eqv _), (eqv _), (eqv _), (eqv _), (eqv _), (eqv _), (eqv _), (eqv _), (eqv _), (eqv _), (eqv _), (eqv _), (eqv _), (eqv _), (eqv _), (eqv _), (eqv _), (eqv _), (eqv _), (eqv _), (eqv _), (eqv _)]) (C := (fun x y => Below x.heap.size x y))
          case hm => kernel_rfl
          case hk => rfl
          case hCr => exact (fun _ => B7 _ _)
          case hCt => intro _ _ _; exact (fun h k => g7t h k)
          case hst => repeat (first | exact trivial | refine ⟨fun _ _ _ _ h => h, ?_⟩)
          case hfo => kernel_rfl
          case ht => kernel_rfl
          case hC0 => exact (g7d _)
          case hsteps =>
           refine ⟨?_, ?_, ?_, ?_, ?_, ?_, ?_, ?_, ?_, ?_, ?_, ?_, ?_, ?_, ?_, ?_, ?_, ?_, ?_, ?_, ?_, ?_, ?_, ?_, ?_, trivial⟩
           · intro a' w' hA hC hD; have s7 := hA.to 7 (by kernel_rfl) rfl; clear hA hD; refine o7p rfl ?_; intro K hK; gi_wp2; exact hK _ _ rfl (B7 _ _)
           · intro a' w' hA hC hD; obtain ⟨u14, s14, rfl⟩ := hD ⟨0, .data⟩ (by simp) rfl _ rfl
             have c1 := (plgCells ((HS.out.below hC).blockAt 0 rfl)).1
             clear hA hD; refine o7p rfl ?_; intro K hK; gi_wp2; rw [HI.out]; exact hK _ _ rfl (B7 _ _)
           · intro a' w' hA hC hD; obtain ⟨u15, s15, rfl⟩ := hD ⟨1, .data⟩ (by simp) rfl _ rfl; clear hA hD; refine o7p rfl ?_; intro K hK; gi_wp2; exact hK _ _ rfl (B7 _ _)
           · intro a' w' hA hC hD; have s7 := hA.to 7 (by kernel_rfl) rfl; obtain ⟨u16, s16, rfl⟩ := hD ⟨2, .guard⟩ (by simp) rfl _ rfl; clear hA hD; refine o7w rfl rfl s16 ?_; intro K hK; gi_wp2; exact hK _ _ rfl (B7 _ _)
           · intro a' w' hA hC hD; obtain ⟨u17, s17, rfl⟩ := hD ⟨3, .data⟩ (by simp) rfl _ rfl; obtain ⟨u16, s16, rfl⟩ := hD ⟨2, .guard⟩ (by simp) rfl _ rfl
             have c4 := (plgCells ((HS.out.below hC).blockAt 0 rfl)).2.1
             clear hA hD; refine o7w rfl rfl s16 ?_; intro K hK; gi_wp2; exact hK _ _ rfl (B7 _ _)
           · intro a' w' hA hC hD; have s2 := hA.to 2 (by kernel_rfl) rfl; obtain ⟨u16, s16, rfl⟩ := hD ⟨2, .guard⟩ (by simp) rfl _ rfl; clear hA hD; refine o7w rfl rfl s16 ?_; intro K hK; gi_wp2; exact hK _ _ rfl (B7 _ _)
           · intro a' w' hA hC hD; obtain ⟨u19, s19, rfl⟩ := hD ⟨5, .data⟩ (by simp) rfl _ rfl; obtain ⟨u16, s16, rfl⟩ := hD ⟨2, .guard⟩ (by simp) rfl _ rfl
             have c6 := Frt.propC ((HS.out.below hC).blockAt 2 rfl)
             clear hA hD; refine o7w rfl rfl s16 ?_; intro K hK; gi_wp2; exact hK _ _ rfl (B7 _ _)
           · intro a' w' hA hC hD; obtain ⟨u18, s18, rfl⟩ := hD ⟨4, .data⟩ (by simp) rfl _ rfl; obtain ⟨u20, s20, rfl⟩ := hD ⟨6, .data⟩ (by simp) rfl _ rfl; obtain ⟨u16, s16, rfl⟩ := hD ⟨2, .guard⟩ (by simp) rfl _ rfl; clear hA hD; refine o7w rfl rfl s16 ?_; intro K hK; gi_wp2; rw [H1.out]; exact hK _ _ rfl (B7 _ _)
           · intro a' w' hA hC hD; obtain ⟨u21, s21, rfl⟩ := hD ⟨7, .data⟩ (by simp) rfl _ rfl; obtain ⟨u16, s16, rfl⟩ := hD ⟨2, .chain⟩ (by simp) rfl _ rfl; clear hA hD; refine o7w rfl rfl s16 ?_; intro K hK; gi_wp2; exact hK _ _ rfl (B7 _ _)
           · intro a' w' hA hC hD; have s7 := hA.to 7 (by kernel_rfl) rfl; obtain ⟨u22, s22, rfl⟩ := hD ⟨8, .guard⟩ (by simp) rfl _ rfl; clear hA hD; refine o7w rfl rfl s22 ?_; intro K hK; gi_wp2; exact hK _ _ rfl (B7 _ _)
           · intro a' w' hA hC hD; obtain ⟨u23, s23, rfl⟩ := hD ⟨9, .data⟩ (by simp) rfl _ rfl; obtain ⟨u22, s22, rfl⟩ := hD ⟨8, .guard⟩ (by simp) rfl _ rfl
             have c10 := (plgCells ((HS.out.below hC).blockAt 0 rfl)).2.2
             clear hA hD; refine o7w rfl rfl s22 ?_; intro K hK; gi_wp2; exact hK _ _ rfl (B7 _ _)
           · intro a' w' hA hC hD; have s6 := hA.to 6 (by kernel_rfl) rfl; obtain ⟨u22, s22, rfl⟩ := hD ⟨8, .guard⟩ (by simp) rfl _ rfl; clear hA hD; refine o7w rfl rfl s22 ?_; intro K hK; gi_wp2; exact hK _ _ rfl (B7 _ _)
           · intro a' w' hA hC hD; have s3 := hA.to 3 (by kernel_rfl) rfl; obtain ⟨u25, s25, rfl⟩ := hD ⟨11, .data⟩ (by simp) rfl _ rfl; obtain ⟨u22, s22, rfl⟩ := hD ⟨8, .guard⟩ (by simp) rfl _ rfl
             have hk9 := HLT.out
             clear hA hD; refine o7w rfl rfl s22 ?_; intro K hK; gi_wp2; exact hK _ _ rfl (B7 _ _)
           · intro a' w' hA hC hD; obtain ⟨u26, s26, rfl⟩ := hD ⟨12, .data⟩ (by simp) rfl _ rfl; obtain ⟨u22, s22, rfl⟩ := hD ⟨8, .guard⟩ (by simp) rfl _ rfl
             have c13 := c7b ((HS.out.below hC).blockAt 1 rfl) (lit9_get _ _ HLT.out)
             clear hA hD; refine o7w rfl rfl s22 ?_; intro K hK; gi_wp2; exact hK _ _ rfl (B7 _ _)
           · intro a' w' hA hC hD; obtain ⟨u24, s24, rfl⟩ := hD ⟨10, .data⟩ (by simp) rfl _ rfl; obtain ⟨u27, s27, rfl⟩ := hD ⟨13, .data⟩ (by simp) rfl _ rfl; obtain ⟨u22, s22, rfl⟩ := hD ⟨8, .guard⟩ (by simp) rfl _ rfl; clear hA hD; refine o7w rfl rfl s22 ?_; intro K hK; gi_wp2; rw [H2.out]; exact hK _ _ rfl (B7 _ _)
           · intro a' w' hA hC hD; obtain ⟨u22, s22, rfl⟩ := hD ⟨8, .data⟩ (by simp) rfl _ rfl; obtain ⟨u28, s28, rfl⟩ := hD ⟨14, .data⟩ (by simp) rfl _ rfl; obtain ⟨u16, s16, rfl⟩ := hD ⟨2, .guard⟩ (by simp) rfl _ rfl; clear hA hD; refine o7w rfl rfl s16 ?_; intro K hK; gi_wp2; exact hK _ _ rfl (B7 _ _)
           · intro a' w' hA hC hD; obtain ⟨u29, s29, rfl⟩ := hD ⟨15, .data⟩ (by simp) rfl _ rfl; obtain ⟨u16, s16, rfl⟩ := hD ⟨2, .guard⟩ (by simp) rfl _ rfl; clear hA hD; refine o7w rfl rfl s16 ?_; intro K hK; gi_wp2; exact hK _ _ rfl (B7 _ _)
           · intro a' w' hA hC hD; have s7 := hA.to 7 (by kernel_rfl) rfl; obtain ⟨u30, s30, rfl⟩ := hD ⟨16, .guard⟩ (by simp) rfl _ rfl; clear hA hD; refine o7w rfl rfl s30 ?_; intro K hK; gi_wp2; exact hK _ _ rfl (B7 _ _)
           · intro a' w' hA hC hD; obtain ⟨u31, s31, rfl⟩ := hD ⟨17, .data⟩ (by simp) rfl _ rfl; obtain ⟨u30, s30, rfl⟩ := hD ⟨16, .guard⟩ (by simp) rfl _ rfl; clear hA hD; refine o7w rfl rfl s30 ?_; intro K hK
             refine ldHas _ rfl (by simp [Act.eval, s31]) ((HS.out.below hC).blockAt 0 rfl) ?_; exact hK _ _ rfl (B7 _ _)
           · intro a' w' hA hC hD; have s2 := hA.to 2 (by kernel_rfl) rfl; obtain ⟨u30, s30, rfl⟩ := hD ⟨16, .guard⟩ (by simp) rfl _ rfl; clear hA hD; refine o7w rfl rfl s30 ?_; intro K hK
             refine ldF _ rfl (by simp [Act.eval, s2]) ((HS.out.below hC).blockAt 2 rfl) ?_; exact hK _ _ rfl (B7 _ _)
           · intro a' w' hA hC hD; obtain ⟨u33, s33, rfl⟩ := hD ⟨19, .data⟩ (by simp) rfl _ rfl; obtain ⟨u30, s30, rfl⟩ := hD ⟨16, .chain⟩ (by simp) rfl _ rfl; clear hA hD; refine o7w rfl rfl s30 ?_; intro K hK
             gi_wp2_with fail; refine (callsIn_wide.2 (r18Asked_any f _)).mono ?_; rintro e w2 ⟨rfl, hb⟩
             exact hK _ _ rfl hb
           · intro a' w' hA hC hD; obtain ⟨u32, s32, rfl⟩ := hD ⟨18, .data⟩ (by simp) rfl _ rfl; obtain ⟨u34, s34, rfl⟩ := hD ⟨20, .data⟩ (by simp) rfl _ rfl; obtain ⟨u30, s30, rfl⟩ := hD ⟨16, .guard⟩ (by simp) rfl _ rfl; clear hA hD; refine o7w rfl rfl s30 ?_; intro K hK
             gi_wp2_with fail; refine (callsIn_wide.2 (refCovers_any (f.site k).has (askR f) _)).mono ?_; rintro e w2 ⟨rfl, hb⟩; rw [H3.out]; exact hK _ _ rfl hb
           · intro a' w' hA hC hD; obtain ⟨u35, s35, rfl⟩ := hD ⟨21, .data⟩ (by simp) rfl _ rfl; obtain ⟨u30, s30, rfl⟩ := hD ⟨16, .guard⟩ (by simp) rfl _ rfl; clear hA hD; refine o7w rfl rfl s30 ?_; intro K hK; gi_wp2; exact hK _ _ rfl (B7 _ _)
           · intro a' w' hA hC hD; obtain ⟨u30, s30, rfl⟩ := hD ⟨16, .data⟩ (by simp) rfl _ rfl; obtain ⟨u36, s36, rfl⟩ := hD ⟨22, .data⟩ (by simp) rfl _ rfl; obtain ⟨u16, s16, rfl⟩ := hD ⟨2, .guard⟩ (by simp) rfl _ rfl; clear hA hD; refine o7w rfl rfl s16 ?_; intro K hK; gi_wp2; exact hK _ _ rfl (B7 _ _)
           · intro a' w' hA hC hD; obtain ⟨u16, s16, rfl⟩ := hD ⟨2, .data⟩ (by simp) rfl _ rfl; obtain ⟨u37, s37, rfl⟩ := hD ⟨23, .data⟩ (by simp) rfl _ rfl; clear hA hD; refine o7p rfl ?_; intro K hK; gi_wp2; exact hK _ _ rfl (B7 _ _)
          case' hend =>
           intro w5 hC
           simp only [EndFrom, eqv, forall_eq, Act.put, List.length_cons, List.length_nil, List.drop_succ_cons, List.drop_zero, Nat.reduceAdd, List.setIfInBounds_toArray, List.set_cons_succ, List.set_cons_zero]
           have HB := H7 (HB.out.trans (hC.mono HB.out.size))
           clear hC HS
           gi_wp2_with fail
           cases x3
           · have HT := H7 (wTo_yes (f := f) (S := S) (k := k) (by unfold wB; rw [HI.out, H1.out, H2.out, H3.out]; rfl))
             have hlt := HLT.out
             go_wp2_with (at_builtin; refine wpList_app1l rowZ encZ_len encZ_one HO.out HB.out (k : Int) n0 HN.out.1 (by have := HN.out.2; omega) (by decide) _ _ rfl rfl rfl _ rfl (by rfl) ?_; intro v' W3 ho3 hsh hg3 hl3; obtain ⟨ad3, cp3, rfl⟩ := hsh; have HO3 := H7 ho3; clear ho3 hg3 hl3)
             go_roundw
             case rel => exact ⟨k + 1, hlt, by simp, by rw [HT.out]; exact HO3.out⟩
             case measure => simp [intOf]; omega
           · have HT := H7 (wTo_no (f := f) (S := S) (k := k) (by unfold wB; rw [HI.out, H1.out, H2.out, H3.out]; rfl))
             have hlt := HLT.out
             go_wp2_with fail
             go_roundw
             case rel => exact ⟨k + 1, hlt, by simp, by rw [HT.out]; exact HO.out.below HB.out⟩
             case measure => simp [intOf]; omega
        · skip
          apply w7v 25 (Rl := [(eqv _), (eqv _), (eqv _), (eqv _), (eqv _), (eqv _), (eqv _), (eqv _), (eqv _), (eqv _), (eqv _), (eqv _), (eqv _), (eqv _), (eqv _), (eqv _), (eqv _), (fun v_ _ => v_ = (undef : Value)), (fun v_ _ => v_ = (undef : Value)), (fun v_ _ => v_ = (undef : Value)), (fun v_ _ => v_ = (undef : Value)), (fun v_ _ => v_ = (undef : Value)), (fun v_ _ => v_ = (undef : Value)), (eqv _), (eqv _)]) (C := (fun x y => Below x.heap.size x y))
          case hm => kernel_rfl
          case hk => rfl
          case hCr => exact (fun _ => B7 _ _)
          case hCt => intro _ _ _; exact (fun h k => g7t h k)
          case hst => repeat (first | exact trivial | refine ⟨fun _ _ _ _ h => h, ?_⟩)
          case hfo => kernel_rfl
          case ht => kernel_rfl
          case hC0 => exact (g7d _)
          case hsteps =>
           refine ⟨?_, ?_, ?_, ?_, ?_, ?_, ?_, ?_, ?_, ?_, ?_, ?_, ?_, ?_, ?_, ?_, ?_, ?_, ?_, ?_, ?_, ?_, ?_, ?_, ?_, trivial⟩
           · intro a' w' hA hC hD; have s7 := hA.to 7 (by kernel_rfl) rfl; clear hA hD; refine o7p rfl ?_; intro K hK; gi_wp2; exact hK _ _ rfl (B7 _ _)
           · intro a' w' hA hC hD; obtain ⟨u14, s14, rfl⟩ := hD ⟨0, .data⟩ (by simp) rfl _ rfl
             have c1 := (plgCells ((HS.out.below hC).blockAt 0 rfl)).1
             clear hA hD; refine o7p rfl ?_; intro K hK; gi_wp2; rw [HI.out]; exact hK _ _ rfl (B7 _ _)
           · intro a' w' hA hC hD; obtain ⟨u15, s15, rfl⟩ := hD ⟨1, .data⟩ (by simp) rfl _ rfl; clear hA hD; refine o7p rfl ?_; intro K hK; gi_wp2; exact hK _ _ rfl (B7 _ _)
           · intro a' w' hA hC hD; have s7 := hA.to 7 (by kernel_rfl) rfl; obtain ⟨u16, s16, rfl⟩ := hD ⟨2, .guard⟩ (by simp) rfl _ rfl; clear hA hD; refine o7w rfl rfl s16 ?_; intro K hK; gi_wp2; exact hK _ _ rfl (B7 _ _)
           · intro a' w' hA hC hD; obtain ⟨u17, s17, rfl⟩ := hD ⟨3, .data⟩ (by simp) rfl _ rfl; obtain ⟨u16, s16, rfl⟩ := hD ⟨2, .guard⟩ (by simp) rfl _ rfl
             have c4 := (plgCells ((HS.out.below hC).blockAt 0 rfl)).2.1
             clear hA hD; refine o7w rfl rfl s16 ?_; intro K hK; gi_wp2; exact hK _ _ rfl (B7 _ _)
           · intro a' w' hA hC hD; have s2 := hA.to 2 (by kernel_rfl) rfl; obtain ⟨u16, s16, rfl⟩ := hD ⟨2, .guard⟩ (by simp) rfl _ rfl; clear hA hD; refine o7w rfl rfl s16 ?_; intro K hK; gi_wp2; exact hK _ _ rfl (B7 _ _)
           · intro a' w' hA hC hD; obtain ⟨u19, s19, rfl⟩ := hD ⟨5, .data⟩ (by simp) rfl _ rfl; obtain ⟨u16, s16, rfl⟩ := hD ⟨2, .guard⟩ (by simp) rfl _ rfl
             have c6 := Frt.propC ((HS.out.below hC).blockAt 2 rfl)
             clear hA hD; refine o7w rfl rfl s16 ?_; intro K hK; gi_wp2; exact hK _ _ rfl (B7 _ _)
           · intro a' w' hA hC hD; obtain ⟨u18, s18, rfl⟩ := hD ⟨4, .data⟩ (by simp) rfl _ rfl; obtain ⟨u20, s20, rfl⟩ := hD ⟨6, .data⟩ (by simp) rfl _ rfl; obtain ⟨u16, s16, rfl⟩ := hD ⟨2, .guard⟩ (by simp) rfl _ rfl; clear hA hD; refine o7w rfl rfl s16 ?_; intro K hK; gi_wp2; rw [H1.out]; exact hK _ _ rfl (B7 _ _)
           · intro a' w' hA hC hD; obtain ⟨u21, s21, rfl⟩ := hD ⟨7, .data⟩ (by simp) rfl _ rfl; obtain ⟨u16, s16, rfl⟩ := hD ⟨2, .chain⟩ (by simp) rfl _ rfl; clear hA hD; refine o7w rfl rfl s16 ?_; intro K hK; gi_wp2; exact hK _ _ rfl (B7 _ _)
           · intro a' w' hA hC hD; have s7 := hA.to 7 (by kernel_rfl) rfl; obtain ⟨u22, s22, rfl⟩ := hD ⟨8, .guard⟩ (by simp) rfl _ rfl; clear hA hD; refine o7w rfl rfl s22 ?_; intro K hK; gi_wp2; exact hK _ _ rfl (B7 _ _)
           · intro a' w' hA hC hD; obtain ⟨u23, s23, rfl⟩ := hD ⟨9, .data⟩ (by simp) rfl _ rfl; obtain ⟨u22, s22, rfl⟩ := hD ⟨8, .guard⟩ (by simp) rfl _ rfl
             have c10 := (plgCells ((HS.out.below hC).blockAt 0 rfl)).2.2
             clear hA hD; refine o7w rfl rfl s22 ?_; intro K hK; gi_wp2; exact hK _ _ rfl (B7 _ _)
           · intro a' w' hA hC hD; have s6 := hA.to 6 (by kernel_rfl) rfl; obtain ⟨u22, s22, rfl⟩ := hD ⟨8, .guard⟩ (by simp) rfl _ rfl; clear hA hD; refine o7w rfl rfl s22 ?_; intro K hK; gi_wp2; exact hK _ _ rfl (B7 _ _)
           · intro a' w' hA hC hD; have s3 := hA.to 3 (by kernel_rfl) rfl; obtain ⟨u25, s25, rfl⟩ := hD ⟨11, .data⟩ (by simp) rfl _ rfl; obtain ⟨u22, s22, rfl⟩ := hD ⟨8, .guard⟩ (by simp) rfl _ rfl
             have hk9 := HLT.out
             clear hA hD; refine o7w rfl rfl s22 ?_; intro K hK; gi_wp2; exact hK _ _ rfl (B7 _ _)
           · intro a' w' hA hC hD; obtain ⟨u26, s26, rfl⟩ := hD ⟨12, .data⟩ (by simp) rfl _ rfl; obtain ⟨u22, s22, rfl⟩ := hD ⟨8, .guard⟩ (by simp) rfl _ rfl
             have c13 := c7b ((HS.out.below hC).blockAt 1 rfl) (lit9_get _ _ HLT.out)
             clear hA hD; refine o7w rfl rfl s22 ?_; intro K hK; gi_wp2; exact hK _ _ rfl (B7 _ _)
           · intro a' w' hA hC hD; obtain ⟨u24, s24, rfl⟩ := hD ⟨10, .data⟩ (by simp) rfl _ rfl; obtain ⟨u27, s27, rfl⟩ := hD ⟨13, .data⟩ (by simp) rfl _ rfl; obtain ⟨u22, s22, rfl⟩ := hD ⟨8, .guard⟩ (by simp) rfl _ rfl; clear hA hD; refine o7w rfl rfl s22 ?_; intro K hK; gi_wp2; rw [H2.out]; exact hK _ _ rfl (B7 _ _)
           · intro a' w' hA hC hD; obtain ⟨u22, s22, rfl⟩ := hD ⟨8, .data⟩ (by simp) rfl _ rfl; obtain ⟨u28, s28, rfl⟩ := hD ⟨14, .data⟩ (by simp) rfl _ rfl; obtain ⟨u16, s16, rfl⟩ := hD ⟨2, .guard⟩ (by simp) rfl _ rfl; clear hA hD; refine o7w rfl rfl s16 ?_; intro K hK; gi_wp2; exact hK _ _ rfl (B7 _ _)
           · intro a' w' hA hC hD; obtain ⟨u29, s29, rfl⟩ := hD ⟨15, .data⟩ (by simp) rfl _ rfl; obtain ⟨u16, s16, rfl⟩ := hD ⟨2, .guard⟩ (by simp) rfl _ rfl; clear hA hD; refine o7w rfl rfl s16 ?_; intro K hK; gi_wp2; exact hK _ _ rfl (B7 _ _)
           · intro a' w' hA hC hD; have s7 := hA.to 7 (by kernel_rfl) rfl; obtain ⟨u30, s30, rfl⟩ := hD ⟨16, .guard⟩ (by simp) rfl _ rfl; clear hA hD
             exact o7s rfl rfl s30 rfl
           · intro a' w' hA hC hD; obtain ⟨u31, s31, r31⟩ := hD ⟨17, .data⟩ (by simp) rfl _ rfl; replace r31 : u31 = undef := r31; subst r31; obtain ⟨u30, s30, rfl⟩ := hD ⟨16, .guard⟩ (by simp) rfl _ rfl; clear hA hD
             exact o7s rfl rfl s30 rfl
           · intro a' w' hA hC hD; have s2 := hA.to 2 (by kernel_rfl) rfl; obtain ⟨u30, s30, rfl⟩ := hD ⟨16, .guard⟩ (by simp) rfl _ rfl; clear hA hD
             exact o7s rfl rfl s30 rfl
           · intro a' w' hA hC hD; obtain ⟨u33, s33, r33⟩ := hD ⟨19, .data⟩ (by simp) rfl _ rfl; replace r33 : u33 = undef := r33; subst r33; obtain ⟨u30, s30, rfl⟩ := hD ⟨16, .chain⟩ (by simp) rfl _ rfl; clear hA hD
             exact o7s rfl rfl s30 rfl
           · intro a' w' hA hC hD; obtain ⟨u32, s32, r32⟩ := hD ⟨18, .data⟩ (by simp) rfl _ rfl; replace r32 : u32 = undef := r32; subst r32; obtain ⟨u34, s34, r34⟩ := hD ⟨20, .data⟩ (by simp) rfl _ rfl; replace r34 : u34 = undef := r34; subst r34; obtain ⟨u30, s30, rfl⟩ := hD ⟨16, .guard⟩ (by simp) rfl _ rfl; clear hA hD
             exact o7s rfl rfl s30 rfl
           · intro a' w' hA hC hD; obtain ⟨u35, s35, r35⟩ := hD ⟨21, .data⟩ (by simp) rfl _ rfl; replace r35 : u35 = undef := r35; subst r35; obtain ⟨u30, s30, rfl⟩ := hD ⟨16, .guard⟩ (by simp) rfl _ rfl; clear hA hD
             exact o7s rfl rfl s30 rfl
           · intro a' w' hA hC hD; obtain ⟨u30, s30, rfl⟩ := hD ⟨16, .data⟩ (by simp) rfl _ rfl; obtain ⟨u36, s36, r36⟩ := hD ⟨22, .data⟩ (by simp) rfl _ rfl; replace r36 : u36 = undef := r36; subst r36; obtain ⟨u16, s16, rfl⟩ := hD ⟨2, .guard⟩ (by simp) rfl _ rfl; clear hA hD; refine o7w rfl rfl s16 ?_; intro K hK; gi_wp2; exact hK _ _ rfl (B7 _ _)
           · intro a' w' hA hC hD; obtain ⟨u16, s16, rfl⟩ := hD ⟨2, .data⟩ (by simp) rfl _ rfl; obtain ⟨u37, s37, rfl⟩ := hD ⟨23, .data⟩ (by simp) rfl _ rfl; clear hA hD; refine o7p rfl ?_; intro K hK; gi_wp2; exact hK _ _ rfl (B7 _ _)
          case' hend =>
           intro w5 hC
           simp only [EndFrom, eqv, forall_eq, Act.put, List.length_cons, List.length_nil, List.drop_succ_cons, List.drop_zero, Nat.reduceAdd, List.setIfInBounds_toArray, List.set_cons_succ, List.set_cons_zero]
           have HB := H7 (HB.out.trans (hC.mono HB.out.size))
           clear hC HS
           gi_wp2_with fail
           have HT := H7 (wTo_yes (f := f) (S := S) (k := k) (by unfold wB; rw [HI.out, H1.out, H2.out]; rfl))
           have hlt := HLT.out
           go_wp2_with (at_builtin; refine wpList_app1l rowZ encZ_len encZ_one HO.out HB.out (k : Int) n0 HN.out.1 (by have := HN.out.2; omega) (by decide) _ _ rfl rfl rfl _ rfl (by rfl) ?_; intro v' W3 ho3 hsh hg3 hl3; obtain ⟨ad3, cp3, rfl⟩ := hsh; have HO3 := H7 ho3; clear ho3 hg3 hl3)
           go_roundw
           case rel => exact ⟨k + 1, hlt, by simp, by rw [HT.out]; exact HO3.out⟩
           case measure => simp [intOf]; omega
      · skip
        apply w7v 25 (Rl := [(eqv _), (eqv _), (eqv _), (eqv _), (eqv _), (eqv _), (eqv _), (eqv _), (eqv _), (fun v_ _ => v_ = (undef : Value)), (fun v_ _ => v_ = (undef : Value)), (fun v_ _ => v_ = (undef : Value)), (fun v_ _ => v_ = (undef : Value)), (fun v_ _ => v_ = (undef : Value)), (fun v_ _ => v_ = (undef : Value)), (eqv _), (eqv _), (fun v_ _ => v_ = (undef : Value)), (fun v_ _ => v_ = (undef : Value)), (fun v_ _ => v_ = (undef : Value)), (fun v_ _ => v_ = (undef : Value)), (fun v_ _ => v_ = (undef : Value)), (fun v_ _ => v_ = (undef : Value)), (eqv _), (eqv _)]) (C := (fun x y => Below x.heap.size x y))
        case hm => kernel_rfl
        case hk => rfl
        case hCr => exact (fun _ => B7 _ _)
        case hCt => intro _ _ _; exact (fun h k => g7t h k)
        case hst => repeat (first | exact trivial | refine ⟨fun _ _ _ _ h => h, ?_⟩)
        case hfo => kernel_rfl
        case ht => kernel_rfl
        case hC0 => exact (g7d _)
        case hsteps =>
         refine ⟨?_, ?_, ?_, ?_, ?_, ?_, ?_, ?_, ?_, ?_, ?_, ?_, ?_, ?_, ?_, ?_, ?_, ?_, ?_, ?_, ?_, ?_, ?_, ?_, ?_, trivial⟩
         · intro a' w' hA hC hD; have s7 := hA.to 7 (by kernel_rfl) rfl; clear hA hD; refine o7p rfl ?_; intro K hK; gi_wp2; exact hK _ _ rfl (B7 _ _)
         · intro a' w' hA hC hD; obtain ⟨u14, s14, rfl⟩ := hD ⟨0, .data⟩ (by simp) rfl _ rfl
           have c1 := (plgCells ((HS.out.below hC).blockAt 0 rfl)).1
           clear hA hD; refine o7p rfl ?_; intro K hK; gi_wp2; rw [HI.out]; exact hK _ _ rfl (B7 _ _)
         · intro a' w' hA hC hD; obtain ⟨u15, s15, rfl⟩ := hD ⟨1, .data⟩ (by simp) rfl _ rfl; clear hA hD; refine o7p rfl ?_; intro K hK; gi_wp2; exact hK _ _ rfl (B7 _ _)
         · intro a' w' hA hC hD; have s7 := hA.to 7 (by kernel_rfl) rfl; obtain ⟨u16, s16, rfl⟩ := hD ⟨2, .guard⟩ (by simp) rfl _ rfl; clear hA hD; refine o7w rfl rfl s16 ?_; intro K hK; gi_wp2; exact hK _ _ rfl (B7 _ _)
         · intro a' w' hA hC hD; obtain ⟨u17, s17, rfl⟩ := hD ⟨3, .data⟩ (by simp) rfl _ rfl; obtain ⟨u16, s16, rfl⟩ := hD ⟨2, .guard⟩ (by simp) rfl _ rfl
           have c4 := (plgCells ((HS.out.below hC).blockAt 0 rfl)).2.1
           clear hA hD; refine o7w rfl rfl s16 ?_; intro K hK; gi_wp2; exact hK _ _ rfl (B7 _ _)
         · intro a' w' hA hC hD; have s2 := hA.to 2 (by kernel_rfl) rfl; obtain ⟨u16, s16, rfl⟩ := hD ⟨2, .guard⟩ (by simp) rfl _ rfl; clear hA hD; refine o7w rfl rfl s16 ?_; intro K hK; gi_wp2; exact hK _ _ rfl (B7 _ _)
         · intro a' w' hA hC hD; obtain ⟨u19, s19, rfl⟩ := hD ⟨5, .data⟩ (by simp) rfl _ rfl; obtain ⟨u16, s16, rfl⟩ := hD ⟨2, .guard⟩ (by simp) rfl _ rfl
           have c6 := Frt.propC ((HS.out.below hC).blockAt 2 rfl)
           clear hA hD; refine o7w rfl rfl s16 ?_; intro K hK; gi_wp2; exact hK _ _ rfl (B7 _ _)
         · intro a' w' hA hC hD; obtain ⟨u18, s18, rfl⟩ := hD ⟨4, .data⟩ (by simp) rfl _ rfl; obtain ⟨u20, s20, rfl⟩ := hD ⟨6, .data⟩ (by simp) rfl _ rfl; obtain ⟨u16, s16, rfl⟩ := hD ⟨2, .guard⟩ (by simp) rfl _ rfl; clear hA hD; refine o7w rfl rfl s16 ?_; intro K hK; gi_wp2; rw [H1.out]; exact hK _ _ rfl (B7 _ _)
         · intro a' w' hA hC hD; obtain ⟨u21, s21, rfl⟩ := hD ⟨7, .data⟩ (by simp) rfl _ rfl; obtain ⟨u16, s16, rfl⟩ := hD ⟨2, .chain⟩ (by simp) rfl _ rfl; clear hA hD; refine o7w rfl rfl s16 ?_; intro K hK; gi_wp2; exact hK _ _ rfl (B7 _ _)
         · intro a' w' hA hC hD; have s7 := hA.to 7 (by kernel_rfl) rfl; obtain ⟨u22, s22, rfl⟩ := hD ⟨8, .guard⟩ (by simp) rfl _ rfl; clear hA hD
           exact o7s rfl rfl s22 rfl
         · intro a' w' hA hC hD; obtain ⟨u23, s23, r23⟩ := hD ⟨9, .data⟩ (by simp) rfl _ rfl; replace r23 : u23 = undef := r23; subst r23; obtain ⟨u22, s22, rfl⟩ := hD ⟨8, .guard⟩ (by simp) rfl _ rfl; clear hA hD
           exact o7s rfl rfl s22 rfl
         · intro a' w' hA hC hD; have s6 := hA.to 6 (by kernel_rfl) rfl; obtain ⟨u22, s22, rfl⟩ := hD ⟨8, .guard⟩ (by simp) rfl _ rfl; clear hA hD
           exact o7s rfl rfl s22 rfl
         · intro a' w' hA hC hD; have s3 := hA.to 3 (by kernel_rfl) rfl; obtain ⟨u25, s25, r25⟩ := hD ⟨11, .data⟩ (by simp) rfl _ rfl; replace r25 : u25 = undef := r25; subst r25; obtain ⟨u22, s22, rfl⟩ := hD ⟨8, .guard⟩ (by simp) rfl _ rfl; clear hA hD
           exact o7s rfl rfl s22 rfl
         · intro a' w' hA hC hD; obtain ⟨u26, s26, r26⟩ := hD ⟨12, .data⟩ (by simp) rfl _ rfl; replace r26 : u26 = undef := r26; subst r26; obtain ⟨u22, s22, rfl⟩ := hD ⟨8, .guard⟩ (by simp) rfl _ rfl; clear hA hD
           exact o7s rfl rfl s22 rfl
         · intro a' w' hA hC hD; obtain ⟨u24, s24, r24⟩ := hD ⟨10, .data⟩ (by simp) rfl _ rfl; replace r24 : u24 = undef := r24; subst r24; obtain ⟨u27, s27, r27⟩ := hD ⟨13, .data⟩ (by simp) rfl _ rfl; replace r27 : u27 = undef := r27; subst r27; obtain ⟨u22, s22, rfl⟩ := hD ⟨8, .guard⟩ (by simp) rfl _ rfl; clear hA hD
           exact o7s rfl rfl s22 rfl
         · intro a' w' hA hC hD; obtain ⟨u22, s22, rfl⟩ := hD ⟨8, .data⟩ (by simp) rfl _ rfl; obtain ⟨u28, s28, r28⟩ := hD ⟨14, .data⟩ (by simp) rfl _ rfl; replace r28 : u28 = undef := r28; subst r28; obtain ⟨u16, s16, rfl⟩ := hD ⟨2, .guard⟩ (by simp) rfl _ rfl; clear hA hD; refine o7w rfl rfl s16 ?_; intro K hK; gi_wp2; exact hK _ _ rfl (B7 _ _)
         · intro a' w' hA hC hD; obtain ⟨u29, s29, rfl⟩ := hD ⟨15, .data⟩ (by simp) rfl _ rfl; obtain ⟨u16, s16, rfl⟩ := hD ⟨2, .guard⟩ (by simp) rfl _ rfl; clear hA hD; refine o7w rfl rfl s16 ?_; intro K hK; gi_wp2; exact hK _ _ rfl (B7 _ _)
         · intro a' w' hA hC hD; have s7 := hA.to 7 (by kernel_rfl) rfl; obtain ⟨u30, s30, rfl⟩ := hD ⟨16, .guard⟩ (by simp) rfl _ rfl; clear hA hD
           exact o7s rfl rfl s30 rfl
         · intro a' w' hA hC hD; obtain ⟨u31, s31, r31⟩ := hD ⟨17, .data⟩ (by simp) rfl _ rfl; replace r31 : u31 = undef := r31; subst r31; obtain ⟨u30, s30, rfl⟩ := hD ⟨16, .guard⟩ (by simp) rfl _ rfl; clear hA hD
           exact o7s rfl rfl s30 rfl
         · intro a' w' hA hC hD; have s2 := hA.to 2 (by kernel_rfl) rfl; obtain ⟨u30, s30, rfl⟩ := hD ⟨16, .guard⟩ (by simp) rfl _ rfl; clear hA hD
           exact o7s rfl rfl s30 rfl
         · intro a' w' hA hC hD; obtain ⟨u33, s33, r33⟩ := hD ⟨19, .data⟩ (by simp) rfl _ rfl; replace r33 : u33 = undef := r33; subst r33; obtain ⟨u30, s30, rfl⟩ := hD ⟨16, .chain⟩ (by simp) rfl _ rfl; clear hA hD
           exact o7s rfl rfl s30 rfl
         · intro a' w' hA hC hD; obtain ⟨u32, s32, r32⟩ := hD ⟨18, .data⟩ (by simp) rfl _ rfl; replace r32 : u32 = undef := r32; subst r32; obtain ⟨u34, s34, r34⟩ := hD ⟨20, .data⟩ (by simp) rfl _ rfl; replace r34 : u34 = undef := r34; subst r34; obtain ⟨u30, s30, rfl⟩ := hD ⟨16, .guard⟩ (by simp) rfl _ rfl; clear hA hD
           exact o7s rfl rfl s30 rfl
         · intro a' w' hA hC hD; obtain ⟨u35, s35, r35⟩ := hD ⟨21, .data⟩ (by simp) rfl _ rfl; replace r35 : u35 = undef := r35; subst r35; obtain ⟨u30, s30, rfl⟩ := hD ⟨16, .guard⟩ (by simp) rfl _ rfl; clear hA hD
           exact o7s rfl rfl s30 rfl
         · intro a' w' hA hC hD; obtain ⟨u30, s30, rfl⟩ := hD ⟨16, .data⟩ (by simp) rfl _ rfl; obtain ⟨u36, s36, r36⟩ := hD ⟨22, .data⟩ (by simp) rfl _ rfl; replace r36 : u36 = undef := r36; subst r36; obtain ⟨u16, s16, rfl⟩ := hD ⟨2, .guard⟩ (by simp) rfl _ rfl; clear hA hD; refine o7w rfl rfl s16 ?_; intro K hK; gi_wp2; exact hK _ _ rfl (B7 _ _)
         · intro a' w' hA hC hD; obtain ⟨u16, s16, rfl⟩ := hD ⟨2, .data⟩ (by simp) rfl _ rfl; obtain ⟨u37, s37, rfl⟩ := hD ⟨23, .data⟩ (by simp) rfl _ rfl; clear hA hD; refine o7p rfl ?_; intro K hK; gi_wp2; exact hK _ _ rfl (B7 _ _)
        case' hend =>
         intro w5 hC
         simp only [EndFrom, eqv, forall_eq, Act.put, List.length_cons, List.length_nil, List.drop_succ_cons, List.drop_zero, Nat.reduceAdd, List.setIfInBounds_toArray, List.set_cons_succ, List.set_cons_zero]
         have HB := H7 (HB.out.trans (hC.mono HB.out.size))
         clear hC HS
         gi_wp2_with fail
         have HT := H7 (wTo_yes (f := f) (S := S) (k := k) (by unfold wB; rw [HI.out, H1.out]; rfl))
         have hlt := HLT.out
         go_wp2_with (at_builtin; refine wpList_app1l rowZ encZ_len encZ_one HO.out HB.out (k : Int) n0 HN.out.1 (by have := HN.out.2; omega) (by decide) _ _ rfl rfl rfl _ rfl (by rfl) ?_; intro v' W3 ho3 hsh hg3 hl3; obtain ⟨ad3, cp3, rfl⟩ := hsh; have HO3 := H7 ho3; clear ho3 hg3 hl3)
         go_roundw
         case rel => exact ⟨k + 1, hlt, by simp, by rw [HT.out]; exact HO3.out⟩
         case measure => simp [intOf]; omega
  · obtain rfl : k = 9 := by omega
    obtain ⟨ad, cap, rfl, -⟩ := HO.out.shape
    go_wp2_with fail
    go_ret
    exact ⟨_, rfl, ownsRow_mono HO.out.row HO.out.low, HO.out.st.low⟩
set_option maxRecDepth 100000 in
set_option maxHeartbeats 2000000 in
theorem r18Ready_any (f : Frt) (S : Nat → Int) (w : World) : Calls Tryz.prog 27 #[.agg f.cells, .agg (lit9 S)] w (Gives (.bool (decide (f.prop > 0) && (wTo f S 9).isEmpty)) w) := by
 have HS := H7 (St.start w)
 have HW := H7 (fun w' => show Calls Tryz.prog 26 #[.agg f.cells, .agg (lit9 S)] w' (GivesRow 3 1 (wTo f S 9).length ((wTo f S 9).flatMap encZ) w') from r18Waits_any f S w')
 generalize wTo f S 9 = L at HW ⊢
 obtain ⟨x, hx⟩ : ∃ x, decide (f.prop > 0) = x := ⟨_, rfl⟩
 rw [hx]
 go_enter Tryz.func27, Tryz.ntmps27
 repeat ((fail_if_success (with_reducible refine stop_at (id := 1) ?_)); (first | go_values | go_skip | go_guarded | go_step | go_upon | go_back | (simp only [Int.not_lt, Int.not_le] at *; go_simp) | (go_values <;> (try go_simp)) | (go_ite <;> go_prune <;> (try go_simp)) | (split <;> (first | (rename_i hx; exact (hx _ rfl).elim) | go_prune))))
 have hs_ := ((HS.out.alloc (.cells f.cells 29)).alloc (.cells (lit9 S) 24))
 obtain ⟨w1, hw_⟩ : ∃ w1 : World, ((w.alloc (.cells f.cells 29)).alloc (.cells (lit9 S) 24)) = w1 := ⟨_, rfl⟩
 rw [hw_] at hs_
 try simp only [World.size_alloc] at hs_
 have HS := H7 hs_
 rw [hw_]
 clear hw_ hs_
 have c1 := Frt.propC (HS.out.blockAt 1 rfl)
 refine (wpIn_wide (n := 0)).1 ?_
 cases x with
 | false =>
  repeat (first | (exfalso; exact undefB (by assumption)) | (refine ldF _ rfl rfl (HS.out.blockAt 1 rfl) ?_; simp only [Act.put, List.setIfInBounds_toArray, List.set_cons_succ, List.set_cons_zero]) | (refine ldV _ rfl rfl (HS.out.blockAt 0 rfl) ?_; simp only [Act.put, List.setIfInBounds_toArray, List.set_cons_succ, List.set_cons_zero]) | gi_step)
  gi_wp2_with (exfalso; exact undefB (by assumption))
  go_wp2_with fail
  go_ret
  exact ⟨rfl, HS.out.low⟩
 | true =>
  repeat (first | (refine ldF _ rfl rfl (HS.out.blockAt 1 rfl) ?_; simp only [Act.put, List.setIfInBounds_toArray, List.set_cons_succ, List.set_cons_zero]) | (refine ldV _ rfl rfl (HS.out.blockAt 0 rfl) ?_; simp only [Act.put, List.setIfInBounds_toArray, List.set_cons_succ, List.set_cons_zero]) | gi_step)
  refine (callsIn_wide.2 (HW.out _)).mono ?_
  rintro e w2 ⟨sv, rfl, hrow, hb_⟩
  have HS := H7 (HS.out.below hb_)
  clear hb_
  obtain ⟨a4, c4, rfl⟩ := rowShape hrow
  clear hrow HW
  obtain ⟨m, hm⟩ : ∃ m, L.length = m := ⟨_, rfl⟩
  have HE := H7 (show L.isEmpty = ((m : Int) == 0) from by
   rw [← hm]
   cases L with
   | nil => rfl
   | cons y l =>
    symm
    rw [List.length_cons]
    exact beq_eq_false_iff_ne.2 (by omega))
  rw [hm]; rw [HE.out]
  clear hm
  gi_wp2_with (exfalso; exact undefB (by assumption))
  go_wp2_with fail
  go_ret
  exact ⟨by simp [HE.out], HS.out.low⟩
end Go.Proofs.YteklfmacnnmomaaGreat
/- Layer 18: what is heard, one after the other (plain laws). -/
namespace Go.Proofs.YteklfmacnnmomaaGreat
open Go.RowKit Go.Shelf
def hstep (n : Int) (f : Frt) (p : Plg) : Frt := if trE f (hearE f n p) = 0 then hearF f n p else f
/-- The pledge of one site. -/
def hq (q p : Plg) : Plg := if pledgeOk p = true then hearP q p else q
/- slices.Reverse at any row; what lies beside it. -/
section
variable {α : Type} [Inhabited α] {P : Program} {ρ : Ren}
end
end Go.Proofs.YteklfmacnnmomaaGreat
/- Layer 18: rows of pledges; the closure that hears them. -/
namespace Go.Proofs.YteklfmacnnmomaaGreat
open Go.RowKit Go.Shelf
attribute [local go_sem] Oper.semAt_some
end Go.Proofs.YteklfmacnnmomaaGreat
/- Layer 18: plain laws of FrontierMay. -/
namespace Go.Proofs.YteklfmacnnmomaaGreat
open Go.RowKit Go.Shelf
/-- What the program answers of a vector. -/
structure MayR (f : Frt) (S : Nat → Int) (RB : Bool) (RV : Nat → Int) (E : Int) (NF : Frt) (LW : List Int) : Prop where
 rb : readyB f S = RB
 rv : readyV f S = RV
 e : trE f (foldE f S) = E
 nf : trF f (foldF f) (foldE f S) = NF
 lw : waitsL f S = LW
theorem may_out {f : Frt} {S : Nat → Int} (h : mayB f S = false) (he : trE f (foldE f S) ≠ 0) : MayR f S false (fun _ => 0) (trE f (foldE f S)) frZ [] := by
 have hr : readyB f S = false := by unfold readyB; rw [h]; rfl
 exact ⟨hr, by unfold readyV; rw [hr]; rfl, rfl, trF_no he, by unfold waitsL; rw [h]; rfl⟩
theorem may_bad1 {f : Frt} (h : f.okB = false) (S : Nat → Int) : MayR f S false (fun _ => 0) 280 frZ [] := by
 have he : trE f (foldE f S) = 280 := by unfold trE; rw [h]; rfl
 have := may_out (f := f) (S := S) (by unfold mayB; rw [h]; rfl) (by rw [he]; decide)
 rw [he] at this
 exact this
theorem may_bad2 {f : Frt} (h : f.okB = true) {S : Nat → Int} (hv : vecOk S = false) : MayR f S false (fun _ => 0) 2 frZ [] := by
 have he : trE f (foldE f S) = 2 := by unfold trE foldE; rw [h, hv]; rfl
 have := may_out (f := f) (S := S) (by unfold mayB; rw [h, hv]; rfl) (by rw [he]; decide)
 rw [he] at this
 exact this
theorem may_bad3 {f : Frt} (h : f.okB = true) {S : Nat → Int} (hv : vecOk S = true) (hp : f.prop = 0) : MayR f S false (fun _ => 0) 4 frZ [] := by
 have hm : mayB f S = false := by unfold mayB; rw [h, hv, hp]; rfl
 have hr : readyB f S = false := by unfold readyB; rw [hm]; rfl
 have he : trE f (foldE f S) = 4 := by unfold trE foldE; rw [h, hv, hr]; rfl
 have := may_out hm (by rw [he]; decide)
 rw [he] at this
 exact this
theorem may_wait {f : Frt} (h : f.okB = true) {S : Nat → Int} (hv : vecOk S = true) (hp : 0 < f.prop) : mayB f S = true ∧ waitsL f S = wTo f S 9 := by
 have hm : mayB f S = true := by
  unfold mayB
  rw [h, hv, show (f.prop == 0) = false from beq_eq_false_iff_ne.2 (by omega)]; rfl
 exact ⟨hm, by unfold waitsL; rw [if_pos hm, waits_same h]⟩
theorem may_bad4 {f : Frt} (h : f.okB = true) {S : Nat → Int} (hv : vecOk S = true) (hp : 0 < f.prop) (he : (wTo f S 9).isEmpty = false) : MayR f S false (fun _ => 0) 4 frZ (wTo f S 9) := by
 obtain ⟨hm, hw⟩ := may_wait h hv hp
 have hr : readyB f S = false := by unfold readyB; rw [hw, he, Bool.and_false]
 have he4 : trE f (foldE f S) = 4 := by unfold trE foldE; rw [h, hv, hr]; rfl
 exact ⟨hr, by unfold readyV; rw [hr]; rfl, he4, trF_no (by rw [he4]; decide), hw⟩
theorem may_good {f : Frt} (h : f.okB = true) {S : Nat → Int} (hv : vecOk S = true) (hp : 0 < f.prop) (he : (wTo f S 9).isEmpty = true) : MayR f S true (askF f) 0 (foldF f) (wTo f S 9) := by
 obtain ⟨hm, hw⟩ := may_wait h hv hp
 have hr : readyB f S = true := by unfold readyB; rw [hm, hw, he]; rfl
 have he4 : trE f (foldE f S) = 0 := by unfold trE foldE; rw [h, hv, hr]; rfl
 exact ⟨hr, by unfold readyV; rw [hr]; rfl, he4, trF_ok he4, hw⟩
theorem ask_lit {f : Frt} (h : f.okB = true) : lit9 (askR f) = lit9 (askF f) := lit9_ext (ask_same h)
theorem fold_cells {f : Frt} (h : f.okB = true) : (⟨f.prop, askR f, 0, f.site⟩ : Frt).cells = (foldF f).cells := by
 unfold foldF Frt.cells Frt.l Frt.head
 rw [show (⟨f.prop, askR f, 0, f.site⟩ : Frt).tl = (⟨f.prop, askF f, 0, f.site⟩ : Frt).tl from rfl]
 simp only [ask_same h 0 (by decide), ask_same h 1 (by decide), ask_same h 2 (by decide), ask_same h 3 (by decide), ask_same h 4 (by decide), ask_same h 5 (by decide), ask_same h 6 (by decide), ask_same h 7 (by decide), ask_same h 8 (by decide)]
/-- The registered sites below k. -/
def inTo (f : Frt) (k : Nat) : List Int := natI ((List.range k).filter fun j => (f.site j).inn)
theorem inTo_yes {f : Frt} {k : Nat} (h : (f.site k).inn = true) : inTo f (k + 1) = inTo f k ++ [(k : Int)] := by
 unfold inTo
 rw [List.range_succ, List.filter_append, ← natI_snoc]
 simp [h]
theorem inTo_no {f : Frt} {k : Nat} (h : (f.site k).inn = false) : inTo f (k + 1) = inTo f k := by
 unfold inTo
 rw [List.range_succ, List.filter_append]
 simp [h]
theorem inTo_len (f : Frt) (k : Nat) : (inTo f k).length ≤ k := by
 unfold inTo
 rw [natI_len]
 have := List.length_filter_le (fun j => (f.site j).inn) (List.range k)
 rwa [List.length_range] at this
theorem inTo_one {f : Frt} (h : f.okB = true) : inTo f 1 = [] := by
 rw [inTo_no (okB_site0 h)]; rfl
theorem sites_nil {f : Frt} (h : f.okB = true) : sitesL f [] = natI (regL f) := by unfold sitesL; rw [if_pos h]; rfl
theorem sites_some {f : Frt} (h : f.okB = true) {l : List Int} (hl : l.length ≠ 0) : sitesL f l = l.filter fun x => decide (x ∈ natI (regL f)) := by unfold sitesL; rw [if_pos h, if_neg hl]
theorem sites_bad {f : Frt} (h : f.okB = false) (l : List Int) : sitesL f l = [] := by unfold sitesL; rw [h]; rfl
theorem cloneZn (sv : Value) (l : List Int) (n : Nat) (hn : l.length = n) (w : World) (h : Elems w sv n 1 (rowC encZ l)) (hl : n ≤ 1000000) :
 Calls Tryz.prog 32 #[sv] w (Cloned 3 1 n (l.flatMap encZ) sv w) := by
 subst hn
 exact cloneZ_any sv l w h (by omega)
theorem vecRng {w : World} {a : Option Addr} {n c k : Nat} {X : Nat → Nat → Int} (h : Elems w (.slice a n c) n 9 (vecCells X)) (hk : k < n) : ∃ b off, a = some ⟨b, off, none⟩ ∧ b < w.heap.size ∧ w.rangeAt b (off + k * 9) (lit9 (X k)).toList := by
 rcases h with ⟨e, h0⟩ | ⟨b, off, cap, e, hlt, hc⟩
 · omega
 · cases e
   refine ⟨b, off, rfl, hlt, fun j v hv => ?_⟩
   have hj : j < 9 := (List.getElem?_eq_some_iff.1 hv).1
   rw [show off + k * 9 + j = off + (k * 9 + j) by omega, hc _ (by omega)]
   unfold vecCells
   rw [show (k * 9 + j) / 9 = k by omega, show (k * 9 + j) % 9 = j by omega]; rw [← hv]
   match j, hj with
   | 0, _ | 1, _ | 2, _ | 3, _ | 4, _ | 5, _ | 6, _ | 7, _ | 8, _ => rfl
theorem ldVr {F : Fence} {n : Nat} {w : World} {o : Oper} {a : Act} {K : Act → World → Prop} {Q : Exit → Act → World → Prop} (x : Operand) (ho : o.op = .load 24 x) {b off : Nat} (hx : a.eval x = .pointer (some ⟨b, off, none⟩)) {v : Nat → Int} (hg : w.rangeAt b off (lit9 v).toList) (hK : K (a.put o.dst (.agg (lit9 v))) w) : o.wpIn F n Tryz.prog a w K Q :=
 opIn_load_mid 24 x ho b off hx (lit9 v).toList _ hg Tryz.underlying24 rfl (size_Vl _) hK
theorem litZ : (#[.int .u64 0, .int .u64 0, .int .u64 0, .int .u64 0, .int .u64 0, .int .u64 0, .int .u64 0, .int .u64 0, .int .u64 0] : Array Value) = lit9 (fun _ => 0) := rfl
theorem RowH.setRow {N n : Nat} {l : List Int} {sv : Value} {w : World} (h : RowH N n l sv w) {b : Nat} {c : Array Value} {t : TypeId} {f : Nat × Nat} (hb : w.heap[b]? = some (.cells c t f)) (ht : t ≠ 3) (c' : Array Value) : RowH N n l sv (w.setRow b c') := by
 refine ⟨h.len, ?_⟩
 obtain ⟨hlen, ⟨rfl, rfl⟩ | ⟨g, cap, cur, rfl, h1, hblk, h3⟩⟩ := h.own
 · exact ⟨hlen, .inl ⟨rfl, rfl⟩⟩
 · refine ⟨hlen, .inr ⟨g, cap, cur, rfl, h1, (setRow_other w b g c' fun e => ?_).trans hblk, h3⟩⟩
   subst e
   rw [hblk] at hb
   injection hb with e2
   injection e2 with e3 e4
   exact ht e4.symm
theorem eqZn {m : Nat} (a1 a2 : Option Addr) (c d : Nat) (l : List Int) (hl : l.length = m) (hm : m ≤ 1000000) (w : World) (h1 : Elems w (.slice a1 m c) m 1 (rowC encZ l)) (h2 : Elems w (.slice a2 m d) m 1 (rowC encZ l)) :
 Calls Tryz.prog 30 #[.slice a1 m c, .slice a2 m d] w (Gives (.bool true) w) := by
 have h := eqZ_any a1 a2 m m c d l l hl hl hm w h1 h2
 rw [decide_eq_true rfl] at h
 exact h
end Go.Proofs.YteklfmacnnmomaaGreat
