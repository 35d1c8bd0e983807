/- Merged texts: ShC ShD ShE ShF ShG ShH ShI ShK Sort ShL ShM ShV SortI ShX ShP ShQ. -/
import Derived.Test.YtgdcfkbimkclaaaGreatDoorM8
import Derived.Test.YtgdcfkbimkclaaaGreatDoorM1
import Derived.Test.YtgdcfkbimkclaaaGreatDoorM5
import Derived.Shelf.SlSortCmp.NoneTotal
import Derived.Maps.AppendAt
import Derived.Maps.OwnSet
import Derived.Maps.RangeWalk
import Derived.Shelf.SortM.Plain
import Derived.Shelf.SortM.SortNone
set_option linter.unusedSimpArgs false
set_option linter.unusedVariables false
/- Layer 6: the document's Right. -/
namespace Go.Proofs.YtgdcfkbimkclaaaGreatDoor
open Go.RowKit Go.Shelf
/- Layer 6: Clip; the document's Clip, Has. -/
theorem rowS : RowT Tryz.prog 41 47 3 24 := .of (z := .agg #[.int .i64 0, .int .i64 0, .int .i64 0]) Tryz.underlying41 (by kernel_rfl) rfl (by decide)
theorem rowP : RowT Tryz.prog 66 69 2 16 := .of (z := .agg #[.int .i64 0, .int .i64 0]) Tryz.underlying66 (by kernel_rfl) rfl (by decide)
theorem encS_one (s : SpT) : ∀ u ∈ encS s, u.oneCell' = true := by
 intro u hu
 simp [encS] at hu
 rcases hu with rfl | rfl | rfl <;> rfl
theorem encP_one (s : PtT) : ∀ u ∈ encP s, u.oneCell' = true := by
 intro u hu
 simp [encP] at hu
 rcases hu with rfl | rfl <;> rfl
/-- The newest block is written. -/
theorem St.put0 {w0 x : World} {p : Nat} {c c' : Array Value} {t : TypeId} {f : Nat × Nat} {post : List It} (h : St w0 (.blk p (.cells c t f) :: post) x) (k : Nat) (v : Value) (hc : c.setIfInBounds k v = c') : St w0 (.blk p (.cells c' t f) :: post) (x.setCell ⟨p, k, none⟩ v) := by
 subst hc
 have hp := h.blockAt 0 rfl
 exact St.set (pre := []) h (by simp) (h7s hp v) (fun j hj => Below.heap_setCell x ⟨p, k, none⟩ v j hj) ((B7 _ _).setCell (p := ⟨p, k, none⟩) (Nat.le_refl _) v)
/-- What a box has of a span. -/
def clip1 (b : BxT) (s : SpT) : Option SpT := if max s.f b.x ≤ min s.t b.x2 ∧ b.y ≤ s.y ∧ s.y ≤ b.y2 then some ⟨s.y, max s.f b.x, min s.t b.x2⟩ else none
def clipL (b : BxT) (l : List SpT) : List SpT := l.filterMap (clip1 b)
theorem clipL_take (b : BxT) (l : List SpT) (k : Nat) (x : SpT) (hx : l[k]? = some x) : clipL b (l.take (k + 1)) = clipL b (l.take k) ++ (clip1 b x).toList := by
 unfold clipL
 rw [List.take_add_one, hx, List.filterMap_append]
 cases h : clip1 b x <;> simp [h]
theorem clipL_len (b : BxT) (l : List SpT) (k : Nat) : (clipL b (l.take k)).length ≤ k := Nat.le_trans (List.length_filterMap_le _ _) (by simp; omega)
/- Layer 6: Clip. -/
/-- It returns a new row, and an error. -/
def GivesRowE (E size n : Nat) (xs : List Value) (er : Int) (w : World) (e : Ending) (w' : World) : Prop := ∃ v, e = .returned (.tuple #[v, .int .i64 er]) ∧ w'.ownsRow w.heap.size E size v n xs ∧ Below w.heap.size w w'
noncomputable def clipR (b : BxT) (l : List SpT) : List SpT := bif rightB l then clipL b l else []
set_option maxRecDepth 100000 in
set_option maxHeartbeats 4000000 in
theorem shClip_any (a : Option Addr) (n cap : Nat) (l : List SpT) (hl : l.length = n) (hn : n < 1000000000) (b : BxT) (w : World) (h : Elems w (.slice a n cap) n 3 (rowC encS l)) :
 Calls Tryz.prog 215 #[.slice a n cap, b.val] w (GivesRowE 47 3 (clipR b l).length ((clipR b l).flatMap encS) (errOf (rightB l) 160) w) := by
 have HS := H7 ((St.start w).addRow h)
 have HL := H7 hl
 obtain ⟨bx, by', bx2, by2⟩ := b
 obtain ⟨B, hB⟩ : ∃ B, BxT.mk bx by' bx2 by2 = B := ⟨_, rfl⟩
 have HBX := H7 hB
 clear h hl hB
 unfold BxT.val
 go_enter Tryz.func215, Tryz.ntmps215
 repeat ((fail_if_success (with_reducible refine stop_at (id := 1) ?_)); (first | go_values | go_skip | go_guarded | go_step | go_upon | go_back | (simp only [Int.not_lt, Int.not_le] at *; go_simp) | (go_values <;> (try go_simp)) | (go_ite <;> go_prune <;> (try go_simp)) | (split <;> (first | (rename_i hx; exact (hx _ rfl).elim) | go_prune))))
 have hs_ := (HS.out.alloc (.cells #[.int .i64 bx, .int .i64 by', .int .i64 bx2, .int .i64 by2] 155))
 obtain ⟨w1, hw_⟩ : ∃ w1 : World, (w.alloc (.cells #[.int .i64 bx, .int .i64 by', .int .i64 bx2, .int .i64 by2] 155)) = w1 := ⟨_, rfl⟩
 rw [hw_] at hs_
 try simp only [World.size_alloc] at hs_
 have HS := H7 hs_
 rw [hw_]
 clear hw_ hs_
 go_wp2_with fail
 refine (check_any a n cap l HL.out (by omega) _ (HS.out.elems 1 rfl)).mono ?_
 rintro e w2 ⟨rfl, hb_⟩
 have HS := H7 (HS.out.below hb_)
 clear hb_
 cases hr : rightB l
 · have HR := H7 hr
   clear hr
   simp only [errOf, Bool.false_eq_true, if_false]
   go_wp2_with fail
   refine bodyPost_ret (v := .tuple #[.slice none 0 0, .int .i64 160]) (by simp [results, Tryz.results215, go_sem]) rfl ⟨.slice none 0 0, by rw [HR.out]; rfl, ?_, HS.out.low⟩
   have e : clipR (BxT.mk bx by' bx2 by2) l = [] := by unfold clipR; rw [HR.out]; rfl
   rw [e]
   exact World.ownsRow_nil _ _ _ _
 have HR := H7 hr
 clear hr
 simp only [errOf, if_true]
 have HO := H7 (StO.start HS.out 47 3 encS)
 obtain ⟨N1, hN1⟩ : ∃ N1, w2.heap.size = N1 := ⟨_, rfl⟩
 rw [hN1] at HO
 clear HS
 go_wp2_with fail
 go_loopw [7, 17] (fun v i wr => ∃ k : Nat, k ≤ n ∧ i = .int .i64 (k : Int) ∧ StO w [.blk w.heap.size (.cells #[.int .i64 bx, .int .i64 by', .int .i64 bx2, .int .i64 by2] 155), .row (.slice a n cap) n 3 (rowC encS l) w.heap.size] N1 47 3 encS v (clipL B (l.take k)) wr) (fun _ i _ => n - (intOf i).toNat)
 case atStart => exact ⟨0, by omega, rfl, HO.out⟩
 case round =>
  obtain ⟨k, hk, rfl, ho⟩ := hrel
  clear HO hN1
  have HO := H7 ho
  clear ho
  by_cases hlt : k < n
  · have HLT := H7 (show k < l.length by rw [HL.out]; exact hlt)
    have wk : wrap64 ((k : Int) + 1) = ((k + 1 : Nat) : Int) := by unfold wrap64; omega
    obtain ⟨x, hx⟩ : ∃ x, l[k]? = some x := ⟨_, List.getElem?_eq_getElem HLT.out⟩
    obtain ⟨bb, off, rfl, hbb, c0, c1, c2⟩ := spCells HL.out (HO.out.st.elems 1 rfl) k x hx
    have HT := H7 (clipL_take B l k x hx)
    have HLEN := H7 (clipL_len B l k)
    obtain ⟨xy, xf, xt⟩ := x
    simp only at c0 c1 c2
    clear hx hbb
    have HS := H7 (St.start wr)
    repeat ((fail_if_success (with_reducible refine stop_at (id := 8) ?_)); (first | go_values | go_skip | go_guarded | go_step | go_upon | go_back | (simp only [Int.not_lt, Int.not_le] at *; go_simp) | (go_values <;> (try go_simp)) | (go_ite <;> go_prune <;> (try go_simp)) | (split <;> (first | (rename_i hx; exact (hx _ rfl).elim) | go_prune))))
    clear c0 c1 c2
    have hs_ := (HS.out.alloc (.cells #[.int .i64 xy, .int .i64 xf, .int .i64 xt] 47))
    obtain ⟨w3, hw_⟩ : ∃ w3 : World, (wr.alloc (.cells #[.int .i64 xy, .int .i64 xf, .int .i64 xt] 47)) = w3 := ⟨_, rfl⟩
    rw [hw_] at hs_
    try simp only [World.size_alloc] at hs_
    have HS := H7 hs_
    rw [hw_]
    clear hw_ hs_
    obtain ⟨F, hF⟩ : ∃ F, max xf bx = F := ⟨_, rfl⟩
    obtain ⟨T, hT⟩ : ∃ T, min xt bx2 = T := ⟨_, rfl⟩
    have HF := H7 hF
    have HTT := H7 hT
    clear hF hT
    refine (wpIn_wide (n := 0)).1 ?_
    apply wp_region_store 13 11 (fun b_ w_ => St wr [.blk wr.heap.size (.cells #[.int .i64 xy, .int .i64 (cond b_ F xf), .int .i64 xt] 47 (0, 0))] w_) (Rl := [(eqv _), (eqv _), (eqv _), (eqv _), (eqv _), (eqv _), (eqv _), (eqv _), (eqv _), (eqv _), (eqv _), (fun v_ w_ => True), (eqv _)]) (C := (fun x y => Below wr.heap.size x y)) (C0 := (fun x y => Below wr.heap.size x y))
    case hm => kernel_rfl
    case hk => rfl
    case hCr => exact (fun x => B7 _ x)
    case hCt => intro _ _ _; exact (fun h k => h.trans k)
    case h00 => exact (fun x => B7 _ x)
    case h0C => intro _ _; exact fun h => h
    case hst => repeat (first | exact trivial | refine ⟨fun _ _ _ _ h => h, ?_⟩)
    case hfo => kernel_rfl
    case ht => kernel_rfl
    case hC0 => exact ((B7 _ _).drew)
    case hsk => decide
    case hso => decide
    case hsg => rfl
    case hsteps =>
     refine ⟨?_, ?_, ?_, ?_, ?_, ?_, ?_, ?_, ?_, ?_, ?_, ?_, ?_, trivial⟩
     · intro a' w' b_ hA hC hJ hB1 hB2 hD
       obtain rfl := hB1 (by kernel_rfl)
       clear hB1 hB2
       have s9 := hA.to 9 (by kernel_rfl) rfl; clear hA hD; refine o7p rfl ?_; intro K hK; gi_wp2; exact hK _ _ rfl ⟨(fun x => B7 _ x) _, hJ⟩
     · intro a' w' b_ hA hC hJ hB1 hB2 hD
       obtain rfl := hB1 (by kernel_rfl)
       clear hB1 hB2
       obtain ⟨u21, s21, rfl⟩ := hD ⟨0, .data⟩ (by simp) rfl _ rfl
       have k1 := c7b (k := 1) (v := .int .i64 xf) (hJ.blockAt 0 rfl) rfl
       clear hA hD; refine o7p rfl ?_; intro K hK; gi_wp2; exact hK _ _ rfl ⟨(fun x => B7 _ x) _, hJ⟩
     · intro a' w' b_ hA hC hJ hB1 hB2 hD
       obtain rfl := hB1 (by kernel_rfl)
       clear hB1 hB2
       have s3 := hA.to 3 (by kernel_rfl) rfl; clear hA hD; refine o7p rfl ?_; intro K hK; gi_wp2; exact hK _ _ rfl ⟨(fun x => B7 _ x) _, hJ⟩
     · intro a' w' b_ hA hC hJ hB1 hB2 hD
       obtain rfl := hB1 (by kernel_rfl)
       clear hB1 hB2
       obtain ⟨u23, s23, rfl⟩ := hD ⟨2, .data⟩ (by simp) rfl _ rfl
       have b0 := c7b (k := 0) ((HO.out.st.below (HS.out.low.trans hC)).blockAt 0 rfl) rfl
       clear hA hD; refine o7p rfl ?_; intro K hK; gi_wp2; exact hK _ _ rfl ⟨(fun x => B7 _ x) _, hJ⟩
     · intro a' w' b_ hA hC hJ hB1 hB2 hD
       obtain rfl := hB1 (by kernel_rfl)
       clear hB1 hB2
       obtain ⟨u22, s22, rfl⟩ := hD ⟨1, .data⟩ (by simp) rfl _ rfl; obtain ⟨u24, s24, rfl⟩ := hD ⟨3, .data⟩ (by simp) rfl _ rfl; clear hA hD; refine o7p rfl ?_; intro K hK; gi_wp2; rw [HF.out]; exact hK _ _ rfl ⟨(fun x => B7 _ x) _, hJ⟩
     · intro a' w' b_ hA hC hJ hB1 hB2 hD
       obtain rfl := hB1 (by kernel_rfl)
       clear hB1 hB2
       have s9 := hA.to 9 (by kernel_rfl) rfl; clear hA hD; refine o7p rfl ?_; intro K hK; gi_wp2; exact hK _ _ rfl ⟨(fun x => B7 _ x) _, hJ⟩
     · intro a' w' b_ hA hC hJ hB1 hB2 hD
       obtain rfl := hB1 (by kernel_rfl)
       clear hB1 hB2
       obtain ⟨u26, s26, rfl⟩ := hD ⟨5, .data⟩ (by simp) rfl _ rfl
       have k2 := c7b (k := 2) (v := .int .i64 xt) (hJ.blockAt 0 rfl) rfl
       clear hA hD; refine o7p rfl ?_; intro K hK; gi_wp2; exact hK _ _ rfl ⟨(fun x => B7 _ x) _, hJ⟩
     · intro a' w' b_ hA hC hJ hB1 hB2 hD
       skip
       clear hB1 hB2
       have s3 := hA.to 3 (by kernel_rfl) rfl; clear hA hD; refine o7p rfl ?_; intro K hK; gi_wp2; exact hK _ _ rfl ⟨(fun x => B7 _ x) _, hJ⟩
     · intro a' w' b_ hA hC hJ hB1 hB2 hD
       skip
       clear hB1 hB2
       obtain ⟨u28, s28, rfl⟩ := hD ⟨7, .data⟩ (by simp) rfl _ rfl
       have b2 := c7b (k := 2) ((HO.out.st.below (HS.out.low.trans hC)).blockAt 0 rfl) rfl
       clear hA hD; refine o7p rfl ?_; intro K hK; gi_wp2; exact hK _ _ rfl ⟨(fun x => B7 _ x) _, hJ⟩
     · intro a' w' b_ hA hC hJ hB1 hB2 hD
       skip
       clear hB1 hB2
       obtain ⟨u27, s27, rfl⟩ := hD ⟨6, .data⟩ (by simp) rfl _ rfl; obtain ⟨u29, s29, rfl⟩ := hD ⟨8, .data⟩ (by simp) rfl _ rfl; clear hA hD; refine o7p rfl ?_; intro K hK; gi_wp2; rw [HTT.out]; exact hK _ _ rfl ⟨(fun x => B7 _ x) _, hJ⟩
     · intro a' w' b_ hA hC hJ hB1 hB2 hD
       obtain rfl := hB1 (by kernel_rfl)
       clear hB1 hB2
       have s9 := hA.to 9 (by kernel_rfl) rfl; clear hA hD; refine o7p rfl ?_; intro K hK; gi_wp2; exact hK _ _ rfl ⟨(fun x => B7 _ x) _, hJ⟩
     · intro a' w' b_ hA hC hJ hB1 hB2 hD
       obtain rfl := hB2 rfl
       clear hB1 hB2
       obtain ⟨u31, s31, rfl⟩ := hD ⟨10, .data⟩ (by simp) rfl _ rfl; obtain ⟨u25, s25, rfl⟩ := hD ⟨4, .data⟩ (by simp) rfl _ rfl
       have k1 := c7b (k := 1) (v := .int .i64 xf) (hJ.blockAt 0 rfl) rfl; have fr := f7b (hJ.blockAt 0 rfl)
       clear hA hD; refine o7p rfl ?_; intro K hK; gi_wp2; exact hK undef _ trivial ⟨(B7 _ _).setCell (by simp) _, hJ.put0 1 (.int .i64 F) rfl⟩
     · intro a' w' b_ hA hC hJ hB1 hB2 hD
       skip
       clear hB1 hB2
       have s9 := hA.to 9 (by kernel_rfl) rfl; clear hA hD; refine o7p rfl ?_; intro K hK; gi_wp2; exact hK _ _ rfl ⟨(fun x => B7 _ x) _, hJ⟩
    case hJ0 => exact HS.out.below (g7d _)
    case hend =>
     intro w4 hC hJ
     simp only [EndFrom, eqv, forall_eq, Act.put, List.length_cons, List.length_nil, List.drop_succ_cons, List.drop_zero, Nat.reduceAdd, List.setIfInBounds_toArray, List.set_cons_succ, List.set_cons_zero]
     intro v3 _
     clear HS hC
     have k2 := c7b (k := 2) (v := .int .i64 xt) (hJ.blockAt 0 rfl) rfl
     have fr := f7b (hJ.blockAt 0 rfl)
     have HS := H7 hJ
     clear hJ
     gi_wp2
     clear k2 fr
     have hs5 := HS.out.put0 2 (.int .i64 T) rfl
     generalize hw5 : w4.setCell { block := wr.heap.size, off := 2 } (.int .i64 T) = w5 at hs5 ⊢
     clear HS hw5
     have HS : Hid (St wr [.blk wr.heap.size (.cells #[.int .i64 xy, .int .i64 F, .int .i64 T] 47 (0, 0))] w5) := H7 hs5
     clear hs5
     have k0 := h7c HS 0 0 rfl rfl
     have k1 := h7c HS 0 1 rfl rfl
     have k2 := h7c HS 0 2 rfl rfl
     have b1 := c7b (k := 1) ((HO.out.st.below HS.out.low).blockAt 0 rfl) rfl
     have b3 := c7b (k := 3) ((HO.out.st.below HS.out.low).blockAt 0 rfl) rfl
     by_cases g1 : F ≤ T
     · by_cases g2 : by' ≤ xy
       · by_cases g3 : xy ≤ by2
         · have HC := H7 (show clip1 B ⟨xy, xf, xt⟩ = some ⟨xy, F, T⟩ by rw [← HBX.out]; unfold clip1; simp only; rw [HF.out, HTT.out, if_pos]; omega)
           go_wp2_with (at_builtin; refine wpList_app1 rowS encS_len encS_one HO.out HS.out.low ⟨xy, F, T⟩ _ rfl (by have := HLEN.out; omega) (by decide) _ _ rfl rfl rfl _ rfl (by simp) ?_; intro v' w5 ho5 hsh; have HO5 := H7 ho5; clear ho5 hsh)
           go_roundw
           case rel => exact ⟨k + 1, hlt, by simp, by rw [HT.out, HC.out]; exact HO5.out⟩
           case measure => simp [intOf]; omega
         · have HC := H7 (show clip1 B ⟨xy, xf, xt⟩ = none by rw [← HBX.out]; unfold clip1; simp only; rw [HF.out, HTT.out, if_neg]; omega)
           go_wp2_with fail
           go_roundw
           case rel => exact ⟨k + 1, hlt, by simp, by rw [HT.out, HC.out]; simpa using HO.out.below HS.out.low⟩
           case measure => simp [intOf]; omega
       · have HC := H7 (show clip1 B ⟨xy, xf, xt⟩ = none by rw [← HBX.out]; unfold clip1; simp only; rw [HF.out, HTT.out, if_neg]; omega)
         go_wp2_with fail
         go_roundw
         case rel => exact ⟨k + 1, hlt, by simp, by rw [HT.out, HC.out]; simpa using HO.out.below HS.out.low⟩
         case measure => simp [intOf]; omega
     · have HC := H7 (show clip1 B ⟨xy, xf, xt⟩ = none by rw [← HBX.out]; unfold clip1; simp only; rw [HF.out, HTT.out, if_neg]; omega)
       go_wp2_with fail
       go_roundw
       case rel => exact ⟨k + 1, hlt, by simp, by rw [HT.out, HC.out]; simpa using HO.out.below HS.out.low⟩
       case measure => simp [intOf]; omega
  · obtain rfl : k = n := by omega
    clear hk hlt
    go_wp2_with fail
    have HE := H7 HO.out
    rw [List.take_of_length_le (by rw [HL.out]; exact Nat.le_refl _), ← HBX.out] at HE
    refine bodyPost_ret (v := .tuple #[_, .int .i64 0]) (by simp [results, Tryz.results215, go_sem]; rfl) rfl ⟨_, by rw [HR.out]; rfl, ?_, HE.out.st.low⟩
    have e : clipR (BxT.mk bx by' bx2 by2) l = clipL (BxT.mk bx by' bx2 by2) l := by unfold clipR; rw [HR.out]; rfl
    rw [e]
    exact ownsRow_mono HE.out.row HE.out.low
/- Layer 6: Has. -/
def inB (p : PtT) (s : SpT) : Bool := decide (s.y = p.y ∧ s.f ≤ p.x ∧ p.x ≤ s.t)
def hasB (l : List SpT) (p : PtT) : Bool := l.any (inB p)
/- Layer 6: slices.ContainsFunc at this program's predicates; shape.Has. -/
/- Layer 6: small closures; the document's In; Rect. -/
/-- The rows of a rectangle. -/
def rectN (a b : PtT) (k : Nat) : List SpT := (List.range k).map fun (i : Nat) => ⟨min a.y b.y + (i : Int), min a.x b.x, max a.x b.x⟩
theorem rectN_succ (a b : PtT) (k : Nat) : rectN a b (k + 1) = rectN a b k ++ [⟨min a.y b.y + (k : Int), min a.x b.x, max a.x b.x⟩] := by
 unfold rectN
 rw [List.range_succ, List.map_append]
 rfl
theorem rectN_len (a b : PtT) (k : Nat) : (rectN a b k).length = k := by simp [rectN]
def rectL (a b : PtT) : List SpT := bif drawnB a && drawnB b then rectN a b (max a.y b.y - min a.y b.y + 1).toNat else []
set_option maxRecDepth 100000 in
set_option maxHeartbeats 4000000 in
theorem shRect_any (a b : PtT) (w : World) : Calls Tryz.prog 133 #[a.val, b.val] w (GivesRowE 47 3 (rectL a b).length ((rectL a b).flatMap encS) (errOf (drawnB a && drawnB b) 2) w) := by
 have HCa := H7 (fun w => drawn_any a w)
 have HCb := H7 (fun w => drawn_any b w)
 obtain ⟨da, hda⟩ : ∃ da, drawnB a = da := ⟨_, rfl⟩
 obtain ⟨db, hdb⟩ : ∃ db, drawnB b = db := ⟨_, rfl⟩
 have HDa := H7 hda
 have HDb := H7 hdb
 simp only [hda] at HCa
 simp only [hdb] at HCb
 have HQ := H7 (show ∀ r : List SpT, rectL a b = r → rectL a b = r from fun _ h => h)
 obtain ⟨A, hA⟩ : ∃ A, A = a := ⟨_, rfl⟩
 obtain ⟨B, hB⟩ : ∃ B, B = b := ⟨_, rfl⟩
 have HA := H7 hA
 have HB := H7 hB
 obtain ⟨ax, ay⟩ := a
 obtain ⟨bx, by'⟩ := b
 rw [← hA, ← hB]
 clear hda hdb hA hB HQ
 unfold PtT.val at HCa HCb
 have HS := H7 (St.start w)
 show Calls _ _ #[A.val, B.val] _ _
 rw [HA.out, HB.out]
 unfold PtT.val
 go_enter Tryz.func133, Tryz.ntmps133
 repeat ((fail_if_success (with_reducible refine stop_at (id := 1) ?_)); (first | go_values | go_skip | go_guarded | go_step | go_upon | go_back | (simp only [Int.not_lt, Int.not_le] at *; go_simp) | (go_values <;> (try go_simp)) | (go_ite <;> go_prune <;> (try go_simp)) | (split <;> (first | (rename_i hx; exact (hx _ rfl).elim) | go_prune))))
 have hs_ := ((HS.out.alloc (.cells #[.int .i64 ax, .int .i64 ay] 69)).alloc (.cells #[.int .i64 bx, .int .i64 by'] 69))
 obtain ⟨w1, hw_⟩ : ∃ w1 : World, ((w.alloc (.cells #[.int .i64 ax, .int .i64 ay] 69)).alloc (.cells #[.int .i64 bx, .int .i64 by'] 69)) = w1 := ⟨_, rfl⟩
 rw [hw_] at hs_
 try simp only [World.size_alloc] at hs_
 have HS := H7 hs_
 rw [hw_]
 clear hw_ hs_
 have k0 := h7c HS 1 0 rfl rfl
 have k1 := h7c HS 1 1 rfl rfl
 go_wp2_with fail
 clear k0 k1
 refine (HCa.out _).mono ?_
 rintro e w2 ⟨rfl, hb_⟩
 have HS := H7 (HS.out.below hb_)
 clear hb_
 cases da
 · go_wp2_with fail
   refine bodyPost_ret (v := .tuple #[.slice none 0 0, .int .i64 2]) (by simp [results, Tryz.results133, go_sem]) rfl ⟨.slice none 0 0, by rw [HDa.out]; rfl, ?_, HS.out.low⟩
   rw [show rectL (PtT.mk ax ay) (PtT.mk bx by') = [] by unfold rectL; rw [HDa.out]; rfl]
   exact World.ownsRow_nil _ _ _ _
 have k0 := h7c HS 0 0 rfl rfl
 have k1 := h7c HS 0 1 rfl rfl
 go_wp2_with fail
 clear k0 k1
 refine (HCb.out _).mono ?_
 rintro e w3 ⟨rfl, hb_⟩
 have HS := H7 (HS.out.below hb_)
 clear hb_
 cases db
 · go_wp2_with fail
   refine bodyPost_ret (v := .tuple #[.slice none 0 0, .int .i64 2]) (by simp [results, Tryz.results133, go_sem]) rfl ⟨.slice none 0 0, by rw [HDa.out, HDb.out]; rfl, ?_, HS.out.low⟩
   rw [show rectL (PtT.mk ax ay) (PtT.mk bx by') = [] by unfold rectL; rw [HDa.out, HDb.out]; rfl]
   exact World.ownsRow_nil _ _ _ _
 have HO := H7 (StO.start HS.out 47 3 encS)
 obtain ⟨N1, hN1⟩ : ∃ N1, w3.heap.size = N1 := ⟨_, rfl⟩
 rw [hN1] at HO
 clear HCa HCb hN1
 have HRG := H7 (show (-64 ≤ ax ∧ ax ≤ 127 ∧ -64 ≤ ay ∧ ay ≤ 127) ∧ (-64 ≤ bx ∧ bx ≤ 127 ∧ -64 ≤ by' ∧ by' ≤ 127) from ⟨of_decide_eq_true HDa.out, of_decide_eq_true HDb.out⟩)
 have k1 := h7c HS 1 1 rfl rfl
 have e1 := h7c HS 0 1 rfl rfl
 go_wp2_with fail
 clear k1 e1 HS
 go_loopw [6, 7] (fun v i wr => ∃ k : Nat, i = .int .i64 (min ay by' + (k : Int)) ∧ (k : Int) ≤ max ay by' - min ay by' + 1 ∧ StO w [.blk (w.heap.size + 1) (.cells #[.int .i64 bx, .int .i64 by'] 69), .blk w.heap.size (.cells #[.int .i64 ax, .int .i64 ay] 69)] N1 47 3 encS v (rectN ⟨ax, ay⟩ ⟨bx, by'⟩ k) wr) (fun _ i _ => (max ay by' + 1 - intOf i).toNat)
 case atStart => exact ⟨0, by simp, by omega, HO.out⟩
 case round =>
  obtain ⟨k, rfl, hk, ho⟩ := hrel
  clear HO
  have HO := H7 ho
  clear ho
  have HLEN := H7 (rectN_len ⟨ax, ay⟩ ⟨bx, by'⟩ k)
  have HT := H7 (rectN_succ ⟨ax, ay⟩ ⟨bx, by'⟩ k)
  have k0 := c7b (k := 0) (HO.out.st.blockAt 1 rfl) rfl
  have k1 := c7b (k := 1) (HO.out.st.blockAt 1 rfl) rfl
  have e0 := c7b (k := 0) (HO.out.st.blockAt 0 rfl) rfl
  have e1 := c7b (k := 1) (HO.out.st.blockAt 0 rfl) rfl
  by_cases hlt : min ay by' + (k : Int) ≤ max ay by'
  · have wk : wrap64 (min ay by' + (k : Int) + 1) = min ay by' + ((k + 1 : Nat) : Int) := by have := HRG.out; unfold wrap64; omega
    go_wp2_with (at_builtin; refine wpList_app1 rowS encS_len encS_one HO.out (B7 _ _) ⟨min ay by' + (k : Int), min ax bx, max ax bx⟩ _ rfl (by have := HLEN.out; have := HRG.out; omega) (by decide) _ _ rfl rfl rfl _ rfl (by simp) ?_; intro v' w5 ho5 hsh; have HO5 := H7 ho5; clear ho5 hsh)
    go_roundw
    case rel => exact ⟨k + 1, by rw [wk], by omega, by rw [HT.out]; exact HO5.out⟩
    case measure => simp [intOf]; omega
  · have HE := H7 (show (max ay by' - min ay by' + 1).toNat = k by omega)
    clear hk
    go_wp2_with fail
    refine bodyPost_ret (v := .tuple #[_, .int .i64 0]) (by simp [results, Tryz.results133, go_sem]; rfl) rfl ⟨_, by rw [HDa.out, HDb.out]; rfl, ?_, HO.out.st.low⟩
    rw [show rectL (PtT.mk ax ay) (PtT.mk bx by') = rectN (PtT.mk ax ay) (PtT.mk bx by') k by unfold rectL; rw [HDa.out, HDb.out]; simp only [Bool.and_self, cond_true]; rw [HE.out]]
    exact ownsRow_mono HO.out.row HO.out.low
/- Layer 6: the document's In, around. -/
def inRef (size : Int) (round : Bool) (c p : PtT) : Bool := bif round then decide (wayN c.x p.x * wayN c.x p.x + wayN c.y p.y * wayN c.y p.y ≤ size * size) else decide (wayN c.x p.x ≤ size ∧ wayN c.y p.y ≤ size)
/- Layer 6: the document's Line. -/
def lessN (n m i : Int) : Int := if 0 < n then (2 * i * m + n) / (2 * n) else 0
/-- The i-th place of a line. -/
def linePt (a b : PtT) (i : Int) : PtT :=
 bif decide (wayN a.x b.x < wayN a.y b.y) then ⟨a.x + sideN a.x b.x * lessN (wayN a.y b.y) (wayN a.x b.x) i, a.y + sideN a.y b.y * i⟩
 else ⟨a.x + sideN a.x b.x * i, a.y + sideN a.y b.y * lessN (wayN a.x b.x) (wayN a.y b.y) i⟩
def wayMax (a b : PtT) : Int := max (wayN a.x b.x) (wayN a.y b.y)
theorem wayN_nonneg (a b : Int) : 0 ≤ wayN a b := by unfold wayN; split <;> omega
/- slices.SortFunc at a row of structs of the call's own. -/
section
variable {α : Type} [Inhabited α]
variable {P : Program} {ρ : Ren}
end
end Go.Proofs.YtgdcfkbimkclaaaGreatDoor
/- Layer 6: slices.Equal, slices.Clone at places and spans; slices.SortFunc at spans. -/
namespace Go.Proofs.YtgdcfkbimkclaaaGreatDoor
open Go.RowKit Go.Shelf
instance : Inhabited SpT := ⟨⟨0, 0, 0⟩⟩
instance : Inhabited PtT := ⟨⟨0, 0⟩⟩
theorem infoS : (Tryz.prog.info? 47).map (fun i => (i.zero, i.size, i.bytes)) = some (some (.agg #[.int .i64 0, .int .i64 0, .int .i64 0]), 3, 24) := by kernel_rfl
end Go.Proofs.YtgdcfkbimkclaaaGreatDoor
/- Layer 6: the map of rows, by Y. -/
namespace Go.Proofs.YtgdcfkbimkclaaaGreatDoor
open Go.RowKit Go.Shelf Go.Maps
def heldR (v : Value) : Option (DataW Value × List MemPlace) := some (.held v, [])
def nilS : Value := .slice none 0 0
def inK (y : Int) : Prop := -1000 ≤ y ∧ y ≤ 1000
theorem inK_wf {y : Int} (h : inK y) : (Lit.int .i64 y).wf = true := WalkArith.wf_i64 (by unfold inK at h; omega)
/-- Block b is a map that holds at each Y a row of the call's own; no two in one block. -/
structure GrD (w : World) (base b n : Nat) (D : DataW Value) (F : Int → Value) (G : Int → List SpT) : Prop where
 map : w.ownsMap Tryz.prog 3 heldR b n D
 at_ : ∀ y, inK y → D.atKey (.int .i64 y) (.held nilS) = .held (F y)
 row : ∀ y, inK y → w.ownsRow base 47 3 (F y) (G y).length ((G y).flatMap encS)
 apart : ∀ y z j, inK y → inK z → y ≠ z → (F y).ownBlock = some j → (F z).ownBlock ≠ some j
 has : ∀ y, inK y → (Maps.has D (.int .i64 y) = true ↔ G y ≠ [])
 only : ∀ k, Maps.has D k = true → ∃ y, inK y ∧ k = .int .i64 y
 lt : b < base
theorem keyedI : Keyed Tryz.prog 3 := int_keyed Tryz.underlying3
theorem GrD.look {w : World} {base b n : Nat} {D : DataW Value} {F : Int → Value} {G : Int → List SpT} (h : GrD w base b n D F G) {y : Int} (hy : inK y) :
 (Instr.lookup 211 (.map (some b)) (.int .i64 y) false).run Tryz.prog w = .ok (F y) w := by
 obtain ⟨v, ps, hrun, hv⟩ := h.map.lookup keyedI Tryz.underlying211 (Tryz.zeroValue41 w) (zd := .held nilS) (zp := []) rfl (keyOf_int_mk Tryz.underlying3 (inK_wf hy))
 rw [h.at_ y hy] at hv
 simp only [heldR, Option.some.injEq, Prod.mk.injEq, DataW.held.injEq] at hv
 rw [hrun, hv.1]
theorem GrD.start (w : World) : GrD (w.alloc (.map #[] 0)) (w.heap.size + 1) w.heap.size 0 (.map []) (fun _ => nilS) (fun _ => []) :=
 ⟨World.ownsMap_made _ _ _ _, fun _ _ => rfl, fun _ _ => World.ownsRow_nil _ _ _ _, fun _ _ _ _ _ _ h => (by cases h), fun _ _ => (by simp [Maps.has]), fun _ h => (by simp [Maps.has] at h), Nat.lt_succ_self _⟩
theorem GrD.kept {w w' : World} {base b n : Nat} {D : DataW Value} {F : Int → Value} {G : Int → List SpT} (h : GrD w base b n D F G) (hb : Below w.heap.size w w') : GrD w' base b n D F G :=
 ⟨h.map.kept (row := none) ⟨hb.os, hb.tape, hb.output, hb.size, fun k hk _ => hb.block k hk⟩ (by simp), h.at_, fun y hy => ownsRow_below (h.row y hy) hb, h.apart, h.has, h.only, h.lt⟩
theorem GrD.put {w0 w : World} {base b n : Nat} {D : DataW Value} {F : Int → Value} {G : Int → List SpT} (h : GrD w0 base b n D F G) {y : Int} (hy : inK y) (hn : n < maxLen) (hg : w0.grownBy w (F y).ownBlock) {v' : Value} {L : List SpT}
 (hrow : w.ownsRow base 47 3 v' L.length (L.flatMap encS)) (hL : L ≠ []) (hloc : v'.ownBlock = (F y).ownBlock ∨ ∃ g, v'.ownBlock = some g ∧ w0.heap.size ≤ g) :
 ∃ w2, (Instr.mapUpdate 211 (.map (some b)) (.int .i64 y) v').run Tryz.prog w = .ok () w2 ∧ GrD w2 base b (n + 1) (D.put (.int .i64 y) (.held v')) (fun z => if z = y then v' else F z) (fun z => if z = y then L else G z) ∧ w.grownBy w2 (some b) := by
 have hbF : some b ≠ (F y).ownBlock := fun e => by have := ((h.row y hy).lt b e.symm).1; have := h.lt; omega
 have hm := h.map.kept hg hbF
 have hkey := keyOf_int_mk (P := Tryz.prog) Tryz.underlying3 (inK_wf hy)
 obtain ⟨w2, hrun, hm2, hg2⟩ := hm.update keyedI Tryz.underlying211 hn hkey (val := v') rfl
 have hik : WideAt.IsKeyLit (Lit.int .i64 y) := by first | trivial | exact Maps.isKeyLit_of_keyOf hkey | simp [WideAt.IsKeyLit]
 have hne : ∀ z, z ≠ y → (Lit.int .i64 z) ≠ (Lit.int .i64 y) := fun z hz e => hz (by cases e; rfl)
 have hrowb : ∀ (x : World) (v : Value) (k : Nat) (xs : List Value), x.ownsRow base 47 3 v k xs → v.ownBlock = none ∨ v.ownBlock ≠ some b := fun x v k xs hr => by
  cases hv : v.ownBlock with
  | none => exact .inl rfl
  | some j => exact .inr fun e => by cases e; have := (hr.lt b hv).1; have := h.lt; omega
 refine ⟨w2, hrun, ⟨hm2, fun z hz => ?_, fun z hz => ?_, fun z z' j hz hz' hne' hj => ?_, fun z hz => ?_, fun k hk => ?_, h.lt⟩, hg2⟩
 · by_cases e : z = y
   · subst e; rw [atKey_put_same hm.isMap hik]; simp
   · rw [atKey_put_other (hne z e), h.at_ z hz]; simp [e]
 · by_cases e : z = y
   · subst e; simp only [if_true]; exact hrow.kept hg2 (hrowb _ _ _ _ hrow)
   · simp only [if_neg e]
     have hr := h.row z hz
     refine (hr.kept hg ?_).kept hg2 (hrowb _ _ _ _ hr)
     cases hv : (F z).ownBlock with
     | none => exact .inl rfl
     | some j => exact .inr fun e' => h.apart z y j hz hy e hv e'.symm
 · by_cases e : z = y
   · subst e
     have e2 : ¬ z' = z := fun e2 => hne' e2.symm
     simp only [if_true, if_neg e2] at hj ⊢
     rcases hloc with hl | ⟨g, hl, hge⟩
     · rw [hl] at hj; exact h.apart z z' j hz hz' hne' hj
     · rw [hl] at hj; cases hj
       intro hj'
       have := ((h.row z' hz').lt _ hj').2
       omega
   · by_cases e' : z' = y
     · subst e'
       simp only [if_neg e, if_true] at hj ⊢
       rcases hloc with hl | ⟨g, hl, hge⟩
       · rw [hl]; exact fun hj' => h.apart z' z j hz' hz (fun e => hne' e.symm) hj' hj
       · rw [hl]; intro hj'; cases hj'
         have := ((h.row z hz).lt _ hj).2
         omega
     · simp only [if_neg e, if_neg e'] at hj ⊢
       exact h.apart z z' j hz hz' hne' hj
 · by_cases e : z = y
   · subst e; rw [has_put_same hm.isMap hik]; simp [hL]
   · rw [has_put_other (hne z e), h.has z hz]; simp [e]
 · by_cases e : k = .int .i64 y
   · exact ⟨y, hy, e⟩
   · rw [has_put_other e] at hk; exact h.only k hk
/- Layer 6: rows.put. -/
/-- The spans of L at each Y. -/
def GrOf (L : List SpT) (y : Int) : List SpT := L.filter fun s => s.y == y
theorem GrOf_put (L : List SpT) (s : SpT) : (fun z => if z = s.y then GrOf L s.y ++ [s] else GrOf L z) = GrOf (L ++ [s]) := by
 funext z
 unfold GrOf
 rw [List.filter_append]
 by_cases h : z = s.y
 · subst h; simp
 · have : ¬ s.y = z := fun e => h e.symm
   simp [h, this]
theorem GrOf_len (L : List SpT) (y : Int) : (GrOf L y).length ≤ L.length := List.length_filter_le _ _
theorem GrD.look2 {w0 w : World} {base b n : Nat} {D : DataW Value} {F : Int → Value} {G : Int → List SpT} (h : GrD w0 base b n D F G) {y : Int} (hy : inK y) (hg : w0.grownBy w (F y).ownBlock) :
 (Instr.lookup 211 (.map (some b)) (.int .i64 y) false).run Tryz.prog w = .ok (F y) w := by
 have hbF : some b ≠ (F y).ownBlock := fun e => by have := ((h.row y hy).lt b e.symm).1; have := h.lt; omega
 have hm := h.map.kept hg hbF
 obtain ⟨v, ps, hrun, hv⟩ := hm.lookup keyedI Tryz.underlying211 (Tryz.zeroValue41 w) (zd := .held nilS) (zp := []) rfl (keyOf_int_mk Tryz.underlying3 (inK_wf hy))
 rw [h.at_ y hy] at hv
 simp only [heldR, Option.some.injEq, Prod.mk.injEq, DataW.held.injEq] at hv
 rw [hrun, hv.1]
/-- A row's block behind a put: the same, or a new one. -/
def Loc (v v' : Value) (n : Nat) : Prop := v'.ownBlock = v.ownBlock ∨ ∃ g, v'.ownBlock = some g ∧ n ≤ g
/-- As long as a flag is down. -/
def KeepsIf (b : Bool) (p : Prop) : Prop := b = false → p
/-- What put does. -/
def PutP (base b n : Nat) (F : Int → Value) (L : List SpT) (s : SpT) (w : World) (e : Ending) (w' : World) : Prop :=
 e = .returned (.tuple #[]) ∧ ∃ v' D', GrD w' base b (n + 1) D' (fun z => if z = s.y then v' else F z) (GrOf (L ++ [s])) ∧ Loc (F s.y) v' w.heap.size ∧ Turned (fun k => k = b ∨ (F s.y).ownBlock = some k) w w'
set_option maxRecDepth 100000 in
set_option maxHeartbeats 1000000 in
theorem put_any (s : SpT) (hy : inK s.y) (pr base b n : Nat) (D : DataW Value) (F : Int → Value) (L : List SpT) (hn : n < 1000000000) (hL : L.length < 1000000000) (w : World) (h : GrD w base b n D F (GrOf L)) (hbase : base ≤ w.heap.size)
 (hp : w.heap[pr]? = some (.cells #[.map (some b)] 213 (0, 0))) (hpF : (F s.y).ownBlock ≠ some pr) (hpb : pr ≠ b) :
 Calls Tryz.prog 158 #[.pointer (some ⟨pr, 0, none⟩), s.val] w (PutP base b n F L s w) := by
 have HH := H7 h
 have HY := H7 hy
 have HP := H7 hp
 have HPF := H7 (And.intro hpF hpb)
 have HS := H7 (St.start w)
 have HN := H7 (And.intro hn hL)
 have HB := H7 hbase
 obtain ⟨S, hS⟩ : ∃ S, S = s := ⟨_, rfl⟩
 rw [← hS]
 rw [← hS] at HY HPF
 have HSS := H7 hS
 obtain ⟨sy, sf, st⟩ := s
 unfold SpT.val
 rw [HSS.out]
 simp only
 rw [← HSS.out]
 clear h hy hp hpF hpb hn hL hbase hS
 go_enter Tryz.func158, Tryz.ntmps158
 repeat ((fail_if_success (with_reducible refine stop_at (id := 1) ?_)); (first | go_values | go_skip | go_guarded | go_step | go_upon | go_back | (simp only [Int.not_lt, Int.not_le] at *; go_simp) | (go_values <;> (try go_simp)) | (go_ite <;> go_prune <;> (try go_simp)) | (split <;> (first | (rename_i hx; exact (hx _ rfl).elim) | go_prune))))
 obtain ⟨p1, hp1⟩ : ∃ p1, w.heap.size = p1 := ⟨_, rfl⟩
 have hs_ := (HS.out.alloc (.cells #[.int .i64 sy, .int .i64 sf, .int .i64 st] 47))
 obtain ⟨w1, hw_⟩ : ∃ w1 : World, (w.alloc (.cells #[.int .i64 sy, .int .i64 sf, .int .i64 st] 47)) = w1 := ⟨_, rfl⟩
 rw [hw_] at hs_
 try simp only [World.size_alloc] at hs_
 have HS := H7 hs_
 rw [hw_]
 clear hw_ hs_
 have hlt1 : w.heap.size < w1.heap.size := HS.out.lt 0 rfl
 have h1 := HH.out.kept HS.out.low
 have hyy : inK sy := by have := HY.out; rw [HSS.out] at this; exact this
 have hrow := h1.row sy hyy
 have hown : ∀ j, (F sy).ownBlock = some j → base ≤ j ∧ j < w.heap.size := fun j hj => (HH.out.row sy hyy).lt j hj
 have HLK := H7 (fun w' (hC : w1.grownBy w' (F sy).ownBlock) => h1.look2 hyy (w := w') hC : ∀ w', w1.grownBy w' (F sy).ownBlock → (Instr.lookup 211 (.map (some b)) (.int .i64 sy) false).run Tryz.prog w' = .ok (F sy) w')
 have HPR := H7 (fun w' (hC : w1.grownBy w' (F sy).ownBlock) => (hC.block pr (Nat.lt_trans (b7t HP.out) hlt1) (fun e => HPF.out.1 (by rw [HSS.out]; exact e.symm))).trans ((HS.out.low.block pr (b7t HP.out)).trans HP.out))
 have HBX := H7 (fun w' (hC : w1.grownBy w' (F sy).ownBlock) => (hC.block w.heap.size hlt1 (fun e => by have := (hown _ e.symm).2; omega)).trans (HS.out.blockAt 0 rfl))
 have HOW := H7 (show ∀ j, (F sy).ownBlock = some j → base ≤ j ∧ j < w1.heap.size from fun j hj => ⟨(hown j hj).1, Nat.lt_trans (hown j hj).2 hlt1⟩)
 have HG1 := H7 h1
 have HRW := H7 hrow
 have HYY := H7 hyy
 have HLT1 := H7 hlt1
 clear h1 hrow hyy hlt1 hown
 simp only [hp1] at HBX ⊢
 have HNN := H7 (show (GrOf L sy).length + 1 ≤ maxLen ∧ ((GrOf L sy).length + 1) * 24 ≤ 140737488355328 by
  have h1 := GrOf_len L sy
  have h2 := HN.out.2
  exact ⟨by unfold maxLen; omega, by omega⟩)
 refine (wpIn_wide (n := 0)).1 ?_
 obtain ⟨i0, hi, hz0, hz1, hz2⟩ := info_parts infoS
 have HI := H7 (And.intro hi (And.intro hz0 (And.intro hz1 hz2)))
 clear hi hz0 hz1 hz2
 apply wp_region_store 16 15 (fun b_ w_ => KeepsIf b_ (w_.ownsRow base 47 3 (F sy) (GrOf L sy).length ((GrOf L sy).flatMap encS))) (Rl := [(eqv _), (eqv _), (eqv _), (eqv _), (eqv _), (eqv _), (eqv _), (eqv _), (eqv _), (eqv _), (eqv _), (eqv _), (eqv _), (eqv _), (fun v_ w_ => ∃ b, v_ = .slice (some ⟨b, 0, none⟩) 1 1 ∧ (F sy).ownBlock ≠ some b ∧ w_.heap[b]? = some (.cells #[.int .i64 sy, .int .i64 sf, .int .i64 st] 47 (0, 0))), (fun v_ w_ => w_.ownsRow base 47 3 v_ (GrOf L sy ++ [S]).length ((GrOf L sy ++ [S]).flatMap encS) ∧ Loc (F sy) v_ w1.heap.size)]) (C := (fun x y => x.grownBy y (F sy).ownBlock)) (C0 := (fun x y => Below x.heap.size x y))
 case hm => kernel_rfl
 case hk => rfl
 case hCr => exact (fun x => World.grownBy.refl x _)
 case hCt => intro _ _ _; exact (fun h k => grownTrans h k)
 case h00 => exact (fun x => B7 _ x)
 case h0C => intro _ _; exact fun h => ⟨h.os, h.tape, h.output, h.size, fun k hk _ => h.block k hk⟩
 case hst => exact ⟨fun _ _ _ _ h => h, fun _ _ _ _ h => h, fun _ _ _ _ h => h, fun _ _ _ _ h => h, fun _ _ _ _ h => h, fun _ _ _ _ h => h, fun _ _ _ _ h => h, fun _ _ _ _ h => h, fun _ _ _ _ h => h, fun _ _ _ _ h => h, fun _ _ _ _ h => h, fun _ _ _ _ h => h, fun _ _ _ _ h => h, fun _ _ _ _ h => h, fun v x y hC ⟨b, h1, h2, h3⟩ => ⟨b, h1, h2, (hC.block b (b7t h3) h2.symm).trans h3⟩, fun v x y hC ⟨h1, h2⟩ => ⟨ownsRow_below h1 hC, h2⟩, trivial⟩
 case hfo => kernel_rfl
 case ht => kernel_rfl
 case hC0 => exact (⟨rfl, rfl, rfl, Nat.le_refl _, fun _ _ _ => rfl⟩)
 case hsk => decide
 case hso => decide
 case hsg => rfl
 case hsteps =>
  refine ⟨?_, ?_, ?_, ?_, ?_, ?_, ?_, ?_, ?_, ?_, ?_, ?_, ?_, ?_, ?_, ?_, trivial⟩
  · intro a' w' b_ hA hC hJ hB1 hB2 hD
    skip
    clear hB1 hB2
    have s0 := hA.to 0 (by kernel_rfl) rfl; clear hA hD; refine o7p rfl ?_; intro K hK; gi_wp2; exact hK _ _ rfl ⟨(fun x => B7 _ x) _, hJ⟩
  · intro a' w' b_ hA hC hJ hB1 hB2 hD
    skip
    clear hB1 hB2
    obtain ⟨u4, s4, rfl⟩ := hD ⟨0, .data⟩ (by simp) rfl _ rfl; clear hA hD; refine o7p rfl ?_; intro K hK; gi_wp2; exact hK _ _ rfl ⟨(fun x => B7 _ x) _, hJ⟩
  · intro a' w' b_ hA hC hJ hB1 hB2 hD
    skip
    clear hB1 hB2
    obtain ⟨u5, s5, rfl⟩ := hD ⟨1, .data⟩ (by simp) rfl _ rfl; clear hA hD; refine o7p rfl ?_; intro K hK; gi_wp2; exact hK _ _ rfl ⟨(fun x => B7 _ x) _, hJ⟩
  · intro a' w' b_ hA hC hJ hB1 hB2 hD
    skip
    clear hB1 hB2
    obtain ⟨u6, s6, rfl⟩ := hD ⟨2, .data⟩ (by simp) rfl _ rfl
    have b1 := c7b (k := 0) (HPR.out w' hC) rfl
    clear hA hD; refine o7p rfl ?_; intro K hK; gi_wp2; exact hK _ _ rfl ⟨(fun x => B7 _ x) _, hJ⟩
  · intro a' w' b_ hA hC hJ hB1 hB2 hD
    skip
    clear hB1 hB2
    have s3 := hA.to 3 (by kernel_rfl) rfl; clear hA hD; refine o7p rfl ?_; intro K hK; gi_wp2; exact hK _ _ rfl ⟨(fun x => B7 _ x) _, hJ⟩
  · intro a' w' b_ hA hC hJ hB1 hB2 hD
    skip
    clear hB1 hB2
    obtain ⟨u8, s8, rfl⟩ := hD ⟨4, .data⟩ (by simp) rfl _ rfl
    have b1 := c7b (k := 0) (HBX.out w' hC) rfl
    clear hA hD; refine o7p rfl ?_; intro K hK; gi_wp2; exact hK _ _ rfl ⟨(fun x => B7 _ x) _, hJ⟩
  · intro a' w' b_ hA hC hJ hB1 hB2 hD
    obtain rfl := hB1 (by kernel_rfl)
    clear hB1 hB2
    have s0 := hA.to 0 (by kernel_rfl) rfl; clear hA hD; refine o7p rfl ?_; intro K hK; gi_wp2; exact hK _ _ rfl ⟨(fun x => B7 _ x) _, hJ⟩
  · intro a' w' b_ hA hC hJ hB1 hB2 hD
    obtain rfl := hB1 (by kernel_rfl)
    clear hB1 hB2
    obtain ⟨u10, s10, rfl⟩ := hD ⟨6, .data⟩ (by simp) rfl _ rfl; clear hA hD; refine o7p rfl ?_; intro K hK; gi_wp2; exact hK _ _ rfl ⟨(fun x => B7 _ x) _, hJ⟩
  · intro a' w' b_ hA hC hJ hB1 hB2 hD
    obtain rfl := hB1 (by kernel_rfl)
    clear hB1 hB2
    obtain ⟨u11, s11, rfl⟩ := hD ⟨7, .data⟩ (by simp) rfl _ rfl; clear hA hD; refine o7p rfl ?_; intro K hK; gi_wp2; exact hK _ _ rfl ⟨(fun x => B7 _ x) _, hJ⟩
  · intro a' w' b_ hA hC hJ hB1 hB2 hD
    obtain rfl := hB1 (by kernel_rfl)
    clear hB1 hB2
    obtain ⟨u12, s12, rfl⟩ := hD ⟨8, .data⟩ (by simp) rfl _ rfl
    have b1 := c7b (k := 0) (HPR.out w' hC) rfl
    clear hA hD; refine o7p rfl ?_; intro K hK; gi_wp2; exact hK _ _ rfl ⟨(fun x => B7 _ x) _, hJ⟩
  · intro a' w' b_ hA hC hJ hB1 hB2 hD
    obtain rfl := hB1 (by kernel_rfl)
    clear hB1 hB2
    have s3 := hA.to 3 (by kernel_rfl) rfl; clear hA hD; refine o7p rfl ?_; intro K hK; gi_wp2; exact hK _ _ rfl ⟨(fun x => B7 _ x) _, hJ⟩
  · intro a' w' b_ hA hC hJ hB1 hB2 hD
    obtain rfl := hB1 (by kernel_rfl)
    clear hB1 hB2
    obtain ⟨u14, s14, rfl⟩ := hD ⟨10, .data⟩ (by simp) rfl _ rfl
    have b1 := c7b (k := 0) (HBX.out w' hC) rfl
    clear hA hD; refine o7p rfl ?_; intro K hK; gi_wp2; exact hK _ _ rfl ⟨(fun x => B7 _ x) _, hJ⟩
  · intro a' w' b_ hA hC hJ hB1 hB2 hD
    obtain rfl := hB1 (by kernel_rfl)
    clear hB1 hB2
    obtain ⟨u13, s13, rfl⟩ := hD ⟨9, .data⟩ (by simp) rfl _ rfl; obtain ⟨u15, s15, rfl⟩ := hD ⟨11, .data⟩ (by simp) rfl _ rfl
    have b1 := HLK.out w' hC
    clear hA hD; refine o7p rfl ?_; intro K hK; gi_wp2; exact hK _ _ rfl ⟨(fun x => B7 _ x) _, hJ⟩
  · intro a' w' b_ hA hC hJ hB1 hB2 hD
    obtain rfl := hB1 (by kernel_rfl)
    clear hB1 hB2
    have s3 := hA.to 3 (by kernel_rfl) rfl
    have b0 := c7b (k := 0) (HBX.out w' hC) rfl; have b1 := c7b (k := 1) (HBX.out w' hC) rfl; have b2 := c7b (k := 2) (HBX.out w' hC) rfl
    clear hA hD; refine o7p rfl ?_; intro K hK; gi_wp2; exact hK _ _ rfl ⟨(fun x => B7 _ x) _, hJ⟩
  · intro a' w' b_ hA hC hJ hB1 hB2 hD
    obtain rfl := hB1 (by kernel_rfl)
    clear hB1 hB2
    obtain ⟨u17, s17, rfl⟩ := hD ⟨13, .data⟩ (by simp) rfl _ rfl; clear hA hD; refine o7p rfl ?_; intro K hK; gi_wp2; exact hK _ _ ⟨w'.heap.size, rfl, fun e => by have := (HOW.out _ e).2; have := hC.size; omega, newBlock _ _ _ rfl⟩ ⟨(B7 _ _).alloc (Nat.le_refl _) _, fun hb => (hJ hb).alloc _⟩
  · intro a' w' b_ hA hC hJ hB1 hB2 hD
    obtain rfl := hB2 rfl
    clear hB1 hB2
    obtain ⟨u16, s16, rfl⟩ := hD ⟨12, .data⟩ (by simp) rfl _ rfl; obtain ⟨u18, s18, r18⟩ := hD ⟨14, .data⟩ (by simp) rfl _ rfl; replace r18 : (fun v_ w_ => ∃ b, v_ = .slice (some ⟨b, 0, none⟩) 1 1 ∧ (F sy).ownBlock ≠ some b ∧ w_.heap[b]? = some (.cells #[.int .i64 sy, .int .i64 sf, .int .i64 st] 47 (0, 0))) u18 w' := r18
    obtain ⟨g, hg18, hbn, hbk⟩ := r18; subst hg18
    clear hA hD; refine o7p rfl ?_; intro K hK
    have H := HI.out; obtain ⟨v', w'', hrun, hr1, hr2, _, hr4⟩ := run_append_own_at (P := Tryz.prog) w' base 41 41 47 i0 (.agg #[.int .i64 0, .int .i64 0, .int .i64 0]) 3 24 Tryz.underlying41 H.1 H.2.1 H.2.2.1 H.2.2.2 rfl (by decide) (F sy) (GrOf L sy).length ((GrOf L sy).flatMap encS) (hJ rfl) ⟨g, 0, none⟩ 1 1 (encS S) rfl (by rw [HSS.out]; exact fun j x hx => cells_of_block hbk j x (by simpa [encS] using hx)) (encS_one S) HNN.out.1 HNN.out.2 (Nat.le_trans (Nat.le_trans HB.out (Nat.le_of_lt HLT1.out)) hC.size); refine opIn_append _ _ _ rfl (by simp [Act.eval, s16]) (by simp [Act.eval, s18]) hrun (hK v' w'' ⟨?_, ?_⟩ ⟨hr2, fun h => by cases h⟩); (rw [List.length_append, List.flatMap_append]; simpa using hr1); (rcases hr4 with h | h; exact .inl h; exact .inr ⟨_, h, hC.size⟩)
    skip
 case hJ0 => exact fun _ => HRW.out.drew
 case hend =>
  intro w2 hC hJ
  simp only [EndFrom, eqv, forall_eq, Act.put, List.length_cons, List.length_nil, List.drop_succ_cons, List.drop_zero, Nat.reduceAdd, List.setIfInBounds_toArray, List.set_cons_succ, List.set_cons_zero]
  rintro v1 - v2 ⟨hr1, hr2⟩
  obtain ⟨w3, hrun, hg3, hw3⟩ := HG1.out.put (w := w2) (y := sy) (v' := v2) (L := GrOf L sy ++ [S]) HYY.out (by have := HN.out.1; unfold maxLen; omega) hC hr1 (by simp) hr2
  have hloc : Loc (F S.y) v2 w.heap.size := by
   rw [show S.y = sy by rw [HSS.out]]
   rcases hr2 with h | ⟨g, h, hge⟩
   · exact .inl h
   · exact .inr ⟨g, h, by have := HLT1.out; omega⟩
  have htur : Turned (fun k => k = b ∨ (F S.y).ownBlock = some k) w w3 := by
   rw [show S.y = sy by rw [HSS.out]]
   refine (((Turned.of_grown (row := none) ⟨HS.out.low.os, HS.out.low.tape, HS.out.low.output, HS.out.low.size, fun k hk _ => HS.out.low.block k hk⟩).trans (Turned.of_grown hC)).trans (Turned.of_grown hw3)).mono fun k hk h => ?_
   rcases h with (h | h) | h
   · cases h
   · exact .inr h.symm
   · exact .inl (Option.some.inj h)
  have hgr : GrD w3 base b (n + 1) (D.put (.int .i64 sy) (.held v2)) (fun z => if z = S.y then v2 else F z) (GrOf (L ++ [S])) := by
   have e : S.y = sy := by rw [HSS.out]
   rw [← GrOf_put, e]
   exact hg3
  have HRES := H7 (And.intro hgr (And.intro hloc htur))
  clear hgr hloc htur hg3 hw3 hr1 hr2 hC hJ
  gi_wp2
  go_end0
  exact ⟨rfl, v2, _, HRES.out⟩
end Go.Proofs.YtgdcfkbimkclaaaGreatDoor
/- slices.SortFunc at a row of structs, with what it leaves alone; slices.Sort at a row of ints. -/
namespace Go.Proofs.YtgdcfkbimkclaaaGreatDoor
open Go.RowKit Go.Shelf
section
variable {α : Type} [Inhabited α] {P : Program} {ρ : Ren}
end
section
variable {P : Program} {ρ : Ren}
end
end Go.Proofs.YtgdcfkbimkclaaaGreatDoor
/- Layer 6: sorted. -/
namespace Go.Proofs.YtgdcfkbimkclaaaGreatDoor
open Go.RowKit Go.Shelf Go.Maps
/-- Other blocks are written. -/
theorem StO.other {α : Type} {w0 x y : World} {its : List It} {base : Nat} {e : TypeId} {k : Nat} {enc : α → List Value} {v : Value} {L : List α} {r : Nat} (h : StO w0 its base e k enc v L x) (hg : x.grownBy y (some r)) (h0 : w0.heap.size ≤ r) (ht : ∀ i ∈ its, i.top ≤ r) (hv : v.ownBlock ≠ some r) : StO w0 its base e k enc v L y :=
 ⟨h.st.grown (base := r) (fun j e => by cases e; exact Nat.le_refl _) h0 ht hg, h.row.kept hg (.inr hv), h.low, h.top, Nat.le_trans h.hi hg.size⟩
theorem sameKey_int (a b : Int) : (Lit.int .i64 a).sameKey (.int .i64 b) = decide (a = b) := by
 by_cases h : a = b
 · subst h; simp [Lit.sameKey]
 · simp [Lit.sameKey, h]
/-- The keys. -/
structure KeysP (D : DataW Value) (ks : List Int) (left : Lit → Bool) : Prop where
 left_ : ∀ y, left (.int .i64 y) = true ↔ Maps.has D (.int .i64 y) = true ∧ y ∉ ks
 nd : ks.Nodup
 has : ∀ y ∈ ks, Maps.has D (.int .i64 y) = true
theorem KeysP.step {D : DataW Value} {ks : List Int} {left : Lit → Bool} (h : KeysP D ks left) {x : Int} (hx : left (.int .i64 x) = true) : KeysP D (ks ++ [x]) (fun z => left z && !z.sameKey (.int .i64 x)) := by
 obtain ⟨h1, h2⟩ := (h.left_ x).1 hx
 refine ⟨fun y => ?_, List.nodup_append.2 ⟨h.nd, by simp, fun a ha b hb => ?_⟩, fun y hy => ?_⟩
 · rw [Bool.and_eq_true, h.left_ y, sameKey_int]
   simp only [Bool.not_eq_true', decide_eq_false_iff_not, List.mem_append, List.mem_singleton, not_or]
   constructor
   · rintro ⟨⟨a, b⟩, c⟩; exact ⟨a, b, c⟩
   · rintro ⟨a, b, c⟩; exact ⟨⟨a, b⟩, c⟩
 · simp at hb; subst hb; exact fun e => h2 (by rw [← e]; exact ha)
 · rcases List.mem_append.1 hy with hy | hy
   · exact h.has y hy
   · simp at hy; subst hy; exact h1
end Go.Proofs.YtgdcfkbimkclaaaGreatDoor
/- Layer 6, plain: a right row is determined by its places. -/
namespace Go.Proofs.YtgdcfkbimkclaaaGreatDoor
open Go.RowKit Go.Shelf
def ordP (a b : SpT) : Prop := a.y < b.y ∨ a.y = b.y ∧ a.t + 1 < b.f
structure RowP (l : List SpT) : Prop where
 sp : ∀ s ∈ l, s.f ≤ s.t
 ord : l.Pairwise ordP
theorem ordP_trans {a b c : SpT} (hb : b.f ≤ b.t) (h : ordP a b) (k : ordP b c) : ordP a c := by
 unfold ordP at *
 omega
theorem RightP.tail {s : SpT} {l : List SpT} (h : RightP (s :: l)) : RightP l :=
 ⟨fun k hk => by have := h.sp (k + 1) (by simp; omega); simpa using this, fun k hk => by have := h.ord (k + 1) (by simp; omega); simpa using this⟩
theorem spB_iff (s : SpT) : spB s = true ↔ (-256 ≤ s.y ∧ s.y ≤ 255) ∧ (-256 ≤ s.f ∧ s.f ≤ 255) ∧ (-256 ≤ s.t ∧ s.t ≤ 255) ∧ s.f ≤ s.t := by
 simp [spB, reachB]
theorem RightP.rowP : ∀ {l : List SpT}, RightP l → RowP l
 | [], _ => ⟨by simp, List.Pairwise.nil⟩
 | s :: l, h => by
  have hl := h.tail.rowP
  have hs := (spB_iff s).1 (by have := h.sp 0 (by simp); simpa using this)
  refine ⟨fun q hq => ?_, List.Pairwise.cons (fun q hq => ?_) hl.ord⟩
  · rcases List.mem_cons.1 hq with rfl | hq
    · omega
    · exact hl.sp q hq
  · cases l with
    | nil => cases hq
    | cons r l' =>
     have h1 : ordP s r := by
      have := h.ord 0 (by simp)
      simpa [ordB, ordP] using this
     rcases List.mem_cons.1 hq with rfl | hq
     · exact h1
     · exact ordP_trans (hl.sp r (by simp)) h1 ((List.pairwise_cons.1 hl.ord).1 q hq)
theorem hasB_iff (l : List SpT) (p : PtT) : hasB l p = true ↔ ∃ s ∈ l, s.y = p.y ∧ s.f ≤ p.x ∧ p.x ≤ s.t := by
 simp [hasB, List.any_eq_true, inB]
theorem rowP_unique : ∀ {l m : List SpT}, RowP l → RowP m → (∀ p, hasB l p = true ↔ hasB m p = true) → l = m
 | [], [], _, _, _ => rfl
 | [], r :: m, _, hm, h => by
  have h1 := hm.sp r (by simp)
  have := (h ⟨r.f, r.y⟩).2 ((hasB_iff _ _).2 ⟨r, by simp, rfl, Int.le_refl _, h1⟩)
  simp [hasB] at this
 | s :: l, [], hl, _, h => by
  have h1 := hl.sp s (by simp)
  have := (h ⟨s.f, s.y⟩).1 ((hasB_iff _ _).2 ⟨s, by simp, rfl, Int.le_refl _, h1⟩)
  simp [hasB] at this
 | s :: l, r :: m, hl, hm, h => by
  have s1 := hl.sp s (by simp)
  have r1 := hm.sp r (by simp)
  obtain ⟨so, lo⟩ := List.pairwise_cons.1 hl.ord
  obtain ⟨ro, mo⟩ := List.pairwise_cons.1 hm.ord
  have a1 := (hasB_iff _ _).1 ((h ⟨s.f, s.y⟩).1 ((hasB_iff _ _).2 ⟨s, by simp, rfl, Int.le_refl _, s1⟩))
  have a2 := (hasB_iff _ _).1 ((h ⟨r.f, r.y⟩).2 ((hasB_iff _ _).2 ⟨r, by simp, rfl, Int.le_refl _, r1⟩))
  have hge : ∀ q ∈ r :: m, r.y < q.y ∨ r.y = q.y ∧ r.f ≤ q.f := fun q hq => by
   rcases List.mem_cons.1 hq with rfl | hq
   · omega
   · have := ro q hq; unfold ordP at this; omega
  have hge' : ∀ q ∈ s :: l, s.y < q.y ∨ s.y = q.y ∧ s.f ≤ q.f := fun q hq => by
   rcases List.mem_cons.1 hq with rfl | hq
   · omega
   · have := so q hq; unfold ordP at this; omega
  obtain ⟨q, hq, q1, q2, q3⟩ := a1
  obtain ⟨q', hq', q1', q2', q3'⟩ := a2
  simp only at q1 q2 q3 q1' q2' q3'
  have b1 := hge q hq
  have b2 := hge' q' hq'
  have ey : s.y = r.y := by omega
  have ef : s.f = r.f := by omega
  have et1 : r.t ≤ s.t := by
   refine Int.not_lt.1 fun hlt => ?_
   obtain ⟨z, hz, z1, z2, z3⟩ := (hasB_iff _ _).1 ((h ⟨s.t + 1, s.y⟩).2 ((hasB_iff _ _).2 ⟨r, by simp, ey.symm, by simp only; omega, by simp only; omega⟩))
   simp only at z1 z2 z3
   rcases List.mem_cons.1 hz with rfl | hz
   · omega
   · have := so z hz; unfold ordP at this; omega
  have et2 : s.t ≤ r.t := by
   refine Int.not_lt.1 fun hlt => ?_
   obtain ⟨z, hz, z1, z2, z3⟩ := (hasB_iff _ _).1 ((h ⟨r.t + 1, r.y⟩).1 ((hasB_iff _ _).2 ⟨s, by simp, ey, by simp only; omega, by simp only; omega⟩))
   simp only at z1 z2 z3
   rcases List.mem_cons.1 hz with rfl | hz
   · omega
   · have := ro z hz; unfold ordP at this; omega
  have e : s = r := by
   cases s; cases r
   simp only at ey ef et1 et2
   rw [ey, ef, Int.le_antisymm et2 et1]
  subst e
  have := rowP_unique (l := l) (m := m) ⟨fun q hq => hl.sp q (by simp [hq]), lo⟩ ⟨fun q hq => hm.sp q (by simp [hq]), mo⟩ (fun p => by
   have key : ∀ {k : List SpT}, (∀ q ∈ k, ordP s q) → (hasB k p = true ↔ hasB (s :: k) p = true ∧ ¬ (s.y = p.y ∧ s.f ≤ p.x ∧ p.x ≤ s.t)) := by
    intro k hk
    rw [hasB_iff, hasB_iff]
    constructor
    · rintro ⟨q, hq, q1, q2, q3⟩
      refine ⟨⟨q, by simp [hq], q1, q2, q3⟩, fun hs => ?_⟩
      have := hk q hq; unfold ordP at this; omega
    · rintro ⟨⟨q, hq, q1, q2, q3⟩, hn⟩
      rcases List.mem_cons.1 hq with e | hq
      · rw [e] at q1 q2 q3
        exact absurd (And.intro q1 (And.intro q2 q3)) hn
      · exact ⟨q, hq, q1, q2, q3⟩
   rw [key so, key ro, h p])
  rw [this]
/- Layer 6, plain: the row of spans of a field of truths, place by place. -/
/-- L is the row of spans of the places of a box of which F holds. -/
structure RowOf (x1 y1 : Int) (n m : Nat) (F : Nat → Nat → Bool) (L : List SpT) : Prop where
 row : RowP L
 box : ∀ s ∈ L, y1 ≤ s.y ∧ s.y < y1 + n ∧ x1 ≤ s.f ∧ s.t < x1 + m
 has : ∀ p, hasB L p = true ↔ (y1 ≤ p.y ∧ p.y < y1 + n) ∧ (x1 ≤ p.x ∧ p.x < x1 + m) ∧ F (p.y - y1).toNat (p.x - x1).toNat = true
theorem RowOf.unique {x1 y1 : Int} {n m : Nat} {F : Nat → Nat → Bool} {L M : List SpT} (h : RowOf x1 y1 n m F L) (k : RowOf x1 y1 n m F M) : L = M :=
 rowP_unique h.row k.row fun p => (h.has p).trans (k.has p).symm
/-- So far: j rows, and i places. -/
structure RowTo (x1 y1 : Int) (m : Nat) (F : Nat → Nat → Bool) (L : List SpT) (j i : Nat) : Prop where
 row : RowP L
 box : ∀ s ∈ L, y1 ≤ s.y ∧ s.y ≤ y1 + j ∧ x1 ≤ s.f ∧ s.t < x1 + m ∧ (s.y = y1 + j → s.t < x1 + i)
 has : ∀ p, hasB L p = true ↔ (x1 ≤ p.x ∧ p.x < x1 + m) ∧ y1 ≤ p.y ∧ (p.y < y1 + j ∨ p.y = y1 + j ∧ p.x < x1 + i) ∧ F (p.y - y1).toNat (p.x - x1).toNat = true
/-- Is a span open? -/
def OpenTo (x1 y1 : Int) (L : List SpT) (j i : Nat) : Bool → Prop
 | true => ∃ L0 s, L = L0 ++ [s] ∧ s.y = y1 + (j : Int) ∧ s.t = x1 + (i : Int) - 1
 | false => ∀ s ∈ L, s.y = y1 + (j : Int) → s.t + 1 < x1 + (i : Int)
theorem hasB_app (L M : List SpT) (p : PtT) : hasB (L ++ M) p = (hasB L p || hasB M p) := by simp [hasB]
theorem hasB_one (s : SpT) (p : PtT) : hasB [s] p = inB p s := by simp [hasB]
variable {x1 y1 : Int} {m : Nat} {F : Nat → Nat → Bool} {L : List SpT} {j i : Nat}
theorem RowTo.skip (h : RowTo x1 y1 m F L j i) (hi : i < m) (hF : F j i = false) : RowTo x1 y1 m F L j (i + 1) ∧ OpenTo x1 y1 L j (i + 1) false := by
 refine ⟨⟨h.row, fun s hs => ?_, fun p => ?_⟩, fun s hs e => ?_⟩
 · obtain ⟨a, b, c, d, e⟩ := h.box s hs
   exact ⟨a, b, c, d, fun e' => by have := e e'; omega⟩
 · rw [h.has p]
   constructor
   · rintro ⟨a, b, c, d⟩
     exact ⟨a, b, by omega, d⟩
   · rintro ⟨a, b, c, d⟩
     refine ⟨a, b, ?_, d⟩
     rcases c with c | ⟨c1, c2⟩
     · exact .inl c
     · refine .inr ⟨c1, ?_⟩
       refine Int.not_le.1 fun hle => ?_
       rw [show (p.y - y1).toNat = j by omega, show (p.x - x1).toNat = i by omega, hF] at d
       cases d
 · have := (h.box s hs).2.2.2.2 e
   omega
theorem RowTo.open (h : RowTo x1 y1 m F L j i) (hi : i < m) (hF : F j i = true) {L0 : List SpT} {s : SpT} (hL : L = L0 ++ [s]) (hy : s.y = y1 + (j : Int)) (ht : s.t = x1 + (i : Int) - 1) :
 RowTo x1 y1 m F (L0 ++ [⟨s.y, s.f, x1 + (i : Int)⟩]) j (i + 1) ∧ OpenTo x1 y1 (L0 ++ [⟨s.y, s.f, x1 + (i : Int)⟩]) j (i + 1) true := by
 subst hL
 obtain ⟨h1, h2, h3⟩ := List.pairwise_append.1 h.row.ord
 have hs := h.row.sp s (by simp)
 obtain ⟨b1, b2, b3, b4, b5⟩ := h.box s (by simp)
 have hbefore : ∀ q ∈ L0, q.y < s.y ∨ q.y = s.y ∧ q.t + 1 < s.f := fun q hq => by
  have := h3 q hq s (by simp); unfold ordP at this; exact this
 refine ⟨⟨⟨fun q hq => ?_, ?_⟩, fun q hq => ?_, fun p => ?_⟩, _, _, rfl, hy, by simp; omega⟩
 · rcases List.mem_append.1 hq with hq | hq
   · exact h.row.sp q (by simp [hq])
   · simp at hq; subst hq; simp only; omega
 · refine List.pairwise_append.2 ⟨h1, List.pairwise_singleton _ _, fun q hq r hr => ?_⟩
   simp at hr; subst hr
   have := hbefore q hq
   unfold ordP; simp only; omega
 · rcases List.mem_append.1 hq with hq | hq
   · obtain ⟨a, b, c, d, e⟩ := h.box q (by simp [hq])
     exact ⟨a, b, c, d, fun e' => by have := e e'; omega⟩
   · simp at hq; subst hq
     simp only
     exact ⟨b1, b2, b3, by omega, fun _ => by omega⟩
 · have hp := h.has p
   rw [hasB_app, hasB_one, Bool.or_eq_true] at hp ⊢
   simp only [inB, decide_eq_true_eq] at hp ⊢
   constructor
   · rintro (a | ⟨a1, a2, a3⟩)
     · obtain ⟨c1, c2, c3, c4⟩ := hp.1 (.inl a)
       exact ⟨c1, c2, by omega, c4⟩
     · by_cases e : p.x ≤ s.t
       · obtain ⟨c1, c2, c3, c4⟩ := hp.1 (.inr ⟨a1, a2, e⟩)
         exact ⟨c1, c2, by omega, c4⟩
       · refine ⟨by omega, by omega, by omega, ?_⟩
         rw [show (p.y - y1).toNat = j by omega, show (p.x - x1).toNat = i by omega]
         exact hF
   · rintro ⟨c1, c2, c3, c4⟩
     by_cases e : p.y = y1 + (j : Int) ∧ p.x = x1 + (i : Int)
     · right; omega
     · rcases hp.2 ⟨c1, c2, by omega, c4⟩ with a | a
       · exact .inl a
       · right; omega
theorem RowTo.new (h : RowTo x1 y1 m F L j i) (hi : i < m) (hF : F j i = true) (ho : OpenTo x1 y1 L j i false) :
 RowTo x1 y1 m F (L ++ [⟨y1 + (j : Int), x1 + (i : Int), x1 + (i : Int)⟩]) j (i + 1) ∧ OpenTo x1 y1 (L ++ [⟨y1 + (j : Int), x1 + (i : Int), x1 + (i : Int)⟩]) j (i + 1) true := by
 refine ⟨⟨⟨fun q hq => ?_, ?_⟩, fun q hq => ?_, fun p => ?_⟩, _, _, rfl, rfl, by simp; omega⟩
 · rcases List.mem_append.1 hq with hq | hq
   · exact h.row.sp q hq
   · simp at hq; subst hq; simp
 · refine List.pairwise_append.2 ⟨h.row.ord, List.pairwise_singleton _ _, fun q hq r hr => ?_⟩
   simp at hr; subst hr
   have h1 := h.box q hq
   have h2 := ho q hq
   unfold ordP; simp only; omega
 · rcases List.mem_append.1 hq with hq | hq
   · obtain ⟨a, b, c, d, e⟩ := h.box q hq
     exact ⟨a, b, c, d, fun e' => by have := e e'; omega⟩
   · simp at hq; subst hq
     simp only
     exact ⟨by omega, by omega, by omega, by omega, fun _ => by omega⟩
 · have hp := h.has p
   rw [hasB_app, hasB_one, Bool.or_eq_true, hp]
   simp only [inB, decide_eq_true_eq]
   constructor
   · rintro (⟨c1, c2, c3, c4⟩ | ⟨a1, a2, a3⟩)
     · exact ⟨c1, c2, by omega, c4⟩
     · refine ⟨by omega, by omega, by omega, ?_⟩
       rw [show (p.y - y1).toNat = j by omega, show (p.x - x1).toNat = i by omega]
       exact hF
   · rintro ⟨c1, c2, c3, c4⟩
     by_cases e : p.y = y1 + (j : Int) ∧ p.x = x1 + (i : Int)
     · right; omega
     · left; exact ⟨c1, c2, by omega, c4⟩
theorem RowTo.down (h : RowTo x1 y1 m F L j m) : RowTo x1 y1 m F L (j + 1) 0 ∧ OpenTo x1 y1 L (j + 1) 0 false := by
 refine ⟨⟨h.row, fun s hs => ?_, fun p => ?_⟩, fun s hs e => ?_⟩
 · obtain ⟨a, b, c, d, e⟩ := h.box s hs
   exact ⟨a, by omega, c, d, fun e' => by omega⟩
 · rw [h.has p]
   constructor
   · rintro ⟨a, b, c, d⟩
     exact ⟨a, b, by omega, d⟩
   · rintro ⟨a, b, c, d⟩
     exact ⟨a, b, by omega, d⟩
 · have := (h.box s hs).2.1
   omega
end Go.Proofs.YtgdcfkbimkclaaaGreatDoor
