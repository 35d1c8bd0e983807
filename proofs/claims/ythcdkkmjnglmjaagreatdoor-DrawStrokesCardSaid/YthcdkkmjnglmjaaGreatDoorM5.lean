/- Merged texts: ShC ShD ShE ShF ShG ShH ShI ShK Grow Sort ShL ShM. -/
import Derived.Test.YthcdkkmjnglmjaaGreatDoorM4
import Derived.Test.YthcdkkmjnglmjaaGreatDoorM1
import Derived.Shelf.SlSortCmp.NoneTotal
import Derived.Maps.AppendAt
import Derived.Maps.OwnSet
import Derived.Maps.RangeWalk
set_option linter.unusedSimpArgs false
set_option linter.unusedVariables false
/- Layer 6: the document's Right. -/
namespace Go.Proofs.YthcdkkmjnglmjaaGreatDoor
open Go.RowKit Go.Shelf
/- Layer 6: Clip; the document's Clip, Has. -/
theorem rowS : RowT Tryz.prog 57 60 3 24 := .of (z := .agg #[.int .i64 0, .int .i64 0, .int .i64 0]) Tryz.underlying57 (by kernel_rfl) rfl (by decide)
theorem rowP : RowT Tryz.prog 39 26 2 16 := .of (z := .agg #[.int .i64 0, .int .i64 0]) Tryz.underlying39 (by kernel_rfl) rfl (by decide)
theorem encS_one (s : SpT) : ∀ u ∈ encS s, u.oneCell' = true := by
 intro u hu
 simp [encS] at hu
 rcases hu with rfl | rfl | rfl <;> rfl
theorem encP_one (s : PtT) : ∀ u ∈ encP s, u.oneCell' = true := by
 intro u hu
 simp [encP] at hu
 rcases hu with rfl | rfl <;> rfl
/-- The newest block is written. -/
theorem St.put0 {w0 x : World} {p : Nat} {c c' : Array Value} {t : TypeId} {f : Nat × Nat} {post : List It} (h : St w0 (.blk p (.cells c t f) :: post) x) (k : Nat) (v : Value) (hc : c.setIfInBounds k v = c') : St w0 (.blk p (.cells c' t f) :: post) (x.setCell ⟨p, k, none⟩ v) := by
 subst hc
 have hp := h.blockAt 0 rfl
 exact St.set (pre := []) h (by simp) (h7s hp v) (fun j hj => Below.heap_setCell x ⟨p, k, none⟩ v j hj) ((B7 _ _).setCell (p := ⟨p, k, none⟩) (Nat.le_refl _) v)
/-- What a box has of a span. -/
def clip1 (b : BxT) (s : SpT) : Option SpT := if max s.f b.x ≤ min s.t b.x2 ∧ b.y ≤ s.y ∧ s.y ≤ b.y2 then some ⟨s.y, max s.f b.x, min s.t b.x2⟩ else none
def clipL (b : BxT) (l : List SpT) : List SpT := l.filterMap (clip1 b)
theorem clipL_take (b : BxT) (l : List SpT) (k : Nat) (x : SpT) (hx : l[k]? = some x) : clipL b (l.take (k + 1)) = clipL b (l.take k) ++ (clip1 b x).toList := by
 unfold clipL
 rw [List.take_add_one, hx, List.filterMap_append]
 cases h : clip1 b x <;> simp [h]
theorem clipL_len (b : BxT) (l : List SpT) (k : Nat) : (clipL b (l.take k)).length ≤ k := Nat.le_trans (List.length_filterMap_le _ _) (by simp; omega)
/- Layer 6: Clip. -/
/-- It returns a new row, and an error. -/
def GivesRowE (E size n : Nat) (xs : List Value) (er : Int) (w : World) (e : Ending) (w' : World) : Prop := ∃ v, e = .returned (.tuple #[v, .int .i64 er]) ∧ w'.ownsRow w.heap.size E size v n xs ∧ Below w.heap.size w w'
noncomputable def clipR (b : BxT) (l : List SpT) : List SpT := bif rightB l then clipL b l else []
set_option maxRecDepth 100000 in
set_option maxHeartbeats 4000000 in
theorem shClip_any (a : Option Addr) (n cap : Nat) (l : List SpT) (hl : l.length = n) (hn : n < 1000000000) (b : BxT) (w : World) (h : Elems w (.slice a n cap) n 3 (rowC encS l)) :
 Calls Tryz.prog 123 #[.slice a n cap, b.val] w (GivesRowE 60 3 (clipR b l).length ((clipR b l).flatMap encS) (errOf (rightB l) 160) w) := by
 have HS := H7 ((St.start w).addRow h)
 have HL := H7 hl
 obtain ⟨bx, by', bx2, by2⟩ := b
 obtain ⟨B, hB⟩ : ∃ B, BxT.mk bx by' bx2 by2 = B := ⟨_, rfl⟩
 have HBX := H7 hB
 clear h hl hB
 unfold BxT.val
 go_enter Tryz.func123, Tryz.ntmps123
 repeat ((fail_if_success (with_reducible refine stop_at (id := 1) ?_)); (first | go_values | go_skip | go_guarded | go_step | go_upon | go_back | (simp only [Int.not_lt, Int.not_le] at *; go_simp) | (go_values <;> (try go_simp)) | (go_ite <;> go_prune <;> (try go_simp)) | (split <;> (first | (rename_i hx; exact (hx _ rfl).elim) | go_prune))))
 have hs_ := (HS.out.alloc (.cells #[.int .i64 bx, .int .i64 by', .int .i64 bx2, .int .i64 by2] 171))
 obtain ⟨w1, hw_⟩ : ∃ w1 : World, (w.alloc (.cells #[.int .i64 bx, .int .i64 by', .int .i64 bx2, .int .i64 by2] 171)) = w1 := ⟨_, rfl⟩
 rw [hw_] at hs_
 try simp only [World.size_alloc] at hs_
 have HS := H7 hs_
 rw [hw_]
 clear hw_ hs_
 go_wp2_with fail
 refine (check_any a n cap l HL.out (by omega) _ (HS.out.elems 1 rfl)).mono ?_
 rintro e w2 ⟨rfl, hb_⟩
 have HS := H7 (HS.out.below hb_)
 clear hb_
 cases hr : rightB l
 · have HR := H7 hr
   clear hr
   simp only [errOf, Bool.false_eq_true, if_false]
   go_wp2_with fail
   refine bodyPost_ret (v := .tuple #[.slice none 0 0, .int .i64 160]) (by simp [results, Tryz.results123, go_sem]) rfl ⟨.slice none 0 0, by rw [HR.out]; rfl, ?_, HS.out.low⟩
   have e : clipR (BxT.mk bx by' bx2 by2) l = [] := by unfold clipR; rw [HR.out]; rfl
   rw [e]
   exact World.ownsRow_nil _ _ _ _
 have HR := H7 hr
 clear hr
 simp only [errOf, if_true]
 have HO := H7 (StO.start HS.out 60 3 encS)
 obtain ⟨N1, hN1⟩ : ∃ N1, w2.heap.size = N1 := ⟨_, rfl⟩
 rw [hN1] at HO
 clear HS
 go_wp2_with fail
 go_loopw [7, 17] (fun v i wr => ∃ k : Nat, k ≤ n ∧ i = .int .i64 (k : Int) ∧ StO w [.blk w.heap.size (.cells #[.int .i64 bx, .int .i64 by', .int .i64 bx2, .int .i64 by2] 171), .row (.slice a n cap) n 3 (rowC encS l) w.heap.size] N1 60 3 encS v (clipL B (l.take k)) wr) (fun _ i _ => n - (intOf i).toNat)
 case atStart => exact ⟨0, by omega, rfl, HO.out⟩
 case round =>
  obtain ⟨k, hk, rfl, ho⟩ := hrel
  clear HO hN1
  have HO := H7 ho
  clear ho
  by_cases hlt : k < n
  · have HLT := H7 (show k < l.length by rw [HL.out]; exact hlt)
    have wk : wrap64 ((k : Int) + 1) = ((k + 1 : Nat) : Int) := by unfold wrap64; omega
    obtain ⟨x, hx⟩ : ∃ x, l[k]? = some x := ⟨_, List.getElem?_eq_getElem HLT.out⟩
    obtain ⟨bb, off, rfl, hbb, c0, c1, c2⟩ := spCells HL.out (HO.out.st.elems 1 rfl) k x hx
    have HT := H7 (clipL_take B l k x hx)
    have HLEN := H7 (clipL_len B l k)
    obtain ⟨xy, xf, xt⟩ := x
    simp only at c0 c1 c2
    clear hx hbb
    have HS := H7 (St.start wr)
    repeat ((fail_if_success (with_reducible refine stop_at (id := 8) ?_)); (first | go_values | go_skip | go_guarded | go_step | go_upon | go_back | (simp only [Int.not_lt, Int.not_le] at *; go_simp) | (go_values <;> (try go_simp)) | (go_ite <;> go_prune <;> (try go_simp)) | (split <;> (first | (rename_i hx; exact (hx _ rfl).elim) | go_prune))))
    clear c0 c1 c2
    have hs_ := (HS.out.alloc (.cells #[.int .i64 xy, .int .i64 xf, .int .i64 xt] 60))
    obtain ⟨w3, hw_⟩ : ∃ w3 : World, (wr.alloc (.cells #[.int .i64 xy, .int .i64 xf, .int .i64 xt] 60)) = w3 := ⟨_, rfl⟩
    rw [hw_] at hs_
    try simp only [World.size_alloc] at hs_
    have HS := H7 hs_
    rw [hw_]
    clear hw_ hs_
    obtain ⟨F, hF⟩ : ∃ F, max xf bx = F := ⟨_, rfl⟩
    obtain ⟨T, hT⟩ : ∃ T, min xt bx2 = T := ⟨_, rfl⟩
    have HF := H7 hF
    have HTT := H7 hT
    clear hF hT
    refine (wpIn_wide (n := 0)).1 ?_
    apply wp_region_store 13 11 (fun b_ w_ => St wr [.blk wr.heap.size (.cells #[.int .i64 xy, .int .i64 (cond b_ F xf), .int .i64 xt] 60 (0, 0))] w_) (Rl := [(eqv _), (eqv _), (eqv _), (eqv _), (eqv _), (eqv _), (eqv _), (eqv _), (eqv _), (eqv _), (eqv _), (fun v_ w_ => True), (eqv _)]) (C := (fun x y => Below wr.heap.size x y)) (C0 := (fun x y => Below wr.heap.size x y))
    case hm => kernel_rfl
    case hk => rfl
    case hCr => exact (fun x => B7 _ x)
    case hCt => intro _ _ _; exact (fun h k => h.trans k)
    case h00 => exact (fun x => B7 _ x)
    case h0C => intro _ _; exact fun h => h
    case hst => repeat (first | exact trivial | refine ⟨fun _ _ _ _ h => h, ?_⟩)
    case hfo => kernel_rfl
    case ht => kernel_rfl
    case hC0 => exact ((B7 _ _).drew)
    case hsk => decide
    case hso => decide
    case hsg => rfl
    case hsteps =>
     refine ⟨?_, ?_, ?_, ?_, ?_, ?_, ?_, ?_, ?_, ?_, ?_, ?_, ?_, trivial⟩
     · intro a' w' b_ hA hC hJ hB1 hB2 hD
       obtain rfl := hB1 (by kernel_rfl)
       clear hB1 hB2
       have s9 := hA.to 9 (by kernel_rfl) rfl; clear hA hD; refine o7p rfl ?_; intro K hK; gi_wp2; exact hK _ _ rfl ⟨(fun x => B7 _ x) _, hJ⟩
     · intro a' w' b_ hA hC hJ hB1 hB2 hD
       obtain rfl := hB1 (by kernel_rfl)
       clear hB1 hB2
       obtain ⟨u21, s21, rfl⟩ := hD ⟨0, .data⟩ (by simp) rfl _ rfl
       have k1 := c7b (k := 1) (v := .int .i64 xf) (hJ.blockAt 0 rfl) rfl
       clear hA hD; refine o7p rfl ?_; intro K hK; gi_wp2; exact hK _ _ rfl ⟨(fun x => B7 _ x) _, hJ⟩
     · intro a' w' b_ hA hC hJ hB1 hB2 hD
       obtain rfl := hB1 (by kernel_rfl)
       clear hB1 hB2
       have s3 := hA.to 3 (by kernel_rfl) rfl; clear hA hD; refine o7p rfl ?_; intro K hK; gi_wp2; exact hK _ _ rfl ⟨(fun x => B7 _ x) _, hJ⟩
     · intro a' w' b_ hA hC hJ hB1 hB2 hD
       obtain rfl := hB1 (by kernel_rfl)
       clear hB1 hB2
       obtain ⟨u23, s23, rfl⟩ := hD ⟨2, .data⟩ (by simp) rfl _ rfl
       have b0 := c7b (k := 0) ((HO.out.st.below (HS.out.low.trans hC)).blockAt 0 rfl) rfl
       clear hA hD; refine o7p rfl ?_; intro K hK; gi_wp2; exact hK _ _ rfl ⟨(fun x => B7 _ x) _, hJ⟩
     · intro a' w' b_ hA hC hJ hB1 hB2 hD
       obtain rfl := hB1 (by kernel_rfl)
       clear hB1 hB2
       obtain ⟨u22, s22, rfl⟩ := hD ⟨1, .data⟩ (by simp) rfl _ rfl; obtain ⟨u24, s24, rfl⟩ := hD ⟨3, .data⟩ (by simp) rfl _ rfl; clear hA hD; refine o7p rfl ?_; intro K hK; gi_wp2; rw [HF.out]; exact hK _ _ rfl ⟨(fun x => B7 _ x) _, hJ⟩
     · intro a' w' b_ hA hC hJ hB1 hB2 hD
       obtain rfl := hB1 (by kernel_rfl)
       clear hB1 hB2
       have s9 := hA.to 9 (by kernel_rfl) rfl; clear hA hD; refine o7p rfl ?_; intro K hK; gi_wp2; exact hK _ _ rfl ⟨(fun x => B7 _ x) _, hJ⟩
     · intro a' w' b_ hA hC hJ hB1 hB2 hD
       obtain rfl := hB1 (by kernel_rfl)
       clear hB1 hB2
       obtain ⟨u26, s26, rfl⟩ := hD ⟨5, .data⟩ (by simp) rfl _ rfl
       have k2 := c7b (k := 2) (v := .int .i64 xt) (hJ.blockAt 0 rfl) rfl
       clear hA hD; refine o7p rfl ?_; intro K hK; gi_wp2; exact hK _ _ rfl ⟨(fun x => B7 _ x) _, hJ⟩
     · intro a' w' b_ hA hC hJ hB1 hB2 hD
       skip
       clear hB1 hB2
       have s3 := hA.to 3 (by kernel_rfl) rfl; clear hA hD; refine o7p rfl ?_; intro K hK; gi_wp2; exact hK _ _ rfl ⟨(fun x => B7 _ x) _, hJ⟩
     · intro a' w' b_ hA hC hJ hB1 hB2 hD
       skip
       clear hB1 hB2
       obtain ⟨u28, s28, rfl⟩ := hD ⟨7, .data⟩ (by simp) rfl _ rfl
       have b2 := c7b (k := 2) ((HO.out.st.below (HS.out.low.trans hC)).blockAt 0 rfl) rfl
       clear hA hD; refine o7p rfl ?_; intro K hK; gi_wp2; exact hK _ _ rfl ⟨(fun x => B7 _ x) _, hJ⟩
     · intro a' w' b_ hA hC hJ hB1 hB2 hD
       skip
       clear hB1 hB2
       obtain ⟨u27, s27, rfl⟩ := hD ⟨6, .data⟩ (by simp) rfl _ rfl; obtain ⟨u29, s29, rfl⟩ := hD ⟨8, .data⟩ (by simp) rfl _ rfl; clear hA hD; refine o7p rfl ?_; intro K hK; gi_wp2; rw [HTT.out]; exact hK _ _ rfl ⟨(fun x => B7 _ x) _, hJ⟩
     · intro a' w' b_ hA hC hJ hB1 hB2 hD
       obtain rfl := hB1 (by kernel_rfl)
       clear hB1 hB2
       have s9 := hA.to 9 (by kernel_rfl) rfl; clear hA hD; refine o7p rfl ?_; intro K hK; gi_wp2; exact hK _ _ rfl ⟨(fun x => B7 _ x) _, hJ⟩
     · intro a' w' b_ hA hC hJ hB1 hB2 hD
       obtain rfl := hB2 rfl
       clear hB1 hB2
       obtain ⟨u31, s31, rfl⟩ := hD ⟨10, .data⟩ (by simp) rfl _ rfl; obtain ⟨u25, s25, rfl⟩ := hD ⟨4, .data⟩ (by simp) rfl _ rfl
       have k1 := c7b (k := 1) (v := .int .i64 xf) (hJ.blockAt 0 rfl) rfl; have fr := f7b (hJ.blockAt 0 rfl)
       clear hA hD; refine o7p rfl ?_; intro K hK; gi_wp2; exact hK undef _ trivial ⟨(B7 _ _).setCell (by simp) _, hJ.put0 1 (.int .i64 F) rfl⟩
     · intro a' w' b_ hA hC hJ hB1 hB2 hD
       skip
       clear hB1 hB2
       have s9 := hA.to 9 (by kernel_rfl) rfl; clear hA hD; refine o7p rfl ?_; intro K hK; gi_wp2; exact hK _ _ rfl ⟨(fun x => B7 _ x) _, hJ⟩
    case hJ0 => exact HS.out.below (g7d _)
    case hend =>
     intro w4 hC hJ
     simp only [EndFrom, eqv, forall_eq, Act.put, List.length_cons, List.length_nil, List.drop_succ_cons, List.drop_zero, Nat.reduceAdd, List.setIfInBounds_toArray, List.set_cons_succ, List.set_cons_zero]
     intro v3 _
     clear HS hC
     have k2 := c7b (k := 2) (v := .int .i64 xt) (hJ.blockAt 0 rfl) rfl
     have fr := f7b (hJ.blockAt 0 rfl)
     have HS := H7 hJ
     clear hJ
     gi_wp2
     clear k2 fr
     have hs5 := HS.out.put0 2 (.int .i64 T) rfl
     generalize hw5 : w4.setCell { block := wr.heap.size, off := 2 } (.int .i64 T) = w5 at hs5 ⊢
     clear HS hw5
     have HS : Hid (St wr [.blk wr.heap.size (.cells #[.int .i64 xy, .int .i64 F, .int .i64 T] 60 (0, 0))] w5) := H7 hs5
     clear hs5
     have k0 := h7c HS 0 0 rfl rfl
     have k1 := h7c HS 0 1 rfl rfl
     have k2 := h7c HS 0 2 rfl rfl
     have b1 := c7b (k := 1) ((HO.out.st.below HS.out.low).blockAt 0 rfl) rfl
     have b3 := c7b (k := 3) ((HO.out.st.below HS.out.low).blockAt 0 rfl) rfl
     by_cases g1 : F ≤ T
     · by_cases g2 : by' ≤ xy
       · by_cases g3 : xy ≤ by2
         · have HC := H7 (show clip1 B ⟨xy, xf, xt⟩ = some ⟨xy, F, T⟩ by rw [← HBX.out]; unfold clip1; simp only; rw [HF.out, HTT.out, if_pos]; omega)
           go_wp2_with (at_builtin; refine wpList_app1 rowS encS_len encS_one HO.out HS.out.low ⟨xy, F, T⟩ _ rfl (by have := HLEN.out; omega) (by decide) _ _ rfl rfl rfl _ rfl (by simp) ?_; intro v' w5 ho5 hsh; have HO5 := H7 ho5; clear ho5 hsh)
           go_roundw
           case rel => exact ⟨k + 1, hlt, by simp, by rw [HT.out, HC.out]; exact HO5.out⟩
           case measure => simp [intOf]; omega
         · have HC := H7 (show clip1 B ⟨xy, xf, xt⟩ = none by rw [← HBX.out]; unfold clip1; simp only; rw [HF.out, HTT.out, if_neg]; omega)
           go_wp2_with fail
           go_roundw
           case rel => exact ⟨k + 1, hlt, by simp, by rw [HT.out, HC.out]; simpa using HO.out.below HS.out.low⟩
           case measure => simp [intOf]; omega
       · have HC := H7 (show clip1 B ⟨xy, xf, xt⟩ = none by rw [← HBX.out]; unfold clip1; simp only; rw [HF.out, HTT.out, if_neg]; omega)
         go_wp2_with fail
         go_roundw
         case rel => exact ⟨k + 1, hlt, by simp, by rw [HT.out, HC.out]; simpa using HO.out.below HS.out.low⟩
         case measure => simp [intOf]; omega
     · have HC := H7 (show clip1 B ⟨xy, xf, xt⟩ = none by rw [← HBX.out]; unfold clip1; simp only; rw [HF.out, HTT.out, if_neg]; omega)
       go_wp2_with fail
       go_roundw
       case rel => exact ⟨k + 1, hlt, by simp, by rw [HT.out, HC.out]; simpa using HO.out.below HS.out.low⟩
       case measure => simp [intOf]; omega
  · obtain rfl : k = n := by omega
    clear hk hlt
    go_wp2_with fail
    have HE := H7 HO.out
    rw [List.take_of_length_le (by rw [HL.out]; exact Nat.le_refl _), ← HBX.out] at HE
    refine bodyPost_ret (v := .tuple #[_, .int .i64 0]) (by simp [results, Tryz.results123, go_sem]; rfl) rfl ⟨_, by rw [HR.out]; rfl, ?_, HE.out.st.low⟩
    have e : clipR (BxT.mk bx by' bx2 by2) l = clipL (BxT.mk bx by' bx2 by2) l := by unfold clipR; rw [HR.out]; rfl
    rw [e]
    exact ownsRow_mono HE.out.row HE.out.low
/- Layer 6: Has. -/
def inB (p : PtT) (s : SpT) : Bool := decide (s.y = p.y ∧ s.f ≤ p.x ∧ p.x ≤ s.t)
def hasB (l : List SpT) (p : PtT) : Bool := l.any (inB p)
theorem any_true {α : Type} {q : α → Bool} {l : List α} {k : Nat} {x : α} (hx : l[k]? = some x) (h : q x = true) : l.any q = true :=
 List.any_eq_true.2 ⟨x, List.mem_of_getElem? hx, h⟩
theorem any_false {α : Type} {q : α → Bool} {l : List α} (h : ∀ (j : Nat) (x : α), l[j]? = some x → q x = false) : l.any q = false := by
 rw [List.any_eq_false]
 intro x hx
 obtain ⟨j, hj⟩ := List.getElem?_of_mem hx
 rw [h j x hj]
 simp
/- Layer 6: slices.ContainsFunc at this program's predicates; shape.Has. -/
/-- What IndexFunc gives. -/
def idxI {α : Type} (q : α → Bool) (l : List α) : Int := bif l.any q then (l.findIdx q : Int) else -1
theorem idxI_hit {α : Type} {q : α → Bool} {l : List α} {k : Nat} {x : α} (hx : l[k]? = some x) (h : q x = true) (hall : ∀ (j : Nat) (y : α), l[j]? = some y → j < k → q y = false) : idxI q l = (k : Int) := by
 unfold idxI
 rw [any_true hx h]
 have hk := (List.getElem?_eq_some_iff.1 hx).1
 have e : l.findIdx q = k := by
  rw [List.findIdx_eq hk]
  refine ⟨by rw [(List.getElem?_eq_some_iff.1 hx).2]; exact h, fun j hj => ?_⟩
  have := hall j (l[j]'(by omega)) (List.getElem?_eq_getElem (by omega)) hj
  simpa using this
 rw [e]
 rfl
theorem idxI_none {α : Type} {q : α → Bool} {l : List α} (hall : ∀ (j : Nat) (y : α), l[j]? = some y → q y = false) : idxI q l = -1 := by
 unfold idxI
 rw [any_false hall]
 rfl
theorem idxI_ge {α : Type} (q : α → Bool) (l : List α) : decide (0 ≤ idxI q l) = l.any q := by
 unfold idxI
 cases l.any q <;> simp
set_option maxRecDepth 100000 in
set_option maxHeartbeats 4000000 in
theorem indexFuncSwp (q : PtT → Bool) (cb : Array Value) (a : Option Addr) (n cap : Nat) (l : List PtT) (hl : l.length = n) (hn : n ≤ 1000000000) (w : World) (h : Elems w (.slice a n cap) n 2 (rowC encP l))
 (hq : ∀ (x : PtT) (y : World), Below w.heap.size w y → Calls Tryz.prog 94 (#[x.val] ++ cb) y (Gives (.bool (q x)) y)) :
 Calls Tryz.prog 57 #[.slice a n cap, .func (.func 94) #[] cb] w (Gives (.int .i64 (idxI q l)) w) := by
 have HS := H7 ((St.start w).addRow h)
 have HL := H7 hl
 have HQ := H7 hq
 clear h hl hq
 go_enter Tryz.func57, Tryz.ntmps57
 go_wp2_with fail
 go_loopw [8] (fun i wr => ∃ k : Nat, k ≤ n ∧ i = .int .i64 (k : Int) ∧ St w [.row (.slice a n cap) n 2 (rowC encP l) w.heap.size] wr ∧ ∀ (j : Nat) (x : PtT), l[j]? = some x → j < k → q x = false) (fun i _ => n - (intOf i).toNat)
 case atStart => exact ⟨0, by omega, rfl, HS.out, fun j x _ h => by omega⟩
 case round =>
  obtain ⟨k, hk, rfl, hs, hall⟩ := hrel
  clear HS
  have HS := H7 hs
  have HA := H7 hall
  clear hs hall
  by_cases hlt : k < n
  · have wk : wrap64 ((k : Int) + 1) = ((k + 1 : Nat) : Int) := by unfold wrap64; omega
    obtain ⟨x, hx⟩ : ∃ x, l[k]? = some x := ⟨_, List.getElem?_eq_getElem (by rw [HL.out]; exact hlt)⟩
    obtain ⟨bb, off, rfl, hbb, c0, c1⟩ := ptCells HL.out (HS.out.elems 0 rfl) k x hx
    have HX := H7 hx
    have HC := H7 (HQ.out x)
    obtain ⟨x1, x2⟩ := x
    simp only [PtT.val] at c0 c1 HC
    clear hx hbb
    go_wp2_with fail
    refine (HC.out _ HS.out.low).mono ?_
    rintro e w3 ⟨rfl, hb_⟩
    have HS := H7 (HS.out.below hb_)
    clear hb_ c0 c1
    cases hg : q ⟨x1, x2⟩
    · have HB := H7 hg
      clear hg
      go_wp2_with fail
      go_roundw
      case rel => exact ⟨k + 1, hlt, by simp, HS.out, fun j x hj hjk => by rcases Nat.lt_or_eq_of_le (Nat.lt_succ_iff.1 hjk) with h | rfl; exact HA.out j x hj h; rw [HX.out] at hj; cases hj; exact HB.out⟩
      case measure => simp [intOf]; omega
    · have HB := H7 (idxI_hit HX.out hg HA.out)
      clear hg
      go_wp2_with fail
      go_ret
      exact ⟨by rw [HB.out]; rfl, HS.out.low⟩
  · obtain rfl : k = n := by omega
    have HB := H7 (show idxI q l = -1 from idxI_none fun j x hj => HA.out j x hj (by rw [← HL.out]; exact (List.getElem?_eq_some_iff.1 hj).1))
    clear hk hlt
    go_wp2_with fail
    go_ret
    exact ⟨by rw [HB.out]; rfl, HS.out.low⟩
theorem containsFuncSwp (q : PtT → Bool) (cb : Array Value) (a : Option Addr) (n cap : Nat) (l : List PtT) (hl : l.length = n) (hn : n ≤ 1000000000) (w : World) (h : Elems w (.slice a n cap) n 2 (rowC encP l))
 (hq : ∀ (x : PtT) (y : World), Below w.heap.size w y → Calls Tryz.prog 94 (#[x.val] ++ cb) y (Gives (.bool (q x)) y)) :
 Calls Tryz.prog 17 #[.slice a n cap, .func (.func 94) #[] cb] w (Gives (.bool (l.any q)) w) := by
 have HI := H7 (indexFuncSwp q cb a n cap l hl hn w h hq)
 clear h hq
 rw [← idxI_ge]
 generalize idxI q l = r at HI ⊢
 go_enter Tryz.func17, Tryz.ntmps17
 go_wp2_with fail
 refine HI.out.mono ?_
 rintro e w3 ⟨rfl, hb_⟩
 go_wp2_with fail
 go_ret
 exact ⟨rfl, hb_⟩
/- Layer 6: small closures; the document's In; Rect. -/
set_option maxRecDepth 100000 in
theorem sweep1_any (p : PtT) (w : World) : Calls Tryz.prog 94 #[p.val] w (Gives (.bool (!drawnB p)) w) := by
 have HC := H7 (fun w => drawn_any p w)
 obtain ⟨x, y⟩ := p
 generalize drawnB ⟨x, y⟩ = r at HC ⊢
 unfold PtT.val at HC ⊢
 go_enter Tryz.func94, Tryz.ntmps94
 go_wp2_with fail
 refine (HC.out _).mono ?_
 rintro e w2 ⟨rfl, hb⟩
 go_wp2_with fail
 go_ret
 exact ⟨rfl, ((B7 w.heap.size w).alloc (Nat.le_refl _) _).trans (hb.mono (by simp))⟩
/-- Is it in reach of a brush, so far away? -/
def inSize (size : Int) (round : Bool) (dx dy : Int) : Bool := !round || decide (dx * dx + dy * dy ≤ size * size)
theorem sq_small {a n : Int} (h1 : -n ≤ a) (h2 : a ≤ n) : 0 ≤ a * a ∧ a * a ≤ n * n := by
 have hn : 0 ≤ n := by omega
 rcases Int.le_total 0 a with h | h
 · exact ⟨Int.mul_nonneg h h, Int.mul_le_mul h2 h2 h hn⟩
 · have e : a * a = (-a) * (-a) := by rw [Int.neg_mul_neg]
   rw [e]
   exact ⟨Int.mul_nonneg (by omega) (by omega), Int.mul_le_mul (by omega) (by omega) (by omega) hn⟩
theorem wrap_sq {a n : Int} (h1 : -n ≤ a) (h2 : a ≤ n) (hn : n ≤ 1000) : wrap64 (a * a) = a * a ∧ 0 ≤ a * a ∧ a * a ≤ 1000000 := by
 obtain ⟨p, q⟩ := sq_small h1 h2
 have hn0 : 0 ≤ n := by omega
 have : n * n ≤ 1000 * 1000 := Int.mul_le_mul hn hn hn0 (by omega)
 have h3 : a * a ≤ 1000000 := by omega
 exact ⟨by unfold wrap64; omega, p, h3⟩
theorem wrap_sum {a b : Int} (h1 : 0 ≤ a ∧ a ≤ 1000000) (h2 : 0 ≤ b ∧ b ≤ 1000000) : wrap64 (a + b) = a + b := by unfold wrap64; omega
set_option maxRecDepth 100000 in
theorem sweep2_any (dx dy size : Int) (round : Bool) (r s : Nat) (hx1 : -1000 ≤ dx) (hx2 : dx ≤ 1000) (hy1 : -1000 ≤ dy) (hy2 : dy ≤ 1000) (hs1 : -1000 ≤ size) (hs2 : size ≤ 1000) (w : World) (hr : w.cell? ⟨r, 0, none⟩ = some (.bool round)) (hs : w.cell? ⟨s, 0, none⟩ = some (.int .i64 size)) :
 Calls Tryz.prog 95 #[.int .i64 dx, .int .i64 dy, .pointer (some ⟨r, 0, none⟩), .pointer (some ⟨s, 0, none⟩)] w (Gives (.bool (inSize size round dx dy)) w) := by
 obtain ⟨a1, a2⟩ := wrap_sq hx1 hx2 (by omega)
 obtain ⟨b1, b2⟩ := wrap_sq hy1 hy2 (by omega)
 obtain ⟨c1, c2⟩ := wrap_sq hs1 hs2 (by omega)
 have d1 := wrap_sum a2 b2
 unfold inSize
 cases round
 · clear a1 a2 b1 b2 c1 c2 d1
   go_enter Tryz.func95, Tryz.ntmps95
   go_wp2_with fail
   go_ret
   exact ⟨rfl, B7 _ _⟩
 · clear a2 b2 c2 hx1 hx2 hy1 hy2 hs1 hs2
   have A1 := H7 a1
   have B1 := H7 b1
   have C1 := H7 c1
   have D1 := H7 d1
   clear a1 b1 c1 d1
   go_enter Tryz.func95, Tryz.ntmps95
   go_wp2_with fail
   go_ret
   exact ⟨by simp [A1.out, B1.out, C1.out, D1.out], B7 _ _⟩
/-- The rows of a rectangle. -/
def rectN (a b : PtT) (k : Nat) : List SpT := (List.range k).map fun (i : Nat) => ⟨min a.y b.y + (i : Int), min a.x b.x, max a.x b.x⟩
theorem rectN_succ (a b : PtT) (k : Nat) : rectN a b (k + 1) = rectN a b k ++ [⟨min a.y b.y + (k : Int), min a.x b.x, max a.x b.x⟩] := by
 unfold rectN
 rw [List.range_succ, List.map_append]
 rfl
theorem rectN_len (a b : PtT) (k : Nat) : (rectN a b k).length = k := by simp [rectN]
def rectL (a b : PtT) : List SpT := bif drawnB a && drawnB b then rectN a b (max a.y b.y - min a.y b.y + 1).toNat else []
set_option maxRecDepth 100000 in
set_option maxHeartbeats 4000000 in
theorem shRect_any (a b : PtT) (w : World) : Calls Tryz.prog 51 #[a.val, b.val] w (GivesRowE 60 3 (rectL a b).length ((rectL a b).flatMap encS) (errOf (drawnB a && drawnB b) 2) w) := by
 have HCa := H7 (fun w => drawn_any a w)
 have HCb := H7 (fun w => drawn_any b w)
 obtain ⟨da, hda⟩ : ∃ da, drawnB a = da := ⟨_, rfl⟩
 obtain ⟨db, hdb⟩ : ∃ db, drawnB b = db := ⟨_, rfl⟩
 have HDa := H7 hda
 have HDb := H7 hdb
 simp only [hda] at HCa
 simp only [hdb] at HCb
 have HQ := H7 (show ∀ r : List SpT, rectL a b = r → rectL a b = r from fun _ h => h)
 obtain ⟨A, hA⟩ : ∃ A, A = a := ⟨_, rfl⟩
 obtain ⟨B, hB⟩ : ∃ B, B = b := ⟨_, rfl⟩
 have HA := H7 hA
 have HB := H7 hB
 obtain ⟨ax, ay⟩ := a
 obtain ⟨bx, by'⟩ := b
 rw [← hA, ← hB]
 clear hda hdb hA hB HQ
 unfold PtT.val at HCa HCb
 have HS := H7 (St.start w)
 show Calls _ _ #[A.val, B.val] _ _
 rw [HA.out, HB.out]
 unfold PtT.val
 go_enter Tryz.func51, Tryz.ntmps51
 repeat ((fail_if_success (with_reducible refine stop_at (id := 1) ?_)); (first | go_values | go_skip | go_guarded | go_step | go_upon | go_back | (simp only [Int.not_lt, Int.not_le] at *; go_simp) | (go_values <;> (try go_simp)) | (go_ite <;> go_prune <;> (try go_simp)) | (split <;> (first | (rename_i hx; exact (hx _ rfl).elim) | go_prune))))
 have hs_ := ((HS.out.alloc (.cells #[.int .i64 ax, .int .i64 ay] 26)).alloc (.cells #[.int .i64 bx, .int .i64 by'] 26))
 obtain ⟨w1, hw_⟩ : ∃ w1 : World, ((w.alloc (.cells #[.int .i64 ax, .int .i64 ay] 26)).alloc (.cells #[.int .i64 bx, .int .i64 by'] 26)) = w1 := ⟨_, rfl⟩
 rw [hw_] at hs_
 try simp only [World.size_alloc] at hs_
 have HS := H7 hs_
 rw [hw_]
 clear hw_ hs_
 have k0 := h7c HS 1 0 rfl rfl
 have k1 := h7c HS 1 1 rfl rfl
 go_wp2_with fail
 clear k0 k1
 refine (HCa.out _).mono ?_
 rintro e w2 ⟨rfl, hb_⟩
 have HS := H7 (HS.out.below hb_)
 clear hb_
 cases da
 · go_wp2_with fail
   refine bodyPost_ret (v := .tuple #[.slice none 0 0, .int .i64 2]) (by simp [results, Tryz.results51, go_sem]) rfl ⟨.slice none 0 0, by rw [HDa.out]; rfl, ?_, HS.out.low⟩
   rw [show rectL (PtT.mk ax ay) (PtT.mk bx by') = [] by unfold rectL; rw [HDa.out]; rfl]
   exact World.ownsRow_nil _ _ _ _
 have k0 := h7c HS 0 0 rfl rfl
 have k1 := h7c HS 0 1 rfl rfl
 go_wp2_with fail
 clear k0 k1
 refine (HCb.out _).mono ?_
 rintro e w3 ⟨rfl, hb_⟩
 have HS := H7 (HS.out.below hb_)
 clear hb_
 cases db
 · go_wp2_with fail
   refine bodyPost_ret (v := .tuple #[.slice none 0 0, .int .i64 2]) (by simp [results, Tryz.results51, go_sem]) rfl ⟨.slice none 0 0, by rw [HDa.out, HDb.out]; rfl, ?_, HS.out.low⟩
   rw [show rectL (PtT.mk ax ay) (PtT.mk bx by') = [] by unfold rectL; rw [HDa.out, HDb.out]; rfl]
   exact World.ownsRow_nil _ _ _ _
 have HO := H7 (StO.start HS.out 60 3 encS)
 obtain ⟨N1, hN1⟩ : ∃ N1, w3.heap.size = N1 := ⟨_, rfl⟩
 rw [hN1] at HO
 clear HCa HCb hN1
 have HRG := H7 (show (-64 ≤ ax ∧ ax ≤ 127 ∧ -64 ≤ ay ∧ ay ≤ 127) ∧ (-64 ≤ bx ∧ bx ≤ 127 ∧ -64 ≤ by' ∧ by' ≤ 127) from ⟨of_decide_eq_true HDa.out, of_decide_eq_true HDb.out⟩)
 have k1 := h7c HS 1 1 rfl rfl
 have e1 := h7c HS 0 1 rfl rfl
 go_wp2_with fail
 clear k1 e1 HS
 go_loopw [6, 7] (fun v i wr => ∃ k : Nat, i = .int .i64 (min ay by' + (k : Int)) ∧ (k : Int) ≤ max ay by' - min ay by' + 1 ∧ StO w [.blk (w.heap.size + 1) (.cells #[.int .i64 bx, .int .i64 by'] 26), .blk w.heap.size (.cells #[.int .i64 ax, .int .i64 ay] 26)] N1 60 3 encS v (rectN ⟨ax, ay⟩ ⟨bx, by'⟩ k) wr) (fun _ i _ => (max ay by' + 1 - intOf i).toNat)
 case atStart => exact ⟨0, by simp, by omega, HO.out⟩
 case round =>
  obtain ⟨k, rfl, hk, ho⟩ := hrel
  clear HO
  have HO := H7 ho
  clear ho
  have HLEN := H7 (rectN_len ⟨ax, ay⟩ ⟨bx, by'⟩ k)
  have HT := H7 (rectN_succ ⟨ax, ay⟩ ⟨bx, by'⟩ k)
  have k0 := c7b (k := 0) (HO.out.st.blockAt 1 rfl) rfl
  have k1 := c7b (k := 1) (HO.out.st.blockAt 1 rfl) rfl
  have e0 := c7b (k := 0) (HO.out.st.blockAt 0 rfl) rfl
  have e1 := c7b (k := 1) (HO.out.st.blockAt 0 rfl) rfl
  by_cases hlt : min ay by' + (k : Int) ≤ max ay by'
  · have wk : wrap64 (min ay by' + (k : Int) + 1) = min ay by' + ((k + 1 : Nat) : Int) := by have := HRG.out; unfold wrap64; omega
    go_wp2_with (at_builtin; refine wpList_app1 rowS encS_len encS_one HO.out (B7 _ _) ⟨min ay by' + (k : Int), min ax bx, max ax bx⟩ _ rfl (by have := HLEN.out; have := HRG.out; omega) (by decide) _ _ rfl rfl rfl _ rfl (by simp) ?_; intro v' w5 ho5 hsh; have HO5 := H7 ho5; clear ho5 hsh)
    go_roundw
    case rel => exact ⟨k + 1, by rw [wk], by omega, by rw [HT.out]; exact HO5.out⟩
    case measure => simp [intOf]; omega
  · have HE := H7 (show (max ay by' - min ay by' + 1).toNat = k by omega)
    clear hk
    go_wp2_with fail
    refine bodyPost_ret (v := .tuple #[_, .int .i64 0]) (by simp [results, Tryz.results51, go_sem]; rfl) rfl ⟨_, by rw [HDa.out, HDb.out]; rfl, ?_, HO.out.st.low⟩
    rw [show rectL (PtT.mk ax ay) (PtT.mk bx by') = rectN (PtT.mk ax ay) (PtT.mk bx by') k by unfold rectL; rw [HDa.out, HDb.out]; simp only [Bool.and_self, cond_true]; rw [HE.out]]
    exact ownsRow_mono HO.out.row HO.out.low
/- Layer 6: the document's In, around. -/
def inRef (size : Int) (round : Bool) (c p : PtT) : Bool := bif round then decide (wayN c.x p.x * wayN c.x p.x + wayN c.y p.y * wayN c.y p.y ≤ size * size) else decide (wayN c.x p.x ≤ size ∧ wayN c.y p.y ≤ size)
theorem wayN_small {a b : Int} (h1 : -400 ≤ a ∧ a ≤ 400) (h2 : -400 ≤ b ∧ b ≤ 400) : wrap64 (wayN a b) = wayN a b ∧ -1000 ≤ wayN a b ∧ wayN a b ≤ 1000 := by
 unfold wayN wrap64
 split <;> omega
/- Layer 6: the document's Line. -/
def lessN (n m i : Int) : Int := if 0 < n then (2 * i * m + n) / (2 * n) else 0
/-- The i-th place of a line. -/
def linePt (a b : PtT) (i : Int) : PtT :=
 bif decide (wayN a.x b.x < wayN a.y b.y) then ⟨a.x + sideN a.x b.x * lessN (wayN a.y b.y) (wayN a.x b.x) i, a.y + sideN a.y b.y * i⟩
 else ⟨a.x + sideN a.x b.x * i, a.y + sideN a.y b.y * lessN (wayN a.x b.x) (wayN a.y b.y) i⟩
def lineN (a b : PtT) (k : Nat) : List PtT := (List.range k).map fun (i : Nat) => linePt a b (i : Int)
theorem lineN_succ (a b : PtT) (k : Nat) : lineN a b (k + 1) = lineN a b k ++ [linePt a b (k : Int)] := by
 unfold lineN
 rw [List.range_succ, List.map_append]
 rfl
theorem lineN_len (a b : PtT) (k : Nat) : (lineN a b k).length = k := by simp [lineN]
def wayMax (a b : PtT) : Int := max (wayN a.x b.x) (wayN a.y b.y)
def lineL (a b : PtT) : List PtT := lineN a b (wayMax a b + 1).toNat
theorem mul_small {a b : Int} (h1 : 0 ≤ a) (h2 : a ≤ 1000) (h3 : 0 ≤ b) (h4 : b ≤ 1000) : 0 ≤ a * b ∧ a * b ≤ 1000000 :=
 ⟨Int.mul_nonneg h1 h3, by have : a * b ≤ 1000 * 1000 := Int.mul_le_mul h2 h4 h3 (by omega); omega⟩
theorem less_facts {n m i : Int} (hn : 0 < n) (hn2 : n ≤ 400) (hm : 0 ≤ m) (hm2 : m ≤ n) (hi : 0 ≤ i) (hi2 : i ≤ n) :
 wrap64 (2 * i) = 2 * i ∧ wrap64 (2 * i * m) = 2 * i * m ∧ wrap64 (2 * i * m + n) = 2 * i * m + n ∧ wrap64 (2 * n) = 2 * n ∧ Int.tdiv (2 * i * m + n) (2 * n) = lessN n m i ∧ 0 ≤ lessN n m i ∧ lessN n m i ≤ i := by
 obtain ⟨p, q⟩ := mul_small (a := 2 * i) (b := m) (by omega) (by omega) hm (by omega)
 have e : lessN n m i = (2 * i * m + n) / (2 * n) := by unfold lessN; rw [if_pos hn]
 have h1 : i * m ≤ i * n := Int.mul_le_mul_of_nonneg_left hm2 hi
 refine ⟨by unfold wrap64; omega, by unfold wrap64; omega, by unfold wrap64; omega, by unfold wrap64; omega, ?_, ?_, ?_⟩
 · rw [e, Int.tdiv_eq_ediv_of_nonneg (by omega)]
 · rw [e]; exact Int.ediv_nonneg (by omega) (by omega)
 · rw [e]
   have h2 : 2 * i * m + n < (i + 1) * (2 * n) := by
    have e1 : 2 * i * m = 2 * (i * m) := by rw [Int.mul_assoc]
    have e2 : (i + 1) * (2 * n) = 2 * (i * n) + 2 * n := by rw [Int.add_mul, Int.one_mul, Int.mul_left_comm]
    rw [e1, e2]
    omega
   have := Int.ediv_lt_of_lt_mul (by omega : 0 < 2 * n) h2
   omega
theorem side_facts {S z L : Int} (hS : S = 1 ∨ S = -1) (hz : -400 ≤ z ∧ z ≤ 400) (hL : 0 ≤ L ∧ L ≤ 400) : wrap64 (S * L) = S * L ∧ wrap64 (z + S * L) = z + S * L := by
 rcases hS with rfl | rfl <;> unfold wrap64 <;> omega
theorem sideN_or (a b : Int) : sideN a b = 1 ∨ sideN a b = -1 := by unfold sideN; split <;> simp
theorem wayN_nonneg (a b : Int) : 0 ≤ wayN a b := by unfold wayN; split <;> omega
set_option maxRecDepth 100000 in
set_option maxHeartbeats 4000000 in
theorem refLine_any (a b : PtT) (ha : drawnB a = true) (hb : drawnB b = true) (w : World) : Calls Tryz.prog 23 #[a.val, b.val] w (GivesRow 26 2 (lineL a b).length ((lineL a b).flatMap encP) w) := by
 have ha' := of_decide_eq_true ha
 have hb' := of_decide_eq_true hb
 obtain ⟨ax, ay⟩ := a
 obtain ⟨bx, by'⟩ := b
 simp only at ha' hb'
 have HXB := (wayN_small (a := ax) (b := bx) (by omega) (by omega))
 have HYB := (wayN_small (a := ay) (b := by') (by omega) (by omega))
 have hX2 : wayN ax bx ≤ 400 := by unfold wayN; split <;> omega
 have hY2 : wayN ay by' ≤ 400 := by unfold wayN; split <;> omega
 have HAX := H7 (fun w => refAway_any ax bx w)
 have HAY := H7 (fun w => refAway_any ay by' w)
 simp only [HXB.1] at HAX
 simp only [HYB.1] at HAY
 have hX0 := wayN_nonneg ax bx
 have hY0 := wayN_nonneg ay by'
 have hSX := sideN_or ax bx
 have hSY := sideN_or ay by'
 have hpt : ∀ i, linePt ⟨ax, ay⟩ ⟨bx, by'⟩ i = bif decide (wayN ax bx < wayN ay by') then ⟨ax + sideN ax bx * lessN (wayN ay by') (wayN ax bx) i, ay + sideN ay by' * i⟩ else ⟨ax + sideN ax bx * i, ay + sideN ay by' * lessN (wayN ax bx) (wayN ay by') i⟩ := fun i => rfl
 have hll : lineL ⟨ax, ay⟩ ⟨bx, by'⟩ = lineN ⟨ax, ay⟩ ⟨bx, by'⟩ (max (wayN ax bx) (wayN ay by') + 1).toNat := rfl
 obtain ⟨P, hP⟩ : ∃ P, PtT.mk ax ay = P := ⟨_, rfl⟩
 obtain ⟨Q, hQ⟩ : ∃ Q, PtT.mk bx by' = Q := ⟨_, rfl⟩
 have e1 : (PtT.mk ax ay).val = .agg #[.int .i64 ax, .int .i64 ay] := rfl
 have e2 : (PtT.mk bx by').val = .agg #[.int .i64 bx, .int .i64 by'] := rfl
 rw [e1, e2]
 rw [hP, hQ] at hll ⊢
 simp only [hP, hQ] at hpt
 clear hP hQ e1 e2 ha hb HXB HYB
 generalize wayN ax bx = X at *
 generalize wayN ay by' = Y at *
 generalize sideN ax bx = SX at *
 generalize sideN ay by' = SY at *
 have HPT := H7 hpt
 have HLL := H7 hll
 have HR := H7 (And.intro ha' (And.intro hb' (And.intro hX2 (And.intro hY2 (And.intro hX0 (And.intro hY0 (And.intro hSX hSY)))))))
 have HS := H7 (St.start w)
 clear hpt hll ha' hb' hX2 hY2 hX0 hY0 hSX hSY
 go_enter Tryz.func23, Tryz.ntmps23
 repeat ((fail_if_success (with_reducible refine stop_at (id := 1) ?_)); (first | go_values | go_skip | go_guarded | go_step | go_upon | go_back | (simp only [Int.not_lt, Int.not_le] at *; go_simp) | (go_values <;> (try go_simp)) | (go_ite <;> go_prune <;> (try go_simp)) | (split <;> (first | (rename_i hx; exact (hx _ rfl).elim) | go_prune))))
 have hs_ := ((HS.out.alloc (.cells #[.int .i64 ax, .int .i64 ay] 26)).alloc (.cells #[.int .i64 bx, .int .i64 by'] 26))
 obtain ⟨w1, hw_⟩ : ∃ w1 : World, ((w.alloc (.cells #[.int .i64 ax, .int .i64 ay] 26)).alloc (.cells #[.int .i64 bx, .int .i64 by'] 26)) = w1 := ⟨_, rfl⟩
 rw [hw_] at hs_
 try simp only [World.size_alloc] at hs_
 have HS := H7 hs_
 rw [hw_]
 clear hw_ hs_
 have k0 := h7c HS 1 0 rfl rfl
 have e0 := h7c HS 0 0 rfl rfl
 go_wp2_with fail
 clear k0 e0
 refine (HAX.out _).mono ?_
 rintro e w2 ⟨rfl, hb_⟩
 have HS := H7 (HS.out.below hb_)
 clear hb_
 have k0 := h7c HS 1 1 rfl rfl
 have e0 := h7c HS 0 1 rfl rfl
 go_wp2_with fail
 clear k0 e0
 refine (HAY.out _).mono ?_
 rintro e w3 ⟨rfl, hb_⟩
 have HS := H7 (HS.out.below hb_)
 clear hb_
 have HO := H7 (StO.start HS.out 26 2 encP)
 obtain ⟨N1, hN1⟩ : ∃ N1, w3.heap.size = N1 := ⟨_, rfl⟩
 rw [hN1] at HO
 clear HAX HAY hN1 HS
 by_cases g : X < Y
 · have HG := H7 g
   obtain ⟨NN, hNN⟩ : ∃ NN, wrap64 (Y + 1) = NN := ⟨_, rfl⟩
   have HNN := H7 (show NN = Y + 1 by rw [← hNN]; have := HR.out; unfold wrap64; omega)
   go_wp2_with fail
   try rw [hNN]
   clear hNN
   go_loopw [11, 39] (fun v i wr => ∃ k : Nat, (k : Int) ≤ NN ∧ i = .int .i64 (k : Int) ∧ StO w [.blk (w.heap.size + 1) (.cells #[.int .i64 bx, .int .i64 by'] 26), .blk w.heap.size (.cells #[.int .i64 ax, .int .i64 ay] 26)] N1 26 2 encP v (lineN P Q k) wr) (fun _ i _ => (NN - intOf i).toNat)
   case atStart => exact ⟨0, by have := HR.out; have := HNN.out; omega, rfl, HO.out⟩
   case round =>
    obtain ⟨k, hk, rfl, ho⟩ := hrel
    clear HO
    have HO := H7 ho
    clear ho
    by_cases hlt : (k : Int) < NN
    · have wk : wrap64 ((k : Int) + 1) = ((k + 1 : Nat) : Int) := by have := HR.out; have := HNN.out; unfold wrap64; omega
      have HLEN := H7 (lineN_len P Q k)
      have HT := H7 (lineN_succ P Q k)
      have k0 := c7b (k := 0) (HO.out.st.blockAt 1 rfl) rfl
      have k1 := c7b (k := 1) (HO.out.st.blockAt 1 rfl) rfl
      have hlN : (k : Int) ≤ Y ∧ Y ≤ 400 := by have := HR.out; have := HNN.out; omega
      by_cases h0 : 0 < Y
      · have LF := less_facts (n := Y) (m := X) (i := (k : Int)) h0 (by have := HR.out; omega) (by have := HR.out; omega) (by have := HR.out; have := HG.out; omega) (by omega) (by omega)
        obtain ⟨L, hL⟩ : ∃ L, lessN Y X (k : Int) = L := ⟨_, rfl⟩
        rw [hL] at LF
        obtain ⟨f1, f2, f3, f4, f5, f6, f7⟩ := LF
        obtain ⟨x1, x2⟩ := side_facts (S := SX) (z := ax) (L := L) (by have := HR.out; omega) (by have := HR.out; omega) (by have := HR.out; omega)
        obtain ⟨y1, y2⟩ := side_facts (S := SY) (z := ay) (L := (k : Int)) (by have := HR.out; omega) (by have := HR.out; omega) (by have := HR.out; omega)
        have f8 : wrap64 L = L := by have := HR.out; unfold wrap64; omega
        have HQ := H7 (show linePt P Q (k : Int) = ⟨ax + SX * L, ay + SY * (k : Int)⟩ by rw [HPT.out, show decide (X < Y) = true from decide_eq_true HG.out, cond_true, hL])
        have hz : ¬ 2 * Y = 0 := by omega
        clear hL
        go_wp2_with (at_builtin; refine wpList_app1 rowP encP_len encP_one HO.out (B7 _ _) ⟨ax + SX * L, ay + SY * (k : Int)⟩ _ rfl (by have := HLEN.out; omega) (by decide) _ _ rfl rfl rfl _ rfl (by simp) ?_; intro v' w5 ho5 hsh; have HO5 := H7 ho5; clear ho5 hsh)
        go_roundw
        case rel => exact ⟨k + 1, by omega, by simp, by rw [HT.out, HQ.out]; exact HO5.out⟩
        case measure => simp [intOf]; omega
      · exfalso; have := HR.out; have := HG.out; omega
    · have HE := H7 (show (max X Y + 1).toNat = k by have := HG.out; have := HNN.out; omega)
      clear hk
      go_wp2_with fail
      go_ret
      refine ⟨_, rfl, ?_, HO.out.st.low⟩
      rw [HLL.out, HE.out]
      exact ownsRow_mono HO.out.row HO.out.low
 · have HG := H7 g
   obtain ⟨NN, hNN⟩ : ∃ NN, wrap64 (X + 1) = NN := ⟨_, rfl⟩
   have HNN := H7 (show NN = X + 1 by rw [← hNN]; have := HR.out; unfold wrap64; omega)
   go_wp2_with fail
   try rw [hNN]
   clear hNN
   go_loopw [11, 39] (fun v i wr => ∃ k : Nat, (k : Int) ≤ NN ∧ i = .int .i64 (k : Int) ∧ StO w [.blk (w.heap.size + 1) (.cells #[.int .i64 bx, .int .i64 by'] 26), .blk w.heap.size (.cells #[.int .i64 ax, .int .i64 ay] 26)] N1 26 2 encP v (lineN P Q k) wr) (fun _ i _ => (NN - intOf i).toNat)
   case atStart => exact ⟨0, by have := HR.out; have := HNN.out; omega, rfl, HO.out⟩
   case round =>
    obtain ⟨k, hk, rfl, ho⟩ := hrel
    clear HO
    have HO := H7 ho
    clear ho
    by_cases hlt : (k : Int) < NN
    · have wk : wrap64 ((k : Int) + 1) = ((k + 1 : Nat) : Int) := by have := HR.out; have := HNN.out; unfold wrap64; omega
      have HLEN := H7 (lineN_len P Q k)
      have HT := H7 (lineN_succ P Q k)
      have k0 := c7b (k := 0) (HO.out.st.blockAt 1 rfl) rfl
      have k1 := c7b (k := 1) (HO.out.st.blockAt 1 rfl) rfl
      have hlN : (k : Int) ≤ X ∧ X ≤ 400 := by have := HR.out; have := HNN.out; omega
      by_cases h0 : 0 < X
      · have LF := less_facts (n := X) (m := Y) (i := (k : Int)) h0 (by have := HR.out; omega) (by have := HR.out; omega) (by have := HR.out; have := HG.out; omega) (by omega) (by omega)
        obtain ⟨L, hL⟩ : ∃ L, lessN X Y (k : Int) = L := ⟨_, rfl⟩
        rw [hL] at LF
        obtain ⟨f1, f2, f3, f4, f5, f6, f7⟩ := LF
        obtain ⟨x1, x2⟩ := side_facts (S := SX) (z := ax) (L := (k : Int)) (by have := HR.out; omega) (by have := HR.out; omega) (by have := HR.out; omega)
        obtain ⟨y1, y2⟩ := side_facts (S := SY) (z := ay) (L := L) (by have := HR.out; omega) (by have := HR.out; omega) (by have := HR.out; omega)
        have f8 : wrap64 L = L := by have := HR.out; unfold wrap64; omega
        have HQ := H7 (show linePt P Q (k : Int) = ⟨ax + SX * (k : Int), ay + SY * L⟩ by rw [HPT.out, show decide (X < Y) = false from decide_eq_false (Int.not_lt.2 HG.out), cond_false, hL])
        have hz : ¬ 2 * X = 0 := by omega
        clear hL
        go_wp2_with (at_builtin; refine wpList_app1 rowP encP_len encP_one HO.out (B7 _ _) ⟨ax + SX * (k : Int), ay + SY * L⟩ _ rfl (by have := HLEN.out; omega) (by decide) _ _ rfl rfl rfl _ rfl (by simp) ?_; intro v' w5 ho5 hsh; have HO5 := H7 ho5; clear ho5 hsh)
        go_roundw
        case rel => exact ⟨k + 1, by omega, by simp, by rw [HT.out, HQ.out]; exact HO5.out⟩
        case measure => simp [intOf]; omega
      · have HQ := H7 (show linePt P Q (k : Int) = ⟨ax, ay⟩ by have h9 := HR.out; have hk0 : k = 0 := (by omega); have hN0 : X = 0 := (by omega); rw [HPT.out, show decide (X < Y) = false from decide_eq_false (Int.not_lt.2 HG.out), cond_false, hk0, hN0]; simp [lessN])
        have hk0 : k = 0 := by have := HR.out; omega
        subst hk0
        have f1 : wrap64 ax = ax := by have := HR.out; unfold wrap64; omega
        have f2 : wrap64 ay = ay := by have := HR.out; unfold wrap64; omega
        skip
        go_wp2_with (at_builtin; refine wpList_app1 rowP encP_len encP_one HO.out (B7 _ _) ⟨ax, ay⟩ _ rfl (by have := HLEN.out; omega) (by decide) _ _ rfl rfl rfl _ rfl (by simp) ?_; intro v' w5 ho5 hsh; have HO5 := H7 ho5; clear ho5 hsh)
        go_roundw
        case rel => exact ⟨0 + 1, by omega, by simp, by rw [HT.out, HQ.out]; exact HO5.out⟩
        case measure => simp [intOf]; omega
    · have HE := H7 (show (max X Y + 1).toNat = k by have := HG.out; have := HNN.out; omega)
      clear hk
      go_wp2_with fail
      go_ret
      refine ⟨_, rfl, ?_, HO.out.st.low⟩
      rw [HLL.out, HE.out]
      exact ownsRow_mono HO.out.row HO.out.low
/- A world that has drawn, and grown. -/
/-- A world that has drawn, and grown. -/
def Grows (x y : World) : Prop := ∃ q os, y = Sort.grow (x.drewN q) os
theorem Grows.refl (x : World) : Grows x x := ⟨0, #[], by simp [Sort.grow, World.drewN]⟩
theorem Grows.trans {x y z : World} (h : Grows x y) (k : Grows y z) : Grows x z := by
 obtain ⟨q, os, rfl⟩ := h
 obtain ⟨q', os', rfl⟩ := k
 refine ⟨q + q', os ++ os', ?_⟩
 simp only [Sort.grow, World.drewN]
 congr 1
 · exact Array.append_assoc
 · omega
theorem Grows.drew (x : World) : Grows x x.drew := ⟨1, #[], by show x.drew = { x.drewN 1 with heap := x.heap ++ #[] }; rw [Array.append_empty]; rfl⟩
theorem Grows.alloc (x : World) (o : Obj) : Grows x (x.alloc o) := ⟨0, #[o], by show x.alloc o = { x.drewN 0 with heap := x.heap ++ #[o] }; rw [Array.append_singleton]; rfl⟩
theorem Grows.below {x y : World} (h : Grows x y) : Below x.heap.size x y := by
 obtain ⟨q, os, rfl⟩ := h
 refine ⟨rfl, rfl, rfl, by simp [Sort.grow, World.drewN], fun k hk => ?_⟩
 show (x.heap ++ os)[k]? = x.heap[k]?
 exact Array.getElem?_append_left hk
/-- It returns v, and has drawn, and grown, alone. -/
def GivesG (v : Value) (w : World) (e : Ending) (w' : World) : Prop := e = .returned v ∧ Grows w w'
theorem GivesG.gives {v : Value} {w : World} {e : Ending} {w' : World} (h : GivesG v w e w') : Gives v w e w' := ⟨h.1, h.2.below⟩
/- slices.SortFunc at a row of structs of the call's own. -/
section
variable {α : Type} [Inhabited α]
theorem flatK_get {enc : α → List Value} {k : Nat} (hk : ∀ x, (enc x).length = k) (d : List α) (j : Nat) (h : j < d.length * k) : (l_ : List Value) → l_ = d.flatMap enc → l_[j]? = some ((Sort.flatK enc k d.toArray)[j]!) := by
 rintro _ rfl
 have hk0 : 0 < k := Nat.pos_of_ne_zero (fun e => by subst e; simp at h)
 have hdiv : j / k < d.length := Nat.div_lt_of_lt_mul (by rw [Nat.mul_comm]; exact h)
 have hmod : j % k < k := Nat.mod_lt _ hk0
 have hjk : j / k * k + j % k = j := by rw [Nat.mul_comm]; exact Nat.div_add_mod j k
 have h2 := flat_get hk d (j / k) (j % k) hmod
 rw [hjk, List.getElem?_eq_getElem hdiv] at h2
 rw [h2, Sort.get_flatK _ _ _ _ (by simpa using h)]
 have e : d.toArray[j / k]! = d[j / k] := by rw [getElem!_pos d.toArray (j / k) (by simpa using hdiv)]; simp
 rw [e]
 show (enc d[j / k])[j % k]? = some _
 rw [getElem!_pos (enc d[j / k]) (j % k) (by rw [hk]; exact hmod), List.getElem?_eq_getElem (by rw [hk]; exact hmod)]
variable {P : Program} {ρ : Ren}
end
end Go.Proofs.YthcdkkmjnglmjaaGreatDoor
/- Layer 6: slices.Equal, slices.Clone at places and spans; slices.SortFunc at spans. -/
namespace Go.Proofs.YthcdkkmjnglmjaaGreatDoor
open Go.RowKit Go.Shelf
theorem lay_eqP : Go.Proofs.SlLaysQ.n8 Tryz.prog ⟨fun | 8 => 27 | n => n, fun | 22 => 39 | 24 => 26 | 4 => 4 | 3 => 3 | 0 => 0 | n => n, fun | n => n⟩ := {
 mixed := by kernel_rfl
 f8 := ⟨Tryz.f27.name, by decide, Tryz.func27.trans (congrArg some (by kernel_rfl))⟩
 t22 := Tryz.underlying39
 a22 := Tryz.isAgg39
 z22 := Tryz.sizeOf39
 v22 := Tryz.zeroValue39
 t4 := Tryz.underlying4
 a4 := Tryz.isAgg4
 z4 := Tryz.sizeOf4
 v4 := Tryz.zeroValue4
 t3 := Tryz.underlying3
 a3 := Tryz.isAgg3
 z3 := Tryz.sizeOf3
 v3 := Tryz.zeroValue3
 t0 := Tryz.underlying0
 a0 := Tryz.isAgg0
 z0 := Tryz.sizeOf0
 v0 := Tryz.zeroValue0 }
theorem lay_cloneP : Go.Proofs.SlLaysE0.n41 Tryz.prog ⟨fun | 41 => 15 | n => n, fun | 22 => 39 | 23 => 26 | 4 => 4 | n => n, fun | n => n⟩ := {
 mixed := by kernel_rfl
 f41 := ⟨Tryz.f15.name, by decide, Tryz.func15.trans (congrArg some (by kernel_rfl))⟩
 t22 := Tryz.underlying39
 a22 := Tryz.isAgg39
 z22 := Tryz.sizeOf39
 v22 := Tryz.zeroValue39
 t4 := Tryz.underlying4
 a4 := Tryz.isAgg4
 z4 := Tryz.sizeOf4
 v4 := Tryz.zeroValue4 }
theorem lay_sortS : Go.Proofs.SlLaysF0.n6 Tryz.prog ⟨fun | 6 => 112 | 14 => 126 | 15 => 127 | 20 => 131 | 21 => 132 | 22 => 133 | 23 => 134 | 24 => 135 | 25 => 136 | 26 => 137 | 27 => 138 | 28 => 139 | 29 => 140 | 46 => 151 | 47 => 152 | 48 => 153 | 49 => 154 | 50 => 155 | 57 => 159 | n => n, fun | 0 => 0 | 3 => 3 | 4 => 4 | 5 => 5 | 9 => 9 | 22 => 57 | 25 => 159 | 39 => 178 | 45 => 188 | 46 => 189 | 50 => 193 | 53 => 196 | 55 => 198 | 66 => 204 | 70 => 208 | 76 => 212 | 77 => 103 | 24 => 60 | n => n, fun | n => n⟩ := {
 mixed := by kernel_rfl
 f6 := ⟨Tryz.f112.name, by decide, Tryz.func112.trans (congrArg some (by kernel_rfl))⟩
 f14 := ⟨Tryz.f126.name, by decide, Tryz.func126.trans (congrArg some (by kernel_rfl))⟩
 f15 := Tryz.func127.trans (congrArg some (by kernel_rfl))
 f20 := ⟨Tryz.f131.name, by decide, Tryz.func131.trans (congrArg some (by kernel_rfl))⟩
 f21 := ⟨Tryz.f132.name, by decide, Tryz.func132.trans (congrArg some (by kernel_rfl))⟩
 f22 := ⟨Tryz.f133.name, by decide, Tryz.func133.trans (congrArg some (by kernel_rfl))⟩
 f23 := ⟨Tryz.f134.name, by decide, Tryz.func134.trans (congrArg some (by kernel_rfl))⟩
 f24 := ⟨Tryz.f135.name, by decide, Tryz.func135.trans (congrArg some (by kernel_rfl))⟩
 f25 := ⟨Tryz.f136.name, by decide, Tryz.func136.trans (congrArg some (by kernel_rfl))⟩
 f26 := ⟨Tryz.f137.name, by decide, Tryz.func137.trans (congrArg some (by kernel_rfl))⟩
 f27 := ⟨Tryz.f138.name, by decide, Tryz.func138.trans (congrArg some (by kernel_rfl))⟩
 f28 := Tryz.func139.trans (congrArg some (by kernel_rfl))
 f29 := Tryz.func140.trans (congrArg some (by kernel_rfl))
 f46 := ⟨Tryz.f151.name, by decide, Tryz.func151.trans (congrArg some (by kernel_rfl))⟩
 f47 := Tryz.func152.trans (congrArg some (by kernel_rfl))
 f48 := Tryz.func153.trans (congrArg some (by kernel_rfl))
 f49 := ⟨Tryz.f154.name, by decide, Tryz.func154.trans (congrArg some (by kernel_rfl))⟩
 f50 := ⟨Tryz.f155.name, by decide, Tryz.func155.trans (congrArg some (by kernel_rfl))⟩
 f57 := ⟨Tryz.f159.name, by decide, Tryz.func159.trans (congrArg some (by kernel_rfl))⟩
 t0 := Tryz.underlying0
 a0 := Tryz.isAgg0
 z0 := Tryz.sizeOf0
 v0 := Tryz.zeroValue0
 t3 := Tryz.underlying3
 a3 := Tryz.isAgg3
 z3 := Tryz.sizeOf3
 v3 := Tryz.zeroValue3
 t4 := Tryz.underlying4
 a4 := Tryz.isAgg4
 z4 := Tryz.sizeOf4
 v4 := Tryz.zeroValue4
 t5 := Tryz.underlying5
 a5 := Tryz.isAgg5
 z5 := Tryz.sizeOf5
 v5 := Tryz.zeroValue5
 t9 := Tryz.underlying9
 a9 := Tryz.isAgg9
 z9 := Tryz.sizeOf9
 v9 := Tryz.zeroValue9
 t22 := Tryz.underlying57
 a22 := Tryz.isAgg57
 z22 := Tryz.sizeOf57
 v22 := Tryz.zeroValue57
 t25 := Tryz.underlying159
 a25 := Tryz.isAgg159
 z25 := Tryz.sizeOf159
 v25 := Tryz.zeroValue159
 t39 := Tryz.underlying178
 a39 := Tryz.isAgg178
 z39 := Tryz.sizeOf178
 v39 := Tryz.zeroValue178
 t45 := Tryz.underlying188
 a45 := Tryz.isAgg188
 z45 := Tryz.sizeOf188
 v45 := Tryz.zeroValue188
 t46 := Tryz.underlying189
 a46 := Tryz.isAgg189
 z46 := Tryz.sizeOf189
 v46 := Tryz.zeroValue189
 t50 := Tryz.underlying193
 a50 := Tryz.isAgg193
 z50 := Tryz.sizeOf193
 v50 := Tryz.zeroValue193
 t53 := Tryz.underlying196
 a53 := Tryz.isAgg196
 z53 := Tryz.sizeOf196
 v53 := Tryz.zeroValue196
 t55 := Tryz.underlying198
 a55 := Tryz.isAgg198
 z55 := Tryz.sizeOf198
 v55 := Tryz.zeroValue198
 t66 := Tryz.underlying204
 a66 := Tryz.isAgg204
 z66 := Tryz.sizeOf204
 v66 := Tryz.zeroValue204
 t70 := Tryz.underlying208
 a70 := Tryz.isAgg208
 z70 := Tryz.sizeOf208
 v70 := Tryz.zeroValue208
 t76 := Tryz.underlying212
 a76 := Tryz.isAgg212
 z76 := Tryz.sizeOf212
 v76 := Tryz.zeroValue212
 t77 := Tryz.underlying103
 a77 := Tryz.isAgg103
 z77 := Tryz.sizeOf103
 v77 := Tryz.zeroValue103 }
def ptEqB (a b : PtT) : Bool := a.x == b.x && a.y == b.y
theorem ptEqB_iff (a b : PtT) : ptEqB a b = true ↔ a = b := by
 obtain ⟨a1, a2⟩ := a
 obtain ⟨b1, b2⟩ := b
 simp [ptEqB]
theorem run_neq_point (w : World) (a b d e : Int) : (binOp .neq 26 (.agg #[.int .i64 a, .int .i64 b]) (.agg #[.int .i64 d, .int .i64 e])).run Tryz.prog w = .ok (.bool (!ptEqB ⟨a, b⟩ ⟨d, e⟩)) w := by
 unfold ptEqB
 simp [binOp, Op.equal, Op.maxDepth, go_sem]
 by_cases h1 : a = d <;> by_cases h2 : b = e <;> simp [h1, h2]
theorem neq_point : NeqAt Tryz.prog 26 (fun x => .agg (encP x).toArray) ptEqB := ⟨fun x y w => run_neq_point w _ _ _ _, GuardAt.agg _ (by kernel_rfl)⟩
instance : Inhabited SpT := ⟨⟨0, 0, 0⟩⟩
instance : Inhabited PtT := ⟨⟨0, 0⟩⟩
theorem infoS : (Tryz.prog.info? 60).map (fun i => (i.zero, i.size, i.bytes)) = some (some (.agg #[.int .i64 0, .int .i64 0, .int .i64 0]), 3, 24) := by kernel_rfl
theorem infoP : (Tryz.prog.info? 26).map (fun i => (i.zero, i.size, i.bytes)) = some (some (.agg #[.int .i64 0, .int .i64 0]), 2, 16) := by kernel_rfl
theorem eqP_any (s1 s2 : Value) (l m : List PtT) (w : World) (h1 : Elems w s1 l.length 2 (rowC encP l)) (h2 : Elems w s2 m.length 2 (rowC encP m)) (hl : l.length ≤ 1000000000) :
 Calls Tryz.prog 27 #[s1, s2] w (Gives (.bool (sameB l m)) w) := by
 rw [← allEq_sameB ptEqB ptEqB_iff]
 exact eqRows lay_eqP 2 Tryz.isAgg26 Tryz.sizeOf26 encP encP_len ptEqB neq_point s1 s2 l m w h1 h2 hl
theorem cloneP_any (sv : Value) (l : List PtT) (w : World) (h : Elems w sv l.length 2 (rowC encP l)) (hl : l.length ≤ 1000000000) :
 Calls Tryz.prog 15 #[sv] w (Cloned 26 2 l.length (l.flatMap encP) sv w) := by
 obtain ⟨i0, hi, hz0, hz1, hz2⟩ := info_parts infoP
 exact cloneRows lay_cloneP i0 _ 2 16 hi hz0 hz1 hz2 rfl (by omega) Tryz.sizeOf26 encP encP_len encP_one sv l w h hl (by omega)
end Go.Proofs.YthcdkkmjnglmjaaGreatDoor
/- Layer 6: the map of rows, by Y. -/
namespace Go.Proofs.YthcdkkmjnglmjaaGreatDoor
open Go.RowKit Go.Shelf Go.Maps
def heldR (v : Value) : Option (DataW Value × List MemPlace) := some (.held v, [])
def nilS : Value := .slice none 0 0
def inK (y : Int) : Prop := -1000 ≤ y ∧ y ≤ 1000
theorem inK_wf {y : Int} (h : inK y) : (Lit.int .i64 y).wf = true := WalkArith.wf_i64 (by unfold inK at h; omega)
/-- Block b is a map that holds at each Y a row of the call's own; no two in one block. -/
structure GrD (w : World) (base b n : Nat) (D : DataW Value) (F : Int → Value) (G : Int → List SpT) : Prop where
 map : w.ownsMap Tryz.prog 3 heldR b n D
 at_ : ∀ y, inK y → D.atKey (.int .i64 y) (.held nilS) = .held (F y)
 row : ∀ y, inK y → w.ownsRow base 60 3 (F y) (G y).length ((G y).flatMap encS)
 apart : ∀ y z j, inK y → inK z → y ≠ z → (F y).ownBlock = some j → (F z).ownBlock ≠ some j
 has : ∀ y, inK y → (Maps.has D (.int .i64 y) = true ↔ G y ≠ [])
 only : ∀ k, Maps.has D k = true → ∃ y, inK y ∧ k = .int .i64 y
 lt : b < base
theorem keyedI : Keyed Tryz.prog 3 := int_keyed Tryz.underlying3
theorem GrD.look {w : World} {base b n : Nat} {D : DataW Value} {F : Int → Value} {G : Int → List SpT} (h : GrD w base b n D F G) {y : Int} (hy : inK y) :
 (Instr.lookup 90 (.map (some b)) (.int .i64 y) false).run Tryz.prog w = .ok (F y) w := by
 obtain ⟨v, ps, hrun, hv⟩ := h.map.lookup keyedI Tryz.underlying90 (Tryz.zeroValue57 w) (zd := .held nilS) (zp := []) rfl (keyOf_int_mk Tryz.underlying3 (inK_wf hy))
 rw [h.at_ y hy] at hv
 simp only [heldR, Option.some.injEq, Prod.mk.injEq, DataW.held.injEq] at hv
 rw [hrun, hv.1]
theorem GrD.start (w : World) : GrD (w.alloc (.map #[] 0)) (w.heap.size + 1) w.heap.size 0 (.map []) (fun _ => nilS) (fun _ => []) :=
 ⟨World.ownsMap_made _ _ _ _, fun _ _ => rfl, fun _ _ => World.ownsRow_nil _ _ _ _, fun _ _ _ _ _ _ h => (by cases h), fun _ _ => (by simp [Maps.has]), fun _ h => (by simp [Maps.has] at h), Nat.lt_succ_self _⟩
theorem GrD.kept {w w' : World} {base b n : Nat} {D : DataW Value} {F : Int → Value} {G : Int → List SpT} (h : GrD w base b n D F G) (hb : Below w.heap.size w w') : GrD w' base b n D F G :=
 ⟨h.map.kept (row := none) ⟨hb.os, hb.tape, hb.output, hb.size, fun k hk _ => hb.block k hk⟩ (by simp), h.at_, fun y hy => ownsRow_below (h.row y hy) hb, h.apart, h.has, h.only, h.lt⟩
theorem GrD.put {w0 w : World} {base b n : Nat} {D : DataW Value} {F : Int → Value} {G : Int → List SpT} (h : GrD w0 base b n D F G) {y : Int} (hy : inK y) (hn : n < maxLen) (hg : w0.grownBy w (F y).ownBlock) {v' : Value} {L : List SpT}
 (hrow : w.ownsRow base 60 3 v' L.length (L.flatMap encS)) (hL : L ≠ []) (hloc : v'.ownBlock = (F y).ownBlock ∨ ∃ g, v'.ownBlock = some g ∧ w0.heap.size ≤ g) :
 ∃ w2, (Instr.mapUpdate 90 (.map (some b)) (.int .i64 y) v').run Tryz.prog w = .ok () w2 ∧ GrD w2 base b (n + 1) (D.put (.int .i64 y) (.held v')) (fun z => if z = y then v' else F z) (fun z => if z = y then L else G z) ∧ w.grownBy w2 (some b) := by
 have hbF : some b ≠ (F y).ownBlock := fun e => by have := ((h.row y hy).lt b e.symm).1; have := h.lt; omega
 have hm := h.map.kept hg hbF
 have hkey := keyOf_int_mk (P := Tryz.prog) Tryz.underlying3 (inK_wf hy)
 obtain ⟨w2, hrun, hm2, hg2⟩ := hm.update keyedI Tryz.underlying90 hn hkey (val := v') rfl
 have hik : WideAt.IsKeyLit (Lit.int .i64 y) := by first | trivial | exact Maps.isKeyLit_of_keyOf hkey | simp [WideAt.IsKeyLit]
 have hne : ∀ z, z ≠ y → (Lit.int .i64 z) ≠ (Lit.int .i64 y) := fun z hz e => hz (by cases e; rfl)
 have hrowb : ∀ (x : World) (v : Value) (k : Nat) (xs : List Value), x.ownsRow base 60 3 v k xs → v.ownBlock = none ∨ v.ownBlock ≠ some b := fun x v k xs hr => by
  cases hv : v.ownBlock with
  | none => exact .inl rfl
  | some j => exact .inr fun e => by cases e; have := (hr.lt b hv).1; have := h.lt; omega
 refine ⟨w2, hrun, ⟨hm2, fun z hz => ?_, fun z hz => ?_, fun z z' j hz hz' hne' hj => ?_, fun z hz => ?_, fun k hk => ?_, h.lt⟩, hg2⟩
 · by_cases e : z = y
   · subst e; rw [atKey_put_same hm.isMap hik]; simp
   · rw [atKey_put_other (hne z e), h.at_ z hz]; simp [e]
 · by_cases e : z = y
   · subst e; simp only [if_true]; exact hrow.kept hg2 (hrowb _ _ _ _ hrow)
   · simp only [if_neg e]
     have hr := h.row z hz
     refine (hr.kept hg ?_).kept hg2 (hrowb _ _ _ _ hr)
     cases hv : (F z).ownBlock with
     | none => exact .inl rfl
     | some j => exact .inr fun e' => h.apart z y j hz hy e hv e'.symm
 · by_cases e : z = y
   · subst e
     have e2 : ¬ z' = z := fun e2 => hne' e2.symm
     simp only [if_true, if_neg e2] at hj ⊢
     rcases hloc with hl | ⟨g, hl, hge⟩
     · rw [hl] at hj; exact h.apart z z' j hz hz' hne' hj
     · rw [hl] at hj; cases hj
       intro hj'
       have := ((h.row z' hz').lt _ hj').2
       omega
   · by_cases e' : z' = y
     · subst e'
       simp only [if_neg e, if_true] at hj ⊢
       rcases hloc with hl | ⟨g, hl, hge⟩
       · rw [hl]; exact fun hj' => h.apart z' z j hz' hz (fun e => hne' e.symm) hj' hj
       · rw [hl]; intro hj'; cases hj'
         have := ((h.row z hz).lt _ hj).2
         omega
     · simp only [if_neg e, if_neg e'] at hj ⊢
       exact h.apart z z' j hz hz' hne' hj
 · by_cases e : z = y
   · subst e; rw [has_put_same hm.isMap hik]; simp [hL]
   · rw [has_put_other (hne z e), h.has z hz]; simp [e]
 · by_cases e : k = .int .i64 y
   · exact ⟨y, hy, e⟩
   · rw [has_put_other e] at hk; exact h.only k hk
end Go.Proofs.YthcdkkmjnglmjaaGreatDoor
