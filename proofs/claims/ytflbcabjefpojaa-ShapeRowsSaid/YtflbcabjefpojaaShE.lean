/- Layer 6: Clip. -/
import Derived.Test.YtflbcabjefpojaaShD
namespace Go.Proofs.Ytflbcabjefpojaa
set_option linter.unusedSimpArgs false
set_option linter.unusedVariables false
open Go.RowKit Go.Shelf

/-- It returns a new row, and an error. -/
def GivesRowE (E size n : Nat) (xs : List Value) (er : Int) (w : World) (e : Ending) (w' : World) : Prop := ∃ v, e = .returned (.tuple #[v, .int .i64 er]) ∧ w'.ownsRow w.heap.size E size v n xs ∧ Below w.heap.size w w'
noncomputable def clipR (b : BxT) (l : List SpT) : List SpT := bif rightB l then clipL b l else []

set_option maxRecDepth 100000 in
set_option maxHeartbeats 4000000 in
theorem shClip_any (a : Option Addr) (n cap : Nat) (l : List SpT) (hl : l.length = n) (hn : n < 1000000000) (b : BxT) (w : World) (h : Elems w (.slice a n cap) n 3 (rowC encS l)) :
    Calls Try.prog 20 #[.slice a n cap, b.val] w (GivesRowE 39 3 (clipR b l).length ((clipR b l).flatMap encS) (errOf (rightB l) 160) w) := by
  have HS := Lib.hid ((St.start w).addRow h)
  have HL := Lib.hid hl
  obtain ⟨bx, by', bx2, by2⟩ := b
  obtain ⟨B, hB⟩ : ∃ B, BxT.mk bx by' bx2 by2 = B := ⟨_, rfl⟩
  have HBX := Lib.hid hB
  clear h hl hB
  unfold BxT.val
  go_enter Try.func20, Try.ntmps20
  repeat ((fail_if_success (with_reducible refine stop_at (id := 1) ?_)); (first | go_values | go_skip | go_guarded | go_step | go_upon | go_back | (simp only [Int.not_lt, Int.not_le] at *; go_simp) | (go_values <;> (try go_simp)) | (go_ite <;> go_prune <;> (try go_simp)) | (split <;> (first | (rename_i hx; exact (hx _ rfl).elim) | go_prune))))
  have hs_ := (HS.out.alloc (.cells #[.int .i64 bx, .int .i64 by', .int .i64 bx2, .int .i64 by2] 43))
  obtain ⟨w1, hw_⟩ : ∃ w1 : World, (w.alloc (.cells #[.int .i64 bx, .int .i64 by', .int .i64 bx2, .int .i64 by2] 43)) = w1 := ⟨_, rfl⟩
  rw [hw_] at hs_
  try simp only [World.size_alloc] at hs_
  have HS := Lib.hid hs_
  rw [hw_]
  clear hw_ hs_
  go_wp2_with fail
  refine (check_any a n cap l HL.out (by omega) _ (HS.out.elems 1 rfl)).mono ?_
  rintro e w2 ⟨rfl, hb_⟩
  have HS := Lib.hid (HS.out.below hb_)
  clear hb_
  cases hr : rightB l
  · have HR := Lib.hid hr
    clear hr
    simp only [errOf, Bool.false_eq_true, if_false]
    go_wp2_with fail
    refine bodyPost_ret (v := .tuple #[.slice none 0 0, .int .i64 160]) (by simp [results, Try.results20, go_sem]) rfl ⟨.slice none 0 0, by rw [HR.out]; rfl, ?_, HS.out.low⟩
    have e : clipR (BxT.mk bx by' bx2 by2) l = [] := by unfold clipR; rw [HR.out]; rfl
    rw [e]
    exact World.ownsRow_nil _ _ _ _
  have HR := Lib.hid hr
  clear hr
  simp only [errOf, if_true]
  have HO := Lib.hid (StO.start HS.out 39 3 encS)
  obtain ⟨N1, hN1⟩ : ∃ N1, w2.heap.size = N1 := ⟨_, rfl⟩
  rw [hN1] at HO
  clear HS
  go_wp2_with fail
  go_loopw [7, 17] (fun v i wr => ∃ k : Nat, k ≤ n ∧ i = .int .i64 (k : Int) ∧ StO w [.blk w.heap.size (.cells #[.int .i64 bx, .int .i64 by', .int .i64 bx2, .int .i64 by2] 43), .row (.slice a n cap) n 3 (rowC encS l) w.heap.size] N1 39 3 encS v (clipL B (l.take k)) wr) (fun _ i _ => n - (intOf i).toNat)
  case atStart => exact ⟨0, by omega, rfl, HO.out⟩
  case round =>
    obtain ⟨k, hk, rfl, ho⟩ := hrel
    clear HO hN1
    have HO := Lib.hid ho
    clear ho
    by_cases hlt : k < n
    · have HLT := Lib.hid (show k < l.length by rw [HL.out]; exact hlt)
      have wk : wrap64 ((k : Int) + 1) = ((k + 1 : Nat) : Int) := by unfold wrap64; omega
      obtain ⟨x, hx⟩ : ∃ x, l[k]? = some x := ⟨_, List.getElem?_eq_getElem HLT.out⟩
      obtain ⟨bb, off, rfl, hbb, c0, c1, c2⟩ := spCells HL.out (HO.out.st.elems 1 rfl) k x hx
      have HT := Lib.hid (clipL_take B l k x hx)
      have HLEN := Lib.hid (clipL_len B l k)
      obtain ⟨xy, xf, xt⟩ := x
      simp only at c0 c1 c2
      clear hx hbb
      have HS := Lib.hid (St.start wr)
      repeat ((fail_if_success (with_reducible refine stop_at (id := 8) ?_)); (first | go_values | go_skip | go_guarded | go_step | go_upon | go_back | (simp only [Int.not_lt, Int.not_le] at *; go_simp) | (go_values <;> (try go_simp)) | (go_ite <;> go_prune <;> (try go_simp)) | (split <;> (first | (rename_i hx; exact (hx _ rfl).elim) | go_prune))))
      clear c0 c1 c2
      have hs_ := (HS.out.alloc (.cells #[.int .i64 xy, .int .i64 xf, .int .i64 xt] 39))
      obtain ⟨w3, hw_⟩ : ∃ w3 : World, (wr.alloc (.cells #[.int .i64 xy, .int .i64 xf, .int .i64 xt] 39)) = w3 := ⟨_, rfl⟩
      rw [hw_] at hs_
      try simp only [World.size_alloc] at hs_
      have HS := Lib.hid hs_
      rw [hw_]
      clear hw_ hs_
      obtain ⟨F, hF⟩ : ∃ F, max xf bx = F := ⟨_, rfl⟩
      obtain ⟨T, hT⟩ : ∃ T, min xt bx2 = T := ⟨_, rfl⟩
      have HF := Lib.hid hF
      have HTT := Lib.hid hT
      clear hF hT
      refine (wpIn_wide (n := 0)).1 ?_
      apply wp_region_store 13 11 (fun b_ w_ => St wr [.blk wr.heap.size (.cells #[.int .i64 xy, .int .i64 (cond b_ F xf), .int .i64 xt] 39 (0, 0))] w_) (Rl := [(eqv _), (eqv _), (eqv _), (eqv _), (eqv _), (eqv _), (eqv _), (eqv _), (eqv _), (eqv _), (eqv _), (fun v_ w_ => True), (eqv _)]) (C := (fun x y => Below wr.heap.size x y)) (C0 := (fun x y => Below wr.heap.size x y))
      case hm => kernel_rfl
      case hk => rfl
      case hCr => exact (fun x => Below.refl _ x)
      case hCt => intro _ _ _; exact (fun h k => h.trans k)
      case h00 => exact (fun x => Below.refl _ x)
      case h0C => intro _ _; exact fun h => h
      case hst => exact ⟨fun _ _ _ _ h => h, fun _ _ _ _ h => h, fun _ _ _ _ h => h, fun _ _ _ _ h => h, fun _ _ _ _ h => h, fun _ _ _ _ h => h, fun _ _ _ _ h => h, fun _ _ _ _ h => h, fun _ _ _ _ h => h, fun _ _ _ _ h => h, fun _ _ _ _ h => h, fun _ _ _ _ h => h, fun _ _ _ _ h => h, trivial⟩
      case hfo => kernel_rfl
      case ht => kernel_rfl
      case hC0 => exact ((Below.refl _ _).drew)
      case hsk => decide
      case hso => decide
      case hsg => rfl
      case hsteps =>
        refine ⟨?_, ?_, ?_, ?_, ?_, ?_, ?_, ?_, ?_, ?_, ?_, ?_, ?_, trivial⟩
        · -- 0
          intro a' w' b_ hA hC hJ hB1 hB2 hD
          obtain rfl := hB1 (by kernel_rfl)
          clear hB1 hB2
          have s9 : a'.tmps[9]? = some _ := (hA.at 9 (by kernel_rfl)).trans rfl
          clear hA hD
          refine stepOk_plain rfl ?_
          intro K hK
          gi_wp2
          exact hK _ _ rfl ⟨(fun x => Below.refl _ x) _, hJ⟩
        · -- 1
          intro a' w' b_ hA hC hJ hB1 hB2 hD
          obtain rfl := hB1 (by kernel_rfl)
          clear hB1 hB2
          obtain ⟨u21, s21, r21⟩ := hD ⟨0, .data⟩ (by simp) rfl _ rfl
          replace r21 : u21 = _ := r21
          subst r21
          have k1 := cell_of_block (k := 1) (v := .int .i64 xf) (hJ.blockAt 0 rfl) rfl
          clear hA hD
          refine stepOk_plain rfl ?_
          intro K hK
          gi_wp2
          exact hK _ _ rfl ⟨(fun x => Below.refl _ x) _, hJ⟩
        · -- 2
          intro a' w' b_ hA hC hJ hB1 hB2 hD
          obtain rfl := hB1 (by kernel_rfl)
          clear hB1 hB2
          have s3 : a'.tmps[3]? = some _ := (hA.at 3 (by kernel_rfl)).trans rfl
          clear hA hD
          refine stepOk_plain rfl ?_
          intro K hK
          gi_wp2
          exact hK _ _ rfl ⟨(fun x => Below.refl _ x) _, hJ⟩
        · -- 3
          intro a' w' b_ hA hC hJ hB1 hB2 hD
          obtain rfl := hB1 (by kernel_rfl)
          clear hB1 hB2
          obtain ⟨u23, s23, r23⟩ := hD ⟨2, .data⟩ (by simp) rfl _ rfl
          replace r23 : u23 = _ := r23
          subst r23
          have b0 := cell_of_block (k := 0) ((HO.out.st.below (HS.out.low.trans hC)).blockAt 0 rfl) rfl
          clear hA hD
          refine stepOk_plain rfl ?_
          intro K hK
          gi_wp2
          exact hK _ _ rfl ⟨(fun x => Below.refl _ x) _, hJ⟩
        · -- 4
          intro a' w' b_ hA hC hJ hB1 hB2 hD
          obtain rfl := hB1 (by kernel_rfl)
          clear hB1 hB2
          obtain ⟨u22, s22, r22⟩ := hD ⟨1, .data⟩ (by simp) rfl _ rfl
          replace r22 : u22 = _ := r22
          subst r22
          obtain ⟨u24, s24, r24⟩ := hD ⟨3, .data⟩ (by simp) rfl _ rfl
          replace r24 : u24 = _ := r24
          subst r24
          clear hA hD
          refine stepOk_plain rfl ?_
          intro K hK
          gi_wp2
          rw [HF.out]
          exact hK _ _ rfl ⟨(fun x => Below.refl _ x) _, hJ⟩
        · -- 5
          intro a' w' b_ hA hC hJ hB1 hB2 hD
          obtain rfl := hB1 (by kernel_rfl)
          clear hB1 hB2
          have s9 : a'.tmps[9]? = some _ := (hA.at 9 (by kernel_rfl)).trans rfl
          clear hA hD
          refine stepOk_plain rfl ?_
          intro K hK
          gi_wp2
          exact hK _ _ rfl ⟨(fun x => Below.refl _ x) _, hJ⟩
        · -- 6
          intro a' w' b_ hA hC hJ hB1 hB2 hD
          obtain rfl := hB1 (by kernel_rfl)
          clear hB1 hB2
          obtain ⟨u26, s26, r26⟩ := hD ⟨5, .data⟩ (by simp) rfl _ rfl
          replace r26 : u26 = _ := r26
          subst r26
          have k2 := cell_of_block (k := 2) (v := .int .i64 xt) (hJ.blockAt 0 rfl) rfl
          clear hA hD
          refine stepOk_plain rfl ?_
          intro K hK
          gi_wp2
          exact hK _ _ rfl ⟨(fun x => Below.refl _ x) _, hJ⟩
        · -- 7
          intro a' w' b_ hA hC hJ hB1 hB2 hD
          skip
          clear hB1 hB2
          have s3 : a'.tmps[3]? = some _ := (hA.at 3 (by kernel_rfl)).trans rfl
          clear hA hD
          refine stepOk_plain rfl ?_
          intro K hK
          gi_wp2
          exact hK _ _ rfl ⟨(fun x => Below.refl _ x) _, hJ⟩
        · -- 8
          intro a' w' b_ hA hC hJ hB1 hB2 hD
          skip
          clear hB1 hB2
          obtain ⟨u28, s28, r28⟩ := hD ⟨7, .data⟩ (by simp) rfl _ rfl
          replace r28 : u28 = _ := r28
          subst r28
          have b2 := cell_of_block (k := 2) ((HO.out.st.below (HS.out.low.trans hC)).blockAt 0 rfl) rfl
          clear hA hD
          refine stepOk_plain rfl ?_
          intro K hK
          gi_wp2
          exact hK _ _ rfl ⟨(fun x => Below.refl _ x) _, hJ⟩
        · -- 9
          intro a' w' b_ hA hC hJ hB1 hB2 hD
          skip
          clear hB1 hB2
          obtain ⟨u27, s27, r27⟩ := hD ⟨6, .data⟩ (by simp) rfl _ rfl
          replace r27 : u27 = _ := r27
          subst r27
          obtain ⟨u29, s29, r29⟩ := hD ⟨8, .data⟩ (by simp) rfl _ rfl
          replace r29 : u29 = _ := r29
          subst r29
          clear hA hD
          refine stepOk_plain rfl ?_
          intro K hK
          gi_wp2
          rw [HTT.out]
          exact hK _ _ rfl ⟨(fun x => Below.refl _ x) _, hJ⟩
        · -- 10
          intro a' w' b_ hA hC hJ hB1 hB2 hD
          obtain rfl := hB1 (by kernel_rfl)
          clear hB1 hB2
          have s9 : a'.tmps[9]? = some _ := (hA.at 9 (by kernel_rfl)).trans rfl
          clear hA hD
          refine stepOk_plain rfl ?_
          intro K hK
          gi_wp2
          exact hK _ _ rfl ⟨(fun x => Below.refl _ x) _, hJ⟩
        · -- 11
          intro a' w' b_ hA hC hJ hB1 hB2 hD
          obtain rfl := hB2 rfl
          clear hB1 hB2
          obtain ⟨u31, s31, r31⟩ := hD ⟨10, .data⟩ (by simp) rfl _ rfl
          replace r31 : u31 = _ := r31
          subst r31
          obtain ⟨u25, s25, r25⟩ := hD ⟨4, .data⟩ (by simp) rfl _ rfl
          replace r25 : u25 = _ := r25
          subst r25
          have k1 := cell_of_block (k := 1) (v := .int .i64 xf) (hJ.blockAt 0 rfl) rfl; have fr := free_of_block (hJ.blockAt 0 rfl)
          clear hA hD
          refine stepOk_plain rfl ?_
          intro K hK
          gi_wp2
          exact hK undef _ trivial ⟨(Below.refl _ _).setCell (by simp) _, hJ.put0 1 (.int .i64 F) rfl⟩
        · -- 12
          intro a' w' b_ hA hC hJ hB1 hB2 hD
          skip
          clear hB1 hB2
          have s9 : a'.tmps[9]? = some _ := (hA.at 9 (by kernel_rfl)).trans rfl
          clear hA hD
          refine stepOk_plain rfl ?_
          intro K hK
          gi_wp2
          exact hK _ _ rfl ⟨(fun x => Below.refl _ x) _, hJ⟩
      case hJ0 => exact HS.out.below (grows_drew _)
      case hend =>
        intro w4 hC hJ
        simp only [EndFrom, eqv, forall_eq, Act.put, List.length_cons, List.length_nil, List.drop_succ_cons, List.drop_zero, Nat.reduceAdd, List.setIfInBounds_toArray, List.set_cons_succ, List.set_cons_zero]
        intro v3 _
        clear HS hC
        have k2 := cell_of_block (k := 2) (v := .int .i64 xt) (hJ.blockAt 0 rfl) rfl
        have fr := free_of_block (hJ.blockAt 0 rfl)
        have HS := Lib.hid hJ
        clear hJ
        gi_wp2
        clear k2 fr
        have hs5 := HS.out.put0 2 (.int .i64 T) rfl
        generalize hw5 : w4.setCell { block := wr.heap.size, off := 2 } (.int .i64 T) = w5 at hs5 ⊢
        clear HS hw5
        have HS : Hid (St wr [.blk wr.heap.size (.cells #[.int .i64 xy, .int .i64 F, .int .i64 T] 39 (0, 0))] w5) := Lib.hid hs5
        clear hs5
        have k0 := cell_of_block (k := 0) (HS.out.blockAt 0 rfl) rfl
        have k1 := cell_of_block (k := 1) (HS.out.blockAt 0 rfl) rfl
        have k2 := cell_of_block (k := 2) (HS.out.blockAt 0 rfl) rfl
        have b1 := cell_of_block (k := 1) ((HO.out.st.below HS.out.low).blockAt 0 rfl) rfl
        have b3 := cell_of_block (k := 3) ((HO.out.st.below HS.out.low).blockAt 0 rfl) rfl
        by_cases g1 : F ≤ T
        · by_cases g2 : by' ≤ xy
          · by_cases g3 : xy ≤ by2
            · have HC := Lib.hid (show clip1 B ⟨xy, xf, xt⟩ = some ⟨xy, F, T⟩ by rw [← HBX.out]; unfold clip1; simp only; rw [HF.out, HTT.out, if_pos]; omega)
              go_wp2_with (at_builtin; refine wpList_app1 rowS encS_len encS_one HO.out HS.out.low ⟨xy, F, T⟩ _ rfl (by have := HLEN.out; omega) (by decide) _ _ rfl rfl rfl _ rfl (by simp) ?_; intro v' w5 ho5 hsh; have HO5 := Lib.hid ho5; clear ho5 hsh)
              go_roundw
              case rel => exact ⟨k + 1, hlt, by simp, by rw [HT.out, HC.out]; exact HO5.out⟩
              case measure => simp [intOf]; omega
            · have HC := Lib.hid (show clip1 B ⟨xy, xf, xt⟩ = none by rw [← HBX.out]; unfold clip1; simp only; rw [HF.out, HTT.out, if_neg]; omega)
              go_wp2_with fail
              go_roundw
              case rel => exact ⟨k + 1, hlt, by simp, by rw [HT.out, HC.out]; simpa using HO.out.below HS.out.low⟩
              case measure => simp [intOf]; omega
          · have HC := Lib.hid (show clip1 B ⟨xy, xf, xt⟩ = none by rw [← HBX.out]; unfold clip1; simp only; rw [HF.out, HTT.out, if_neg]; omega)
            go_wp2_with fail
            go_roundw
            case rel => exact ⟨k + 1, hlt, by simp, by rw [HT.out, HC.out]; simpa using HO.out.below HS.out.low⟩
            case measure => simp [intOf]; omega
        · have HC := Lib.hid (show clip1 B ⟨xy, xf, xt⟩ = none by rw [← HBX.out]; unfold clip1; simp only; rw [HF.out, HTT.out, if_neg]; omega)
          go_wp2_with fail
          go_roundw
          case rel => exact ⟨k + 1, hlt, by simp, by rw [HT.out, HC.out]; simpa using HO.out.below HS.out.low⟩
          case measure => simp [intOf]; omega
    · obtain rfl : k = n := by omega
      clear hk hlt
      go_wp2_with fail
      have HE := Lib.hid HO.out
      rw [List.take_of_length_le (by rw [HL.out]; exact Nat.le_refl _), ← HBX.out] at HE
      refine bodyPost_ret (v := .tuple #[_, .int .i64 0]) (by simp [results, Try.results20, go_sem]; rfl) rfl ⟨_, by rw [HR.out]; rfl, ?_, HE.out.st.low⟩
      have e : clipR (BxT.mk bx by' bx2 by2) l = clipL (BxT.mk bx by' bx2 by2) l := by unfold clipR; rw [HR.out]; rfl
      rw [e]
      exact ownsRow_mono HE.out.row HE.out.low
end Go.Proofs.Ytflbcabjefpojaa
