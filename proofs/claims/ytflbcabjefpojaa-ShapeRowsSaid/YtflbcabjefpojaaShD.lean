/- Layer 6: Clip; the document's Clip, Has. -/
import Derived.Test.YtflbcabjefpojaaShC
import Derived.Test.YtflbcabjefpojaaBase
namespace Go.Proofs.Ytflbcabjefpojaa
set_option linter.unusedSimpArgs false
set_option linter.unusedVariables false
open Go.RowKit Go.Shelf

theorem rowS : RowT Try.prog 29 39 3 24 := .of (z := .agg #[.int .i64 0, .int .i64 0, .int .i64 0]) Try.underlying29 (by kernel_rfl) rfl (by decide)
theorem rowP : RowT Try.prog 22 28 2 16 := .of (z := .agg #[.int .i64 0, .int .i64 0]) Try.underlying22 (by kernel_rfl) rfl (by decide)
theorem encS_one (s : SpT) : ∀ u ∈ encS s, u.oneCell' = true := by
  intro u hu
  simp [encS] at hu
  rcases hu with rfl | rfl | rfl <;> rfl
theorem encP_one (s : PtT) : ∀ u ∈ encP s, u.oneCell' = true := by
  intro u hu
  simp [encP] at hu
  rcases hu with rfl | rfl <;> rfl

/-- The newest block is written. -/
theorem St.put0 {w0 x : World} {p : Nat} {c c' : Array Value} {t : TypeId} {f : Nat × Nat} {post : List It} (h : St w0 (.blk p (.cells c t f) :: post) x) (k : Nat) (v : Value) (hc : c.setIfInBounds k v = c') : St w0 (.blk p (.cells c' t f) :: post) (x.setCell ⟨p, k, none⟩ v) := by
  subst hc
  have hp := h.blockAt 0 rfl
  exact St.set (pre := []) h (by simp) (heap_set_same hp v) (fun j hj => Below.heap_setCell x ⟨p, k, none⟩ v j hj) ((Below.refl _ _).setCell (p := ⟨p, k, none⟩) (Nat.le_refl _) v)

/-- What a box has of a span. -/
def clip1 (b : BxT) (s : SpT) : Option SpT := if max s.f b.x ≤ min s.t b.x2 ∧ b.y ≤ s.y ∧ s.y ≤ b.y2 then some ⟨s.y, max s.f b.x, min s.t b.x2⟩ else none
def clipL (b : BxT) (l : List SpT) : List SpT := l.filterMap (clip1 b)
theorem clipL_take (b : BxT) (l : List SpT) (k : Nat) (x : SpT) (hx : l[k]? = some x) : clipL b (l.take (k + 1)) = clipL b (l.take k) ++ (clip1 b x).toList := by
  unfold clipL
  rw [List.take_add_one, hx, List.filterMap_append]
  cases h : clip1 b x <;> simp [h]
theorem clipL_len (b : BxT) (l : List SpT) (k : Nat) : (clipL b (l.take k)).length ≤ k := Nat.le_trans (List.length_filterMap_le _ _) (by simp; omega)

set_option maxRecDepth 100000 in
set_option maxHeartbeats 4000000 in
theorem refClip_any (a : Option Addr) (n cap : Nat) (l : List SpT) (hl : l.length = n) (hn : n < 1000000000) (b : BxT) (w : World) (h : Elems w (.slice a n cap) n 3 (rowC encS l)) :
    Calls Try.prog 29 #[.slice a n cap, b.val] w (GivesRow 39 3 (clipL b l).length ((clipL b l).flatMap encS) w) := by
  have HS := Lib.hid ((St.start w).addRow h)
  have HL := Lib.hid hl
  obtain ⟨bx, by', bx2, by2⟩ := b
  obtain ⟨B, hB⟩ : ∃ B, BxT.mk bx by' bx2 by2 = B := ⟨_, rfl⟩
  have HBX := Lib.hid hB
  simp only [hB]
  rw [← hB]
  clear h hl hB
  unfold BxT.val
  go_enter Try.func29, Try.ntmps29
  repeat ((fail_if_success (with_reducible refine stop_at (id := 2) ?_)); (first | go_values | go_skip | go_guarded | go_step | go_upon | go_back | (simp only [Int.not_lt, Int.not_le] at *; go_simp) | (go_values <;> (try go_simp)) | (go_ite <;> go_prune <;> (try go_simp)) | (split <;> (first | (rename_i hx; exact (hx _ rfl).elim) | go_prune))))
  have hs_ := (HS.out.alloc (.cells #[.int .i64 bx, .int .i64 by', .int .i64 bx2, .int .i64 by2] 43))
  obtain ⟨w1, hw_⟩ : ∃ w1 : World, (w.alloc (.cells #[.int .i64 bx, .int .i64 by', .int .i64 bx2, .int .i64 by2] 43)) = w1 := ⟨_, rfl⟩
  rw [hw_] at hs_
  try simp only [World.size_alloc] at hs_
  have HS := Lib.hid hs_
  rw [hw_]
  clear hw_ hs_
  have HO := Lib.hid (StO.start HS.out 39 3 encS)
  obtain ⟨N1, hN1⟩ : ∃ N1, w1.heap.size = N1 := ⟨_, rfl⟩
  rw [hN1] at HO
  clear HS
  go_wp2_with fail
  go_loopw [5, 10] (fun v i wr => ∃ k : Nat, k ≤ n ∧ i = .int .i64 (k : Int) ∧ StO w [.blk w.heap.size (.cells #[.int .i64 bx, .int .i64 by', .int .i64 bx2, .int .i64 by2] 43), .row (.slice a n cap) n 3 (rowC encS l) w.heap.size] N1 39 3 encS v (clipL B (l.take k)) wr) (fun _ i _ => n - (intOf i).toNat)
  case atStart => exact ⟨0, by omega, rfl, HO.out⟩
  case round =>
    obtain ⟨k, hk, rfl, ho⟩ := hrel
    clear HO hN1
    have HO := Lib.hid ho
    clear ho
    by_cases hlt : k < n
    · have HLT := Lib.hid (show k < l.length by rw [HL.out]; exact hlt)
      have wk : wrap64 ((k : Int) + 1) = ((k + 1 : Nat) : Int) := by unfold wrap64; omega
      obtain ⟨x, hx⟩ : ∃ x, l[k]? = some x := ⟨_, List.getElem?_eq_getElem HLT.out⟩
      obtain ⟨bb, off, rfl, hbb, c0, c1, c2⟩ := spCells HL.out (HO.out.st.elems 1 rfl) k x hx
      have HT := Lib.hid (clipL_take B l k x hx)
      have HLEN := Lib.hid (clipL_len B l k)
      obtain ⟨xy, xf, xt⟩ := x
      simp only at c0 c1 c2
      clear hx hbb
      have HS := Lib.hid (St.start wr)
      repeat ((fail_if_success (with_reducible refine stop_at (id := 5) ?_)); (first | go_values | go_skip | go_guarded | go_step | go_upon | go_back | (simp only [Int.not_lt, Int.not_le] at *; go_simp) | (go_values <;> (try go_simp)) | (go_ite <;> go_prune <;> (try go_simp)) | (split <;> (first | (rename_i hx; exact (hx _ rfl).elim) | go_prune))))
      clear c0 c1 c2
      have hs_ := (HS.out.alloc (.cells #[.int .i64 xy, .int .i64 xf, .int .i64 xt] 39))
      obtain ⟨w3, hw_⟩ : ∃ w3 : World, (wr.alloc (.cells #[.int .i64 xy, .int .i64 xf, .int .i64 xt] 39)) = w3 := ⟨_, rfl⟩
      rw [hw_] at hs_
      try simp only [World.size_alloc] at hs_
      have HS := Lib.hid hs_
      rw [hw_]
      clear hw_ hs_
      have HS0 := Lib.hid HO.out
      clear HS0
      have k0 := cell_of_block (k := 0) (HS.out.blockAt 0 rfl) rfl
      have k1 := cell_of_block (k := 1) (HS.out.blockAt 0 rfl) rfl
      have k2 := cell_of_block (k := 2) (HS.out.blockAt 0 rfl) rfl
      have fr := free_of_block (HS.out.blockAt 0 rfl)
      have b0 := cell_of_block (k := 0) ((HO.out.st.below HS.out.low).blockAt 0 rfl) rfl
      have b1 := cell_of_block (k := 1) ((HO.out.st.below HS.out.low).blockAt 0 rfl) rfl
      have b2 := cell_of_block (k := 2) ((HO.out.st.below HS.out.low).blockAt 0 rfl) rfl
      have b3 := cell_of_block (k := 3) ((HO.out.st.below HS.out.low).blockAt 0 rfl) rfl
      have hlw : w.heap.size < wr.heap.size := HO.out.st.lt 0 rfl
      have hne : ¬ w.heap.size = wr.heap.size := by omega
      have hne' : ¬ wr.heap.size = w.heap.size := by omega
      by_cases y1 : xy < by'
      · have HC := Lib.hid (show clip1 B ⟨xy, xf, xt⟩ = none by rw [← HBX.out]; unfold clip1; rw [if_neg]; simp only; omega)
        go_wp2_with fail
        go_roundw
        case rel => exact ⟨k + 1, hlt, by simp, by rw [HT.out, HC.out]; simpa using HO.out.below (by (repeat (first | exact HS.out.low | refine Below.setCell ?_ (by first | omega | (simp; done) | (simp; omega)) _)))⟩
        case measure => simp [intOf]; omega
      by_cases y2 : by2 < xy
      · have HC := Lib.hid (show clip1 B ⟨xy, xf, xt⟩ = none by rw [← HBX.out]; unfold clip1; rw [if_neg]; simp only; omega)
        go_wp2_with fail
        go_roundw
        case rel => exact ⟨k + 1, hlt, by simp, by rw [HT.out, HC.out]; simpa using HO.out.below (by (repeat (first | exact HS.out.low | refine Below.setCell ?_ (by first | omega | (simp; done) | (simp; omega)) _)))⟩
        case measure => simp [intOf]; omega
      by_cases g1 : xf < bx
      · by_cases g2 : bx2 < xt
        · by_cases g3 : bx ≤ bx2
          · have HC := Lib.hid (show clip1 B ⟨xy, xf, xt⟩ = some ⟨xy, bx, bx2⟩ by rw [← HBX.out]; unfold clip1; simp only; rw [show max xf bx = bx by omega, show min xt bx2 = bx2 by omega, if_pos (by omega)])
            go_wp2_with (at_builtin; refine wpList_app1 rowS encS_len encS_one HO.out (y := ((w3.setCell ⟨wr.heap.size, 1, none⟩ (.int .i64 bx)).setCell ⟨wr.heap.size, 2, none⟩ (.int .i64 bx2))) (by (repeat (first | exact HS.out.low | refine Below.setCell ?_ (by first | omega | (simp; done) | (simp; omega)) _))) ⟨xy, bx, bx2⟩ _ rfl (by have := HLEN.out; omega) (by decide) _ _ rfl rfl rfl _ rfl (by simp) ?_; intro v' w5 ho5 hsh; have HO5 := Lib.hid ho5; clear ho5 hsh)
            go_roundw
            case rel => exact ⟨k + 1, hlt, by simp, by rw [HT.out, HC.out]; exact HO5.out⟩
            case measure => simp [intOf]; omega
          · have HC := Lib.hid (show clip1 B ⟨xy, xf, xt⟩ = none by rw [← HBX.out]; unfold clip1; rw [if_neg]; simp only; omega)
            go_wp2_with fail
            go_roundw
            case rel => exact ⟨k + 1, hlt, by simp, by rw [HT.out, HC.out]; simpa using HO.out.below (by (repeat (first | exact HS.out.low | refine Below.setCell ?_ (by first | omega | (simp; done) | (simp; omega)) _)))⟩
            case measure => simp [intOf]; omega
        · by_cases g3 : bx ≤ xt
          · have HC := Lib.hid (show clip1 B ⟨xy, xf, xt⟩ = some ⟨xy, bx, xt⟩ by rw [← HBX.out]; unfold clip1; simp only; rw [show max xf bx = bx by omega, show min xt bx2 = xt by omega, if_pos (by omega)])
            go_wp2_with (at_builtin; refine wpList_app1 rowS encS_len encS_one HO.out (y := (w3.setCell ⟨wr.heap.size, 1, none⟩ (.int .i64 bx))) (by (repeat (first | exact HS.out.low | refine Below.setCell ?_ (by first | omega | (simp; done) | (simp; omega)) _))) ⟨xy, bx, xt⟩ _ rfl (by have := HLEN.out; omega) (by decide) _ _ rfl rfl rfl _ rfl (by simp) ?_; intro v' w5 ho5 hsh; have HO5 := Lib.hid ho5; clear ho5 hsh)
            go_roundw
            case rel => exact ⟨k + 1, hlt, by simp, by rw [HT.out, HC.out]; exact HO5.out⟩
            case measure => simp [intOf]; omega
          · have HC := Lib.hid (show clip1 B ⟨xy, xf, xt⟩ = none by rw [← HBX.out]; unfold clip1; rw [if_neg]; simp only; omega)
            go_wp2_with fail
            go_roundw
            case rel => exact ⟨k + 1, hlt, by simp, by rw [HT.out, HC.out]; simpa using HO.out.below (by (repeat (first | exact HS.out.low | refine Below.setCell ?_ (by first | omega | (simp; done) | (simp; omega)) _)))⟩
            case measure => simp [intOf]; omega
      · by_cases g2 : bx2 < xt
        · by_cases g3 : xf ≤ bx2
          · have HC := Lib.hid (show clip1 B ⟨xy, xf, xt⟩ = some ⟨xy, xf, bx2⟩ by rw [← HBX.out]; unfold clip1; simp only; rw [show max xf bx = xf by omega, show min xt bx2 = bx2 by omega, if_pos (by omega)])
            go_wp2_with (at_builtin; refine wpList_app1 rowS encS_len encS_one HO.out (y := (w3.setCell ⟨wr.heap.size, 2, none⟩ (.int .i64 bx2))) (by (repeat (first | exact HS.out.low | refine Below.setCell ?_ (by first | omega | (simp; done) | (simp; omega)) _))) ⟨xy, xf, bx2⟩ _ rfl (by have := HLEN.out; omega) (by decide) _ _ rfl rfl rfl _ rfl (by simp) ?_; intro v' w5 ho5 hsh; have HO5 := Lib.hid ho5; clear ho5 hsh)
            go_roundw
            case rel => exact ⟨k + 1, hlt, by simp, by rw [HT.out, HC.out]; exact HO5.out⟩
            case measure => simp [intOf]; omega
          · have HC := Lib.hid (show clip1 B ⟨xy, xf, xt⟩ = none by rw [← HBX.out]; unfold clip1; rw [if_neg]; simp only; omega)
            go_wp2_with fail
            go_roundw
            case rel => exact ⟨k + 1, hlt, by simp, by rw [HT.out, HC.out]; simpa using HO.out.below (by (repeat (first | exact HS.out.low | refine Below.setCell ?_ (by first | omega | (simp; done) | (simp; omega)) _)))⟩
            case measure => simp [intOf]; omega
        · by_cases g3 : xf ≤ xt
          · have HC := Lib.hid (show clip1 B ⟨xy, xf, xt⟩ = some ⟨xy, xf, xt⟩ by rw [← HBX.out]; unfold clip1; simp only; rw [show max xf bx = xf by omega, show min xt bx2 = xt by omega, if_pos (by omega)])
            go_wp2_with (at_builtin; refine wpList_app1 rowS encS_len encS_one HO.out (y := w3) (by (repeat (first | exact HS.out.low | refine Below.setCell ?_ (by first | omega | (simp; done) | (simp; omega)) _))) ⟨xy, xf, xt⟩ _ rfl (by have := HLEN.out; omega) (by decide) _ _ rfl rfl rfl _ rfl (by simp) ?_; intro v' w5 ho5 hsh; have HO5 := Lib.hid ho5; clear ho5 hsh)
            go_roundw
            case rel => exact ⟨k + 1, hlt, by simp, by rw [HT.out, HC.out]; exact HO5.out⟩
            case measure => simp [intOf]; omega
          · have HC := Lib.hid (show clip1 B ⟨xy, xf, xt⟩ = none by rw [← HBX.out]; unfold clip1; rw [if_neg]; simp only; omega)
            go_wp2_with fail
            go_roundw
            case rel => exact ⟨k + 1, hlt, by simp, by rw [HT.out, HC.out]; simpa using HO.out.below (by (repeat (first | exact HS.out.low | refine Below.setCell ?_ (by first | omega | (simp; done) | (simp; omega)) _)))⟩
            case measure => simp [intOf]; omega
    · obtain rfl : k = n := by omega
      clear hk hlt
      go_wp2_with fail
      go_ret
      refine ?_
      have HE := Lib.hid HO.out
      rw [List.take_of_length_le (by rw [HL.out]; exact Nat.le_refl _), ← HBX.out] at HE
      exact ⟨_, rfl, ownsRow_mono HE.out.row HE.out.low, HE.out.st.low⟩
end Go.Proofs.Ytflbcabjefpojaa
