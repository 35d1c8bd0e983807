/- Layer 6: small closures; the document's In; Rect. -/
import Derived.Test.YtflbcabjefpojaaShG
namespace Go.Proofs.Ytflbcabjefpojaa
set_option linter.unusedSimpArgs false
set_option linter.unusedVariables false
open Go.RowKit Go.Shelf

set_option maxRecDepth 100000 in
theorem sweep1_any (p : PtT) (w : World) : Calls Try.prog 37 #[p.val] w (Gives (.bool (!drawnB p)) w) := by
  have HC := Lib.hid (fun w => drawn_any p w)
  obtain ⟨x, y⟩ := p
  generalize drawnB ⟨x, y⟩ = r at HC ⊢
  unfold PtT.val at HC ⊢
  go_enter Try.func37, Try.ntmps37
  go_wp2_with fail
  refine (HC.out _).mono ?_
  rintro e w2 ⟨rfl, hb⟩
  go_wp2_with fail
  go_ret
  exact ⟨rfl, ((Below.refl w.heap.size w).alloc (Nat.le_refl _) _).trans (hb.mono (by simp))⟩

set_option maxRecDepth 100000 in
theorem law1_any (p : PtT) (w : World) : Calls Try.prog 14 #[p.val] w (Gives (.bool (!drawnB p)) w) := by
  have HC := Lib.hid (fun w => refDrawn_any p w)
  obtain ⟨x, y⟩ := p
  generalize drawnB ⟨x, y⟩ = r at HC ⊢
  unfold PtT.val at HC ⊢
  go_enter Try.func14, Try.ntmps14
  go_wp2_with fail
  refine (HC.out _).mono ?_
  rintro e w2 ⟨rfl, hb⟩
  go_wp2_with fail
  go_ret
  exact ⟨rfl, ((Below.refl w.heap.size w).alloc (Nat.le_refl _) _).trans (hb.mono (by simp))⟩

/-- Is it in reach of a brush, so far away? -/
def inSize (size : Int) (round : Bool) (dx dy : Int) : Bool := !round || decide (dx * dx + dy * dy ≤ size * size)
theorem sq_small {a n : Int} (h1 : -n ≤ a) (h2 : a ≤ n) : 0 ≤ a * a ∧ a * a ≤ n * n := by
  have hn : 0 ≤ n := by omega
  rcases Int.le_total 0 a with h | h
  · exact ⟨Int.mul_nonneg h h, Int.mul_le_mul h2 h2 h hn⟩
  · have e : a * a = (-a) * (-a) := by rw [Int.neg_mul_neg]
    rw [e]
    exact ⟨Int.mul_nonneg (by omega) (by omega), Int.mul_le_mul (by omega) (by omega) (by omega) hn⟩
theorem wrap_sq {a n : Int} (h1 : -n ≤ a) (h2 : a ≤ n) (hn : n ≤ 1000) : wrap64 (a * a) = a * a ∧ 0 ≤ a * a ∧ a * a ≤ 1000000 := by
  obtain ⟨p, q⟩ := sq_small h1 h2
  have hn0 : 0 ≤ n := by omega
  have : n * n ≤ 1000 * 1000 := Int.mul_le_mul hn hn hn0 (by omega)
  have h3 : a * a ≤ 1000000 := by omega
  exact ⟨by unfold wrap64; omega, p, h3⟩
theorem wrap_sum {a b : Int} (h1 : 0 ≤ a ∧ a ≤ 1000000) (h2 : 0 ≤ b ∧ b ≤ 1000000) : wrap64 (a + b) = a + b := by unfold wrap64; omega

set_option maxRecDepth 100000 in
theorem sweep2_any (dx dy size : Int) (round : Bool) (r s : Nat) (hx1 : -1000 ≤ dx) (hx2 : dx ≤ 1000) (hy1 : -1000 ≤ dy) (hy2 : dy ≤ 1000) (hs1 : -1000 ≤ size) (hs2 : size ≤ 1000) (w : World) (hr : w.cell? ⟨r, 0, none⟩ = some (.bool round)) (hs : w.cell? ⟨s, 0, none⟩ = some (.int .i64 size)) :
    Calls Try.prog 39 #[.int .i64 dx, .int .i64 dy, .pointer (some ⟨r, 0, none⟩), .pointer (some ⟨s, 0, none⟩)] w (Gives (.bool (inSize size round dx dy)) w) := by
  obtain ⟨a1, a2⟩ := wrap_sq hx1 hx2 (by omega)
  obtain ⟨b1, b2⟩ := wrap_sq hy1 hy2 (by omega)
  obtain ⟨c1, c2⟩ := wrap_sq hs1 hs2 (by omega)
  have d1 := wrap_sum a2 b2
  unfold inSize
  cases round
  · clear a1 a2 b1 b2 c1 c2 d1
    go_enter Try.func39, Try.ntmps39
    go_wp2_with fail
    go_ret
    exact ⟨rfl, Below.refl _ _⟩
  · clear a2 b2 c2 hx1 hx2 hy1 hy2 hs1 hs2
    have A1 := Lib.hid a1
    have B1 := Lib.hid b1
    have C1 := Lib.hid c1
    have D1 := Lib.hid d1
    clear a1 b1 c1 d1
    go_enter Try.func39, Try.ntmps39
    go_wp2_with fail
    go_ret
    exact ⟨by simp [A1.out, B1.out, C1.out, D1.out], Below.refl _ _⟩

/-- The rows of a rectangle. -/
def rectN (a b : PtT) (k : Nat) : List SpT := (List.range k).map fun (i : Nat) => ⟨min a.y b.y + (i : Int), min a.x b.x, max a.x b.x⟩
theorem rectN_succ (a b : PtT) (k : Nat) : rectN a b (k + 1) = rectN a b k ++ [⟨min a.y b.y + (k : Int), min a.x b.x, max a.x b.x⟩] := by
  unfold rectN
  rw [List.range_succ, List.map_append]
  rfl
theorem rectN_len (a b : PtT) (k : Nat) : (rectN a b k).length = k := by simp [rectN]
def rectL (a b : PtT) : List SpT := bif drawnB a && drawnB b then rectN a b (max a.y b.y - min a.y b.y + 1).toNat else []

set_option maxRecDepth 100000 in
set_option maxHeartbeats 4000000 in
theorem shRect_any (a b : PtT) (w : World) : Calls Try.prog 25 #[a.val, b.val] w (GivesRowE 39 3 (rectL a b).length ((rectL a b).flatMap encS) (errOf (drawnB a && drawnB b) 2) w) := by
  have HCa := Lib.hid (fun w => drawn_any a w)
  have HCb := Lib.hid (fun w => drawn_any b w)
  obtain ⟨da, hda⟩ : ∃ da, drawnB a = da := ⟨_, rfl⟩
  obtain ⟨db, hdb⟩ : ∃ db, drawnB b = db := ⟨_, rfl⟩
  have HDa := Lib.hid hda
  have HDb := Lib.hid hdb
  simp only [hda] at HCa
  simp only [hdb] at HCb
  have HQ := Lib.hid (show ∀ r : List SpT, rectL a b = r → rectL a b = r from fun _ h => h)
  obtain ⟨A, hA⟩ : ∃ A, A = a := ⟨_, rfl⟩
  obtain ⟨B, hB⟩ : ∃ B, B = b := ⟨_, rfl⟩
  have HA := Lib.hid hA
  have HB := Lib.hid hB
  obtain ⟨ax, ay⟩ := a
  obtain ⟨bx, by'⟩ := b
  rw [← hA, ← hB]
  clear hda hdb hA hB HQ
  unfold PtT.val at HCa HCb
  have HS := Lib.hid (St.start w)
  show Calls _ _ #[A.val, B.val] _ _
  rw [HA.out, HB.out]
  unfold PtT.val
  go_enter Try.func25, Try.ntmps25
  repeat ((fail_if_success (with_reducible refine stop_at (id := 1) ?_)); (first | go_values | go_skip | go_guarded | go_step | go_upon | go_back | (simp only [Int.not_lt, Int.not_le] at *; go_simp) | (go_values <;> (try go_simp)) | (go_ite <;> go_prune <;> (try go_simp)) | (split <;> (first | (rename_i hx; exact (hx _ rfl).elim) | go_prune))))
  have hs_ := ((HS.out.alloc (.cells #[.int .i64 ax, .int .i64 ay] 28)).alloc (.cells #[.int .i64 bx, .int .i64 by'] 28))
  obtain ⟨w1, hw_⟩ : ∃ w1 : World, ((w.alloc (.cells #[.int .i64 ax, .int .i64 ay] 28)).alloc (.cells #[.int .i64 bx, .int .i64 by'] 28)) = w1 := ⟨_, rfl⟩
  rw [hw_] at hs_
  try simp only [World.size_alloc] at hs_
  have HS := Lib.hid hs_
  rw [hw_]
  clear hw_ hs_
  have k0 := cell_of_block (k := 0) (HS.out.blockAt 1 rfl) rfl
  have k1 := cell_of_block (k := 1) (HS.out.blockAt 1 rfl) rfl
  go_wp2_with fail
  clear k0 k1
  refine (HCa.out _).mono ?_
  rintro e w2 ⟨rfl, hb_⟩
  have HS := Lib.hid (HS.out.below hb_)
  clear hb_
  cases da
  · go_wp2_with fail
    refine bodyPost_ret (v := .tuple #[.slice none 0 0, .int .i64 2]) (by simp [results, Try.results25, go_sem]) rfl ⟨.slice none 0 0, by rw [HDa.out]; rfl, ?_, HS.out.low⟩
    rw [show rectL (PtT.mk ax ay) (PtT.mk bx by') = [] by unfold rectL; rw [HDa.out]; rfl]
    exact World.ownsRow_nil _ _ _ _
  have k0 := cell_of_block (k := 0) (HS.out.blockAt 0 rfl) rfl
  have k1 := cell_of_block (k := 1) (HS.out.blockAt 0 rfl) rfl
  go_wp2_with fail
  clear k0 k1
  refine (HCb.out _).mono ?_
  rintro e w3 ⟨rfl, hb_⟩
  have HS := Lib.hid (HS.out.below hb_)
  clear hb_
  cases db
  · go_wp2_with fail
    refine bodyPost_ret (v := .tuple #[.slice none 0 0, .int .i64 2]) (by simp [results, Try.results25, go_sem]) rfl ⟨.slice none 0 0, by rw [HDa.out, HDb.out]; rfl, ?_, HS.out.low⟩
    rw [show rectL (PtT.mk ax ay) (PtT.mk bx by') = [] by unfold rectL; rw [HDa.out, HDb.out]; rfl]
    exact World.ownsRow_nil _ _ _ _
  have HO := Lib.hid (StO.start HS.out 39 3 encS)
  obtain ⟨N1, hN1⟩ : ∃ N1, w3.heap.size = N1 := ⟨_, rfl⟩
  rw [hN1] at HO
  clear HCa HCb hN1
  have HRG := Lib.hid (show (-64 ≤ ax ∧ ax ≤ 127 ∧ -64 ≤ ay ∧ ay ≤ 127) ∧ (-64 ≤ bx ∧ bx ≤ 127 ∧ -64 ≤ by' ∧ by' ≤ 127) from ⟨of_decide_eq_true HDa.out, of_decide_eq_true HDb.out⟩)
  have k1 := cell_of_block (k := 1) (HS.out.blockAt 1 rfl) rfl
  have e1 := cell_of_block (k := 1) (HS.out.blockAt 0 rfl) rfl
  go_wp2_with fail
  clear k1 e1 HS
  go_loopw [6, 7] (fun v i wr => ∃ k : Nat, i = .int .i64 (min ay by' + (k : Int)) ∧ (k : Int) ≤ max ay by' - min ay by' + 1 ∧ StO w [.blk (w.heap.size + 1) (.cells #[.int .i64 bx, .int .i64 by'] 28), .blk w.heap.size (.cells #[.int .i64 ax, .int .i64 ay] 28)] N1 39 3 encS v (rectN ⟨ax, ay⟩ ⟨bx, by'⟩ k) wr) (fun _ i _ => (max ay by' + 1 - intOf i).toNat)
  case atStart => exact ⟨0, by simp, by omega, HO.out⟩
  case round =>
    obtain ⟨k, rfl, hk, ho⟩ := hrel
    clear HO
    have HO := Lib.hid ho
    clear ho
    have HLEN := Lib.hid (rectN_len ⟨ax, ay⟩ ⟨bx, by'⟩ k)
    have HT := Lib.hid (rectN_succ ⟨ax, ay⟩ ⟨bx, by'⟩ k)
    have k0 := cell_of_block (k := 0) (HO.out.st.blockAt 1 rfl) rfl
    have k1 := cell_of_block (k := 1) (HO.out.st.blockAt 1 rfl) rfl
    have e0 := cell_of_block (k := 0) (HO.out.st.blockAt 0 rfl) rfl
    have e1 := cell_of_block (k := 1) (HO.out.st.blockAt 0 rfl) rfl
    by_cases hlt : min ay by' + (k : Int) ≤ max ay by'
    · have wk : wrap64 (min ay by' + (k : Int) + 1) = min ay by' + ((k + 1 : Nat) : Int) := by have := HRG.out; unfold wrap64; omega
      go_wp2_with (at_builtin; refine wpList_app1 rowS encS_len encS_one HO.out (Below.refl _ _) ⟨min ay by' + (k : Int), min ax bx, max ax bx⟩ _ rfl (by have := HLEN.out; have := HRG.out; omega) (by decide) _ _ rfl rfl rfl _ rfl (by simp) ?_; intro v' w5 ho5 hsh; have HO5 := Lib.hid ho5; clear ho5 hsh)
      go_roundw
      case rel => exact ⟨k + 1, by rw [wk], by omega, by rw [HT.out]; exact HO5.out⟩
      case measure => simp [intOf]; omega
    · have HE := Lib.hid (show (max ay by' - min ay by' + 1).toNat = k by omega)
      clear hk
      go_wp2_with fail
      refine bodyPost_ret (v := .tuple #[_, .int .i64 0]) (by simp [results, Try.results25, go_sem]; rfl) rfl ⟨_, by rw [HDa.out, HDb.out]; rfl, ?_, HO.out.st.low⟩
      rw [show rectL (PtT.mk ax ay) (PtT.mk bx by') = rectN (PtT.mk ax ay) (PtT.mk bx by') k by unfold rectL; rw [HDa.out, HDb.out]; simp only [Bool.and_self, cond_true]; rw [HE.out]]
      exact ownsRow_mono HO.out.row HO.out.low
end Go.Proofs.Ytflbcabjefpojaa
