/- Merged texts: Pen PenL. -/
import Derived.Test.YthcdkkmjnglmjaaGreatDoorM8
import Derived.Test.YthcdkkmjnglmjaaGreatDoorM5
import Derived.Test.YthcdkkmjnglmjaaGreatDoorM7
import Derived.ScopeJumps
set_option linter.unusedSimpArgs false
set_option linter.unusedVariables false
/- shape: the pen's step. -/
namespace Go.Proofs.YthcdkkmjnglmjaaGreatDoor
open Go.RowKit Go.Shelf
/-- A pen's block. -/
def PenAt (p : Nat) (x y lx ly sx sy n m r : Int) (w : World) : Prop :=
 w.heap[p]? = some (.cells #[.int .i64 x, .int .i64 y, .int .i64 lx, .int .i64 ly, .int .i64 sx, .int .i64 sy, .int .i64 n, .int .i64 m, .int .i64 r] 142 (0, 0))
theorem PenAt.kept {p : Nat} {x y lx ly sx sy n m r : Int} {w w' : World} (h : PenAt p x y lx ly sx sy n m r w) (hb : Below w.heap.size w w') : PenAt p x y lx ly sx sy n m r w' := (hb.block p (b7t h)).trans h
theorem PenAt.setX {p : Nat} {x y lx ly sx sy n m r : Int} {w : World} (h : PenAt p x y lx ly sx sy n m r w) (x' : Int) : PenAt p x' y lx ly sx sy n m r (w.setCell ⟨p, 0, none⟩ (.int .i64 x')) := h7s h _
theorem PenAt.setY {p : Nat} {x y lx ly sx sy n m r : Int} {w : World} (h : PenAt p x y lx ly sx sy n m r w) (y' : Int) : PenAt p x y' lx ly sx sy n m r (w.setCell ⟨p, 1, none⟩ (.int .i64 y')) := h7s h _
theorem PenAt.setR {p : Nat} {x y lx ly sx sy n m r : Int} {w : World} (h : PenAt p x y lx ly sx sy n m r w) (r' : Int) : PenAt p x y lx ly sx sy n m r' (w.setCell ⟨p, 8, none⟩ (.int .i64 r')) := h7s h _
/-- As PenAt, the first cell written or not. -/
def PenJ (p : Nat) (x' x y lx ly sx sy n m r : Int) (b : Bool) (w : World) : Prop := PenAt p (cond b x' x) y lx ly sx sy n m r w
set_option maxRecDepth 100000 in
set_option maxHeartbeats 4000000 in
theorem pen_next (p : Nat) (x y lx ly sx sy n m r : Int) (hs : (-1000 ≤ x ∧ x ≤ 1000) ∧ (-1000 ≤ y ∧ y ≤ 1000) ∧ (-1 ≤ lx ∧ lx ≤ 1) ∧ (-1 ≤ ly ∧ ly ≤ 1) ∧ (-1 ≤ sx ∧ sx ≤ 1) ∧ (-1 ≤ sy ∧ sy ≤ 1) ∧ (0 ≤ n ∧ n ≤ 1000) ∧ (0 ≤ m ∧ m ≤ 1000) ∧ (-10000 ≤ r ∧ r ≤ 10000)) (w : World) (hp : PenAt p x y lx ly sx sy n m r w) :
 Calls Tryz.prog 99 #[.pointer (some ⟨p, 0, none⟩)] w fun e w' => e = .returned (.tuple #[]) ∧ Turned (fun k => k = p) w w' ∧
  (if 2 * n ≤ r + 2 * m then PenAt p (x + lx + sx) (y + ly + sy) lx ly sx sy n m (r + 2 * m - 2 * n) w' else PenAt p (x + lx) (y + ly) lx ly sx sy n m (r + 2 * m) w') := by
 have HB := H7 hs
 have HP := H7 hp
 clear hp hs
 have E1 := H7 (show wrap64 (x + lx) = x + lx by have := HB.out; unfold wrap64; omega)
 have E2 := H7 (show wrap64 (y + ly) = y + ly by have := HB.out; unfold wrap64; omega)
 have E3 := H7 (show wrap64 (2 * m) = 2 * m by have := HB.out; unfold wrap64; omega)
 have E4 := H7 (show wrap64 (2 * n) = 2 * n by have := HB.out; unfold wrap64; omega)
 have E5 := H7 (show wrap64 (r + 2 * m) = r + 2 * m by have := HB.out; unfold wrap64; omega)
 have E6 := H7 (show wrap64 (r + 2 * m - 2 * n) = r + 2 * m - 2 * n by have := HB.out; unfold wrap64; omega)
 have E7 := H7 (show wrap64 (x + lx + sx) = x + lx + sx by have := HB.out; unfold wrap64; omega)
 have E8 := H7 (show wrap64 (y + ly + sy) = y + ly + sy by have := HB.out; unfold wrap64; omega)
 have HG := H7 (below_grown (B7 w.heap.size w) : w.grownBy w none)
 go_enter Tryz.func99, Tryz.ntmps99
 repeat ((fail_if_success (with_reducible refine stop_at (id := 0) ?_)); (first | go_values | go_skip | go_guarded | go_step | go_upon | go_back | (simp only [Int.not_lt, Int.not_le] at *; go_simp) | (go_values <;> (try go_simp)) | (go_ite <;> go_prune <;> (try go_simp)) | (split <;> (first | (rename_i hx; exact (hx _ rfl).elim) | go_prune))))
 refine (wpIn_wide (n := 0)).1 ?_
 apply wp_region_store 28 27 (fun b_ w_ => PenJ p (x + lx) x y lx ly sx sy n m r b_ w_) (Rl := [(eqv _), (eqv _), (eqv _), (eqv _), (eqv _), (eqv _), (eqv _), (eqv _), (eqv _), (eqv _), (eqv _), (eqv _), (eqv _), (eqv _), (eqv _), (eqv _), (eqv _), (eqv _), (eqv _), (eqv _), (eqv _), (eqv _), (eqv _), (eqv _), (eqv _), (eqv _), (eqv _), (fun v_ w_ => True)]) (C := (fun a_ b_ => a_.grownBy b_ (some p))) (C0 := (fun a_ b_ => Below a_.heap.size a_ b_))
 case hm => kernel_rfl
 case hk => rfl
 case hCr => exact (fun a_ => World.grownBy.refl a_ _)
 case hCt => intro _ _ _; exact (fun h k => grownTrans h k)
 case h00 => exact (fun a_ => B7 _ a_)
 case h0C => intro _ _; exact fun h => ⟨h.os, h.tape, h.output, h.size, fun k hk _ => h.block k hk⟩
 case hst => exact ⟨fun _ _ _ _ h => h, fun _ _ _ _ h => h, fun _ _ _ _ h => h, fun _ _ _ _ h => h, fun _ _ _ _ h => h, fun _ _ _ _ h => h, fun _ _ _ _ h => h, fun _ _ _ _ h => h, fun _ _ _ _ h => h, fun _ _ _ _ h => h, fun _ _ _ _ h => h, fun _ _ _ _ h => h, fun _ _ _ _ h => h, fun _ _ _ _ h => h, fun _ _ _ _ h => h, fun _ _ _ _ h => h, fun _ _ _ _ h => h, fun _ _ _ _ h => h, fun _ _ _ _ h => h, fun _ _ _ _ h => h, fun _ _ _ _ h => h, fun _ _ _ _ h => h, fun _ _ _ _ h => h, fun _ _ _ _ h => h, fun _ _ _ _ h => h, fun _ _ _ _ h => h, fun _ _ _ _ h => h, fun v x y hC h => trivial, trivial⟩
 case hfo => kernel_rfl
 case ht => kernel_rfl
 case hC0 => exact (⟨rfl, rfl, rfl, Nat.le_refl _, fun _ _ _ => rfl⟩)
 case hsk => decide
 case hso => decide
 case hsg => rfl
 case hsteps =>
  refine ⟨?_, ?_, ?_, ?_, ?_, ?_, ?_, ?_, ?_, ?_, ?_, ?_, ?_, ?_, ?_, ?_, ?_, ?_, ?_, ?_, ?_, ?_, ?_, ?_, ?_, ?_, ?_, ?_, trivial⟩
  · intro a' w' b_ hA hC hJ hB1 hB2 hD
    obtain rfl := hB1 (by kernel_rfl)
    clear hB1 hB2
    have s0 := hA.to 0 (by kernel_rfl) rfl; clear hA hD; refine o7p rfl ?_; intro K hK; gi_wp2; exact hK _ _ rfl ⟨(fun a_ => B7 _ a_) _, hJ⟩
  · intro a' w' b_ hA hC hJ hB1 hB2 hD
    skip
    clear hB1 hB2
    have s0 := hA.to 0 (by kernel_rfl) rfl; clear hA hD; refine o7p rfl ?_; intro K hK; gi_wp2; exact hK _ _ rfl ⟨(fun a_ => B7 _ a_) _, hJ⟩
  · intro a' w' b_ hA hC hJ hB1 hB2 hD
    obtain rfl := hB1 (by kernel_rfl)
    clear hB1 hB2
    have s0 := hA.to 0 (by kernel_rfl) rfl; clear hA hD; refine o7p rfl ?_; intro K hK; gi_wp2; exact hK _ _ rfl ⟨(fun a_ => B7 _ a_) _, hJ⟩
  · intro a' w' b_ hA hC hJ hB1 hB2 hD
    obtain rfl := hB1 (by kernel_rfl)
    clear hB1 hB2
    obtain ⟨u4, s4, rfl⟩ := hD ⟨2, .data⟩ (by simp) rfl _ rfl; clear hA hD; refine o7p rfl ?_; intro K hK; gi_wp2; exact hK _ _ rfl ⟨(fun a_ => B7 _ a_) _, hJ⟩
  · intro a' w' b_ hA hC hJ hB1 hB2 hD
    obtain rfl := hB1 (by kernel_rfl)
    clear hB1 hB2
    obtain ⟨u5, s5, rfl⟩ := hD ⟨3, .data⟩ (by simp) rfl _ rfl; clear hA hD; refine o7p rfl ?_; intro K hK; gi_wp2; exact hK _ _ rfl ⟨(fun a_ => B7 _ a_) _, hJ⟩
  · intro a' w' b_ hA hC hJ hB1 hB2 hD
    obtain rfl := hB1 (by kernel_rfl)
    clear hB1 hB2
    obtain ⟨u6, s6, rfl⟩ := hD ⟨4, .data⟩ (by simp) rfl _ rfl; clear hA hD; refine o7p rfl ?_; intro K hK; gi_wp2; exact hK _ _ rfl ⟨(fun a_ => B7 _ a_) _, hJ⟩
  · intro a' w' b_ hA hC hJ hB1 hB2 hD
    obtain rfl := hB1 (by kernel_rfl)
    clear hB1 hB2
    obtain ⟨u7, s7, rfl⟩ := hD ⟨5, .data⟩ (by simp) rfl _ rfl
    have b1 := c7b (k := 0) hJ rfl
    clear hA hD; refine o7p rfl ?_; intro K hK; gi_wp2; exact hK _ _ rfl ⟨(fun a_ => B7 _ a_) _, hJ⟩
  · intro a' w' b_ hA hC hJ hB1 hB2 hD
    obtain rfl := hB1 (by kernel_rfl)
    clear hB1 hB2
    have s0 := hA.to 0 (by kernel_rfl) rfl; clear hA hD; refine o7p rfl ?_; intro K hK; gi_wp2; exact hK _ _ rfl ⟨(fun a_ => B7 _ a_) _, hJ⟩
  · intro a' w' b_ hA hC hJ hB1 hB2 hD
    obtain rfl := hB1 (by kernel_rfl)
    clear hB1 hB2
    obtain ⟨u9, s9, rfl⟩ := hD ⟨7, .data⟩ (by simp) rfl _ rfl; clear hA hD; refine o7p rfl ?_; intro K hK; gi_wp2; exact hK _ _ rfl ⟨(fun a_ => B7 _ a_) _, hJ⟩
  · intro a' w' b_ hA hC hJ hB1 hB2 hD
    obtain rfl := hB1 (by kernel_rfl)
    clear hB1 hB2
    obtain ⟨u10, s10, rfl⟩ := hD ⟨8, .data⟩ (by simp) rfl _ rfl; clear hA hD; refine o7p rfl ?_; intro K hK; gi_wp2; exact hK _ _ rfl ⟨(fun a_ => B7 _ a_) _, hJ⟩
  · intro a' w' b_ hA hC hJ hB1 hB2 hD
    obtain rfl := hB1 (by kernel_rfl)
    clear hB1 hB2
    obtain ⟨u11, s11, rfl⟩ := hD ⟨9, .data⟩ (by simp) rfl _ rfl; clear hA hD; refine o7p rfl ?_; intro K hK; gi_wp2; exact hK _ _ rfl ⟨(fun a_ => B7 _ a_) _, hJ⟩
  · intro a' w' b_ hA hC hJ hB1 hB2 hD
    obtain rfl := hB1 (by kernel_rfl)
    clear hB1 hB2
    obtain ⟨u12, s12, rfl⟩ := hD ⟨10, .data⟩ (by simp) rfl _ rfl
    have b1 := c7b (k := 2) hJ rfl
    clear hA hD; refine o7p rfl ?_; intro K hK; gi_wp2; exact hK _ _ rfl ⟨(fun a_ => B7 _ a_) _, hJ⟩
  · intro a' w' b_ hA hC hJ hB1 hB2 hD
    obtain rfl := hB1 (by kernel_rfl)
    clear hB1 hB2
    obtain ⟨u8, s8, rfl⟩ := hD ⟨6, .data⟩ (by simp) rfl _ rfl; obtain ⟨u13, s13, rfl⟩ := hD ⟨11, .data⟩ (by simp) rfl _ rfl; clear hA hD; refine o7p rfl ?_; intro K hK; gi_wp2; rw [E1.out]; exact hK _ _ rfl ⟨(fun a_ => B7 _ a_) _, hJ⟩
  · intro a' w' b_ hA hC hJ hB1 hB2 hD
    obtain rfl := hB1 (by kernel_rfl)
    clear hB1 hB2
    have s0 := hA.to 0 (by kernel_rfl) rfl; clear hA hD; refine o7p rfl ?_; intro K hK; gi_wp2; exact hK _ _ rfl ⟨(fun a_ => B7 _ a_) _, hJ⟩
  · intro a' w' b_ hA hC hJ hB1 hB2 hD
    obtain rfl := hB1 (by kernel_rfl)
    clear hB1 hB2
    obtain ⟨u15, s15, rfl⟩ := hD ⟨13, .data⟩ (by simp) rfl _ rfl; clear hA hD; refine o7p rfl ?_; intro K hK; gi_wp2; exact hK _ _ rfl ⟨(fun a_ => B7 _ a_) _, hJ⟩
  · intro a' w' b_ hA hC hJ hB1 hB2 hD
    obtain rfl := hB1 (by kernel_rfl)
    clear hB1 hB2
    obtain ⟨u16, s16, rfl⟩ := hD ⟨14, .data⟩ (by simp) rfl _ rfl; clear hA hD; refine o7p rfl ?_; intro K hK; gi_wp2; exact hK _ _ rfl ⟨(fun a_ => B7 _ a_) _, hJ⟩
  · intro a' w' b_ hA hC hJ hB1 hB2 hD
    obtain rfl := hB1 (by kernel_rfl)
    clear hB1 hB2
    obtain ⟨u17, s17, rfl⟩ := hD ⟨15, .data⟩ (by simp) rfl _ rfl; clear hA hD; refine o7p rfl ?_; intro K hK; gi_wp2; exact hK _ _ rfl ⟨(fun a_ => B7 _ a_) _, hJ⟩
  · intro a' w' b_ hA hC hJ hB1 hB2 hD
    obtain rfl := hB1 (by kernel_rfl)
    clear hB1 hB2
    obtain ⟨u18, s18, rfl⟩ := hD ⟨16, .data⟩ (by simp) rfl _ rfl
    have b1 := c7b (k := 1) hJ rfl
    clear hA hD; refine o7p rfl ?_; intro K hK; gi_wp2; exact hK _ _ rfl ⟨(fun a_ => B7 _ a_) _, hJ⟩
  · intro a' w' b_ hA hC hJ hB1 hB2 hD
    obtain rfl := hB1 (by kernel_rfl)
    clear hB1 hB2
    have s0 := hA.to 0 (by kernel_rfl) rfl; clear hA hD; refine o7p rfl ?_; intro K hK; gi_wp2; exact hK _ _ rfl ⟨(fun a_ => B7 _ a_) _, hJ⟩
  · intro a' w' b_ hA hC hJ hB1 hB2 hD
    obtain rfl := hB1 (by kernel_rfl)
    clear hB1 hB2
    obtain ⟨u20, s20, rfl⟩ := hD ⟨18, .data⟩ (by simp) rfl _ rfl; clear hA hD; refine o7p rfl ?_; intro K hK; gi_wp2; exact hK _ _ rfl ⟨(fun a_ => B7 _ a_) _, hJ⟩
  · intro a' w' b_ hA hC hJ hB1 hB2 hD
    obtain rfl := hB1 (by kernel_rfl)
    clear hB1 hB2
    obtain ⟨u21, s21, rfl⟩ := hD ⟨19, .data⟩ (by simp) rfl _ rfl; clear hA hD; refine o7p rfl ?_; intro K hK; gi_wp2; exact hK _ _ rfl ⟨(fun a_ => B7 _ a_) _, hJ⟩
  · intro a' w' b_ hA hC hJ hB1 hB2 hD
    obtain rfl := hB1 (by kernel_rfl)
    clear hB1 hB2
    obtain ⟨u22, s22, rfl⟩ := hD ⟨20, .data⟩ (by simp) rfl _ rfl; clear hA hD; refine o7p rfl ?_; intro K hK; gi_wp2; exact hK _ _ rfl ⟨(fun a_ => B7 _ a_) _, hJ⟩
  · intro a' w' b_ hA hC hJ hB1 hB2 hD
    obtain rfl := hB1 (by kernel_rfl)
    clear hB1 hB2
    obtain ⟨u23, s23, rfl⟩ := hD ⟨21, .data⟩ (by simp) rfl _ rfl
    have b1 := c7b (k := 3) hJ rfl
    clear hA hD; refine o7p rfl ?_; intro K hK; gi_wp2; exact hK _ _ rfl ⟨(fun a_ => B7 _ a_) _, hJ⟩
  · intro a' w' b_ hA hC hJ hB1 hB2 hD
    skip
    clear hB1 hB2
    obtain ⟨u19, s19, rfl⟩ := hD ⟨17, .data⟩ (by simp) rfl _ rfl; obtain ⟨u24, s24, rfl⟩ := hD ⟨22, .data⟩ (by simp) rfl _ rfl; clear hA hD; refine o7p rfl ?_; intro K hK; gi_wp2; rw [E2.out]; exact hK _ _ rfl ⟨(fun a_ => B7 _ a_) _, hJ⟩
  · intro a' w' b_ hA hC hJ hB1 hB2 hD
    obtain rfl := hB1 (by kernel_rfl)
    clear hB1 hB2
    obtain ⟨u2, s2, rfl⟩ := hD ⟨0, .data⟩ (by simp) rfl _ rfl; clear hA hD; refine o7p rfl ?_; intro K hK; gi_wp2; exact hK _ _ rfl ⟨(fun a_ => B7 _ a_) _, hJ⟩
  · intro a' w' b_ hA hC hJ hB1 hB2 hD
    obtain rfl := hB1 (by kernel_rfl)
    clear hB1 hB2
    obtain ⟨u26, s26, rfl⟩ := hD ⟨24, .data⟩ (by simp) rfl _ rfl; clear hA hD; refine o7p rfl ?_; intro K hK; gi_wp2; exact hK _ _ rfl ⟨(fun a_ => B7 _ a_) _, hJ⟩
  · intro a' w' b_ hA hC hJ hB1 hB2 hD
    obtain rfl := hB1 (by kernel_rfl)
    clear hB1 hB2
    obtain ⟨u27, s27, rfl⟩ := hD ⟨25, .data⟩ (by simp) rfl _ rfl; clear hA hD; refine o7p rfl ?_; intro K hK; gi_wp2; exact hK _ _ rfl ⟨(fun a_ => B7 _ a_) _, hJ⟩
  · intro a' w' b_ hA hC hJ hB1 hB2 hD
    obtain rfl := hB2 rfl
    clear hB1 hB2
    obtain ⟨u28, s28, rfl⟩ := hD ⟨26, .data⟩ (by simp) rfl _ rfl; obtain ⟨u14, s14, rfl⟩ := hD ⟨12, .data⟩ (by simp) rfl _ rfl
    have b1 := c7b (k := 0) hJ rfl; have b2 := f7b hJ
    clear hA hD; refine o7p rfl ?_; intro K hK; gi_wp2; exact hK undef _ trivial ⟨g7c _ _ _ _, (show PenJ p (x + lx) x y lx ly sx sy n m r true _ from PenAt.setX hJ _)⟩
 case hJ0 => exact HP.out
 case hend =>
  intro w2 hC hJ
  simp only [EndFrom, eqv, forall_eq, Act.put, List.length_cons, List.length_nil, List.drop_succ_cons, List.drop_zero, Nat.reduceAdd, List.setIfInBounds_toArray, List.set_cons_succ, List.set_cons_zero]
  intro v_ _
  have h2 : PenAt p (x + lx) y lx ly sx sy n m r w2 := hJ
  have c0 := c7b (k := 1) h2 rfl
  have f0 := f7b h2
  have HC := H7 hC
  have HP2 := H7 h2
  clear hC hJ h2
  gi_wp2
  have HP3 := H7 (HP2.out.setY (y + ly))
  have HC3 := H7 (grownTrans HC.out (g7c w2 p 1 (.int .i64 (y + ly))))
  clear c0 f0 HC HP2
  obtain ⟨w3, hw3⟩ : ∃ w3, w2.setCell ⟨p, 1, none⟩ (.int .i64 (y + ly)) = w3 := ⟨_, rfl⟩
  rw [hw3] at HP3 HC3
  first | rw [hw3] | simp only [hw3]
  clear hw3
  repeat ((fail_if_success (with_reducible refine stop_at (id := 1) ?_)); (first | go_values | go_skip | go_guarded | go_step | go_upon | go_back | (simp only [Int.not_lt, Int.not_le] at *; go_simp) | (go_values <;> (try go_simp)) | (go_ite <;> go_prune <;> (try go_simp)) | (split <;> (first | (rename_i hx; exact (hx _ rfl).elim) | go_prune))))
  refine (wpIn_wide (n := 0)).1 ?_
  apply w7v 10 (Rl := [(eqv _), (eqv _), (eqv _), (eqv _), (eqv _), (eqv _), (eqv _), (eqv _), (eqv _), (eqv _)]) (C := (fun x y => Below x.heap.size x y))
  case hm => kernel_rfl
  case hk => rfl
  case hCr => exact (fun _ => B7 _ _)
  case hCt => intro _ _ _; exact (fun h k => g7t h k)
  case hst => repeat (first | exact trivial | refine ⟨fun _ _ _ _ h => h, ?_⟩)
  case hfo => kernel_rfl
  case ht => kernel_rfl
  case hC0 => exact (g7d _)
  case hsteps =>
   refine ⟨?_, ?_, ?_, ?_, ?_, ?_, ?_, ?_, ?_, ?_, trivial⟩
   · intro a' w' hA hC hD; have s0 := hA.to 0 (by kernel_rfl) rfl; clear hA hD; refine o7p rfl ?_; intro K hK; gi_wp2; exact hK _ _ rfl (B7 _ _)
   · intro a' w' hA hC hD; obtain ⟨u32, s32, rfl⟩ := hD ⟨0, .data⟩ (by simp) rfl _ rfl; clear hA hD; refine o7p rfl ?_; intro K hK; gi_wp2; exact hK _ _ rfl (B7 _ _)
   · intro a' w' hA hC hD; obtain ⟨u33, s33, rfl⟩ := hD ⟨1, .data⟩ (by simp) rfl _ rfl; clear hA hD; refine o7p rfl ?_; intro K hK; gi_wp2; exact hK _ _ rfl (B7 _ _)
   · intro a' w' hA hC hD; obtain ⟨u34, s34, rfl⟩ := hD ⟨2, .data⟩ (by simp) rfl _ rfl
     have b1 := c7b (k := 8) (HP3.out.kept hC) rfl
     clear hA hD; refine o7p rfl ?_; intro K hK; gi_wp2; exact hK _ _ rfl (B7 _ _)
   · intro a' w' hA hC hD; have s0 := hA.to 0 (by kernel_rfl) rfl; clear hA hD; refine o7p rfl ?_; intro K hK; gi_wp2; exact hK _ _ rfl (B7 _ _)
   · intro a' w' hA hC hD; obtain ⟨u36, s36, rfl⟩ := hD ⟨4, .data⟩ (by simp) rfl _ rfl; clear hA hD; refine o7p rfl ?_; intro K hK; gi_wp2; exact hK _ _ rfl (B7 _ _)
   · intro a' w' hA hC hD; obtain ⟨u37, s37, rfl⟩ := hD ⟨5, .data⟩ (by simp) rfl _ rfl; clear hA hD; refine o7p rfl ?_; intro K hK; gi_wp2; exact hK _ _ rfl (B7 _ _)
   · intro a' w' hA hC hD; obtain ⟨u38, s38, rfl⟩ := hD ⟨6, .data⟩ (by simp) rfl _ rfl
     have b1 := c7b (k := 7) (HP3.out.kept hC) rfl
     clear hA hD; refine o7p rfl ?_; intro K hK; gi_wp2; exact hK _ _ rfl (B7 _ _)
   · intro a' w' hA hC hD; obtain ⟨u39, s39, rfl⟩ := hD ⟨7, .data⟩ (by simp) rfl _ rfl; clear hA hD; refine o7p rfl ?_; intro K hK; gi_wp2; rw [E3.out]; exact hK _ _ rfl (B7 _ _)
   · intro a' w' hA hC hD; obtain ⟨u35, s35, rfl⟩ := hD ⟨3, .data⟩ (by simp) rfl _ rfl; obtain ⟨u40, s40, rfl⟩ := hD ⟨8, .data⟩ (by simp) rfl _ rfl; clear hA hD; refine o7p rfl ?_; intro K hK; gi_wp2; rw [E5.out]; exact hK _ _ rfl (B7 _ _)
  case hend =>
   intro w4 hC
   simp only [EndFrom, eqv, forall_eq, Act.put, List.length_cons, List.length_nil, List.drop_succ_cons, List.drop_zero, Nat.reduceAdd, List.setIfInBounds_toArray, List.set_cons_succ, List.set_cons_zero]
   have h4 := HP3.out.kept hC
   have HC4 := H7 (show w.grownBy w4 (some p) from grownTrans HC3.out ⟨hC.os, hC.tape, hC.output, hC.size, fun k hk _ => hC.block k hk⟩)
   have c0 := c7b (k := 8) h4 rfl
   have f0 := f7b h4
   have HP4 := H7 h4
   clear HP3 HC3 hC h4
   gi_wp2
   have HP5 := H7 (HP4.out.setR (r + 2 * m))
   have HC5 := H7 (grownTrans HC4.out (g7c w4 p 8 (.int .i64 (r + 2 * m))))
   clear c0 f0 HC4 HP4
   obtain ⟨w5, hw5⟩ : ∃ w5, w4.setCell ⟨p, 8, none⟩ (.int .i64 (r + 2 * m)) = w5 := ⟨_, rfl⟩
   rw [hw5] at HP5 HC5
   first | rw [hw5] | simp only [hw5]
   clear hw5
   repeat ((fail_if_success (with_reducible refine stop_at (id := 2) ?_)); (first | go_values | go_skip | go_guarded | go_step | go_upon | go_back | (simp only [Int.not_lt, Int.not_le] at *; go_simp) | (go_values <;> (try go_simp)) | (go_ite <;> go_prune <;> (try go_simp)) | (split <;> (first | (rename_i hx; exact (hx _ rfl).elim) | go_prune))))
   refine (wpIn_wide (n := 0)).1 ?_
   apply w7v 10 (Rl := [(eqv _), (eqv _), (eqv _), (eqv _), (eqv _), (eqv _), (eqv _), (eqv _), (eqv _), (eqv _)]) (C := (fun x y => Below x.heap.size x y))
   case hm => kernel_rfl
   case hk => rfl
   case hCr => exact (fun _ => B7 _ _)
   case hCt => intro _ _ _; exact (fun h k => g7t h k)
   case hst => repeat (first | exact trivial | refine ⟨fun _ _ _ _ h => h, ?_⟩)
   case hfo => kernel_rfl
   case ht => kernel_rfl
   case hC0 => exact (g7d _)
   case hsteps =>
    refine ⟨?_, ?_, ?_, ?_, ?_, ?_, ?_, ?_, ?_, ?_, trivial⟩
    · intro a' w' hA hC hD; have s0 := hA.to 0 (by kernel_rfl) rfl; clear hA hD; refine o7p rfl ?_; intro K hK; gi_wp2; exact hK _ _ rfl (B7 _ _)
    · intro a' w' hA hC hD; obtain ⟨u44, s44, rfl⟩ := hD ⟨0, .data⟩ (by simp) rfl _ rfl; clear hA hD; refine o7p rfl ?_; intro K hK; gi_wp2; exact hK _ _ rfl (B7 _ _)
    · intro a' w' hA hC hD; obtain ⟨u45, s45, rfl⟩ := hD ⟨1, .data⟩ (by simp) rfl _ rfl; clear hA hD; refine o7p rfl ?_; intro K hK; gi_wp2; exact hK _ _ rfl (B7 _ _)
    · intro a' w' hA hC hD; obtain ⟨u46, s46, rfl⟩ := hD ⟨2, .data⟩ (by simp) rfl _ rfl
      have b1 := c7b (k := 8) (HP5.out.kept hC) rfl
      clear hA hD; refine o7p rfl ?_; intro K hK; gi_wp2; exact hK _ _ rfl (B7 _ _)
    · intro a' w' hA hC hD; have s0 := hA.to 0 (by kernel_rfl) rfl; clear hA hD; refine o7p rfl ?_; intro K hK; gi_wp2; exact hK _ _ rfl (B7 _ _)
    · intro a' w' hA hC hD; obtain ⟨u48, s48, rfl⟩ := hD ⟨4, .data⟩ (by simp) rfl _ rfl; clear hA hD; refine o7p rfl ?_; intro K hK; gi_wp2; exact hK _ _ rfl (B7 _ _)
    · intro a' w' hA hC hD; obtain ⟨u49, s49, rfl⟩ := hD ⟨5, .data⟩ (by simp) rfl _ rfl; clear hA hD; refine o7p rfl ?_; intro K hK; gi_wp2; exact hK _ _ rfl (B7 _ _)
    · intro a' w' hA hC hD; obtain ⟨u50, s50, rfl⟩ := hD ⟨6, .data⟩ (by simp) rfl _ rfl
      have b1 := c7b (k := 6) (HP5.out.kept hC) rfl
      clear hA hD; refine o7p rfl ?_; intro K hK; gi_wp2; exact hK _ _ rfl (B7 _ _)
    · intro a' w' hA hC hD; obtain ⟨u51, s51, rfl⟩ := hD ⟨7, .data⟩ (by simp) rfl _ rfl; clear hA hD; refine o7p rfl ?_; intro K hK; gi_wp2; rw [E4.out]; exact hK _ _ rfl (B7 _ _)
    · intro a' w' hA hC hD; obtain ⟨u47, s47, rfl⟩ := hD ⟨3, .data⟩ (by simp) rfl _ rfl; obtain ⟨u52, s52, rfl⟩ := hD ⟨8, .data⟩ (by simp) rfl _ rfl; clear hA hD; refine o7p rfl ?_; intro K hK; gi_wp2; exact hK _ _ rfl (B7 _ _)
   case hend =>
    intro w6 hC
    simp only [EndFrom, eqv, forall_eq, Act.put, List.length_cons, List.length_nil, List.drop_succ_cons, List.drop_zero, Nat.reduceAdd, List.setIfInBounds_toArray, List.set_cons_succ, List.set_cons_zero]
    have HP6 := H7 (HP5.out.kept hC)
    have HC6 := H7 (show w.grownBy w6 (some p) from grownTrans HC5.out ⟨hC.os, hC.tape, hC.output, hC.size, fun k hk _ => hC.block k hk⟩)
    clear HP5 HC5 hC
    gi_wp2
    by_cases hge : 2 * n ≤ r + 2 * m
    · have HGE := H7 hge
      repeat ((fail_if_success (with_reducible refine stop_at (id := 3) ?_)); (first | go_values | go_skip | go_guarded | go_step | go_upon | go_back | (simp only [Int.not_lt, Int.not_le] at *; go_simp) | (go_values <;> (try go_simp)) | (go_ite <;> go_prune <;> (try go_simp)) | (split <;> (first | (rename_i hx; exact (hx _ rfl).elim) | go_prune))))
      refine (wpIn_wide (n := 0)).1 ?_
      clear hge
      apply w7v 10 (Rl := [(eqv _), (eqv _), (eqv _), (eqv _), (eqv _), (eqv _), (eqv _), (eqv _), (eqv _), (eqv _)]) (C := (fun x y => Below x.heap.size x y))
      case hm => kernel_rfl
      case hk => rfl
      case hCr => exact (fun _ => B7 _ _)
      case hCt => intro _ _ _; exact (fun h k => g7t h k)
      case hst => repeat (first | exact trivial | refine ⟨fun _ _ _ _ h => h, ?_⟩)
      case hfo => kernel_rfl
      case ht => kernel_rfl
      case hC0 => exact (g7d _)
      case hsteps =>
       refine ⟨?_, ?_, ?_, ?_, ?_, ?_, ?_, ?_, ?_, ?_, trivial⟩
       · intro a' w' hA hC hD; have s0 := hA.to 0 (by kernel_rfl) rfl; clear hA hD; refine o7p rfl ?_; intro K hK; gi_wp2; exact hK _ _ rfl (B7 _ _)
       · intro a' w' hA hC hD; obtain ⟨u54, s54, rfl⟩ := hD ⟨0, .data⟩ (by simp) rfl _ rfl; clear hA hD; refine o7p rfl ?_; intro K hK; gi_wp2; exact hK _ _ rfl (B7 _ _)
       · intro a' w' hA hC hD; obtain ⟨u55, s55, rfl⟩ := hD ⟨1, .data⟩ (by simp) rfl _ rfl; clear hA hD; refine o7p rfl ?_; intro K hK; gi_wp2; exact hK _ _ rfl (B7 _ _)
       · intro a' w' hA hC hD; obtain ⟨u56, s56, rfl⟩ := hD ⟨2, .data⟩ (by simp) rfl _ rfl
         have b1 := c7b (k := 8) (HP6.out.kept hC) rfl
         clear hA hD; refine o7p rfl ?_; intro K hK; gi_wp2; exact hK _ _ rfl (B7 _ _)
       · intro a' w' hA hC hD; have s0 := hA.to 0 (by kernel_rfl) rfl; clear hA hD; refine o7p rfl ?_; intro K hK; gi_wp2; exact hK _ _ rfl (B7 _ _)
       · intro a' w' hA hC hD; obtain ⟨u58, s58, rfl⟩ := hD ⟨4, .data⟩ (by simp) rfl _ rfl; clear hA hD; refine o7p rfl ?_; intro K hK; gi_wp2; exact hK _ _ rfl (B7 _ _)
       · intro a' w' hA hC hD; obtain ⟨u59, s59, rfl⟩ := hD ⟨5, .data⟩ (by simp) rfl _ rfl; clear hA hD; refine o7p rfl ?_; intro K hK; gi_wp2; exact hK _ _ rfl (B7 _ _)
       · intro a' w' hA hC hD; obtain ⟨u60, s60, rfl⟩ := hD ⟨6, .data⟩ (by simp) rfl _ rfl
         have b1 := c7b (k := 6) (HP6.out.kept hC) rfl
         clear hA hD; refine o7p rfl ?_; intro K hK; gi_wp2; exact hK _ _ rfl (B7 _ _)
       · intro a' w' hA hC hD; obtain ⟨u61, s61, rfl⟩ := hD ⟨7, .data⟩ (by simp) rfl _ rfl; clear hA hD; refine o7p rfl ?_; intro K hK; gi_wp2; rw [E4.out]; exact hK _ _ rfl (B7 _ _)
       · intro a' w' hA hC hD; obtain ⟨u57, s57, rfl⟩ := hD ⟨3, .data⟩ (by simp) rfl _ rfl; obtain ⟨u62, s62, rfl⟩ := hD ⟨8, .data⟩ (by simp) rfl _ rfl; clear hA hD; refine o7p rfl ?_; intro K hK; gi_wp2; rw [E6.out]; exact hK _ _ rfl (B7 _ _)
      case hend =>
       intro w7 hC
       simp only [EndFrom, eqv, forall_eq, Act.put, List.length_cons, List.length_nil, List.drop_succ_cons, List.drop_zero, Nat.reduceAdd, List.setIfInBounds_toArray, List.set_cons_succ, List.set_cons_zero]
       have h4 := HP6.out.kept hC
       have HC7 := H7 (show w.grownBy w7 (some p) from grownTrans HC6.out ⟨hC.os, hC.tape, hC.output, hC.size, fun k hk _ => hC.block k hk⟩)
       have c0 := c7b (k := 8) h4 rfl
       have f0 := f7b h4
       have HP7 := H7 h4
       clear HP6 HC6 hC h4
       gi_wp2
       have HP8 := H7 (HP7.out.setR (r + 2 * m - 2 * n))
       have HC8 := H7 (grownTrans HC7.out (g7c w7 p 8 (.int .i64 (r + 2 * m - 2 * n))))
       clear c0 f0 HC7 HP7
       obtain ⟨w8, hw8⟩ : ∃ w8, w7.setCell ⟨p, 8, none⟩ (.int .i64 (r + 2 * m - 2 * n)) = w8 := ⟨_, rfl⟩
       rw [hw8] at HP8 HC8
       first | rw [hw8] | simp only [hw8]
       clear hw8
       repeat ((fail_if_success (with_reducible refine stop_at (id := 4) ?_)); (first | go_values | go_skip | go_guarded | go_step | go_upon | go_back | (simp only [Int.not_lt, Int.not_le] at *; go_simp) | (go_values <;> (try go_simp)) | (go_ite <;> go_prune <;> (try go_simp)) | (split <;> (first | (rename_i hx; exact (hx _ rfl).elim) | go_prune))))
       refine (wpIn_wide (n := 0)).1 ?_
       apply wp_region_store 28 27 (fun b_ w_ => PenJ p (x + lx + sx) (x + lx) (y + ly) lx ly sx sy n m (r + 2 * m - 2 * n) b_ w_) (Rl := [(eqv _), (eqv _), (eqv _), (eqv _), (eqv _), (eqv _), (eqv _), (eqv _), (eqv _), (eqv _), (eqv _), (eqv _), (eqv _), (eqv _), (eqv _), (eqv _), (eqv _), (eqv _), (eqv _), (eqv _), (eqv _), (eqv _), (eqv _), (eqv _), (eqv _), (eqv _), (eqv _), (fun v_ w_ => True)]) (C := (fun a_ b_ => a_.grownBy b_ (some p))) (C0 := (fun a_ b_ => Below a_.heap.size a_ b_))
       case hm => kernel_rfl
       case hk => rfl
       case hCr => exact (fun a_ => World.grownBy.refl a_ _)
       case hCt => intro _ _ _; exact (fun h k => grownTrans h k)
       case h00 => exact (fun a_ => B7 _ a_)
       case h0C => intro _ _; exact fun h => ⟨h.os, h.tape, h.output, h.size, fun k hk _ => h.block k hk⟩
       case hst => exact ⟨fun _ _ _ _ h => h, fun _ _ _ _ h => h, fun _ _ _ _ h => h, fun _ _ _ _ h => h, fun _ _ _ _ h => h, fun _ _ _ _ h => h, fun _ _ _ _ h => h, fun _ _ _ _ h => h, fun _ _ _ _ h => h, fun _ _ _ _ h => h, fun _ _ _ _ h => h, fun _ _ _ _ h => h, fun _ _ _ _ h => h, fun _ _ _ _ h => h, fun _ _ _ _ h => h, fun _ _ _ _ h => h, fun _ _ _ _ h => h, fun _ _ _ _ h => h, fun _ _ _ _ h => h, fun _ _ _ _ h => h, fun _ _ _ _ h => h, fun _ _ _ _ h => h, fun _ _ _ _ h => h, fun _ _ _ _ h => h, fun _ _ _ _ h => h, fun _ _ _ _ h => h, fun _ _ _ _ h => h, fun v x y hC h => trivial, trivial⟩
       case hfo => kernel_rfl
       case ht => kernel_rfl
       case hC0 => exact (⟨rfl, rfl, rfl, Nat.le_refl _, fun _ _ _ => rfl⟩)
       case hsk => decide
       case hso => decide
       case hsg => rfl
       case hsteps =>
        refine ⟨?_, ?_, ?_, ?_, ?_, ?_, ?_, ?_, ?_, ?_, ?_, ?_, ?_, ?_, ?_, ?_, ?_, ?_, ?_, ?_, ?_, ?_, ?_, ?_, ?_, ?_, ?_, ?_, trivial⟩
        · intro a' w' b_ hA hC hJ hB1 hB2 hD
          obtain rfl := hB1 (by kernel_rfl)
          clear hB1 hB2
          have s0 := hA.to 0 (by kernel_rfl) rfl; clear hA hD; refine o7p rfl ?_; intro K hK; gi_wp2; exact hK _ _ rfl ⟨(fun a_ => B7 _ a_) _, hJ⟩
        · intro a' w' b_ hA hC hJ hB1 hB2 hD
          skip
          clear hB1 hB2
          have s0 := hA.to 0 (by kernel_rfl) rfl; clear hA hD; refine o7p rfl ?_; intro K hK; gi_wp2; exact hK _ _ rfl ⟨(fun a_ => B7 _ a_) _, hJ⟩
        · intro a' w' b_ hA hC hJ hB1 hB2 hD
          obtain rfl := hB1 (by kernel_rfl)
          clear hB1 hB2
          have s0 := hA.to 0 (by kernel_rfl) rfl; clear hA hD; refine o7p rfl ?_; intro K hK; gi_wp2; exact hK _ _ rfl ⟨(fun a_ => B7 _ a_) _, hJ⟩
        · intro a' w' b_ hA hC hJ hB1 hB2 hD
          obtain rfl := hB1 (by kernel_rfl)
          clear hB1 hB2
          obtain ⟨u68, s68, rfl⟩ := hD ⟨2, .data⟩ (by simp) rfl _ rfl; clear hA hD; refine o7p rfl ?_; intro K hK; gi_wp2; exact hK _ _ rfl ⟨(fun a_ => B7 _ a_) _, hJ⟩
        · intro a' w' b_ hA hC hJ hB1 hB2 hD
          obtain rfl := hB1 (by kernel_rfl)
          clear hB1 hB2
          obtain ⟨u69, s69, rfl⟩ := hD ⟨3, .data⟩ (by simp) rfl _ rfl; clear hA hD; refine o7p rfl ?_; intro K hK; gi_wp2; exact hK _ _ rfl ⟨(fun a_ => B7 _ a_) _, hJ⟩
        · intro a' w' b_ hA hC hJ hB1 hB2 hD
          obtain rfl := hB1 (by kernel_rfl)
          clear hB1 hB2
          obtain ⟨u70, s70, rfl⟩ := hD ⟨4, .data⟩ (by simp) rfl _ rfl; clear hA hD; refine o7p rfl ?_; intro K hK; gi_wp2; exact hK _ _ rfl ⟨(fun a_ => B7 _ a_) _, hJ⟩
        · intro a' w' b_ hA hC hJ hB1 hB2 hD
          obtain rfl := hB1 (by kernel_rfl)
          clear hB1 hB2
          obtain ⟨u71, s71, rfl⟩ := hD ⟨5, .data⟩ (by simp) rfl _ rfl
          have b1 := c7b (k := 0) hJ rfl
          clear hA hD; refine o7p rfl ?_; intro K hK; gi_wp2; exact hK _ _ rfl ⟨(fun a_ => B7 _ a_) _, hJ⟩
        · intro a' w' b_ hA hC hJ hB1 hB2 hD
          obtain rfl := hB1 (by kernel_rfl)
          clear hB1 hB2
          have s0 := hA.to 0 (by kernel_rfl) rfl; clear hA hD; refine o7p rfl ?_; intro K hK; gi_wp2; exact hK _ _ rfl ⟨(fun a_ => B7 _ a_) _, hJ⟩
        · intro a' w' b_ hA hC hJ hB1 hB2 hD
          obtain rfl := hB1 (by kernel_rfl)
          clear hB1 hB2
          obtain ⟨u73, s73, rfl⟩ := hD ⟨7, .data⟩ (by simp) rfl _ rfl; clear hA hD; refine o7p rfl ?_; intro K hK; gi_wp2; exact hK _ _ rfl ⟨(fun a_ => B7 _ a_) _, hJ⟩
        · intro a' w' b_ hA hC hJ hB1 hB2 hD
          obtain rfl := hB1 (by kernel_rfl)
          clear hB1 hB2
          obtain ⟨u74, s74, rfl⟩ := hD ⟨8, .data⟩ (by simp) rfl _ rfl; clear hA hD; refine o7p rfl ?_; intro K hK; gi_wp2; exact hK _ _ rfl ⟨(fun a_ => B7 _ a_) _, hJ⟩
        · intro a' w' b_ hA hC hJ hB1 hB2 hD
          obtain rfl := hB1 (by kernel_rfl)
          clear hB1 hB2
          obtain ⟨u75, s75, rfl⟩ := hD ⟨9, .data⟩ (by simp) rfl _ rfl; clear hA hD; refine o7p rfl ?_; intro K hK; gi_wp2; exact hK _ _ rfl ⟨(fun a_ => B7 _ a_) _, hJ⟩
        · intro a' w' b_ hA hC hJ hB1 hB2 hD
          obtain rfl := hB1 (by kernel_rfl)
          clear hB1 hB2
          obtain ⟨u76, s76, rfl⟩ := hD ⟨10, .data⟩ (by simp) rfl _ rfl
          have b1 := c7b (k := 4) hJ rfl
          clear hA hD; refine o7p rfl ?_; intro K hK; gi_wp2; exact hK _ _ rfl ⟨(fun a_ => B7 _ a_) _, hJ⟩
        · intro a' w' b_ hA hC hJ hB1 hB2 hD
          obtain rfl := hB1 (by kernel_rfl)
          clear hB1 hB2
          obtain ⟨u72, s72, rfl⟩ := hD ⟨6, .data⟩ (by simp) rfl _ rfl; obtain ⟨u77, s77, rfl⟩ := hD ⟨11, .data⟩ (by simp) rfl _ rfl; clear hA hD; refine o7p rfl ?_; intro K hK; gi_wp2; rw [E7.out]; exact hK _ _ rfl ⟨(fun a_ => B7 _ a_) _, hJ⟩
        · intro a' w' b_ hA hC hJ hB1 hB2 hD
          obtain rfl := hB1 (by kernel_rfl)
          clear hB1 hB2
          have s0 := hA.to 0 (by kernel_rfl) rfl; clear hA hD; refine o7p rfl ?_; intro K hK; gi_wp2; exact hK _ _ rfl ⟨(fun a_ => B7 _ a_) _, hJ⟩
        · intro a' w' b_ hA hC hJ hB1 hB2 hD
          obtain rfl := hB1 (by kernel_rfl)
          clear hB1 hB2
          obtain ⟨u79, s79, rfl⟩ := hD ⟨13, .data⟩ (by simp) rfl _ rfl; clear hA hD; refine o7p rfl ?_; intro K hK; gi_wp2; exact hK _ _ rfl ⟨(fun a_ => B7 _ a_) _, hJ⟩
        · intro a' w' b_ hA hC hJ hB1 hB2 hD
          obtain rfl := hB1 (by kernel_rfl)
          clear hB1 hB2
          obtain ⟨u80, s80, rfl⟩ := hD ⟨14, .data⟩ (by simp) rfl _ rfl; clear hA hD; refine o7p rfl ?_; intro K hK; gi_wp2; exact hK _ _ rfl ⟨(fun a_ => B7 _ a_) _, hJ⟩
        · intro a' w' b_ hA hC hJ hB1 hB2 hD
          obtain rfl := hB1 (by kernel_rfl)
          clear hB1 hB2
          obtain ⟨u81, s81, rfl⟩ := hD ⟨15, .data⟩ (by simp) rfl _ rfl; clear hA hD; refine o7p rfl ?_; intro K hK; gi_wp2; exact hK _ _ rfl ⟨(fun a_ => B7 _ a_) _, hJ⟩
        · intro a' w' b_ hA hC hJ hB1 hB2 hD
          obtain rfl := hB1 (by kernel_rfl)
          clear hB1 hB2
          obtain ⟨u82, s82, rfl⟩ := hD ⟨16, .data⟩ (by simp) rfl _ rfl
          have b1 := c7b (k := 1) hJ rfl
          clear hA hD; refine o7p rfl ?_; intro K hK; gi_wp2; exact hK _ _ rfl ⟨(fun a_ => B7 _ a_) _, hJ⟩
        · intro a' w' b_ hA hC hJ hB1 hB2 hD
          obtain rfl := hB1 (by kernel_rfl)
          clear hB1 hB2
          have s0 := hA.to 0 (by kernel_rfl) rfl; clear hA hD; refine o7p rfl ?_; intro K hK; gi_wp2; exact hK _ _ rfl ⟨(fun a_ => B7 _ a_) _, hJ⟩
        · intro a' w' b_ hA hC hJ hB1 hB2 hD
          obtain rfl := hB1 (by kernel_rfl)
          clear hB1 hB2
          obtain ⟨u84, s84, rfl⟩ := hD ⟨18, .data⟩ (by simp) rfl _ rfl; clear hA hD; refine o7p rfl ?_; intro K hK; gi_wp2; exact hK _ _ rfl ⟨(fun a_ => B7 _ a_) _, hJ⟩
        · intro a' w' b_ hA hC hJ hB1 hB2 hD
          obtain rfl := hB1 (by kernel_rfl)
          clear hB1 hB2
          obtain ⟨u85, s85, rfl⟩ := hD ⟨19, .data⟩ (by simp) rfl _ rfl; clear hA hD; refine o7p rfl ?_; intro K hK; gi_wp2; exact hK _ _ rfl ⟨(fun a_ => B7 _ a_) _, hJ⟩
        · intro a' w' b_ hA hC hJ hB1 hB2 hD
          obtain rfl := hB1 (by kernel_rfl)
          clear hB1 hB2
          obtain ⟨u86, s86, rfl⟩ := hD ⟨20, .data⟩ (by simp) rfl _ rfl; clear hA hD; refine o7p rfl ?_; intro K hK; gi_wp2; exact hK _ _ rfl ⟨(fun a_ => B7 _ a_) _, hJ⟩
        · intro a' w' b_ hA hC hJ hB1 hB2 hD
          obtain rfl := hB1 (by kernel_rfl)
          clear hB1 hB2
          obtain ⟨u87, s87, rfl⟩ := hD ⟨21, .data⟩ (by simp) rfl _ rfl
          have b1 := c7b (k := 5) hJ rfl
          clear hA hD; refine o7p rfl ?_; intro K hK; gi_wp2; exact hK _ _ rfl ⟨(fun a_ => B7 _ a_) _, hJ⟩
        · intro a' w' b_ hA hC hJ hB1 hB2 hD
          skip
          clear hB1 hB2
          obtain ⟨u83, s83, rfl⟩ := hD ⟨17, .data⟩ (by simp) rfl _ rfl; obtain ⟨u88, s88, rfl⟩ := hD ⟨22, .data⟩ (by simp) rfl _ rfl; clear hA hD; refine o7p rfl ?_; intro K hK; gi_wp2; rw [E8.out]; exact hK _ _ rfl ⟨(fun a_ => B7 _ a_) _, hJ⟩
        · intro a' w' b_ hA hC hJ hB1 hB2 hD
          obtain rfl := hB1 (by kernel_rfl)
          clear hB1 hB2
          obtain ⟨u66, s66, rfl⟩ := hD ⟨0, .data⟩ (by simp) rfl _ rfl; clear hA hD; refine o7p rfl ?_; intro K hK; gi_wp2; exact hK _ _ rfl ⟨(fun a_ => B7 _ a_) _, hJ⟩
        · intro a' w' b_ hA hC hJ hB1 hB2 hD
          obtain rfl := hB1 (by kernel_rfl)
          clear hB1 hB2
          obtain ⟨u90, s90, rfl⟩ := hD ⟨24, .data⟩ (by simp) rfl _ rfl; clear hA hD; refine o7p rfl ?_; intro K hK; gi_wp2; exact hK _ _ rfl ⟨(fun a_ => B7 _ a_) _, hJ⟩
        · intro a' w' b_ hA hC hJ hB1 hB2 hD
          obtain rfl := hB1 (by kernel_rfl)
          clear hB1 hB2
          obtain ⟨u91, s91, rfl⟩ := hD ⟨25, .data⟩ (by simp) rfl _ rfl; clear hA hD; refine o7p rfl ?_; intro K hK; gi_wp2; exact hK _ _ rfl ⟨(fun a_ => B7 _ a_) _, hJ⟩
        · intro a' w' b_ hA hC hJ hB1 hB2 hD
          obtain rfl := hB2 rfl
          clear hB1 hB2
          obtain ⟨u92, s92, rfl⟩ := hD ⟨26, .data⟩ (by simp) rfl _ rfl; obtain ⟨u78, s78, rfl⟩ := hD ⟨12, .data⟩ (by simp) rfl _ rfl
          have b1 := c7b (k := 0) hJ rfl; have b2 := f7b hJ
          clear hA hD; refine o7p rfl ?_; intro K hK; gi_wp2; exact hK undef _ trivial ⟨g7c _ _ _ _, (show PenJ p (x + lx + sx) (x + lx) (y + ly) lx ly sx sy n m (r + 2 * m - 2 * n) true _ from PenAt.setX hJ _)⟩
       case hJ0 => exact HP8.out
       case hend =>
        intro w9 hC hJ
        simp only [EndFrom, eqv, forall_eq, Act.put, List.length_cons, List.length_nil, List.drop_succ_cons, List.drop_zero, Nat.reduceAdd, List.setIfInBounds_toArray, List.set_cons_succ, List.set_cons_zero]
        intro v_ _
        have h2 : PenAt p (x + lx + sx) (y + ly) lx ly sx sy n m (r + 2 * m - 2 * n) w9 := hJ
        have c0 := c7b (k := 1) h2 rfl
        have f0 := f7b h2
        have HC9 := H7 (grownTrans HC8.out hC)
        have HP9 := H7 h2
        clear hC hJ h2 HP8 HC8
        gi_wp2
        have HP3 := H7 (HP9.out.setY (y + ly + sy))
        have HC3 := H7 (grownTrans HC9.out (g7c w9 p 1 (.int .i64 (y + ly + sy))))
        clear c0 f0 HC9 HP9
        go_wp2_with fail
        go_end0
        exact ⟨rfl, (Turned.of_grown HC3.out).mono fun k _ h => Option.some.inj h, by first | exact HP3.out | (rw [if_pos (by have := HGE.out; omega)]; exact HP3.out)⟩
    · have HGE := H7 hge
      go_wp2_with fail
      go_end0
      exact ⟨rfl, (Turned.of_grown HC6.out).mono fun k _ h => Option.some.inj h, by first | exact HP6.out | (rw [if_neg (by have := HGE.out; omega)]; exact HP6.out)⟩
/- The plain law of the pen: its places are the line's. -/
def restN (n m i : Int) : Int := n + 2 * m * i - 2 * n * lessN n m i
theorem less_next {n m i : Int} (hn : 0 < n) (hm : 0 ≤ m) (hmn : m ≤ n) :
 (0 ≤ restN n m i ∧ restN n m i < 2 * n) ∧ (2 * n ≤ restN n m i + 2 * m → lessN n m (i + 1) = lessN n m i + 1 ∧ restN n m (i + 1) = restN n m i + 2 * m - 2 * n) ∧
  (restN n m i + 2 * m < 2 * n → lessN n m (i + 1) = lessN n m i ∧ restN n m (i + 1) = restN n m i + 2 * m) := by
 obtain ⟨q, hq⟩ : ∃ q, lessN n m i = q := ⟨_, rfl⟩
 obtain ⟨q', hq'⟩ : ∃ q', lessN n m (i + 1) = q' := ⟨_, rfl⟩
 unfold restN
 rw [hq, hq']
 unfold lessN at hq hq'
 rw [if_pos hn] at hq hq'
 obtain ⟨A, hA⟩ : ∃ A, 2 * i * m + n = A := ⟨_, rfl⟩
 have e1 : 2 * (i + 1) * m + n = A + 2 * m := by rw [← hA]; grind
 have e2 : n + 2 * m * i = A := by rw [← hA]; grind
 have e3 : n + 2 * m * (i + 1) = A + 2 * m := by rw [← hA]; grind
 have e4 : 2 * n * (q + 1) = 2 * n * q + 2 * n := by grind
 rw [hA] at hq
 rw [e1] at hq'
 rw [e2, e3]
 have h1 := Int.mul_ediv_add_emod A (2 * n)
 have h2 := Int.emod_nonneg A (show 2 * n ≠ 0 by omega)
 have h3 := Int.emod_lt_of_pos A (show 0 < 2 * n by omega)
 rw [hq] at h1
 obtain ⟨r, hr⟩ : ∃ r, A % (2 * n) = r := ⟨_, rfl⟩
 rw [hr] at h1 h2 h3
 obtain ⟨Z, hZ⟩ : ∃ Z, 2 * n * q = Z := ⟨_, rfl⟩
 rw [hZ] at h1 e4 ⊢
 refine ⟨by omega, fun hge => ?_, fun hlt => ?_⟩
 · have : q' = q + 1 := by
    rw [← hq']
    apply Int.le_antisymm
    · exact Int.lt_add_one_iff.1 (Int.ediv_lt_of_lt_mul (by omega) (by have : (q + 1 + 1) * (2 * n) = Z + 2 * n + 2 * n := (by grind); omega))
    · exact (Int.le_ediv_iff_mul_le (by omega)).2 (by have : (q + 1) * (2 * n) = Z + 2 * n := (by grind); omega)
   subst this
   rw [e4]
   omega
 · have : q' = q := by
    rw [← hq']
    apply Int.le_antisymm
    · exact Int.lt_add_one_iff.1 (Int.ediv_lt_of_lt_mul (by omega) (by have : (q + 1) * (2 * n) = Z + 2 * n := (by grind); omega))
    · exact (Int.le_ediv_iff_mul_le (by omega)).2 (by have : q * (2 * n) = Z := (by grind); omega)
   subst this
   rw [hZ]
   omega
theorem less_last {n m : Int} (hn : 0 < n) : lessN n m n = m := by
 unfold lessN
 rw [if_pos hn]
 have e : 2 * n * m + n = n + m * (2 * n) := by grind
 rw [e, Int.add_mul_ediv_right _ _ (by omega), Int.ediv_eq_zero_of_lt (by omega) (by omega)]
 omega
theorem less_zero (n m : Int) : lessN n m 0 = 0 := by
 unfold lessN
 split
 · rw [Int.mul_zero, Int.zero_mul, Int.zero_add]; exact Int.ediv_eq_zero_of_lt (by omega) (by omega)
 · rfl
theorem less_le {n m i : Int} (hn : 0 < n) (hm : 0 ≤ m) (hmn : m ≤ n) (hi : 0 ≤ i) : 0 ≤ lessN n m i ∧ lessN n m i ≤ i := by
 unfold lessN
 rw [if_pos hn]
 have h0 : 0 ≤ i * m := Int.mul_nonneg hi hm
 have h1 : i * m ≤ i * n := Int.mul_le_mul_of_nonneg_left hmn hi
 have e0 : 2 * i * m = 2 * (i * m) := by grind
 refine ⟨Int.ediv_nonneg (by omega) (by omega), ?_⟩
 have e2 : (i + 1) * (2 * n) = 2 * (i * n) + 2 * n := by grind
 have := Int.ediv_lt_of_lt_mul (a := 2 * i * m + n) (b := i + 1) (by omega : 0 < 2 * n) (by omega)
 omega
theorem less_le_m {n m i : Int} (hm : 0 ≤ m) (hmn : m ≤ n) (hi : 0 ≤ i) (hin : i ≤ n) : 0 ≤ lessN n m i ∧ lessN n m i ≤ m := by
 by_cases hn : 0 < n
 · refine ⟨(less_le hn hm hmn hi).1, ?_⟩
   unfold lessN
   rw [if_pos hn]
   have h2 : i * m ≤ n * m := Int.mul_le_mul_of_nonneg_right hin hm
   have e0 : 2 * i * m = 2 * (i * m) := by grind
   have e2 : (m + 1) * (2 * n) = 2 * (n * m) + 2 * n := by grind
   have := Int.ediv_lt_of_lt_mul (a := 2 * i * m + n) (b := m + 1) (by omega : 0 < 2 * n) (by omega)
   omega
 · unfold lessN; rw [if_neg hn]; omega
theorem less_top {n m : Int} (hm : 0 ≤ m) (hmn : m ≤ n) : lessN n m n = m := by
 by_cases hn : 0 < n
 · exact less_last hn
 · unfold lessN; rw [if_neg hn]; omega
/-- What a pen keeps of its line. -/
structure LineD (a b : PtT) (lx ly sx sy n m : Int) : Prop where
 top : n = wayMax a b
 mle : 0 ≤ m ∧ m ≤ n
 unit : (-1 ≤ lx ∧ lx ≤ 1) ∧ (-1 ≤ ly ∧ ly ≤ 1) ∧ (-1 ≤ sx ∧ sx ≤ 1) ∧ (-1 ≤ sy ∧ sy ≤ 1)
 pt : ∀ i : Int, 0 ≤ i → i ≤ n → linePt a b i = ⟨a.x + lx * i + sx * lessN n m i, a.y + ly * i + sy * lessN n m i⟩
 fin : ∀ i : Int, 0 ≤ i → i ≤ n → (linePt a b i = b ↔ i = n)
theorem dir_side {a b i : Int} (h0 : 0 ≤ i) (h1 : i ≤ wayN a b) : sideN a b * i = Lib.compareInt (b - a) 0 * i := by
 unfold sideN Lib.compareInt
 unfold wayN at h1
 by_cases h : b < a
 · rw [if_pos h, if_pos (by omega)]
 · rw [if_neg h] at h1
   rw [if_neg h, if_neg (by omega)]
   by_cases h2 : b - a > 0
   · rw [if_pos h2]
   · obtain rfl : i = 0 := by omega
     simp
theorem side_way (a b : Int) : a + sideN a b * wayN a b = b := by
 unfold sideN wayN
 by_cases h : b < a
 · rw [if_pos h, if_pos h]; omega
 · rw [if_neg h, if_neg h]; omega
theorem side_inj {a b i : Int} (h : a + sideN a b * i = b) (h0 : 0 ≤ i) (h1 : i ≤ wayN a b) : i = wayN a b := by
 unfold sideN at h
 unfold wayN at h1 ⊢
 by_cases h2 : b < a
 · rw [if_pos h2] at h h1 ⊢; omega
 · rw [if_neg h2] at h h1 ⊢; omega
theorem dir_unit (d : Int) : -1 ≤ Lib.compareInt d 0 ∧ Lib.compareInt d 0 ≤ 1 := by unfold Lib.compareInt; split; omega; split <;> omega
theorem lineD_flat {a b : PtT} (h : ¬ wayN a.x b.x < wayN a.y b.y) : LineD a b (Lib.compareInt (b.x - a.x) 0) 0 0 (Lib.compareInt (b.y - a.y) 0) (wayN a.x b.x) (wayN a.y b.y) := by
 have hp : ∀ i, linePt a b i = ⟨a.x + sideN a.x b.x * i, a.y + sideN a.y b.y * lessN (wayN a.x b.x) (wayN a.y b.y) i⟩ := fun i => by unfold linePt; rw [decide_eq_false h]; rfl
 have hle := fun i h0 h1 => less_le_m (n := wayN a.x b.x) (m := wayN a.y b.y) (i := i) (wayN_nonneg _ _) (by omega) h0 h1
 refine ⟨by unfold wayMax; omega, ⟨wayN_nonneg _ _, by omega⟩, ⟨dir_unit _, by omega, by omega, dir_unit _⟩, fun i h0 h1 => ?_, fun i h0 h1 => ⟨fun he => ?_, fun he => ?_⟩⟩
 · rw [hp, dir_side h0 h1, dir_side (hle i h0 h1).1 (hle i h0 h1).2]
   simp
 · rw [hp] at he
   exact side_inj (congrArg PtT.x he) h0 h1
 · subst he
   rw [hp, side_way, less_top (wayN_nonneg _ _) (by omega), side_way]
theorem lineD_steep {a b : PtT} (h : wayN a.x b.x < wayN a.y b.y) : LineD a b 0 (Lib.compareInt (b.y - a.y) 0) (Lib.compareInt (b.x - a.x) 0) 0 (wayN a.y b.y) (wayN a.x b.x) := by
 have hp : ∀ i, linePt a b i = ⟨a.x + sideN a.x b.x * lessN (wayN a.y b.y) (wayN a.x b.x) i, a.y + sideN a.y b.y * i⟩ := fun i => by unfold linePt; rw [decide_eq_true h]; rfl
 have hle := fun i h0 h1 => less_le_m (n := wayN a.y b.y) (m := wayN a.x b.x) (i := i) (wayN_nonneg _ _) (by omega) h0 h1
 refine ⟨by unfold wayMax; omega, ⟨wayN_nonneg _ _, by omega⟩, ⟨by omega, dir_unit _, dir_unit _, by omega⟩, fun i h0 h1 => ?_, fun i h0 h1 => ⟨fun he => ?_, fun he => ?_⟩⟩
 · rw [hp, dir_side (a := a.y) h0 h1, dir_side (hle i h0 h1).1 (hle i h0 h1).2]
   simp
 · rw [hp] at he
   exact side_inj (congrArg PtT.y he) h0 h1
 · subst he
   rw [hp, side_way, less_top (wayN_nonneg _ _) (by omega), side_way]
/-- A coordinate of a line lies not far. -/
theorem unit_mul {u i : Int} (hu : -1 ≤ u ∧ u ≤ 1) (h0 : 0 ≤ i) : -i ≤ u * i ∧ u * i ≤ i := by
 rcases (by omega : u = -1 ∨ u = 0 ∨ u = 1) with rfl | rfl | rfl <;> omega
theorem LineD.near {a b : PtT} {lx ly sx sy n m : Int} (h : LineD a b lx ly sx sy n m) (hn : n ≤ 200) (ha : (-64 ≤ a.x ∧ a.x ≤ 127) ∧ (-64 ≤ a.y ∧ a.y ≤ 127)) {i : Int} (h0 : 0 ≤ i) (h1 : i ≤ n) :
 (-1000 ≤ a.x + lx * i + sx * lessN n m i ∧ a.x + lx * i + sx * lessN n m i ≤ 1000) ∧ (-1000 ≤ a.y + ly * i + sy * lessN n m i ∧ a.y + ly * i + sy * lessN n m i ≤ 1000) := by
 have hl := less_le_m (n := n) (m := m) (i := i) h.mle.1 h.mle.2 h0 h1
 have := h.mle
 have e1 := unit_mul h.unit.1 h0
 have e2 := unit_mul h.unit.2.1 h0
 have e3 := unit_mul h.unit.2.2.1 hl.1
 have e4 := unit_mul h.unit.2.2.2 hl.1
 omega
section
variable {P : Program} {a : Act} {w : World} {Q : Exit → Act → World → Prop}
/-- A scope with a label: what is behind the label is walked once. -/
theorem wp_scope_loop {c B : Code} (l : Nat) (J : Act → World → Prop) (μ : Act → World → Nat) (hf : findLabel c l = some (.seq .skip B))
 (pass : ∀ a w, J a w → B.wp P (Exit.jump l (fun a' w' => J a' w' ∧ μ a' w' < μ a w) Q) a w)
 (first : (∀ a w, J a w → B.wp P (Exit.jump l J Q) a w) → c.wp P (Exit.jump l J Q) a w) : (Code.scope c).wp P Q a w :=
 wp_scope_jumps l J μ hf (first fun a w hJ => wp_mono (pass a w hJ) fun e a' w' h => by
  cases e <;> first | exact h | exact ⟨h.1, h.2.1⟩) fun a w hJ => wp_seq (wp_skip (pass a w hJ))
end
end Go.Proofs.YthcdkkmjnglmjaaGreatDoor
