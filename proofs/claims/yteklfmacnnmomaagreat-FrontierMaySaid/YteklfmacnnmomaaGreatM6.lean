/- Merged texts: Grow IdA IdB PtE. -/
import Derived.Test.YteklfmacnnmomaaGreatM1
import Derived.Sort.Grow
import Derived.Deep.Draws
import Derived.Test.YteklfmacnnmomaaGreatM2
import Derived.Lib.Small
import Derived.Test.YteklfmacnnmomaaGreatM3
set_option linter.unusedSimpArgs false
set_option linter.unusedVariables false
/- A world that has drawn, and grown. -/
namespace Go.Proofs.YteklfmacnnmomaaGreat
open Go.RowKit Go.Shelf
/-- A world that has drawn, and grown. -/
def Grows (x y : World) : Prop := ∃ q os, y = Sort.grow (x.drewN q) os
theorem Grows.refl (x : World) : Grows x x := ⟨0, #[], by simp [Sort.grow, World.drewN]⟩
theorem Grows.trans {x y z : World} (h : Grows x y) (k : Grows y z) : Grows x z := by
 obtain ⟨q, os, rfl⟩ := h
 obtain ⟨q', os', rfl⟩ := k
 refine ⟨q + q', os ++ os', ?_⟩
 simp only [Sort.grow, World.drewN]
 congr 1
 · exact Array.append_assoc
 · omega
theorem Grows.drew (x : World) : Grows x x.drew := ⟨1, #[], by show x.drew = { x.drewN 1 with heap := x.heap ++ #[] }; rw [Array.append_empty]; rfl⟩
theorem Grows.alloc (x : World) (o : Obj) : Grows x (x.alloc o) := ⟨0, #[o], by show x.alloc o = { x.drewN 0 with heap := x.heap ++ #[o] }; rw [Array.append_singleton]; rfl⟩
theorem Grows.below {x y : World} (h : Grows x y) : Below x.heap.size x y := by
 obtain ⟨q, os, rfl⟩ := h
 refine ⟨rfl, rfl, rfl, by simp [Sort.grow, World.drewN], fun k hk => ?_⟩
 show (x.heap ++ os)[k]? = x.heap[k]?
 exact Array.getElem?_append_left hk
/-- It returns v, and has drawn, and grown, alone. -/
def GivesG (v : Value) (w : World) (e : Ending) (w' : World) : Prop := e = .returned v ∧ Grows w w'
/- Package ident: how ids stand: cmp.Compare, cmp.Or, Compare, Less; the document's Right, Less. -/
theorem isNaN_u64 (x : Int) (w : World) : Calls Tryz.prog 110 #[.int .u64 x] w fun e w' => e = .returned (.bool false) ∧ w = w' := by
 go_enter Tryz.func110, Tryz.ntmps110
 go_wp2
 go_ret
 exact ⟨rfl, rfl⟩
theorem cmp_u64 (x y : Int) (w : World) : Calls Tryz.prog 100 #[.int .u64 x, .int .u64 y] w fun e w' => e = .returned (.int .i64 (Lib.compareInt x y)) ∧ w = w' := by
 unfold Lib.compareInt
 by_cases h1 : x < y
 · go_enter Tryz.func100, Tryz.ntmps100
   go_wp2_with (go_at_call 110; refine (isNaN_u64 _ _).mono ?_; rintro e w' ⟨rfl, rfl⟩)
   go_ret
   exact ⟨ret_int (by simp [h1]), rfl⟩
 · by_cases h2 : y < x
   · go_enter Tryz.func100, Tryz.ntmps100
     go_wp2_with (go_at_call 110; refine (isNaN_u64 _ _).mono ?_; rintro e w' ⟨rfl, rfl⟩)
     go_ret
     exact ⟨rfl, rfl⟩
   · go_enter Tryz.func100, Tryz.ntmps100
     go_wp2_with (go_at_call 110; refine (isNaN_u64 _ _).mono ?_; rintro e w' ⟨rfl, rfl⟩)
     go_ret
     exact ⟨rfl, rfl⟩
theorem isNaN_i64 (x : Int) (w : World) : Calls Tryz.prog 111 #[.int .i64 x] w fun e w' => e = .returned (.bool false) ∧ w = w' := by
 go_enter Tryz.func111, Tryz.ntmps111
 go_wp2
 go_ret
 exact ⟨rfl, rfl⟩
theorem cmp_i64 (x y : Int) (w : World) : Calls Tryz.prog 101 #[.int .i64 x, .int .i64 y] w fun e w' => e = .returned (.int .i64 (Lib.compareInt x y)) ∧ w = w' := by
 unfold Lib.compareInt
 by_cases h1 : x < y
 · go_enter Tryz.func101, Tryz.ntmps101
   go_wp2_with (go_at_call 111; refine (isNaN_i64 _ _).mono ?_; rintro e w' ⟨rfl, rfl⟩)
   go_ret
   exact ⟨ret_int (by simp [h1]), rfl⟩
 · by_cases h2 : y < x
   · go_enter Tryz.func101, Tryz.ntmps101
     go_wp2_with (go_at_call 111; refine (isNaN_i64 _ _).mono ?_; rintro e w' ⟨rfl, rfl⟩)
     go_ret
     exact ⟨rfl, rfl⟩
   · go_enter Tryz.func101, Tryz.ntmps101
     go_wp2_with (go_at_call 111; refine (isNaN_i64 _ _).mono ?_; rintro e w' ⟨rfl, rfl⟩)
     go_ret
     exact ⟨rfl, rfl⟩
/-- The first that is not 0, of three. -/
def or3 (a b c : Int) : Int := if a = 0 then if b = 0 then c else b else a
set_option maxRecDepth 100000 in
set_option maxHeartbeats 1000000 in
theorem or_any (q : Nat) (a b c : Int) (w : World) (hq : w.heap[q]? = some (.cells #[.int .i64 a, .int .i64 b, .int .i64 c] 3 (0, 0))) :
 Calls Tryz.prog 99 #[.slice (some ⟨q, 0, none⟩) 3 3] w fun e w' => e = .returned (.int .i64 (or3 a b c)) ∧ w = w' := by
 have c0 := c7b (k := 0) (v := .int .i64 a) hq rfl
 have c1 := c7b (k := 1) (v := .int .i64 b) hq rfl
 have c2 := c7b (k := 2) (v := .int .i64 c) hq rfl
 clear hq
 unfold or3
 by_cases ha : a = 0
 · subst ha
   by_cases hb : b = 0
   · subst hb
     by_cases hc : c = 0
     · subst hc
       go_enter Tryz.func99, Tryz.ntmps99
       go_wp2_with fail
       refine wp_loop_rounds 4 ?_
       rw [rounds_succ]; go_wp2_with fail; rw [rounds_succ]; go_wp2_with fail; rw [rounds_succ]; go_wp2_with fail; rw [rounds_succ]; go_wp2_with fail
       go_ret
       exact ⟨rfl, rfl⟩
     · go_enter Tryz.func99, Tryz.ntmps99
       go_wp2_with fail
       refine wp_loop_rounds 3 ?_
       rw [rounds_succ]; go_wp2_with fail; rw [rounds_succ]; go_wp2_with fail; rw [rounds_succ]; go_wp2_with fail
       go_ret
       exact ⟨rfl, rfl⟩
   · go_enter Tryz.func99, Tryz.ntmps99
     go_wp2_with fail
     refine wp_loop_rounds 2 ?_
     rw [rounds_succ]; go_wp2_with fail; rw [rounds_succ]; go_wp2_with fail
     go_ret
     exact ⟨by simp [hb], rfl⟩
 · go_enter Tryz.func99, Tryz.ntmps99
   go_wp2_with fail
   refine wp_loop_rounds 1 ?_
   rw [rounds_succ]; go_wp2_with fail
   go_ret
   exact ⟨by simp [ha], rfl⟩
deriving instance DecidableEq for IdT
/-- Does one id stand ahead? -/
def idLess (a b : IdT) : Bool := if a.time ≠ b.time then decide (a.time < b.time) else if a.site ≠ b.site then decide (a.site < b.site) else decide (a.seq < b.seq)
/-- How two ids stand. -/
def cmpId (a b : IdT) : Int := if a = b then 0 else or3 (Lib.compareInt a.time b.time) (Lib.compareInt a.site b.site) (Lib.compareInt a.seq b.seq)
theorem cmpId_lt (a b : IdT) : decide (cmpId a b < 0) = idLess a b := by
 obtain ⟨a1, a2, a3⟩ := a
 obtain ⟨b1, b2, b3⟩ := b
 unfold cmpId idLess or3 Lib.compareInt
 dsimp only
 rw [Bool.eq_iff_iff]
 by_cases h : (⟨a1, a2, a3⟩ : IdT) = ⟨b1, b2, b3⟩
 · rw [if_pos h]
   simp only [IdT.mk.injEq] at h
   obtain ⟨rfl, rfl, rfl⟩ := h
   simp
 · rw [if_neg h]
   simp only [IdT.mk.injEq] at h
   by_cases h1 : a1 = b1
   · subst h1
     by_cases h2 : a2 = b2
     · subst h2
       have h3 : a3 ≠ b3 := fun e => h ⟨rfl, rfl, e⟩
       rcases Int.lt_or_lt_of_ne h3 with h3 | h3
       · simp [h3]
       · simp [Int.lt_asymm h3, h3]
     · rcases Int.lt_or_lt_of_ne h2 with h3 | h3
       · simp [h3, h2]
       · simp [Int.lt_asymm h3, h3, h2]
   · rcases Int.lt_or_lt_of_ne h1 with h3 | h3
     · simp [h3, h1]
     · simp [Int.lt_asymm h3, h3, h1]
/- Package ident: Compare, Less; the document's Right, Less. -/
def idEqB (a b : IdT) : Bool := a.time == b.time && (a.site == b.site && a.seq == b.seq)
theorem idEqB_iff (a b : IdT) : idEqB a b = true ↔ a = b := by
 obtain ⟨a1, a2, a3⟩ := a
 obtain ⟨b1, b2, b3⟩ := b
 simp [idEqB]
theorem run_eql_id (w : World) (a b c d e f : Int) : (binOp .eql 44 (.agg #[.int .u64 a, .int .i64 b, .int .u64 c]) (.agg #[.int .u64 d, .int .i64 e, .int .u64 f])).run Tryz.prog w = .ok (.bool (idEqB ⟨a, b, c⟩ ⟨d, e, f⟩)) w := by
 unfold idEqB
 simp [binOp, Op.equal, Op.maxDepth, go_sem]
 by_cases h1 : a = d <;> by_cases h2 : b = e <;> by_cases h3 : c = f <;> simp [h1, h2, h3]
set_option maxRecDepth 100000 in
set_option maxHeartbeats 2000000 in
theorem compare_any (a b : IdT) (w : World) : Calls Tryz.prog 82 #[a.val, b.val] w (GivesG (.int .i64 (cmpId a b)) w) := by
 have hcmp : cmpId a b = if idEqB a b = true then 0 else or3 (Lib.compareInt a.time b.time) (Lib.compareInt a.site b.site) (Lib.compareInt a.seq b.seq) := by
  unfold cmpId
  by_cases h : a = b
  · rw [if_pos h, if_pos ((idEqB_iff a b).2 h)]
  · rw [if_neg h, if_neg (fun e => h ((idEqB_iff a b).1 e))]
 rw [hcmp]
 clear hcmp
 obtain ⟨a1, a2, a3⟩ := a
 obtain ⟨b1, b2, b3⟩ := b
 have hr := fun w => run_eql_id w a1 a2 a3 b1 b2 b3
 obtain ⟨eq, heq⟩ : ∃ eq, idEqB ⟨a1, a2, a3⟩ ⟨b1, b2, b3⟩ = eq := ⟨_, rfl⟩
 rw [heq]
 simp only [heq] at hr
 clear heq
 unfold IdT.val
 cases eq
 · go_enter Tryz.func82, Tryz.ntmps82
   go_wp2_with fail
   have HW := H7 ((Grows.alloc w (.cells #[.int .u64 a1, .int .i64 a2, .int .u64 a3] 44)).trans (Grows.alloc _ (.cells #[.int .u64 b1, .int .i64 b2, .int .u64 b3] 44)))
   have Ha := H7 (heap_alloc_keeps (World.alloc_heap_new w (.cells #[.int .u64 a1, .int .i64 a2, .int .u64 a3] 44)) (.cells #[.int .u64 b1, .int .i64 b2, .int .u64 b3] 44))
   have Hb := H7 (newBlock (w.alloc (.cells #[.int .u64 a1, .int .i64 a2, .int .u64 a3] 44)) (.cells #[.int .u64 b1, .int .i64 b2, .int .u64 b3] 44) (w.heap.size + 1) (by simp))
   refine (wpIn_wide (n := 0)).1 ?_
   apply w7v 18 (Rl := [(eqv _), (eqv _), (eqv _), (eqv _), (eqv _), (eqv _), (eqv _), (eqv _), (eqv _), (eqv _), (eqv _), (eqv _), (eqv _), (eqv _), (eqv _), (fun v_ w_ => ∃ q, v_ = .slice (some ⟨q, 0, none⟩) 3 3 ∧ w_.heap[q]? = some (.cells #[.int .i64 (Lib.compareInt a1 b1), .int .i64 (Lib.compareInt a2 b2), .int .i64 (Lib.compareInt a3 b3)] 3 (0, 0))), (eqv _), (eqv _)]) (C := Grows)
   case hm => kernel_rfl
   case hk => rfl
   case hCr => exact Grows.refl
   case hCt => intro _ _ _; exact Grows.trans
   case hst => exact ⟨fun _ _ _ _ h => h, fun _ _ _ _ h => h, fun _ _ _ _ h => h, fun _ _ _ _ h => h, fun _ _ _ _ h => h, fun _ _ _ _ h => h, fun _ _ _ _ h => h, fun _ _ _ _ h => h, fun _ _ _ _ h => h, fun _ _ _ _ h => h, fun _ _ _ _ h => h, fun _ _ _ _ h => h, fun _ _ _ _ h => h, fun _ _ _ _ h => h, fun _ _ _ _ h => h, fun _ _ _ hC ⟨q, e, h⟩ => ⟨q, e, (hC.below.block _ (b7t h)).trans h⟩, fun _ _ _ _ h => h, fun _ _ _ _ h => h, trivial⟩
   case hfo => kernel_rfl
   case ht => kernel_rfl
   case hC0 => exact (Grows.drew _)
   case hsteps =>
    refine ⟨?_, ?_, ?_, ?_, ?_, ?_, ?_, ?_, ?_, ?_, ?_, ?_, ?_, ?_, ?_, ?_, ?_, ?_, trivial⟩
    · intro a' w' hA hC hD; have s2 := hA.to 2 (by kernel_rfl) rfl; clear hA hD; refine o7p rfl ?_; intro K hK; gi_wp2; exact hK _ _ rfl (Grows.refl _)
    · intro a' w' hA hC hD; obtain ⟨u8, s8, rfl⟩ := hD ⟨0, .data⟩ (by simp) rfl _ rfl
      have c0 := c7b (k := 0) (v := .int .u64 a1) ((hC.below.block _ (b7t Ha.out)).trans Ha.out) rfl
      clear hA hD; refine o7p rfl ?_; intro K hK; gi_wp2; exact hK _ _ rfl (Grows.refl _)
    · intro a' w' hA hC hD; have s3 := hA.to 3 (by kernel_rfl) rfl; clear hA hD; refine o7p rfl ?_; intro K hK; gi_wp2; exact hK _ _ rfl (Grows.refl _)
    · intro a' w' hA hC hD; obtain ⟨u10, s10, rfl⟩ := hD ⟨2, .data⟩ (by simp) rfl _ rfl
      have c0 := c7b (k := 0) (v := .int .u64 b1) ((hC.below.block _ (b7t Hb.out)).trans Hb.out) rfl
      clear hA hD; refine o7p rfl ?_; intro K hK; gi_wp2; exact hK _ _ rfl (Grows.refl _)
    · intro a' w' hA hC hD; obtain ⟨u9, s9, rfl⟩ := hD ⟨1, .data⟩ (by simp) rfl _ rfl; obtain ⟨u11, s11, rfl⟩ := hD ⟨3, .data⟩ (by simp) rfl _ rfl; clear hA hD; refine o7p rfl ?_; intro K hK
      gi_wp2_with fail; refine (callsIn_wide.2 (cmp_u64 _ _ _)).mono ?_; rintro e w2 ⟨rfl, rfl⟩; exact hK _ _ rfl (Grows.refl _)
    · intro a' w' hA hC hD; have s2 := hA.to 2 (by kernel_rfl) rfl; clear hA hD; refine o7p rfl ?_; intro K hK; gi_wp2; exact hK _ _ rfl (Grows.refl _)
    · intro a' w' hA hC hD; obtain ⟨u13, s13, rfl⟩ := hD ⟨5, .data⟩ (by simp) rfl _ rfl
      have c0 := c7b (k := 1) (v := .int .i64 a2) ((hC.below.block _ (b7t Ha.out)).trans Ha.out) rfl
      clear hA hD; refine o7p rfl ?_; intro K hK; gi_wp2; exact hK _ _ rfl (Grows.refl _)
    · intro a' w' hA hC hD; have s3 := hA.to 3 (by kernel_rfl) rfl; clear hA hD; refine o7p rfl ?_; intro K hK; gi_wp2; exact hK _ _ rfl (Grows.refl _)
    · intro a' w' hA hC hD; obtain ⟨u15, s15, rfl⟩ := hD ⟨7, .data⟩ (by simp) rfl _ rfl
      have c0 := c7b (k := 1) (v := .int .i64 b2) ((hC.below.block _ (b7t Hb.out)).trans Hb.out) rfl
      clear hA hD; refine o7p rfl ?_; intro K hK; gi_wp2; exact hK _ _ rfl (Grows.refl _)
    · intro a' w' hA hC hD; obtain ⟨u14, s14, rfl⟩ := hD ⟨6, .data⟩ (by simp) rfl _ rfl; obtain ⟨u16, s16, rfl⟩ := hD ⟨8, .data⟩ (by simp) rfl _ rfl; clear hA hD; refine o7p rfl ?_; intro K hK
      gi_wp2_with fail; refine (callsIn_wide.2 (cmp_i64 _ _ _)).mono ?_; rintro e w2 ⟨rfl, rfl⟩; exact hK _ _ rfl (Grows.refl _)
    · intro a' w' hA hC hD; have s2 := hA.to 2 (by kernel_rfl) rfl; clear hA hD; refine o7p rfl ?_; intro K hK; gi_wp2; exact hK _ _ rfl (Grows.refl _)
    · intro a' w' hA hC hD; obtain ⟨u18, s18, rfl⟩ := hD ⟨10, .data⟩ (by simp) rfl _ rfl
      have c0 := c7b (k := 2) (v := .int .u64 a3) ((hC.below.block _ (b7t Ha.out)).trans Ha.out) rfl
      clear hA hD; refine o7p rfl ?_; intro K hK; gi_wp2; exact hK _ _ rfl (Grows.refl _)
    · intro a' w' hA hC hD; have s3 := hA.to 3 (by kernel_rfl) rfl; clear hA hD; refine o7p rfl ?_; intro K hK; gi_wp2; exact hK _ _ rfl (Grows.refl _)
    · intro a' w' hA hC hD; obtain ⟨u20, s20, rfl⟩ := hD ⟨12, .data⟩ (by simp) rfl _ rfl
      have c0 := c7b (k := 2) (v := .int .u64 b3) ((hC.below.block _ (b7t Hb.out)).trans Hb.out) rfl
      clear hA hD; refine o7p rfl ?_; intro K hK; gi_wp2; exact hK _ _ rfl (Grows.refl _)
    · intro a' w' hA hC hD; obtain ⟨u19, s19, rfl⟩ := hD ⟨11, .data⟩ (by simp) rfl _ rfl; obtain ⟨u21, s21, rfl⟩ := hD ⟨13, .data⟩ (by simp) rfl _ rfl; clear hA hD; refine o7p rfl ?_; intro K hK
      gi_wp2_with fail; refine (callsIn_wide.2 (cmp_u64 _ _ _)).mono ?_; rintro e w2 ⟨rfl, rfl⟩; exact hK _ _ rfl (Grows.refl _)
    · intro a' w' hA hC hD; obtain ⟨u12, s12, rfl⟩ := hD ⟨4, .data⟩ (by simp) rfl _ rfl; obtain ⟨u17, s17, rfl⟩ := hD ⟨9, .data⟩ (by simp) rfl _ rfl; obtain ⟨u22, s22, rfl⟩ := hD ⟨14, .data⟩ (by simp) rfl _ rfl; clear hA hD; refine o7p rfl ?_; intro K hK; gi_wp2; exact hK (.slice (some ⟨w'.heap.size, 0, none⟩) 3 3) _ ⟨w'.heap.size, rfl, World.alloc_heap_new _ _⟩ (Grows.alloc _ _)
    · intro a' w' hA hC hD; obtain ⟨u23, s23, r23⟩ := hD ⟨15, .data⟩ (by simp) rfl _ rfl; replace r23 : (fun v_ w_ => ∃ q, v_ = .slice (some ⟨q, 0, none⟩) 3 3 ∧ w_.heap[q]? = some (.cells #[.int .i64 (Lib.compareInt a1 b1), .int .i64 (Lib.compareInt a2 b2), .int .i64 (Lib.compareInt a3 b3)] 3 (0, 0))) u23 w' := r23; clear hA hD; refine o7p rfl ?_; intro K hK
      obtain ⟨q, rfl, hq⟩ := r23; gi_wp2_with fail; refine (callsIn_wide.2 (or_any q _ _ _ _ hq)).mono ?_; rintro e w2 ⟨rfl, rfl⟩; exact hK _ _ rfl (Grows.refl _)
    · intro a' w' hA hC hD; obtain ⟨u24, s24, rfl⟩ := hD ⟨16, .data⟩ (by simp) rfl _ rfl; clear hA hD; refine o7p rfl ?_; intro K hK; gi_wp2; exact hK _ _ rfl (Grows.refl _)
   case hend =>
    intro w3 hC
    simp only [EndFrom, eqv, forall_eq, Act.put, List.length_cons, List.length_nil, List.drop_succ_cons, List.drop_zero, Nat.reduceAdd, List.setIfInBounds_toArray, List.set_cons_succ, List.set_cons_zero]
    intro u hu
    gi_wp2
    go_wp2
    go_ret
    exact ⟨rfl, HW.out.trans hC⟩
 · go_enter Tryz.func82, Tryz.ntmps82
   go_wp2_with fail
   go_ret
   exact ⟨rfl, (Grows.alloc w _).trans (Grows.alloc _ _)⟩
/- Equality of points. -/
def ptEqB (a b : PtT) : Bool := a.x == b.x && a.y == b.y
theorem run_eql_point (w : World) (a b d e : Int) : (binOp .eql 139 (.agg #[.int .i64 a, .int .i64 b]) (.agg #[.int .i64 d, .int .i64 e])).run Tryz.prog w = .ok (.bool (ptEqB ⟨a, b⟩ ⟨d, e⟩)) w := by
 unfold ptEqB
 simp [binOp, Op.equal, Op.maxDepth, go_sem]
 by_cases h1 : a = d <;> by_cases h2 : b = e <;> simp [h1, h2]
end Go.Proofs.YteklfmacnnmomaaGreat
