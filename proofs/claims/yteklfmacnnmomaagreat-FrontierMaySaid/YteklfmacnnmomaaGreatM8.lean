/- Merged texts: IdLs OpI OpJ OpR LgA. -/
import Derived.Test.YteklfmacnnmomaaGreatM6
import Derived.Test.YteklfmacnnmomaaGreatM5
import Derived.Test.YteklfmacnnmomaaGreatM7
import Derived.Laws.CopyRow
import Derived.Laws.MakeOwn
set_option linter.unusedSimpArgs false
set_option linter.unusedVariables false
/- Package ident: Less. -/
namespace Go.Proofs.YteklfmacnnmomaaGreat
open Go.RowKit Go.Shelf
set_option maxRecDepth 100000 in
theorem identLess_any (a b : IdT) (w : World) : Calls Tryz.prog 67 #[a.val, b.val] w (Gives (.bool (decide (cmpId a b < 0))) w) := by
 obtain ⟨C, hC⟩ : ∃ C, cmpId a b = C := ⟨_, rfl⟩
 have hcmp := fun w => compare_any a b w
 rw [hC] at hcmp
 rw [hC]
 clear hC
 have HC := H7 hcmp
 clear hcmp
 obtain ⟨a1, a2, a3⟩ := a
 obtain ⟨b1, b2, b3⟩ := b
 unfold IdT.val
 go_enter Tryz.func67, Tryz.ntmps67
 go_wp2_with fail
 refine (HC.out _).mono ?_
 rintro e w2 ⟨rfl, hb⟩
 have HB := H7 ((((B7 w.heap.size w).alloc (Nat.le_refl _) (.cells #[.int .u64 a1, .int .i64 a2, .int .u64 a3] 44)).alloc (by simp) (.cells #[.int .u64 b1, .int .i64 b2, .int .u64 b3] 44)).trans (hb.below.mono (by simp; omega)))
 clear hb HC
 go_wp2_with fail
 go_ret
 exact ⟨rfl, HB.out⟩
end Go.Proofs.YteklfmacnnmomaaGreat
/- Layer 12: which operations may be. -/
namespace Go.Proofs.YteklfmacnnmomaaGreat
open Go.RowKit Go.Shelf
attribute [local go_sem] Oper.semAt_some
def numB (o : OpT) (k : Nat) : Bool := decide (-64 ≤ numAt o k) && decide (numAt o k ≤ 127)
def numsB (o : OpT) : Bool := (numB o 0 && numB o 1) && (numB o 2 && numB o 3)
def mostO (o : OpT) : Int := if o.kind = 5 then 1020 else 15
def opSizeB (o : OpT) : Bool := decide (0 ≤ o.size) && decide (o.size ≤ mostO o)
def paintsB (k : Int) : Bool := isKind k && decide (k ≤ 6)
def mayA (o : OpT) : Bool := (idOk o.id && isKind o.kind) && sameO (plainO o) o
def mayS (o : OpT) : Bool := decide (o.kind ≠ 6) || stOk o.sw o.sh o.px.length
def mayT (o : OpT) : Bool := paintsB o.kind || (idOk o.tg && idLess o.tg o.id)
/-- May an operation be? -/
def opMayB (o : OpT) : Bool := mayA o && (numsB o && (opSizeB o && (mayS o && mayT o)))
theorem undefB {b : Bool} (h : some undef = some (Value.bool b)) : False := by cases h
theorem mostO_cases (o : OpT) : (mostO o = 15 ∧ (o.kind == 5) = false) ∨ (mostO o = 1020 ∧ (o.kind == 5) = true) := by
 unfold mostO
 by_cases h : o.kind = 5
 · exact .inr ⟨if_pos h, by simp [h]⟩
 · exact .inl ⟨if_neg h, by simp [h]⟩
theorem mayS_eq (o : OpT) : mayS o = ((o.kind != 6) || stOk o.sw o.sh o.px.length) := by
 unfold mayS
 by_cases h : o.kind = 6 <;> simp [h]
theorem numB_eq (o : OpT) (k : Nat) : numB o k = (decide (-64 ≤ numAt o k) && decide (numAt o k ≤ 127)) := rfl
theorem numsB_iff (o : OpT) : numsB o = true ↔ ∀ k, k < 4 → numB o k = true := by
 unfold numsB
 simp only [Bool.and_eq_true]
 constructor
 · rintro ⟨⟨h0, h1⟩, h2, h3⟩ k hk
   rcases (show k = 0 ∨ k = 1 ∨ k = 2 ∨ k = 3 by omega) with rfl | rfl | rfl | rfl <;> assumption
 · intro h
   exact ⟨⟨h 0 (by omega), h 1 (by omega)⟩, h 2 (by omega), h 3 (by omega)⟩
theorem numsB_no (o : OpT) (h : ∃ k, k < 4 ∧ numB o k = false) : numsB o = false := by
 obtain ⟨k, hk, h⟩ := h
 cases hn : numsB o with
 | false => rfl
 | true => rw [(numsB_iff o).1 hn k hk] at h; cases h
theorem plainO_px (o : OpT) : (plainO o).px.length ≤ o.px.length := by
 unfold plainO usesC
 split; simp [putF, out0]
 split; simp [putF, out0]
 split; simp [putF, out0]
 split; simp [putF, out0]
 split <;> simp [putF, out0]
/-- The block of a range over a function, while it is open. -/
structure MkAt (n D : Nat) (W : World) : Prop where
 le : n ≤ D
 at_ : W.heap[D]? = some (.deferred (some []))
theorem MkAt.below {n D : Nat} {W W' : World} (h : MkAt n D W) (hb : Below W.heap.size W W') : MkAt n D W' := ⟨h.le, (hb.block D (b7t h.at_)).trans h.at_⟩
/-- How 'may' ends. -/
def MayEnds (b : Bool) (w : World) (e : Ending) (w' : World) : Prop := Below w.heap.size w w' ∧ (b = true → e = .returned (.tuple #[])) ∧ (b = false → PanicO 220 e)
theorem mayEnds_no {w w' : World} (hb : Below w.heap.size w w') : MayEnds false w (.panicked [{ v := .iface 34 (.int .i64 220), recovered := false }]) w' := ⟨hb, fun h => by (cases h), fun _ => rfl⟩
set_option maxRecDepth 100000 in
set_option maxHeartbeats 4000000 in
theorem opMay_any (o : OpT) (pv : Value) (hlen : o.px.length ≤ 1000000000) (w : World) (hp : PixV o.px pv w) : Calls Tryz.prog 81 #[.agg (o.cells pv)] w (MayEnds (opMayB o) w) := by
 have HS := H7 (St.start w)
 have HP := H7 (fun w' (hb : Below w.heap.size w w') => hp.below hb)
 obtain ⟨a, cap, rfl, -, -⟩ := hp
 have HID := H7 (fun w' => idCheck_any o.id w')
 have HK := H7 (fun w' => opIs_any o.kind w')
 have HPL := H7 (fun w' hb => opPlain_any o _ hlen w' (HP.out w' hb))
 have HSM := H7 (fun w' pv2 hb h2 => opSame_any (plainO o) o pv2 _ (Nat.le_trans (plainO_px o) hlen) w' h2 (HP.out w' hb))
 have HNU := H7 (fun w' => numbers_any o a o.px.length cap w')
 have HNB := H7 (numsB_iff o)
 have HNN := H7 (numsB_no o)
 unfold opMayB mayA
 obtain ⟨b1, h1⟩ : ∃ b, idOk o.id = b := ⟨_, rfl⟩
 obtain ⟨b2, h2⟩ : ∃ b, isKind o.kind = b := ⟨_, rfl⟩
 obtain ⟨b3, h3⟩ : ∃ b, sameO (plainO o) o = b := ⟨_, rfl⟩
 rw [h1] at HID ⊢
 rw [h2] at HK ⊢
 rw [h3] at HSM ⊢
 obtain ⟨B, hB⟩ : ∃ B, (((b1 && b2) && b3) && (numsB o && (opSizeB o && (mayS o && mayT o)))) = B := ⟨_, rfl⟩
 rw [hB]
 have HB := H7 hB
 have HB2 := H7 h2
 clear h1 h2 h3 hlen hB
 refine (callsIn_wide (n := 10)).1 ?_
 refine callsX_of_marks Tryz.func81 rfl ?_
 simp only [Tryz.ntmps81, List.size_toArray, List.length_cons, List.length_nil, Nat.reduceAdd, Nat.reduceSub, Array.replicate_succ, Array.replicate_zero, List.push_toArray, List.append_toArray, List.nil_append, List.cons_append]
 refine wpX_seq (wpX_of ?_)
 gi_wp2
 refine wpX_seq (wpX_of ?_)
 have hs_ := (HS.out.alloc (.cells (o.cells (.slice a o.px.length cap)) 51))
 obtain ⟨w1, hw_⟩ : ∃ w1 : World, (w.alloc (.cells (o.cells (.slice a o.px.length cap)) 51)) = w1 := ⟨_, rfl⟩
 rw [hw_] at hs_
 try simp only [World.size_alloc] at hs_
 have HS := H7 hs_
 rw [hw_]
 clear hw_ hs_
 cases b1 with
 | false =>
  apply w7v 15 (Rl := [(eqv _), (eqv _), (eqv _), (eqv _), (eqv _), (fun v_ _ => v_ = (undef : Value)), (fun v_ _ => v_ = (undef : Value)), (fun v_ _ => v_ = (undef : Value)), (eqv _), (eqv _), (fun v_ _ => v_ = (undef : Value)), (fun v_ _ => v_ = (undef : Value)), (fun v_ _ => v_ = (undef : Value)), (fun v_ _ => v_ = (undef : Value)), (eqv _)]) (C := (fun x y => Below x.heap.size x y))
  case hm => kernel_rfl
  case hk => rfl
  case hCr => exact (fun _ => B7 _ _)
  case hCt => intro _ _ _; exact (fun h k => g7t h k)
  case hst => repeat (first | exact trivial | refine ⟨fun _ _ _ _ h => h, ?_⟩)
  case hfo => kernel_rfl
  case ht => kernel_rfl
  case hC0 => exact (g7d _)
  case hsteps =>
   refine ⟨?_, ?_, ?_, ?_, ?_, ?_, ?_, ?_, ?_, ?_, ?_, ?_, ?_, ?_, ?_, trivial⟩
   · intro a' w' hA hC hD; have s1 := hA.to 1 (by kernel_rfl) rfl; clear hA hD; refine o7p rfl ?_; intro K hK; gi_wp2; exact hK _ _ rfl (B7 _ _)
   · intro a' w' hA hC hD; obtain ⟨u4, s4, rfl⟩ := hD ⟨0, .data⟩ (by simp) rfl _ rfl
     obtain ⟨q0, q1, q2, -⟩ := opCells ((HS.out.below hC).blockAt 0 rfl)
     clear hA hD; refine o7p rfl ?_; intro K hK; gi_wp2; exact hK _ _ rfl (B7 _ _)
   · intro a' w' hA hC hD; obtain ⟨u5, s5, rfl⟩ := hD ⟨1, .data⟩ (by simp) rfl _ rfl; clear hA hD; refine o7p rfl ?_; intro K hK
     gi_wp2_with fail; refine (callsIn_wide.2 (HID.out _)).mono ?_; rintro e w2 ⟨rfl, hb⟩; exact hK _ _ rfl hb
   · intro a' w' hA hC hD; obtain ⟨u6, s6, rfl⟩ := hD ⟨2, .data⟩ (by simp) rfl _ rfl; clear hA hD; refine o7p rfl ?_; intro K hK; gi_wp2; exact hK _ _ rfl (B7 _ _)
   · intro a' w' hA hC hD; obtain ⟨u7, s7, rfl⟩ := hD ⟨3, .data⟩ (by simp) rfl _ rfl; clear hA hD; refine o7p rfl ?_; intro K hK; gi_wp2; exact hK _ _ rfl (B7 _ _)
   · intro a' w' hA hC hD; have s1 := hA.to 1 (by kernel_rfl) rfl; obtain ⟨u8, s8, rfl⟩ := hD ⟨4, .guard⟩ (by simp) rfl _ rfl; clear hA hD
     exact o7s rfl rfl s8 rfl
   · intro a' w' hA hC hD; obtain ⟨u9, s9, r9⟩ := hD ⟨5, .data⟩ (by simp) rfl _ rfl; replace r9 : u9 = undef := r9; subst r9; obtain ⟨u8, s8, rfl⟩ := hD ⟨4, .guard⟩ (by simp) rfl _ rfl; clear hA hD
     exact o7s rfl rfl s8 rfl
   · intro a' w' hA hC hD; obtain ⟨u10, s10, r10⟩ := hD ⟨6, .data⟩ (by simp) rfl _ rfl; replace r10 : u10 = undef := r10; subst r10; obtain ⟨u8, s8, rfl⟩ := hD ⟨4, .chain⟩ (by simp) rfl _ rfl; clear hA hD
     exact o7s rfl rfl s8 rfl
   · intro a' w' hA hC hD; obtain ⟨u8, s8, rfl⟩ := hD ⟨4, .data⟩ (by simp) rfl _ rfl; obtain ⟨u11, s11, r11⟩ := hD ⟨7, .data⟩ (by simp) rfl _ rfl; replace r11 : u11 = undef := r11; subst r11; clear hA hD; refine o7p rfl ?_; intro K hK; gi_wp2; exact hK _ _ rfl (B7 _ _)
   · intro a' w' hA hC hD; obtain ⟨u12, s12, rfl⟩ := hD ⟨8, .data⟩ (by simp) rfl _ rfl; clear hA hD; refine o7p rfl ?_; intro K hK; gi_wp2; exact hK _ _ rfl (B7 _ _)
   · intro a' w' hA hC hD; have s1 := hA.to 1 (by kernel_rfl) rfl; obtain ⟨u13, s13, rfl⟩ := hD ⟨9, .guard⟩ (by simp) rfl _ rfl; clear hA hD
     exact o7s rfl rfl s13 rfl
   · intro a' w' hA hC hD; obtain ⟨u14, s14, r14⟩ := hD ⟨10, .data⟩ (by simp) rfl _ rfl; replace r14 : u14 = undef := r14; subst r14; obtain ⟨u13, s13, rfl⟩ := hD ⟨9, .chain⟩ (by simp) rfl _ rfl; clear hA hD
     exact o7s rfl rfl s13 rfl
   · intro a' w' hA hC hD; have s1 := hA.to 1 (by kernel_rfl) rfl; obtain ⟨u13, s13, rfl⟩ := hD ⟨9, .guard⟩ (by simp) rfl _ rfl; clear hA hD
     exact o7s rfl rfl s13 rfl
   · intro a' w' hA hC hD; obtain ⟨u15, s15, r15⟩ := hD ⟨11, .data⟩ (by simp) rfl _ rfl; replace r15 : u15 = undef := r15; subst r15; obtain ⟨u16, s16, r16⟩ := hD ⟨12, .data⟩ (by simp) rfl _ rfl; replace r16 : u16 = undef := r16; subst r16; obtain ⟨u13, s13, rfl⟩ := hD ⟨9, .guard⟩ (by simp) rfl _ rfl; clear hA hD
     exact o7s rfl rfl s13 rfl
   · intro a' w' hA hC hD; obtain ⟨u13, s13, rfl⟩ := hD ⟨9, .data⟩ (by simp) rfl _ rfl; obtain ⟨u17, s17, r17⟩ := hD ⟨13, .data⟩ (by simp) rfl _ rfl; replace r17 : u17 = undef := r17; subst r17; clear hA hD; refine o7p rfl ?_; intro K hK; gi_wp2; exact hK _ _ rfl (B7 _ _)
  case hend =>
   intro w3 hC
   simp only [EndFrom, eqv, forall_eq, Act.put, List.length_cons, List.length_nil, List.drop_succ_cons, List.drop_zero, Nat.reduceAdd, List.setIfInBounds_toArray, List.set_cons_succ, List.set_cons_zero]
   have HS := H7 (HS.out.below hC)
   clear hC
   gi_wp2_with fail
   refine (callsIn_wide.2 (opNeed_no _)).mono ?_
   rintro e w5 ⟨rfl, rfl⟩
   have hf : B = false := by rw [← HB.out]; rfl
   rw [hf]
   exact mayEnds_no HS.out.low
 | true =>
  cases b2 with
  | false =>
   apply w7v 15 (Rl := [(eqv _), (eqv _), (eqv _), (eqv _), (eqv _), (eqv _), (eqv _), (eqv _), (eqv _), (eqv _), (fun v_ _ => v_ = (undef : Value)), (fun v_ _ => v_ = (undef : Value)), (fun v_ _ => v_ = (undef : Value)), (fun v_ _ => v_ = (undef : Value)), (eqv _)]) (C := (fun x y => Below x.heap.size x y))
   case hm => kernel_rfl
   case hk => rfl
   case hCr => exact (fun _ => B7 _ _)
   case hCt => intro _ _ _; exact (fun h k => g7t h k)
   case hst => repeat (first | exact trivial | refine ⟨fun _ _ _ _ h => h, ?_⟩)
   case hfo => kernel_rfl
   case ht => kernel_rfl
   case hC0 => exact (g7d _)
   case hsteps =>
    refine ⟨?_, ?_, ?_, ?_, ?_, ?_, ?_, ?_, ?_, ?_, ?_, ?_, ?_, ?_, ?_, trivial⟩
    · intro a' w' hA hC hD; have s1 := hA.to 1 (by kernel_rfl) rfl; clear hA hD; refine o7p rfl ?_; intro K hK; gi_wp2; exact hK _ _ rfl (B7 _ _)
    · intro a' w' hA hC hD; obtain ⟨u4, s4, rfl⟩ := hD ⟨0, .data⟩ (by simp) rfl _ rfl
      obtain ⟨q0, q1, q2, -⟩ := opCells ((HS.out.below hC).blockAt 0 rfl)
      clear hA hD; refine o7p rfl ?_; intro K hK; gi_wp2; exact hK _ _ rfl (B7 _ _)
    · intro a' w' hA hC hD; obtain ⟨u5, s5, rfl⟩ := hD ⟨1, .data⟩ (by simp) rfl _ rfl; clear hA hD; refine o7p rfl ?_; intro K hK
      gi_wp2_with fail; refine (callsIn_wide.2 (HID.out _)).mono ?_; rintro e w2 ⟨rfl, hb⟩; exact hK _ _ rfl hb
    · intro a' w' hA hC hD; obtain ⟨u6, s6, rfl⟩ := hD ⟨2, .data⟩ (by simp) rfl _ rfl; clear hA hD; refine o7p rfl ?_; intro K hK; gi_wp2; exact hK _ _ rfl (B7 _ _)
    · intro a' w' hA hC hD; obtain ⟨u7, s7, rfl⟩ := hD ⟨3, .data⟩ (by simp) rfl _ rfl; clear hA hD; refine o7p rfl ?_; intro K hK; gi_wp2; exact hK _ _ rfl (B7 _ _)
    · intro a' w' hA hC hD; have s1 := hA.to 1 (by kernel_rfl) rfl; obtain ⟨u8, s8, rfl⟩ := hD ⟨4, .guard⟩ (by simp) rfl _ rfl; clear hA hD; refine o7w rfl rfl s8 ?_; intro K hK; gi_wp2; exact hK _ _ rfl (B7 _ _)
    · intro a' w' hA hC hD; obtain ⟨u9, s9, rfl⟩ := hD ⟨5, .data⟩ (by simp) rfl _ rfl; obtain ⟨u8, s8, rfl⟩ := hD ⟨4, .guard⟩ (by simp) rfl _ rfl
      obtain ⟨-, -, -, q3, -⟩ := opCells ((HS.out.below hC).blockAt 0 rfl)
      clear hA hD; refine o7w rfl rfl s8 ?_; intro K hK; gi_wp2; exact hK _ _ rfl (B7 _ _)
    · intro a' w' hA hC hD; obtain ⟨u10, s10, rfl⟩ := hD ⟨6, .data⟩ (by simp) rfl _ rfl; obtain ⟨u8, s8, rfl⟩ := hD ⟨4, .chain⟩ (by simp) rfl _ rfl; clear hA hD; refine o7w rfl rfl s8 ?_; intro K hK
      gi_wp2_with fail; refine (callsIn_wide.2 (HK.out _)).mono ?_; rintro e w2 ⟨rfl, hb⟩; exact hK _ _ rfl hb
    · intro a' w' hA hC hD; obtain ⟨u8, s8, rfl⟩ := hD ⟨4, .data⟩ (by simp) rfl _ rfl; obtain ⟨u11, s11, rfl⟩ := hD ⟨7, .data⟩ (by simp) rfl _ rfl; clear hA hD; refine o7p rfl ?_; intro K hK; gi_wp2; exact hK _ _ rfl (B7 _ _)
    · intro a' w' hA hC hD; obtain ⟨u12, s12, rfl⟩ := hD ⟨8, .data⟩ (by simp) rfl _ rfl; clear hA hD; refine o7p rfl ?_; intro K hK; gi_wp2; exact hK _ _ rfl (B7 _ _)
    · intro a' w' hA hC hD; have s1 := hA.to 1 (by kernel_rfl) rfl; obtain ⟨u13, s13, rfl⟩ := hD ⟨9, .guard⟩ (by simp) rfl _ rfl; clear hA hD
      exact o7s rfl rfl s13 rfl
    · intro a' w' hA hC hD; obtain ⟨u14, s14, r14⟩ := hD ⟨10, .data⟩ (by simp) rfl _ rfl; replace r14 : u14 = undef := r14; subst r14; obtain ⟨u13, s13, rfl⟩ := hD ⟨9, .chain⟩ (by simp) rfl _ rfl; clear hA hD
      exact o7s rfl rfl s13 rfl
    · intro a' w' hA hC hD; have s1 := hA.to 1 (by kernel_rfl) rfl; obtain ⟨u13, s13, rfl⟩ := hD ⟨9, .guard⟩ (by simp) rfl _ rfl; clear hA hD
      exact o7s rfl rfl s13 rfl
    · intro a' w' hA hC hD; obtain ⟨u15, s15, r15⟩ := hD ⟨11, .data⟩ (by simp) rfl _ rfl; replace r15 : u15 = undef := r15; subst r15; obtain ⟨u16, s16, r16⟩ := hD ⟨12, .data⟩ (by simp) rfl _ rfl; replace r16 : u16 = undef := r16; subst r16; obtain ⟨u13, s13, rfl⟩ := hD ⟨9, .guard⟩ (by simp) rfl _ rfl; clear hA hD
      exact o7s rfl rfl s13 rfl
    · intro a' w' hA hC hD; obtain ⟨u13, s13, rfl⟩ := hD ⟨9, .data⟩ (by simp) rfl _ rfl; obtain ⟨u17, s17, r17⟩ := hD ⟨13, .data⟩ (by simp) rfl _ rfl; replace r17 : u17 = undef := r17; subst r17; clear hA hD; refine o7p rfl ?_; intro K hK; gi_wp2; exact hK _ _ rfl (B7 _ _)
   case hend =>
    intro w3 hC
    simp only [EndFrom, eqv, forall_eq, Act.put, List.length_cons, List.length_nil, List.drop_succ_cons, List.drop_zero, Nat.reduceAdd, List.setIfInBounds_toArray, List.set_cons_succ, List.set_cons_zero]
    have HS := H7 (HS.out.below hC)
    clear hC
    gi_wp2_with fail
    refine (callsIn_wide.2 (opNeed_no _)).mono ?_
    rintro e w5 ⟨rfl, rfl⟩
    have hf : B = false := by rw [← HB.out]; rfl
    rw [hf]
    exact mayEnds_no HS.out.low
  | true =>
   apply w7v 15 (Rl := [(eqv _), (eqv _), (eqv _), (eqv _), (eqv _), (eqv _), (eqv _), (eqv _), (eqv _), (eqv _), (eqv _), (fun v_ w_ => ∃ pv2, v_ = .agg ((plainO o).cells pv2) ∧ PixV (plainO o).px pv2 w_), (eqv _), (eqv _), (eqv _)]) (C := (fun x y => Below x.heap.size x y))
   case hm => kernel_rfl
   case hk => rfl
   case hCr => exact (fun _ => B7 _ _)
   case hCt => intro _ _ _; exact (fun h k => g7t h k)
   case hst => exact ⟨fun _ _ _ _ h => h, fun _ _ _ _ h => h, fun _ _ _ _ h => h, fun _ _ _ _ h => h, fun _ _ _ _ h => h, fun _ _ _ _ h => h, fun _ _ _ _ h => h, fun _ _ _ _ h => h, fun _ _ _ _ h => h, fun _ _ _ _ h => h, fun _ _ _ _ h => h, fun _ _ _ hC ⟨pv2, h1, h2⟩ => ⟨pv2, h1, h2.below hC⟩, fun _ _ _ _ h => h, fun _ _ _ _ h => h, fun _ _ _ _ h => h, trivial⟩
   case hfo => kernel_rfl
   case ht => kernel_rfl
   case hC0 => exact (g7d _)
   case hsteps =>
    refine ⟨?_, ?_, ?_, ?_, ?_, ?_, ?_, ?_, ?_, ?_, ?_, ?_, ?_, ?_, ?_, trivial⟩
    · intro a' w' hA hC hD; have s1 := hA.to 1 (by kernel_rfl) rfl; clear hA hD; refine o7p rfl ?_; intro K hK; gi_wp2; exact hK _ _ rfl (B7 _ _)
    · intro a' w' hA hC hD; obtain ⟨u4, s4, rfl⟩ := hD ⟨0, .data⟩ (by simp) rfl _ rfl
      obtain ⟨q0, q1, q2, -⟩ := opCells ((HS.out.below hC).blockAt 0 rfl)
      clear hA hD; refine o7p rfl ?_; intro K hK; gi_wp2; exact hK _ _ rfl (B7 _ _)
    · intro a' w' hA hC hD; obtain ⟨u5, s5, rfl⟩ := hD ⟨1, .data⟩ (by simp) rfl _ rfl; clear hA hD; refine o7p rfl ?_; intro K hK
      gi_wp2_with fail; refine (callsIn_wide.2 (HID.out _)).mono ?_; rintro e w2 ⟨rfl, hb⟩; exact hK _ _ rfl hb
    · intro a' w' hA hC hD; obtain ⟨u6, s6, rfl⟩ := hD ⟨2, .data⟩ (by simp) rfl _ rfl; clear hA hD; refine o7p rfl ?_; intro K hK; gi_wp2; exact hK _ _ rfl (B7 _ _)
    · intro a' w' hA hC hD; obtain ⟨u7, s7, rfl⟩ := hD ⟨3, .data⟩ (by simp) rfl _ rfl; clear hA hD; refine o7p rfl ?_; intro K hK; gi_wp2; exact hK _ _ rfl (B7 _ _)
    · intro a' w' hA hC hD; have s1 := hA.to 1 (by kernel_rfl) rfl; obtain ⟨u8, s8, rfl⟩ := hD ⟨4, .guard⟩ (by simp) rfl _ rfl; clear hA hD; refine o7w rfl rfl s8 ?_; intro K hK; gi_wp2; exact hK _ _ rfl (B7 _ _)
    · intro a' w' hA hC hD; obtain ⟨u9, s9, rfl⟩ := hD ⟨5, .data⟩ (by simp) rfl _ rfl; obtain ⟨u8, s8, rfl⟩ := hD ⟨4, .guard⟩ (by simp) rfl _ rfl
      obtain ⟨-, -, -, q3, -⟩ := opCells ((HS.out.below hC).blockAt 0 rfl)
      clear hA hD; refine o7w rfl rfl s8 ?_; intro K hK; gi_wp2; exact hK _ _ rfl (B7 _ _)
    · intro a' w' hA hC hD; obtain ⟨u10, s10, rfl⟩ := hD ⟨6, .data⟩ (by simp) rfl _ rfl; obtain ⟨u8, s8, rfl⟩ := hD ⟨4, .chain⟩ (by simp) rfl _ rfl; clear hA hD; refine o7w rfl rfl s8 ?_; intro K hK
      gi_wp2_with fail; refine (callsIn_wide.2 (HK.out _)).mono ?_; rintro e w2 ⟨rfl, hb⟩; exact hK _ _ rfl hb
    · intro a' w' hA hC hD; obtain ⟨u8, s8, rfl⟩ := hD ⟨4, .data⟩ (by simp) rfl _ rfl; obtain ⟨u11, s11, rfl⟩ := hD ⟨7, .data⟩ (by simp) rfl _ rfl; clear hA hD; refine o7p rfl ?_; intro K hK; gi_wp2; exact hK _ _ rfl (B7 _ _)
    · intro a' w' hA hC hD; obtain ⟨u12, s12, rfl⟩ := hD ⟨8, .data⟩ (by simp) rfl _ rfl; clear hA hD; refine o7p rfl ?_; intro K hK; gi_wp2; exact hK _ _ rfl (B7 _ _)
    · intro a' w' hA hC hD; have s1 := hA.to 1 (by kernel_rfl) rfl; obtain ⟨u13, s13, rfl⟩ := hD ⟨9, .guard⟩ (by simp) rfl _ rfl; clear hA hD; refine o7w rfl rfl s13 ?_; intro K hK
      refine opIn_load 51 _ rfl w.heap.size (by simp [Act.eval, s1]) 51 _ (0, 0) _ ((HS.out.below hC).blockAt 0 rfl) Tryz.underlying51 rfl (by kernel_rfl) (hK _ _ rfl (B7 _ _))
    · intro a' w' hA hC hD; obtain ⟨u14, s14, rfl⟩ := hD ⟨10, .data⟩ (by simp) rfl _ rfl; obtain ⟨u13, s13, rfl⟩ := hD ⟨9, .chain⟩ (by simp) rfl _ rfl; clear hA hD; refine o7w rfl rfl s13 ?_; intro K hK
      gi_wp2_with fail; refine (callsIn_wide.2 (HPL.out _ (HS.out.below hC).low)).mono ?_; rintro e w5 ⟨pv2, rfl, h2, hb⟩
      exact hK _ _ ⟨pv2, rfl, h2⟩ hb
    · intro a' w' hA hC hD; have s1 := hA.to 1 (by kernel_rfl) rfl; obtain ⟨u13, s13, rfl⟩ := hD ⟨9, .guard⟩ (by simp) rfl _ rfl; clear hA hD; refine o7w rfl rfl s13 ?_; intro K hK
      refine opIn_load 51 _ rfl w.heap.size (by simp [Act.eval, s1]) 51 _ (0, 0) _ ((HS.out.below hC).blockAt 0 rfl) Tryz.underlying51 rfl (by kernel_rfl) (hK _ _ rfl (B7 _ _))
    · intro a' w' hA hC hD; obtain ⟨u15, s15, r15⟩ := hD ⟨11, .data⟩ (by simp) rfl _ rfl; replace r15 : (fun v_ w_ => ∃ pv2, v_ = .agg ((plainO o).cells pv2) ∧ PixV (plainO o).px pv2 w_) u15 w' := r15; obtain ⟨u16, s16, rfl⟩ := hD ⟨12, .data⟩ (by simp) rfl _ rfl; obtain ⟨u13, s13, rfl⟩ := hD ⟨9, .guard⟩ (by simp) rfl _ rfl
      obtain ⟨pv2, rfl, h2⟩ := r15
      clear hA hD; refine o7w rfl rfl s13 ?_; intro K hK
      gi_wp2_with fail; refine (callsIn_wide.2 (HSM.out _ pv2 (HS.out.below hC).low h2)).mono ?_; rintro e w2 ⟨rfl, hb⟩; exact hK _ _ rfl hb
    · intro a' w' hA hC hD; obtain ⟨u13, s13, rfl⟩ := hD ⟨9, .data⟩ (by simp) rfl _ rfl; obtain ⟨u17, s17, rfl⟩ := hD ⟨13, .data⟩ (by simp) rfl _ rfl; clear hA hD; refine o7p rfl ?_; intro K hK; gi_wp2; exact hK _ _ rfl (B7 _ _)
   case hend =>
    intro w3 hC
    simp only [EndFrom, eqv, forall_eq, Act.put, List.length_cons, List.length_nil, List.drop_succ_cons, List.drop_zero, Nat.reduceAdd, List.setIfInBounds_toArray, List.set_cons_succ, List.set_cons_zero]
    have HS := H7 (HS.out.below hC)
    clear hC
    intro v11 h11; clear h11
    gi_wp2_with fail
    cases b3 with
    | false =>
     refine (callsIn_wide.2 (opNeed_no _)).mono ?_
     rintro e w5 ⟨rfl, rfl⟩
     have hf : B = false := by rw [← HB.out]; rfl
     rw [hf]
     exact mayEnds_no HS.out.low
    | true =>
     refine (callsIn_wide.2 (opNeed_ok _)).mono ?_
     rintro e w5 ⟨rfl, rfl⟩
     gi_wp2_with fail
     refine wpX_seq (wpX_seq (wpX_of ?_))
     have h1 := HS.out.blockAt 0 rfl
     repeat ((fail_if_success (refine opIn_load 51 _ rfl w.heap.size rfl 51 _ (0, 0) _ h1 Tryz.underlying51 rfl (by kernel_rfl) ?_)); gi_step)
     refine opIn_load 51 _ rfl w.heap.size rfl 51 _ (0, 0) _ h1 Tryz.underlying51 rfl (by kernel_rfl) ?_
     simp only [Act.put, List.setIfInBounds_toArray, List.set_cons_succ, List.set_cons_zero]
     clear h1
     gi_wp2_with fail
     refine (callsIn_wide.2 (HNU.out _)).mono ?_
     rintro e w5 ⟨rfl, rfl⟩
     gi_wp2_with fail
     have hs_ := (HS.out.alloc (.cells (o.cells (.slice a o.px.length cap)) 51))
     obtain ⟨w4, hw_⟩ : ∃ w4 : World, (w3.alloc (.cells (o.cells (.slice a o.px.length cap)) 51)) = w4 := ⟨_, rfl⟩
     rw [hw_] at hs_
     try simp only [World.size_alloc] at hs_
     have HS := H7 hs_
     rw [hw_]
     clear hw_ hs_
     have HBX := H7 (HS.out.blockAt 0 rfl)
     refine wpX_block (wpX_range_need (gf := 108) (lb := #[.pointer (some ⟨w3.heap.size, 0, none⟩)]) rfl (enters_of Tryz.func108 (by kernel_rfl) rfl) 4 (fun k => #[.int .i64 (numAt o k)]) (fun _ => rfl)
      [{ v := .iface 34 (.int .i64 220), recovered := false }] (numB o) (fun k => [(22, .int .i64 (numAt o k))]) (fun k => [(2, .int .i64 (numAt o k))]) (fun _ => by simp) ?hseq ?hassign ?hbody ?hdone ?hpan)
     case hseq =>
      intro l J Jp W hb hY h0
      exact numbers1_in 9 (by omega) l _ o _ J Jp _ hY W ((hb.block _ (b7t HBX.out)).trans HBX.out) h0
     case hassign =>
      intro l k W K hK
      simp only [loopAct, List.foldl, List.cons_append, List.nil_append] at hK ⊢
      gi_wp2
      exact hK
     case hbody =>
      intro l k W hk
      have hn := numB_eq o k
      simp only [loopAct, List.foldl, List.cons_append, List.nil_append]
      obtain ⟨x, hx⟩ : ∃ x, numAt o k = x := ⟨_, rfl⟩
      rw [hx] at hn ⊢
      clear hx hk
      obtain ⟨c1, e1⟩ : ∃ c, decide (-64 ≤ x) = c := ⟨_, rfl⟩
      obtain ⟨c2, e2⟩ : ∃ c, decide (x ≤ 127) = c := ⟨_, rfl⟩
      rw [e1, e2] at hn
      have HN := H7 hn
      clear hn
      rcases Bool.eq_false_or_eq_true (c1 && c2) with hc | hc
      · obtain ⟨rfl, rfl⟩ : c1 = true ∧ c2 = true := by simpa using hc
        clear hc
        gi_wp2_with fail
        refine (CallsIn.inRound l (callsIn_wide.2 (opNeed_ok _))).mono ?_
        rintro e w5 ⟨rfl, rfl⟩
        gi_wp2
        exact HN.out
      · cases c1 <;> cases c2 <;> first
         | (cases hc; done)
         | (
          clear hc
          gi_wp2_with fail
          refine (CallsIn.inRound l (callsIn_wide.2 (opNeed_no _))).mono ?_
          rintro e w5 ⟨rfl, rfl⟩
          exact .inr ⟨rfl, HN.out, rfl, rfl⟩)
     case hpan =>
      intro hno D W hD hb hK
      refine .inr ⟨_, rfl, ?_⟩
      refine panic_marked rfl hK ?_ (by simp)
      have hf : B = false := by rw [← HB.out, HNN.out hno]; rfl
      rw [hf]
      exact mayEnds_no (below_putObj (HS.out.below hb).low hK (Nat.le_trans HS.out.low.size hD) _)
     case hdone =>
      intro hall D W hD hb hK
      refine .inl ⟨rfl, ?_⟩
      refine (wpX_of ?_ : WpX 10 _ _ _ _ _)
      simp only []
      have HB := H7 (show (opSizeB o && (mayS o && mayT o)) = B by rw [← HB.out, HNB.out.2 hall]; rfl)
      have HS' := HS
      have HS := H7 (HS.out.below hb)
      have HD := H7 (MkAt.mk (Nat.le_trans (show w.heap.size ≤ w4.heap.size from HS'.out.low.size) hD) hK)
      clear HS' hD hK hb hall HBX HNB HNN HPL HSM HID HK HNU
      have HT1 := H7 (fun w' => idCheck_any o.tg w')
      have HT2 := H7 (fun w' => identLess_any o.tg o.id w')
      have HT3 := H7 (cmpId_lt o.tg o.id)
      have HPT := H7 (fun w' => opPaints_any o.kind w')
      have HST := H7 (fun w' => stCheck_any o.sw o.sh a o.px.length cap w')
      have HMS := H7 (mayS_eq o)
      obtain ⟨-, -, -, q3, -, -, -, -, q8, -⟩ := opCells (HS.out.blockAt 1 rfl)
      rcases mostO_cases o with ⟨hm, e5⟩ | ⟨hm, e5⟩ <;> (
       obtain ⟨c1, e1⟩ : ∃ c, decide (0 ≤ o.size) = c := ⟨_, rfl⟩
       obtain ⟨c2, e2⟩ : ∃ c, decide (o.size ≤ mostO o) = c := ⟨_, rfl⟩
       have HSZ := H7 (show opSizeB o = (c1 && c2) by unfold opSizeB; rw [e1, e2])
       rw [hm] at e2
       clear hm
       rcases Bool.eq_false_or_eq_true (c1 && c2) with hc | hc
       · obtain ⟨rfl, rfl⟩ : c1 = true ∧ c2 = true := by simpa using hc
         clear hc
         gi_wp2_with fail
         refine (callsIn_wide.2 (opNeed_ok _)).mono ?_
         rintro e w5 ⟨rfl, rfl⟩
         clear q3 q8
         obtain ⟨-, -, -, q3, -, -, -, -, -, -, -, -, -, q13, q14, q15, -⟩ := opCells (HS.out.blockAt 1 rfl)
         obtain ⟨c6, e6⟩ : ∃ c, (o.kind != 6) = c := ⟨_, rfl⟩
         obtain ⟨s, hs⟩ : ∃ s, stOk o.sw o.sh o.px.length = s := ⟨_, rfl⟩
         rw [e6, hs] at HMS
         rw [hs] at HST
         clear hs
         rcases Bool.eq_false_or_eq_true (c6 || s) with hc | hc
         · have HMC := H7 (show mayS o = true by rw [HMS.out, hc])
           cases c6 <;> (first | (obtain rfl : s = true := hc) | clear hc) <;> (
            gi_wp2_with fail
            (try (refine (callsIn_wide.2 (HST.out _)).mono ?_; rintro e w6 ⟨rfl, hb_⟩; have HS := H7 (HS.out.below hb_); have HD := H7 (HD.out.below hb_); clear hb_; gi_wp2_with fail))
            refine (callsIn_wide.2 (opNeed_ok _)).mono ?_
            rintro e w9 ⟨rfl, rfl⟩
            clear q3 q13 q14 q15 e6 e5 e1 e2
            obtain ⟨-, -, -, q3, -⟩ := opCells (HS.out.blockAt 1 rfl)
            gi_wp2_with fail
            refine (callsIn_wide.2 (HPT.out _)).mono ?_
            rintro e w7 ⟨rfl, hb_⟩
            have HS := H7 (HS.out.below hb_)
            have HD := H7 (HD.out.below hb_)
            clear hb_
            obtain ⟨p, hp⟩ : ∃ p, (isKind o.kind && decide (o.kind ≤ 6)) = p := ⟨_, rfl⟩
            obtain ⟨t1, ht1⟩ : ∃ t, idOk o.tg = t := ⟨_, rfl⟩
            obtain ⟨t2, ht2⟩ : ∃ t, decide (cmpId o.tg o.id < 0) = t := ⟨_, rfl⟩
            have HMT := H7 (show mayT o = (p || (t1 && t2)) by unfold mayT paintsB; rw [hp, ht1, ← HT3.out, ht2])
            rw [ht1] at HT1
            rw [ht2] at HT2
            rw [hp]
            clear hp ht1 ht2 q3 HPT HST HMS HT3
            obtain ⟨z0, z1, z2, -, -, -, -, -, -, -, -, -, -, -, -, -, z16, z17, z18⟩ := opCells (HS.out.blockAt 1 rfl)
            cases p with
            | true =>
             gi_wp2_with (exfalso; exact undefB (by assumption))
             refine (callsIn_wide.2 (opNeed_ok _)).mono ?_
             rintro e w9 ⟨rfl, rfl⟩
             gi_wp2_with (exfalso; exact undefB (by assumption))
             have hf : B = true := by rw [← HB.out, HSZ.out, HMC.out, HMT.out]; rfl
             rw [hf]
             exact ret_marked rfl HD.out.at_ (v := .tuple #[]) (results_none rfl _ _ _) ⟨below_putObj HS.out.low HD.out.at_ HD.out.le _, fun _ => rfl, fun h => (by cases h)⟩
            | false =>
             gi_wp2_with (exfalso; exact undefB (by assumption))
             refine (callsIn_wide.2 (HT1.out _)).mono ?_
             rintro e w8 ⟨rfl, hb_⟩
             have HS := H7 (HS.out.below hb_)
             have HD := H7 (HD.out.below hb_)
             clear hb_
             clear z0 z1 z2 z16 z17 z18
             cases t1 with
             | false =>
              gi_wp2_with (exfalso; exact undefB (by assumption))
              refine (callsIn_wide.2 (opNeed_no _)).mono ?_
              rintro e w9 ⟨rfl, rfl⟩
              refine panic_marked rfl HD.out.at_ ?_ (by simp)
              have hf : B = false := by rw [← HB.out, HSZ.out, HMC.out, HMT.out]; rfl
              rw [hf]
              exact mayEnds_no (below_putObj HS.out.low HD.out.at_ HD.out.le _)
             | true =>
              obtain ⟨z0, z1, z2, -, -, -, -, -, -, -, -, -, -, -, -, -, z16, z17, z18⟩ := opCells (HS.out.blockAt 1 rfl)
              gi_wp2_with (exfalso; exact undefB (by assumption))
              refine (callsIn_wide.2 (HT2.out _)).mono ?_
              rintro e w10 ⟨rfl, hb_⟩
              have HS := H7 (HS.out.below hb_)
              have HD := H7 (HD.out.below hb_)
              clear hb_
              cases t2 with
              | false =>
               gi_wp2_with (exfalso; exact undefB (by assumption))
               refine (callsIn_wide.2 (opNeed_no _)).mono ?_
               rintro e w9 ⟨rfl, rfl⟩
               refine panic_marked rfl HD.out.at_ ?_ (by simp)
               have hf : B = false := by rw [← HB.out, HSZ.out, HMC.out, HMT.out]; rfl
               rw [hf]
               exact mayEnds_no (below_putObj HS.out.low HD.out.at_ HD.out.le _)
              | true =>
               gi_wp2_with (exfalso; exact undefB (by assumption))
               refine (callsIn_wide.2 (opNeed_ok _)).mono ?_
               rintro e w9 ⟨rfl, rfl⟩
               gi_wp2_with (exfalso; exact undefB (by assumption))
               have hf : B = true := by rw [← HB.out, HSZ.out, HMC.out, HMT.out]; rfl
               rw [hf]
               exact ret_marked rfl HD.out.at_ (v := .tuple #[]) (results_none rfl _ _ _) ⟨below_putObj HS.out.low HD.out.at_ HD.out.le _, fun _ => rfl, fun h => (by cases h)⟩)
         · obtain ⟨rfl, rfl⟩ : c6 = false ∧ s = false := by simpa using hc
           clear hc
           gi_wp2_with (exfalso; exact undefB (by assumption))
           refine (callsIn_wide.2 (HST.out _)).mono ?_
           rintro e w6 ⟨rfl, hb_⟩
           have HS := H7 (HS.out.below hb_)
           have HD := H7 (HD.out.below hb_)
           clear hb_
           gi_wp2_with (exfalso; exact undefB (by assumption))
           refine (callsIn_wide.2 (opNeed_no _)).mono ?_
           rintro e w9 ⟨rfl, rfl⟩
           refine panic_marked rfl HD.out.at_ ?_ (by simp)
           have hf : B = false := by rw [← HB.out, HSZ.out, HMS.out]; rfl
           rw [hf]
           exact mayEnds_no (below_putObj HS.out.low HD.out.at_ HD.out.le _)
       · cases c1 <;> cases c2 <;> first
          | (cases hc; done)
          | (
           clear hc
           gi_wp2_with (exfalso; exact undefB (by assumption))
           refine (callsIn_wide.2 (opNeed_no _)).mono ?_
           rintro e w5 ⟨rfl, rfl⟩
           refine panic_marked rfl HD.out.at_ ?_ (by simp)
           have hf : B = false := by rw [← HB.out, HSZ.out]; rfl
           rw [hf]
           exact mayEnds_no (below_putObj HS.out.low HD.out.at_ HD.out.le _)))
/- Layer 12: Check. -/
set_option maxRecDepth 100000 in
set_option maxHeartbeats 2000000 in
theorem opCheck1_any (o : OpT) (pv : Value) (B : Nat) (hlen : o.px.length ≤ 1000000000) (w : World) (hB : w.heap[B]? = some (.cells (o.cells pv) 51 (0, 0))) (hp : PixV o.px pv w) :
 Calls Tryz.prog 80 #[.pointer (some ⟨B, 0, none⟩)] w (MayEnds (opMayB o) w) := by
 have HM := H7 (opMay_any o pv hlen w hp)
 clear hp
 go_enter Tryz.func80, Tryz.ntmps80
 refine (wpIn_wide (n := 0)).1 ?_
 repeat ((fail_if_success (refine opIn_load 51 _ rfl B rfl 51 _ (0, 0) _ hB Tryz.underlying51 rfl (by kernel_rfl) ?_)); gi_step)
 refine opIn_load 51 _ rfl B rfl 51 _ (0, 0) _ hB Tryz.underlying51 rfl (by kernel_rfl) ?_
 simp only [Act.put, List.setIfInBounds_toArray, List.set_cons_succ, List.set_cons_zero]
 clear hB
 gi_wp2_with fail
 refine (callsIn_wide.2 HM.out).mono ?_
 rintro e w2 ⟨hb, h1, h2⟩
 cases hm : opMayB o with
 | true =>
  obtain rfl := h1 hm
  gi_wp2_with fail
  go_end0
  exact ⟨hb, fun _ => rfl, fun h => (by rw [hm] at h; cases h)⟩
 | false =>
  have h3 := h2 hm
  unfold PanicO at h3
  subst h3
  exact ⟨rfl, hb, fun h => (by first | (cases h; done) | (rw [hm] at h; cases h)), fun _ => rfl⟩
theorem errOf220 (b : Bool) : errOf b 220 = 0 ↔ b = true := by cases b <;> simp [errOf]
set_option maxRecDepth 100000 in
set_option maxHeartbeats 2000000 in
theorem opCheck_any (o : OpT) (pv : Value) (hlen : o.px.length ≤ 1000000000) (w : World) (hp : PixV o.px pv w) :
 Calls Tryz.prog 66 #[.agg (o.cells pv)] w (Gives (.int .i64 (errOf (opMayB o) 220)) w) := by
 have hmf : ∀ (fn : Fn) (first cap : Array Value) (w : World), (Instr.makeFunc fn first cap).run Tryz.prog w = .ok (.func fn first cap) w := fun _ _ _ _ => rfl
 have HS := H7 (St.start w)
 have HP := H7 (fun w' (hb : Below w.heap.size w w') => hp.below hb)
 clear hp
 go_enter Tryz.func66, Tryz.ntmps66
 repeat ((fail_if_success (with_reducible refine stop_at (id := 1) ?_)); (first | go_values | go_skip | go_guarded | go_step | go_upon | go_back | (simp only [Int.not_lt, Int.not_le] at *; go_simp) | (go_values <;> (try go_simp)) | (go_ite <;> go_prune <;> (try go_simp)) | (split <;> (first | (rename_i hx; exact (hx _ rfl).elim) | go_prune))))
 have hs_ := (HS.out.alloc (.cells (o.cells pv) 51))
 obtain ⟨w1, hw_⟩ : ∃ w1 : World, (w.alloc (.cells (o.cells pv) 51)) = w1 := ⟨_, rfl⟩
 rw [hw_] at hs_
 try simp only [World.size_alloc] at hs_
 have HS := H7 hs_
 rw [hw_]
 clear hw_ hs_
 go_wp2_with fail
 refine (opTries_any 80 #[.pointer (some ⟨w.heap.size, 0, none⟩)] (fun _ => False) (errOf (opMayB o) 220) (fun _ => True) w1 (fun _ h => h.elim) (fun _ _ => by simp [go_sem]) (fun _ _ _ _ h => h)
  (fun w2 hb hlt => (opCheck1_any o pv w.heap.size hlen w2 ((HS.out.below hb).blockAt 0 rfl) (HP.out w2 (HS.out.below hb).low)).mono fun e w3 h => ⟨Turned.ofBelow _ h.1, fun h0 => ⟨h.2.1 ((errOf220 _).1 h0), trivial⟩, fun h0 => ?_⟩)).mono ?_
 · have hf : opMayB o = false := by cases hm : opMayB o with | false => rfl | true => exact absurd ((errOf220 _).2 hm) h0
   rw [hf]
   exact h.2.2 hf
 · rintro e w3 ⟨rfl, ht, -⟩
   have hb := ht.below (Nat.le_refl _) (fun _ h => h.elim)
   have hlow := HS.out.low.trans (hb.mono HS.out.low.size)
   go_wp2_with fail
   go_ret
   exact ⟨rfl, hlow⟩
/- Rows of operations; slices.IndexFunc and ContainsFunc on them. -/
/-- An operation with its pixels' slice. -/
abbrev OpX : Type := OpT × Value
def encO (x : OpX) : List Value := (x.1.cells x.2).toList
theorem encO_len (x : OpX) : (encO x).length = 19 := rfl
/-- Its pixels can be read. -/
def OkO (w : World) (x : OpX) : Prop := PixV x.1.px x.2 w ∧ x.1.px.length ≤ 1000000000
theorem OkO.below {w w' : World} {x : OpX} (h : OkO w x) (hb : Below w.heap.size w w') : OkO w' x := ⟨h.1.below hb, h.2⟩
/-- A row of operations that is read. -/
structure OpsV (w : World) (a : Option Addr) (n cap : Nat) (L : List OpX) : Prop where
 len : L.length = n
 el : Elems w (.slice a n cap) n 19 (rowC encO L)
 ok : ∀ x ∈ L, OkO w x
theorem OpsV.below {w w' : World} {a : Option Addr} {n cap : Nat} {L : List OpX} (h : OpsV w a n cap L) (hb : Below w.heap.size w w') : OpsV w' a n cap L := ⟨h.len, h.el.below hb, fun x hx => (h.ok x hx).below hb⟩
theorem OpsV.nil (w : World) : OpsV w none 0 0 [] := ⟨rfl, .inl ⟨rfl, rfl⟩, fun x hx => by cases hx⟩
/-- An operation's cells within a row. -/
theorem OpsV.rng {w : World} {b off n cap : Nat} {L : List OpX} (h : OpsV w (some ⟨b, off, none⟩) n cap L) {i : Nat} {q : OpX} (hq : L[i]? = some q) : w.rangeAt b (off + i * 19) (encO q) := by
 intro r u hu
 have hr : r < 19 := by rw [← encO_len q]; exact (List.getElem?_eq_some_iff.1 hu).1
 have hi : i < n := by rw [← h.len]; exact (List.getElem?_eq_some_iff.1 hq).1
 rcases h.el with ⟨e, h⟩ | ⟨b', off', cap', e, -, hcs⟩
 · cases e
 · cases e
   have h1 := hcs (i * 19 + r) (by omega)
   unfold rowC at h1
   rw [flat_get encO_len L _ _ hr, hq] at h1
   simp only [Option.bind_some, hu] at h1
   rw [← Nat.add_assoc] at h1
   exact h1
theorem OpsV.addr {w : World} {a : Option Addr} {n cap : Nat} {L : List OpX} (h : OpsV w a n cap L) (hn : 0 < n) : ∃ b off, a = some ⟨b, off, none⟩ ∧ b < w.heap.size := by
 rcases h.el with ⟨e, h⟩ | ⟨b, off, cap', e, hb, -⟩
 · omega
 · cases e; exact ⟨b, off, rfl, hb⟩
/-- What a block holds. -/
structure BlkO (b : Nat) (o : Obj) (w : World) : Prop where
 at_ : w.heap[b]? = some o
theorem BlkO.below {b : Nat} {o : Obj} {w w' : World} (h : BlkO b o w) (hb : Below w.heap.size w w') : BlkO b o w' := ⟨(hb.block b (b7t h.at_)).trans h.at_⟩
theorem size_O : (Tryz.prog.info? 51).map (·.size) = some 19 := by kernel_rfl
/- Layer 14: copies of rows; an operation of its own; need. -/
section
variable {F : Fence} {n : Nat} {P : Program} {w w' : World} {o : Oper} {a : Act} {K : Act → World → Prop} {Q : Exit → Act → World → Prop}
end
end Go.Proofs.YteklfmacnnmomaaGreat
