/- Merged texts: OpL OpM OpN OpO RgA. -/
import Derived.Test.YtgdcfkbimkclaaaGreatDoorM7
import Derived.Test.YtgdcfkbimkclaaaGreatDoorM11
import Derived.Test.YtgdcfkbimkclaaaGreatDoorM9
import Derived.Test.YtgdcfkbimkclaaaGreatDoorM1
set_option linter.unusedSimpArgs false
set_option linter.unusedVariables false
/- Layer 12: a painter paints. -/
namespace Go.Proofs.YtgdcfkbimkclaaaGreatDoor
open Go.RowKit Go.Shelf
attribute [local go_sem] Oper.semAt_some
/-- The methods of the kinds. -/
def paintM (k : Int) : Nat := if k = 1 ∨ k = 2 then 95 else if k = 3 then 98 else if k = 4 then 100 else if k = 5 then 101 else if k = 6 then 102 else 97
def reachM (k : Int) : Nat := if k = 1 ∨ k = 2 then 96 else if k = 3 ∨ k = 4 then 99 else if k = 5 then 94 else if k = 6 then 103 else 93
theorem run_way (k : Int) (hk : isKind k = true) (g1 g2 g3 g4 g5 : Nat) (w : World) : ∃ x, (∃ a n c, x = Value.slice a n c) ∧ (Instr.index 95 (.agg (kindsA g1 g2 g3 g4 g5)) (.int .i64 k)).run Tryz.prog w = .ok (.agg #[x, fV (paintM k), fV (reachM k)]) w := by
 have h8 := isKind_iff.1 hk
 rcases (show k = 1 ∨ k = 2 ∨ k = 3 ∨ k = 4 ∨ k = 5 ∨ k = 6 ∨ k = 7 ∨ k = 8 by omega) with rfl | rfl | rfl | rfl | rfl | rfl | rfl | rfl
 · exact ⟨_, ⟨_, _, _, rfl⟩, run_way1 g1 g2 g3 g4 g5 w⟩
 · exact ⟨_, ⟨_, _, _, rfl⟩, run_way2 g1 g2 g3 g4 g5 w⟩
 · exact ⟨_, ⟨_, _, _, rfl⟩, run_way3 g1 g2 g3 g4 g5 w⟩
 · exact ⟨_, ⟨_, _, _, rfl⟩, run_way4 g1 g2 g3 g4 g5 w⟩
 · exact ⟨_, ⟨_, _, _, rfl⟩, run_way5 g1 g2 g3 g4 g5 w⟩
 · exact ⟨_, ⟨_, _, _, rfl⟩, run_way6 g1 g2 g3 g4 g5 w⟩
 · exact ⟨_, ⟨_, _, _, rfl⟩, run_way7 g1 g2 g3 g4 g5 w⟩
 · exact ⟨_, ⟨_, _, _, rfl⟩, run_way8 g1 g2 g3 g4 g5 w⟩
theorem enters_paintM (k : Int) (args : Array Value) (w : World) : (callFunc (paintM k) args).run Tryz.prog w = .ok (.enter (paintM k) args) w := by
 unfold paintM
 repeat (split; simp [go_sem])
 simp [go_sem]
theorem enters_reachM (k : Int) (args : Array Value) (w : World) : (callFunc (reachM k) args).run Tryz.prog w = .ok (.enter (reachM k) args) w := by
 unfold reachM
 repeat (split; simp [go_sem])
 simp [go_sem]
theorem run_way_paint (x z : Value) (m : Nat) (hx : ∃ a n c, x = .slice a n c) (w : World) : (Instr.field 94 (.agg #[x, fV m, z]) 1).run Tryz.prog w = .ok (fV m) w := by
 obtain ⟨a, n, c, rfl⟩ := hx
 have h1 := Tryz.isAgg88 w
 have h2 := Tryz.sizeOf88 w
 have h3 := Tryz.isAgg92 w
 have h4 := Tryz.sizeOf92 w
 simp [Instr.field, run_underlying Tryz.underlying94, part, asAgg, h1, h2, h3, h4, go_sem]
/-- What a kind's method does to a canvas. -/
def MethOk (G : CanT → Prop) (R : OpT → CanT → CanT → Prop) (w : World) (x : OpX) : Prop :=
 ∀ (w' : World) (P d : Nat) (C : CanT), Below w.heap.size w w' → w'.heap[P]? = some (.cells #[.pointer (some ⟨d, 0, none⟩)] 112 (0, 0)) → CanAt w' d C → G C →
  Calls Tryz.prog (paintM x.1.kind) #[.pointer (some ⟨P, 0, none⟩), .agg (x.1.cells x.2)] w' fun e w'' => ∃ d' D, e = .returned (.tuple #[.pointer (some ⟨d', 0, none⟩), .int .i64 0]) ∧ R x.1 C D ∧ CanAt w'' d' D ∧ Below w'.heap.size w' w''
/-- A painter's block, and its canvas. -/
def PtrC (P d : Nat) (C : CanT) (w : World) : Prop := w.heap[P]? = some (.cells #[.pointer (some ⟨d, 0, none⟩)] 112 (0, 0)) ∧ CanAt w d C
theorem PtrC.below {P d : Nat} {C : CanT} {w w' : World} (h : PtrC P d C w) (hb : Below w.heap.size w w') : PtrC P d C w' := ⟨(hb.block P (b7t h.1)).trans h.1, h.2.below hb⟩
theorem CanAt.notTile {w : World} {d : Nat} {C : CanT} (h : CanAt w d C) {cs : Array Value} (hq : w.heap[d]? = some (.cells cs 54 (0, 0))) : cs.size ≠ 256 := by
 obtain ⟨-, b, cap, qs, h1, -⟩ := h
 rw [h1] at hq
 simp only [Option.some.injEq, Obj.cells.injEq] at hq
 rw [← hq.1]
 simp
set_option maxRecDepth 100000 in
set_option maxHeartbeats 4000000 in
theorem opPaint_any (G : CanT → Prop) (R : OpT → CanT → CanT → Prop) (o : OpT) (pv : Value) (hk : isKind o.kind = true) (w0 : World) (hM : MethOk G R w0 (o, pv)) (P d : Nat) (C : CanT) (hG : G C) (w : World) (hb0 : Below w0.heap.size w0 w) (hP : PtrC P d C w) :
 Calls Tryz.prog 61 #[.pointer (some ⟨P, 0, none⟩), .agg (o.cells pv)] w fun e w' => e = .returned (.tuple #[]) ∧ Turned (fun k => k = P) w w' ∧ ∃ d' D, R o C D ∧ PtrC P d' D w' := by
 have HS := H7 (St.start w)
 have HP := H7 hP
 have HM := H7 (fun w' (hb : Below w.heap.size w w') (h : PtrC P d C w') => hM w' P d C (hb0.trans (hb.mono hb0.size)) h.1 h.2 hG)
 have HW := H7 (fun g1 g2 g3 g4 g5 w' => run_way o.kind hk g1 g2 g3 g4 g5 w')
 have hen := enters_paintM o.kind
 obtain ⟨m, hm⟩ : ∃ m, paintM o.kind = m := ⟨_, rfl⟩
 obtain ⟨r, hr⟩ : ∃ r, reachM o.kind = r := ⟨_, rfl⟩
 dsimp only at HM
 rw [hm] at HM HW hen
 rw [hr] at HW
 clear hM hP hb0 hk hm hr
 go_enter Tryz.func61, Tryz.ntmps61
 repeat ((fail_if_success (with_reducible refine stop_at (id := 1) ?_)); (first | go_values | go_skip | go_guarded | go_step | go_upon | go_back | (simp only [Int.not_lt, Int.not_le] at *; go_simp) | (go_values <;> (try go_simp)) | (go_ite <;> go_prune <;> (try go_simp)) | (split <;> (first | (rename_i hx; exact (hx _ rfl).elim) | go_prune))))
 have hs_ := (HS.out.alloc (.cells (o.cells pv) 31))
 have hk_HP := HP.out.below ((B7 _ _).alloc (by exact Nat.le_refl _) (.cells (o.cells pv) 31))
 obtain ⟨w1, hw_⟩ : ∃ w1 : World, (w.alloc (.cells (o.cells pv) 31)) = w1 := ⟨_, rfl⟩
 rw [hw_] at hs_ hk_HP
 try simp only [World.size_alloc] at hs_
 have HS := H7 hs_
 have HP := H7 hk_HP
 rw [hw_]
 clear hw_ hs_ hk_HP
 refine (wpIn_wide (n := 0)).1 ?_
 apply w7v 13 (Rl := [(fun v_ w_ => ∃ g1 g2 g3 g4 g5, v_ = .agg (kindsA g1 g2 g3 g4 g5)), (eqv _), (eqv _), (fun v_ w_ => ∃ x, (∃ a n c, x = Value.slice a n c) ∧ v_ = .agg #[x, fV m, fV r]), (eqv _), (eqv _), (eqv _), (fun v_ w_ => ∃ d D, v_ = .tuple #[.pointer (some ⟨d, 0, none⟩), .int .i64 0] ∧ R o C D ∧ CanAt w_ d D), (fun v_ w_ => ∃ d D, v_ = .tuple #[.pointer (some ⟨d, 0, none⟩), .int .i64 0] ∧ R o C D ∧ CanAt w_ d D), (fun v_ w_ => ∃ d D, v_ = .pointer (some ⟨d, 0, none⟩) ∧ R o C D ∧ CanAt w_ d D), (eqv _), (fun v_ w_ => ∃ d D, v_ = .pointer (some ⟨d, 0, none⟩) ∧ R o C D ∧ CanAt w_ d D), (eqv _)]) (C := (fun x y => Below x.heap.size x y))
 case hm => kernel_rfl
 case hk => rfl
 case hCr => exact (fun _ => B7 _ _)
 case hCt => intro _ _ _; exact (fun h k => g7t h k)
 case hst => exact ⟨fun _ _ _ hC h => h, fun _ _ _ _ h => h, fun _ _ _ _ h => h, fun _ _ _ hC h => h, fun _ _ _ _ h => h, fun _ _ _ _ h => h, fun _ _ _ _ h => h, fun _ _ _ hC ⟨d, D, h1, h2, h3⟩ => ⟨d, D, h1, h2, h3.below hC⟩, fun _ _ _ hC ⟨d, D, h1, h2, h3⟩ => ⟨d, D, h1, h2, h3.below hC⟩, fun _ _ _ hC ⟨d, D, h1, h2, h3⟩ => ⟨d, D, h1, h2, h3.below hC⟩, fun _ _ _ _ h => h, fun _ _ _ hC ⟨d, D, h1, h2, h3⟩ => ⟨d, D, h1, h2, h3.below hC⟩, fun _ _ _ _ h => h, trivial⟩
 case hfo => kernel_rfl
 case ht => kernel_rfl
 case hC0 => exact (g7d _)
 case hsteps =>
  refine ⟨?_, ?_, ?_, ?_, ?_, ?_, ?_, ?_, ?_, ?_, ?_, ?_, ?_, trivial⟩
  · intro a' w' hA hC hD; clear hA hD; refine o7p rfl ?_; intro K hK
    skip
    gi_wp2_with fail; refine (callsIn_wide.2 (ways_any _)).mono ?_; rintro e w5 ⟨g1, g2, g3, g4, g5, rfl, -, hb⟩; exact hK _ _ ⟨g1, g2, g3, g4, g5, rfl⟩ hb
  · intro a' w' hA hC hD; have s3 := hA.to 3 (by kernel_rfl) rfl; clear hA hD; refine o7p rfl ?_; intro K hK; gi_wp2; exact hK _ _ rfl (B7 _ _)
  · intro a' w' hA hC hD; obtain ⟨u8, s8, rfl⟩ := hD ⟨1, .data⟩ (by simp) rfl _ rfl
    obtain ⟨-, -, -, q3, -⟩ := opCells ((HS.out.below hC).blockAt 0 rfl)
    clear hA hD; refine o7p rfl ?_; intro K hK; gi_wp2; exact hK _ _ rfl (B7 _ _)
  · intro a' w' hA hC hD; obtain ⟨u7, s7, r7⟩ := hD ⟨0, .data⟩ (by simp) rfl _ rfl; replace r7 : (fun v_ w_ => ∃ g1 g2 g3 g4 g5, v_ = .agg (kindsA g1 g2 g3 g4 g5)) u7 w' := r7; obtain ⟨u9, s9, rfl⟩ := hD ⟨2, .data⟩ (by simp) rfl _ rfl
    obtain ⟨g1, g2, g3, g4, g5, rfl⟩ := r7; obtain ⟨x, hx, hrun⟩ := HW.out g1 g2 g3 g4 g5 w'; obtain ⟨A, hA2⟩ : ∃ A, kindsA g1 g2 g3 g4 g5 = A := ⟨_, rfl⟩; rw [hA2] at hrun s7
    clear hA hD; refine o7p rfl ?_; intro K hK; gi_wp2; exact hK _ _ ⟨x, hx, rfl⟩ (B7 _ _)
  · intro a' w' hA hC hD; obtain ⟨u10, s10, r10⟩ := hD ⟨3, .data⟩ (by simp) rfl _ rfl; replace r10 : (fun v_ w_ => ∃ x, (∃ a n c, x = Value.slice a n c) ∧ v_ = .agg #[x, fV m, fV r]) u10 w' := r10
    obtain ⟨x, hx, rfl⟩ := r10; have hrun := run_way_paint x (fV r) m hx w'
    clear hA hD; refine o7p rfl ?_; intro K hK; gi_wp2; exact hK _ _ rfl (B7 _ _)
  · intro a' w' hA hC hD; have s0 := hA.to 0 (by kernel_rfl) rfl; clear hA hD; refine o7p rfl ?_; intro K hK; gi_wp2; exact hK _ _ rfl (B7 _ _)
  · intro a' w' hA hC hD; have s3 := hA.to 3 (by kernel_rfl) rfl; clear hA hD; refine o7p rfl ?_; intro K hK
    refine opIn_load 31 _ rfl w.heap.size (by simp [Act.eval, s3]) 31 _ (0, 0) _ ((HS.out.below hC).blockAt 0 rfl) Tryz.underlying31 rfl (by kernel_rfl) (hK _ _ rfl (B7 _ _))
  · intro a' w' hA hC hD; obtain ⟨u11, s11, rfl⟩ := hD ⟨4, .data⟩ (by simp) rfl _ rfl; obtain ⟨u12, s12, rfl⟩ := hD ⟨5, .data⟩ (by simp) rfl _ rfl; obtain ⟨u13, s13, rfl⟩ := hD ⟨6, .data⟩ (by simp) rfl _ rfl; clear hA hD; refine o7p rfl ?_; intro K hK
    gi_wp2_with fail; refine (callsIn_wide.2 (HM.out _ (HS.out.below hC).low (HP.out.below hC))).mono ?_; rintro e w5 ⟨d2, D, rfl, h2, h3, hb⟩
    exact hK _ _ ⟨d2, D, rfl, h2, h3⟩ hb
  · intro a' w' hA hC hD; obtain ⟨u14, s14, r14⟩ := hD ⟨7, .data⟩ (by simp) rfl _ rfl; replace r14 : (fun v_ w_ => ∃ d D, v_ = .tuple #[.pointer (some ⟨d, 0, none⟩), .int .i64 0] ∧ R o C D ∧ CanAt w_ d D) u14 w' := r14
    obtain ⟨d2, D, rfl, h2, h3⟩ := r14
    clear hA hD; refine o7p rfl ?_; intro K hK; gi_wp2; exact hK _ _ ⟨d2, D, rfl, h2, h3⟩ (B7 _ _)
  · intro a' w' hA hC hD; obtain ⟨u6, s6, r6⟩ := hD ⟨8, .data⟩ (by simp) rfl _ rfl; replace r6 : (fun v_ w_ => ∃ d D, v_ = .tuple #[.pointer (some ⟨d, 0, none⟩), .int .i64 0] ∧ R o C D ∧ CanAt w_ d D) u6 w' := r6
    obtain ⟨d2, D, rfl, h2, h3⟩ := r6
    clear hA hD; refine o7p rfl ?_; intro K hK; gi_wp2; exact hK _ _ ⟨d2, D, rfl, h2, h3⟩ (B7 _ _)
  · intro a' w' hA hC hD; obtain ⟨u6, s6, r6⟩ := hD ⟨8, .data⟩ (by simp) rfl _ rfl; replace r6 : (fun v_ w_ => ∃ d D, v_ = .tuple #[.pointer (some ⟨d, 0, none⟩), .int .i64 0] ∧ R o C D ∧ CanAt w_ d D) u6 w' := r6
    obtain ⟨d2, D, rfl, -, -⟩ := r6
    clear hA hD; refine o7p rfl ?_; intro K hK; gi_wp2; exact hK _ _ rfl (B7 _ _)
  · intro a' w' hA hC hD; obtain ⟨u15, s15, r15⟩ := hD ⟨9, .data⟩ (by simp) rfl _ rfl; replace r15 : (fun v_ w_ => ∃ d D, v_ = .pointer (some ⟨d, 0, none⟩) ∧ R o C D ∧ CanAt w_ d D) u15 w' := r15
    obtain ⟨d2, D, rfl, h2, h3⟩ := r15
    clear hA hD; refine o7p rfl ?_; intro K hK; gi_wp2; exact hK _ _ ⟨d2, D, rfl, h2, h3⟩ (B7 _ _)
  · intro a' w' hA hC hD; obtain ⟨u16, s16, rfl⟩ := hD ⟨10, .data⟩ (by simp) rfl _ rfl; clear hA hD; refine o7p rfl ?_; intro K hK; gi_wp2; exact hK _ _ rfl (B7 _ _)
 case hend =>
  intro w3 hC
  simp only [EndFrom, eqv, forall_eq, Act.put, List.length_cons, List.length_nil, List.drop_succ_cons, List.drop_zero, Nat.reduceAdd, List.setIfInBounds_toArray, List.set_cons_succ, List.set_cons_zero]
  have HS := H7 (HS.out.below hC)
  have HP := H7 (HP.out.below hC)
  clear hC
  rintro v0 - v3 - v7 - v8 - v9 - v11 h11
  obtain ⟨d2, D, rfl, h2, h3⟩ := h11
  have HD := H7 h3
  have HR := H7 h2
  clear h2 h3 hen
  gi_wp2
  go_wp2_with fail
  refine (opNeed_ok _).mono ?_
  rintro e w5 ⟨rfl, rfl⟩
  have x0 := c7b (k := 0) HP.out.1 rfl
  have f0 := f7b HP.out.1
  go_wp2_with fail
  clear x0 f0
  go_end0
  refine ⟨rfl, ((Turned.ofBelow (fun k => k = P) HS.out.low).setAt P 0 (.inr rfl) _), d2, D, HR.out, h7s HP.out.1 _, HD.out.turnedOne ((Turned.refl (fun k => k = P) w3).setAt P 0 (.inr rfl) _) HP.out.1 (fun q cs e hq => by cases e; exact HP.out.2.notTile hq)⟩
/- Layer 12: Apply's loop. -/
/-- Canvases, one behind the other. -/
def ChainR (R : OpT → CanT → CanT → Prop) : List OpX → CanT → CanT → Prop
 | [], C, D => C = D
 | x :: L, C, D => ∃ C1, R x.1 C C1 ∧ ChainR R L C1 D
theorem ChainR.snoc {R : OpT → CanT → CanT → Prop} {x : OpX} {D E : CanT} (hx : R x.1 D E) : ∀ {L : List OpX} {C : CanT}, ChainR R L C D → ChainR R (L ++ [x]) C E
 | [], C, h => ⟨E, by cases h; exact hx, rfl⟩
 | y :: L, C, ⟨C1, h1, h2⟩ => ⟨C1, h1, h2.snoc hx⟩
set_option maxRecDepth 100000 in
set_option maxHeartbeats 4000000 in
theorem apply2_any (G : CanT → Prop) (R : OpT → CanT → CanT → Prop) (hRG : ∀ o C D, R o C D → G D) (a : Option Addr) (n cap : Nat) (L : List OpX) (hn : n ≤ 1000000000) (w0 : World) (hL : OpsV w0 a n cap L) (hM : ∀ x ∈ L, MethOk G R w0 x) (hk : ∀ x ∈ L, isKind x.1.kind = true)
 (B0 B1 P d : Nat) (C : CanT) (hGC : G C) (w : World) (hb0 : Below w0.heap.size w0 w) (hP0 : w0.heap.size ≤ P) (h0 : w.heap[B0]? = some (.cells #[.slice a n cap] 61 (0, 0))) (h1 : w.heap[B1]? = some (.cells #[.func (.func 61) #[.pointer (some ⟨P, 0, none⟩)] #[]] 85 (0, 0)))
 (hP : PtrC P d C w) (hn0 : B0 ≠ P) (hn1 : B1 ≠ P) :
 Calls Tryz.prog 62 #[.pointer (some ⟨B0, 0, none⟩), .pointer (some ⟨B1, 0, none⟩)] w (EndsO (fun k => k = P) 0 (fun w' => ∃ d' D, ChainR R L C D ∧ PtrC P d' D w') w) := by
 have HL := H7 hL
 have HM := H7 hM
 have HK := H7 hk
 have HB := H7 hb0
 have H0 := H7 h0
 have H1 := H7 h1
 have HP0 := H7 hP0
 have HP := H7 hP
 have HNE := H7 (And.intro hn0 hn1)
 have HT := H7 (Turned.refl (fun k => k = P) w)
 have x0 := c7b (k := 0) h0 rfl
 clear hL hM hk hb0 h0 h1 hP0 hP hn0 hn1
 go_enter Tryz.func62, Tryz.ntmps62
 go_wp2_with fail
 clear x0
 go_loopw [6] (fun i wr => ∃ k : Nat, k ≤ n ∧ i = .int .i64 (k : Int) ∧ Turned (fun k => k = P) w wr ∧ ∃ d' D, ChainR R (L.take k) C D ∧ PtrC P d' D wr ∧ G D) (fun i _ => n - (intOf i).toNat)
 case atStart => exact ⟨0, by omega, rfl, HT.out, d, C, rfl, HP.out, hGC⟩
 case round =>
  obtain ⟨k, hk, rfl, ht, d2, D, hch, hpd, hgd⟩ := hrel
  clear HT HP
  have HT := H7 ht
  have HCH := H7 hch
  have HP := H7 hpd
  have HBR := H7 (show Below w0.heap.size w0 wr from HB.out.trans (ht.below HB.out.size (fun k hk => by rw [hk]; exact HP0.out)))
  have HG := H7 hgd
  clear ht hch hpd hgd
  by_cases hlt : k < n
  · have wk : wrap64 ((k : Int) + 1) = ((k + 1 : Nat) : Int) := by unfold wrap64; omega
    obtain ⟨x, hx⟩ : ∃ x, L[k]? = some x := ⟨_, List.getElem?_eq_getElem (by rw [HL.out.len]; exact hlt)⟩
    have hmem := List.mem_of_getElem? hx
    have HX := H7 hx
    have HMX := H7 (HM.out x hmem)
    have HKX := H7 (HK.out x hmem)
    obtain ⟨b, off, rfl, -⟩ := HL.out.addr (by omega)
    have HR := H7 ((HL.out.below HBR.out).rng hx)
    have HS := H7 (St.start wr)
    obtain ⟨⟨pa, pcap, hpv, -⟩, -⟩ := HL.out.ok x hmem
    clear hx hmem
    obtain ⟨o, pv⟩ := x
    dsimp only at hpv
    subst hpv
    repeat ((fail_if_success (with_reducible refine stop_at (id := 2) ?_)); (first | go_values | go_skip | go_guarded | go_step | go_upon | go_back | (simp only [Int.not_lt, Int.not_le] at *; go_simp) | (go_values <;> (try go_simp)) | (go_ite <;> go_prune <;> (try go_simp)) | (split <;> (first | (rename_i hx; exact (hx _ rfl).elim) | go_prune))))
    refine (wpIn_wide (n := 0)).1 ?_
    repeat ((fail_if_success (refine opIn_load_mid 31 _ rfl b (off + k * 19) rfl (encO (o, .slice pa o.px.length pcap)) _ HR.out Tryz.underlying31 rfl size_O ?_)); gi_step)
    refine opIn_load_mid 31 _ rfl b (off + k * 19) rfl (encO (o, .slice pa o.px.length pcap)) _ HR.out Tryz.underlying31 rfl size_O ?_
    rw [encO_arr]
    simp only [Act.put, List.setIfInBounds_toArray, List.set_cons_succ, List.set_cons_zero]
    repeat ((fail_if_success (refine opIn_store 31 _ _ rfl wr.heap.size 31 opZ (o.cells (.slice pa o.px.length pcap)) rfl rfl (World.alloc_heap_new _ _) (by kernel_rfl) rfl (by unfold OpT.cells; rw [List.all_toArray]; rfl) ?_)); gi_step)
    refine opIn_store 31 _ _ rfl wr.heap.size 31 opZ (o.cells (.slice pa o.px.length pcap)) rfl rfl (World.alloc_heap_new _ _) (by kernel_rfl) rfl (by unfold OpT.cells; rw [List.all_toArray]; rfl) ?_
    simp only [Act.put, List.setIfInBounds_toArray, List.set_cons_succ, List.set_cons_zero]
    rw [← opZ.eq_1]
    have hs5 := (HS.out.alloc (.cells opZ 31 (0, 0))).putRow (c' := o.cells (.slice pa o.px.length pcap)) (pre := []) (by simp)
    obtain ⟨w5, hw5⟩ : ∃ w5, (wr.alloc (.cells opZ 31 (0, 0))).setRow wr.heap.size (o.cells (.slice pa o.px.length pcap)) = w5 := ⟨_, rfl⟩
    rw [hw5] at hs5 ⊢
    clear hw5 HR
    have HS := H7 hs5
    clear hs5
    have y1 := c7b (k := 0) ((HS.out.low.block B1 (Nat.lt_of_lt_of_le (b7t H1.out) HT.out.size)).trans ((HT.out.block B1 (b7t H1.out) HNE.out.2).trans H1.out)) rfl
    have h2 := HS.out.blockAt 0 rfl
    repeat ((fail_if_success (with_reducible refine stop_atI (id := 3) ?_)); (first | go_values | gi_guarded | gi_step | gi_upon | gi_back | (simp only [Int.not_lt, Int.not_le] at *; go_simp) | (go_values <;> (try go_simp)) | (go_ite <;> go_prune <;> (try go_simp)) | (split <;> (first | (rename_i hx; exact (hx _ rfl).elim) | go_prune))))
    refine (wpIn_wide (n := 0)).1 ?_
    repeat ((fail_if_success (refine opIn_load 31 _ rfl wr.heap.size rfl 31 _ (0, 0) _ h2 Tryz.underlying31 rfl (by kernel_rfl) ?_)); gi_step)
    refine opIn_load 31 _ rfl wr.heap.size rfl 31 _ (0, 0) _ h2 Tryz.underlying31 rfl (by kernel_rfl) ?_
    simp only [Act.put, List.setIfInBounds_toArray, List.set_cons_succ, List.set_cons_zero]
    clear y1 h2
    gi_wp2_with fail
    refine (callsIn_wide.2 (opPaint_any G R o (.slice pa o.px.length pcap) HKX.out w0 HMX.out P d2 D HG.out w5 (HBR.out.trans (HS.out.low.mono HBR.out.size)) (HP.out.below HS.out.low))).mono ?_
    rintro e w6 ⟨rfl, ht6, d3, D3, hr, hp⟩
    have HT6 := H7 (((HT.out.trans (Turned.ofBelow (fun k => k = P) HS.out.low)).trans ht6).mono (fun k _ h => (by rcases h with (h | h) | h <;> exact h)))
    have HE6 := H7 (And.intro hr hp)
    clear ht6 hr hp
    gi_wp2_with fail
    go_wp2_with fail
    go_roundw
    case rel => exact ⟨k + 1, hlt, by simp, HT6.out, d3, D3, by rw [List.take_add_one, HX.out]; exact HCH.out.snoc HE6.out.1, HE6.out.2, hRG _ _ _ HE6.out.1⟩
    case measure => simp [intOf]; omega
  · obtain rfl : k = n := by omega
    have HF := H7 (show ChainR R L C D by have h := HCH.out; rw [List.take_of_length_le (by rw [HL.out.len]; exact Nat.le_refl _)] at h; exact h)
    clear HCH
    go_wp2_with fail
    go_end0
    exact ⟨HT.out, fun _ => ⟨rfl, d2, D, HF.out, HP.out⟩, fun h => absurd rfl h⟩
/- Layer 12: Apply. -/
theorem isKind_may {o : OpT} (h : opMayB o = true) : isKind o.kind = true := by
 unfold opMayB mayA at h
 simp only [Bool.and_eq_true] at h
 exact h.1.1.2
/-- What Apply gives. -/
def Applied (R : OpT → CanT → CanT → Prop) (L : List OpX) (C : CanT) (w : World) (e : Ending) (w' : World) : Prop :=
 Below w.heap.size w w' ∧ ∃ d D, e = .returned (.tuple #[.pointer (some ⟨d, 0, none⟩), .int .i64 0]) ∧ ChainR R L C D ∧ CanAt w' d D
set_option maxRecDepth 100000 in
set_option maxHeartbeats 4000000 in
theorem opApply_ok (G : CanT → Prop) (R : OpT → CanT → CanT → Prop) (hRG : ∀ o C D, R o C D → G D) (a : Option Addr) (n cap : Nat) (L : List OpX) (hn : n ≤ 1000000000) (c : Nat) (C : CanT) (hG : G C) (w : World) (hL : OpsV w a n cap L) (hM : ∀ x ∈ L, MethOk G R w x) (hmay : (L.all fun x => opMayB x.1) = true) (hC : CanAt w c C) :
 Calls Tryz.prog 24 #[.pointer (some ⟨c, 0, none⟩), .slice a n cap] w (Applied R L C w) := by
 have hmf : ∀ (fn : Fn) (first cap : Array Value) (w : World), (Instr.makeFunc fn first cap).run Tryz.prog w = .ok (.func fn first cap) w := fun _ _ _ _ => rfl
 have HS := H7 (St.start w)
 have HA := H7 (fun w' (hb : Below w.heap.size w w') => opAll_any a n cap L hn w' (hL.below hb))
 have HK := H7 (fun x (hx : x ∈ L) => isKind_may (List.all_eq_true.1 hmay x hx))
 rw [hmay] at HA
 have HL := H7 hL
 have HM := H7 hM
 have HC := H7 hC
 clear hL hM hmay hC
 go_enter Tryz.func24, Tryz.ntmps24
 repeat ((fail_if_success (with_reducible refine stop_at (id := 1) ?_)); (first | go_values | go_skip | go_guarded | go_step | go_upon | go_back | (simp only [Int.not_lt, Int.not_le] at *; go_simp) | (go_values <;> (try go_simp)) | (go_ite <;> go_prune <;> (try go_simp)) | (split <;> (first | (rename_i hx; exact (hx _ rfl).elim) | go_prune))))
 have hs_ := (HS.out.alloc (.cells #[.slice a n cap] 61))
 obtain ⟨w1, hw_⟩ : ∃ w1 : World, (w.alloc (.cells #[.slice a n cap] 61)) = w1 := ⟨_, rfl⟩
 rw [hw_] at hs_
 try simp only [World.size_alloc] at hs_
 have HS := H7 hs_
 rw [hw_]
 clear hw_ hs_
 have x0 := h7c HS 0 0 rfl rfl
 go_wp2_with fail
 clear x0
 refine (HA.out _ HS.out.low).mono ?_
 rintro e w2 ⟨rfl, hb_⟩
 have HS := H7 (HS.out.below hb_)
 clear hb_
 repeat ((fail_if_success (with_reducible refine stop_at (id := 6) ?_)); (first | go_values | go_skip | go_guarded | go_step | go_upon | go_back | (simp only [Int.not_lt, Int.not_le] at *; go_simp) | (go_values <;> (try go_simp)) | (go_ite <;> go_prune <;> (try go_simp)) | (split <;> (first | (rename_i hx; exact (hx _ rfl).elim) | go_prune))))
 have hs_ := (HS.out.alloc (.cells #[.pointer (some ⟨c, 0, none⟩)] 112))
 obtain ⟨w3, hw_⟩ : ∃ w3 : World, (w2.alloc (.cells #[.pointer (some ⟨c, 0, none⟩)] 112)) = w3 := ⟨_, rfl⟩
 rw [hw_] at hs_
 try simp only [World.size_alloc] at hs_
 have HS := H7 hs_
 rw [hw_]
 clear hw_ hs_
 go_wp2_with fail
 have hs_ := (HS.out.alloc (.cells #[.func (.func 61) #[.pointer (some ⟨w2.heap.size, 0, none⟩)] #[]] 85))
 obtain ⟨w4, hw_⟩ : ∃ w4 : World, (w3.alloc (.cells #[.func (.func 61) #[.pointer (some ⟨w2.heap.size, 0, none⟩)] #[]] 85)) = w4 := ⟨_, rfl⟩
 rw [hw_] at hs_
 try simp only [World.size_alloc] at hs_
 have HS := H7 hs_
 rw [hw_]
 clear hw_ hs_
 have HPT := H7 (show PtrC w2.heap.size c C w4 from ⟨HS.out.blockAt 1 rfl, HC.out.below HS.out.low⟩)
 have ho := HS.out.ord
 have hl := HS.out.lt 2 rfl
 simp [ItOrd, It.top] at ho
 refine (opTries_any 62 #[.pointer (some ⟨w.heap.size, 0, none⟩), .pointer (some ⟨w3.heap.size, 0, none⟩)] (fun k => k = w2.heap.size) 0 (fun w' => ∃ d' D, ChainR R L C D ∧ PtrC w2.heap.size d' D w') w4
  (fun k hk => by rw [hk]; exact HS.out.lt 1 rfl) (fun _ _ => by simp [go_sem])
  (fun W y v hq ⟨d', D, h1, h2⟩ => ⟨d', D, h1, (h7o h2.1 (fun e => by have := HS.out.lt 1 rfl; omega) v), h2.2.turnedOne ((Turned.refl (fun k => k = w4.heap.size) W).setAt w4.heap.size 0 (.inr rfl) v) hq (fun q cs e => by cases e)⟩)
  (fun w5 hb _ => apply2_any G R hRG a n cap L hn w HL.out HM.out HK.out w.heap.size w3.heap.size w2.heap.size c C hG w5 (HS.out.below hb).low ?_ ((HS.out.below hb).blockAt 2 rfl) ((HS.out.below hb).blockAt 0 rfl) (HPT.out.below hb) ?_ ?_)).mono ?_
 · omega
 · omega
 · omega
 · rintro e w5 ⟨rfl, ht, hk⟩
   obtain ⟨d, D, h1, h2⟩ := hk rfl
   have HLOW := H7 (HS.out.low.trans (ht.below HS.out.low.size (fun k hk => by rw [hk]; omega)))
   have HR := H7 (And.intro h1 h2.2)
   have x0 := c7b (k := 0) h2.1 rfl
   clear ht hk h1 h2 ho hl
   go_wp2_with fail
   refine bodyPost_ret (v := .tuple #[.pointer (some ⟨d, 0, none⟩), .int .i64 0]) (by simp [results, Tryz.results24, go_sem]) rfl ⟨HLOW.out, d, D, rfl, HR.out⟩
/- Layer 12: Reach. -/
theorem run_way_reach (x : Value) (m r : Nat) (hx : ∃ a n c, x = .slice a n c) (w : World) : (Instr.field 94 (.agg #[x, fV m, fV r]) 2).run Tryz.prog w = .ok (fV r) w := by
 obtain ⟨a, n, c, rfl⟩ := hx
 have h1 := Tryz.isAgg88 w
 have h2 := Tryz.sizeOf88 w
 have h3 := Tryz.isAgg92 w
 have h4 := Tryz.sizeOf92 w
 have h5 := Tryz.isAgg43 w
 have h6 := Tryz.sizeOf43 w
 simp [Instr.field, run_underlying Tryz.underlying94, part, asAgg, h1, h2, h3, h4, h5, h6, go_sem]
/-- What a kind's reach gives. -/
def Reached (er : Int) (Pz : Option Addr → Nat → Nat → World → Prop) (w : World) (e : Ending) (w' : World) : Prop :=
 ∃ a n cap, e = .returned (.tuple #[.slice a n cap, .int .i64 er]) ∧ Pz a n cap w' ∧ Below w.heap.size w w'
set_option maxRecDepth 100000 in
set_option maxHeartbeats 4000000 in
theorem opReach_ok (o : OpT) (pv : Value) (hlen : o.px.length ≤ 1000000000) (er : Int) (Pz : Option Addr → Nat → Nat → World → Prop) (hst : ∀ a n cap w w', Pz a n cap w → Below w.heap.size w w' → Pz a n cap w') (w : World) (hp : PixV o.px pv w) (hmay : opMayB o = true)
 (hR : ∀ w', Below w.heap.size w w' → Calls Tryz.prog (reachM o.kind) #[.agg (o.cells pv)] w' (Reached er Pz w')) :
 Calls Tryz.prog 19 #[.agg (o.cells pv)] w (Reached er Pz w) := by
 have HS := H7 (St.start w)
 have HC := H7 (fun w' (hb : Below w.heap.size w w') => opCheck_any o pv hlen w' (hp.below hb))
 have hk : isKind o.kind = true := by
  have h := hmay
  unfold opMayB mayA at h
  simp only [Bool.and_eq_true] at h
  exact h.1.1.2
 have HW := H7 (fun g1 g2 g3 g4 g5 w' => run_way o.kind hk g1 g2 g3 g4 g5 w')
 have HR := H7 hR
 have hen := enters_reachM o.kind
 obtain ⟨m, hm⟩ : ∃ m, paintM o.kind = m := ⟨_, rfl⟩
 obtain ⟨r, hr⟩ : ∃ r, reachM o.kind = r := ⟨_, rfl⟩
 rw [hr] at HR HW hen
 rw [hm] at HW
 rw [hmay] at HC
 clear hp hmay hk hm hr hR
 go_enter Tryz.func19, Tryz.ntmps19
 repeat ((fail_if_success (with_reducible refine stop_at (id := 1) ?_)); (first | go_values | go_skip | go_guarded | go_step | go_upon | go_back | (simp only [Int.not_lt, Int.not_le] at *; go_simp) | (go_values <;> (try go_simp)) | (go_ite <;> go_prune <;> (try go_simp)) | (split <;> (first | (rename_i hx; exact (hx _ rfl).elim) | go_prune))))
 have hs_ := (HS.out.alloc (.cells (o.cells pv) 31))
 obtain ⟨w1, hw_⟩ : ∃ w1 : World, (w.alloc (.cells (o.cells pv) 31)) = w1 := ⟨_, rfl⟩
 rw [hw_] at hs_
 try simp only [World.size_alloc] at hs_
 have HS := H7 hs_
 rw [hw_]
 clear hw_ hs_
 have h1 := HS.out.blockAt 0 rfl
 refine (wpIn_wide (n := 0)).1 ?_
 repeat ((fail_if_success (refine opIn_load 31 _ rfl w.heap.size rfl 31 _ (0, 0) _ h1 Tryz.underlying31 rfl (by kernel_rfl) ?_)); gi_step)
 refine opIn_load 31 _ rfl w.heap.size rfl 31 _ (0, 0) _ h1 Tryz.underlying31 rfl (by kernel_rfl) ?_
 simp only [Act.put, List.setIfInBounds_toArray, List.set_cons_succ, List.set_cons_zero]
 clear h1
 gi_wp2_with fail
 refine (callsIn_wide.2 (HC.out _ HS.out.low)).mono ?_
 rintro e w2 ⟨rfl, hb_⟩
 have HS := H7 (HS.out.below hb_)
 clear hb_
 simp only [errOf, if_true]
 gi_wp2
 repeat ((fail_if_success (with_reducible refine stop_at (id := 4) ?_)); (first | go_values | go_skip | go_guarded | go_step | go_upon | go_back | (simp only [Int.not_lt, Int.not_le] at *; go_simp) | (go_values <;> (try go_simp)) | (go_ite <;> go_prune <;> (try go_simp)) | (split <;> (first | (rename_i hx; exact (hx _ rfl).elim) | go_prune))))
 refine (wpIn_wide (n := 0)).1 ?_
 apply w7v 9 (Rl := [(fun v_ w_ => ∃ g1 g2 g3 g4 g5, v_ = .agg (kindsA g1 g2 g3 g4 g5)), (eqv _), (eqv _), (fun v_ w_ => ∃ x, (∃ a n c, x = Value.slice a n c) ∧ v_ = .agg #[x, fV m, fV r]), (eqv _), (eqv _), (fun v_ w_ => ∃ a n cap, v_ = .tuple #[.slice a n cap, .int .i64 er] ∧ Pz a n cap w_), (fun v_ w_ => ∃ a n cap, v_ = .slice a n cap ∧ Pz a n cap w_), (eqv _)]) (C := (fun x y => Below x.heap.size x y))
 case hm => kernel_rfl
 case hk => rfl
 case hCr => exact (fun _ => B7 _ _)
 case hCt => intro _ _ _; exact (fun h k => g7t h k)
 case hst => exact ⟨fun _ _ _ hC h => h, fun _ _ _ _ h => h, fun _ _ _ _ h => h, fun _ _ _ hC h => h, fun _ _ _ _ h => h, fun _ _ _ _ h => h, fun _ _ _ hC ⟨a, n, cap, h1, h2⟩ => ⟨a, n, cap, h1, hst _ _ _ _ _ h2 hC⟩, fun _ _ _ hC ⟨a, n, cap, h1, h2⟩ => ⟨a, n, cap, h1, hst _ _ _ _ _ h2 hC⟩, fun _ _ _ _ h => h, trivial⟩
 case hfo => kernel_rfl
 case ht => kernel_rfl
 case hC0 => exact (g7d _)
 case hsteps =>
  refine ⟨?_, ?_, ?_, ?_, ?_, ?_, ?_, ?_, ?_, trivial⟩
  · intro a' w' hA hC hD; clear hA hD; refine o7p rfl ?_; intro K hK
    skip
    gi_wp2_with fail; refine (callsIn_wide.2 (ways_any _)).mono ?_; rintro e w5 ⟨g1, g2, g3, g4, g5, rfl, -, hb⟩; exact hK _ _ ⟨g1, g2, g3, g4, g5, rfl⟩ hb
  · intro a' w' hA hC hD; have s1 := hA.to 1 (by kernel_rfl) rfl; clear hA hD; refine o7p rfl ?_; intro K hK; gi_wp2; exact hK _ _ rfl (B7 _ _)
  · intro a' w' hA hC hD; obtain ⟨u11, s11, rfl⟩ := hD ⟨1, .data⟩ (by simp) rfl _ rfl
    obtain ⟨-, -, -, q3, -⟩ := opCells ((HS.out.below hC).blockAt 0 rfl)
    clear hA hD; refine o7p rfl ?_; intro K hK; gi_wp2; exact hK _ _ rfl (B7 _ _)
  · intro a' w' hA hC hD; obtain ⟨u10, s10, r10⟩ := hD ⟨0, .data⟩ (by simp) rfl _ rfl; replace r10 : (fun v_ w_ => ∃ g1 g2 g3 g4 g5, v_ = .agg (kindsA g1 g2 g3 g4 g5)) u10 w' := r10; obtain ⟨u12, s12, rfl⟩ := hD ⟨2, .data⟩ (by simp) rfl _ rfl
    obtain ⟨g1, g2, g3, g4, g5, rfl⟩ := r10; obtain ⟨x, hx, hrun⟩ := HW.out g1 g2 g3 g4 g5 w'; obtain ⟨A, hA2⟩ : ∃ A, kindsA g1 g2 g3 g4 g5 = A := ⟨_, rfl⟩; rw [hA2] at hrun s10
    clear hA hD; refine o7p rfl ?_; intro K hK; gi_wp2; exact hK _ _ ⟨x, hx, rfl⟩ (B7 _ _)
  · intro a' w' hA hC hD; obtain ⟨u13, s13, r13⟩ := hD ⟨3, .data⟩ (by simp) rfl _ rfl; replace r13 : (fun v_ w_ => ∃ x, (∃ a n c, x = Value.slice a n c) ∧ v_ = .agg #[x, fV m, fV r]) u13 w' := r13
    obtain ⟨x, hx, rfl⟩ := r13; have hrun := run_way_reach x m r hx w'
    clear hA hD; refine o7p rfl ?_; intro K hK; gi_wp2; exact hK _ _ rfl (B7 _ _)
  · intro a' w' hA hC hD; have s1 := hA.to 1 (by kernel_rfl) rfl; clear hA hD; refine o7p rfl ?_; intro K hK
    refine opIn_load 31 _ rfl w.heap.size (by simp [Act.eval, s1]) 31 _ (0, 0) _ ((HS.out.below hC).blockAt 0 rfl) Tryz.underlying31 rfl (by kernel_rfl) (hK _ _ rfl (B7 _ _))
  · intro a' w' hA hC hD; obtain ⟨u14, s14, rfl⟩ := hD ⟨4, .data⟩ (by simp) rfl _ rfl; obtain ⟨u15, s15, rfl⟩ := hD ⟨5, .data⟩ (by simp) rfl _ rfl; clear hA hD; refine o7p rfl ?_; intro K hK
    gi_wp2_with fail; refine (callsIn_wide.2 (HR.out _ (HS.out.below hC).low)).mono ?_; rintro e w5 ⟨a, n, cap, rfl, h2, hb⟩
    exact hK _ _ ⟨a, n, cap, rfl, h2⟩ hb
  · intro a' w' hA hC hD; obtain ⟨u16, s16, r16⟩ := hD ⟨6, .data⟩ (by simp) rfl _ rfl; replace r16 : (fun v_ w_ => ∃ a n cap, v_ = .tuple #[.slice a n cap, .int .i64 er] ∧ Pz a n cap w_) u16 w' := r16
    obtain ⟨a, n, cap, rfl, h2⟩ := r16
    clear hA hD; refine o7p rfl ?_; intro K hK; gi_wp2; exact hK _ _ ⟨a, n, cap, rfl, h2⟩ (B7 _ _)
  · intro a' w' hA hC hD; obtain ⟨u16, s16, r16⟩ := hD ⟨6, .data⟩ (by simp) rfl _ rfl; replace r16 : (fun v_ w_ => ∃ a n cap, v_ = .tuple #[.slice a n cap, .int .i64 er] ∧ Pz a n cap w_) u16 w' := r16
    obtain ⟨a, n, cap, rfl, -⟩ := r16
    clear hA hD; refine o7p rfl ?_; intro K hK; gi_wp2; exact hK _ _ rfl (B7 _ _)
 case hend =>
  intro w3 hC
  simp only [EndFrom, eqv, forall_eq, Act.put, List.length_cons, List.length_nil, List.drop_succ_cons, List.drop_zero, Nat.reduceAdd, List.setIfInBounds_toArray, List.set_cons_succ, List.set_cons_zero]
  have HS := H7 (HS.out.below hC)
  clear hC
  rintro v0 - v3 - v6 - v7 ⟨a, n, cap, rfl, h2⟩
  have HZ := H7 h2
  clear h2 hen
  gi_wp2
  go_wp2_with fail
  refine bodyPost_ret (v := .tuple #[.slice a n cap, .int .i64 er]) (by simp [results, Tryz.results19, go_sem]) rfl ⟨a, n, cap, rfl, HZ.out, HS.out.low⟩
set_option maxRecDepth 100000 in
set_option maxHeartbeats 1000000 in
theorem opUnknown_any (o : OpT) (pv : Value) (w : World) : Calls Tryz.prog 94 #[.agg (o.cells pv)] w (Reached 2 (fun a n cap _ => a = none ∧ n = 0 ∧ cap = 0) w) := by
 have HS := H7 (St.start w)
 go_enter Tryz.func94, Tryz.ntmps94
 repeat ((fail_if_success (with_reducible refine stop_at (id := 1) ?_)); (first | go_values | go_skip | go_guarded | go_step | go_upon | go_back | (simp only [Int.not_lt, Int.not_le] at *; go_simp) | (go_values <;> (try go_simp)) | (go_ite <;> go_prune <;> (try go_simp)) | (split <;> (first | (rename_i hx; exact (hx _ rfl).elim) | go_prune))))
 have hs_ := (HS.out.alloc (.cells (o.cells pv) 31))
 obtain ⟨w1, hw_⟩ : ∃ w1 : World, (w.alloc (.cells (o.cells pv) 31)) = w1 := ⟨_, rfl⟩
 rw [hw_] at hs_
 try simp only [World.size_alloc] at hs_
 have HS := H7 hs_
 rw [hw_]
 clear hw_ hs_
 go_wp2_with fail
 refine bodyPost_ret (v := .tuple #[.slice none 0 0, .int .i64 2]) (by simp [results, Tryz.results94, go_sem]) rfl ⟨none, 0, 0, rfl, ⟨rfl, rfl, rfl⟩, HS.out.low⟩
end Go.Proofs.YtgdcfkbimkclaaaGreatDoor
/- A range over a function whose rounds all end: the iterator may range over a function itself. -/
namespace Go.Proofs.YtgdcfkbimkclaaaGreatDoor
open Go.RowKit Go.Shelf
/-- What is no cells stays, from a block on. -/
def NonKept (B : Nat) (A C : World) : Prop := ∀ (k : Nat) (o : Obj), B ≤ k → A.heap[k]? = some o → o.isCells = false → C.heap[k]? = some o
theorem NonKept.trans {B : Nat} {X Y Z : World} (h : NonKept B X Y) (k : NonKept B Y Z) : NonKept B X Z := fun i o hi ho hc => k i o hi (h i o hi ho hc) hc
theorem NonKept.of_from {B C : Nat} {X Y : World} (h : KeepsFrom C X Y) (hC : C ≤ B) : NonKept B X Y := fun i o hi ho hc => h.same i o (Nat.le_trans hC hi) ho hc
theorem NonKept.put {B l : Nat} {X : World} (o : Obj) (hl : l < B) : NonKept B X (X.putObj l o) := fun i _ hi ho _ => (World.putObj_heap_other (by omega)).trans ho
theorem wpIn_range_all {α : Type} {F : Fence} {n : Nat} {P : Program} {g : Operand} {ps : Array Tmp} {assign body : Code} {Q : Exit → Act → World → Prop} {a : Act} {w : World}
 (hro : F.round = none) (h1 : 1 ≤ n) {gf : Nat} {lb : Array Value} (hg : a.eval g = .func (.func gf) #[] lb) (hFg : F.fn gf) (eg : ∀ args w, (callFunc gf args).run P w = .ok (.enter gf args) w)
 {encs : α → Array Value} (xs : List α) (m : Nat) (hps : ∀ x, (encs x).size = ps.size)
 (Kp : World → World → Prop) (hKt : ∀ {A B C : World}, Kp A B → Kp B C → Kp A C) (hKb : ∀ (W : World) (o o' : Obj), W.heap[w.heap.size + 1]? = some o → o.isCells = false → Kp W (W.putObj (w.heap.size + 1) o'))
 (I : List α → World → Prop) (hI : OwnFrom w.heap.size I) (h0 : I [] w)
 (Ax : α → Act → World → Prop) (hAx : ∀ x a', OwnFrom w.heap.size (fun (_ : Unit) W => Ax x a' W))
 (hseq : ∀ (l : Nat) (J : List α → World → Prop) (W : World), Below w.heap.size w W → w.heap.size + 2 ≤ W.heap.size → OwnFrom W.heap.size J →
  (∀ pre x W1, J pre W1 → pre.length < m → YieldAt F (n - 1 - 1) P l (encs x) W1 fun e W' => e = .returned (.bool true) ∧ J (pre ++ [x]) W' ∧ Kp W1 W' ∧ NonKept (w.heap.size + 2) W1 W') → J [] W →
  CallsIn F (n - 1) P gf (#[.func (.yield l) #[] #[]] ++ lb) W fun e W' => (∃ v, e = .returned v) ∧ J xs W')
 (hassign : ∀ (l : Nat) (pre : List α) (x : α) (W : World) (K : Act → World → Prop), I pre W → (∀ a' W', KeepsFrom w.heap.size W W' → Kp W W' → I pre W' → Ax x a' W' → K a' W') →
  assign.wpIn (F.inRound l) (n - 1 - 1) P (Exit.then K (fun _ _ _ => False)) { tmps := (ps.zip (encs x)).foldl (fun t (p, v) => t.setIfInBounds p v) a.tmps, defers := [] } W)
 (hbody : ∀ (l : Nat) (pre : List α) (x : α) (a' : Act) (W : World), I pre W → Ax x a' W → pre.length < m → body.wpIn (F.inRound l) (n - 1 - 1) P (Exit.then (fun _ W' => KeepsFrom w.heap.size W W' ∧ Kp W W' ∧ I (pre ++ [x]) W') (fun _ _ _ => False)) a' W)
 (hdone : ∀ (D : Nat) (W : World), w.heap.size ≤ D → I xs W → W.heap[D]? = some (.deferred (some [])) → Q .normal { a with defers := { target := .collected D, args := #[] } :: a.defers } W) :
 (Code.rangeFunc g ps assign body).wpIn F n P Q a w := by
 refine wpIn_rangeFunc ?_
 intro fn hfn
 rw [hro]
 generalize hN : w.heap.size = N at *
 obtain ⟨rec, hrec⟩ : ∃ rec : LoopState → Option Code → Loop, rec = fun st pe => { state := st, pending := pe, fn, tmps := a.tmps, params := ps, assign, body, defers := N } := ⟨_, rfl⟩
 obtain ⟨W1, hW1⟩ : ∃ W1, (w.alloc (.deferred (some []))).alloc (.loop (rec .ready none)) = W1 := ⟨_, rfl⟩
 have hL1 : W1.heap[N + 1]? = some (.loop (rec .ready none)) := by
  rw [← hW1, ← hN]; have := World.alloc_heap_new (w.alloc (.deferred (some []))) (.loop (rec .ready none)); rwa [World.size_alloc] at this
 have hK1 : W1.heap[N]? = some (.deferred (some [])) := by
  rw [← hW1, ← hN]; exact (Below.heap_alloc _ _ _ (by simp)).trans (World.alloc_heap_new w _)
 have hI1 : I [] W1 := by rw [← hW1]; exact hI.alloc _ (hI.alloc _ h0)
 have hb1 : Below N w W1 := by
  rw [← hW1]; exact ((B7 _ w).alloc (by omega) _).alloc (by simp; omega) _
 have hs1 : N + 2 ≤ W1.heap.size := b7t hL1
 refine ⟨N + 1, [{ target := .collected N, args := #[] }], W1, { target := .fn (.func gf) lb, args := #[.func (.yield (N + 1)) #[] #[]] }, W1, gf,
  #[.func (.yield (N + 1)) #[] #[]] ++ lb, W1, ?_, ?_, ?_, ?_, fun _ => h1, ?_⟩
 · rw [← hW1, hrec, ← hN]; exact run_enterLoop_outer _ _ _ _ _
 · simp only [resolve, hg]
   simp [go_sem]
 · intro f' hf'; simp [Target.leads] at hf'; subst hf'; exact hFg
 · simp [invoke, go_sem, eg]
 · have turn : ∀ {A B : World} {row : Option Nat}, (∀ r, row = some r → W1.heap.size ≤ r ∧ ∃ o : Obj, A.heap[r]? = some o ∧ o.isCells = false) → ∀ {k : Nat} {o : Obj}, k < N + 2 → A.heap[k]? = some o → A.grownBy B row → B.heap[k]? = some o := by
    intro A B row hr k o hk ho hg'
    exact (hg'.block k (b7t ho) (fun e => by have := (hr k e.symm).1; omega)).trans ho
   refine (hseq (N + 1) (fun pre W => I pre W ∧ W.heap[N + 1]? = some (.loop (rec .ready none)) ∧ W.heap[N]? = some (.deferred (some []))) W1 hb1 hs1
    (fun s A B row hs hg' hr => ⟨hI s A B row hs.1 hg' (fun r e => ⟨by have := (hr r e).1; omega, (hr r e).2⟩), turn hr (by omega) hs.2.1 hg', turn hr (by omega) hs.2.2 hg'⟩) ?_ ⟨hI1, hL1, hK1⟩).mono ?_
   · rintro pre x W ⟨hi, hl, hk⟩ hpre
     have hy := run_yield (P := P) (args := encs x) hl (by rw [hrec]; exact hps x)
     rw [hrec] at hy
     refine ⟨fn, _, assign, body, hy, roundIn_of_wpIn hfn (hassign _ pre x W _ hi ?_)⟩
     clear hy
     intro a' V hkf hkp hia hax
     have hl2 := hkf.same _ _ (by omega) hl rfl
     have hk2 := hkf.same _ _ (Nat.le_refl _) hk rfl
     have hlt : N + 1 < V.heap.size := b7t hl2
     refine ⟨_, run_beginRound hl2 (by rw [hrec]), ?_⟩
     have hl3 : (V.putObj (N + 1) (.loop { rec .ready none with state := .busy })).heap[N + 1]? = some (.loop { rec .ready none with state := .busy }) := World.putObj_heap_same hlt
     have hk3 : (V.putObj (N + 1) (.loop { rec .ready none with state := .busy })).heap[N]? = some (.deferred (some [])) := (World.putObj_heap_other (by omega)).trans hk2
     refine wpIn_mono (hbody _ pre x a' _ (hI.putObj _ hia (by omega) hl2 rfl) ((hAx x a').putObj (s := ()) _ hax (by omega) hl2 rfl) hpre) ?_
     rintro e a3 V3 hp
     cases e with
     | normal =>
      obtain ⟨hf3, hp3, hi3⟩ := hp
      have hl4 := hf3.same _ _ (by omega) hl3 rfl
      have hr := run_endRound (P := P) none hl4
      have hl5 : (V3.putObj (N + 1) (.loop (rec .ready none))).heap[N + 1]? = some (.loop (rec .ready none)) := World.putObj_heap_same (b7t hl4)
      refine ⟨_, _, hr, rfl, ⟨?_, ?_, ?_⟩, ?_, ?_⟩
      · exact hI.putObj _ hi3 (by omega) hl4 rfl
      · rw [hrec] at hl5 ⊢; exact hl5
      · exact (World.putObj_heap_other (by omega)).trans (hf3.same _ _ (Nat.le_refl _) hk3 rfl)
      · exact hKt (hKt (hKt hkp (hKb _ _ _ hl2 rfl)) hp3) (hKb _ _ _ hl4 rfl)
      · exact (((NonKept.of_from hkf (by omega)).trans (NonKept.put _ (by omega))).trans (NonKept.of_from hf3 (by omega))).trans (NonKept.put _ (by omega))
     | ret => exact hp.elim
     | exit id => exact hp.elim
     | goto t => exact hp.elim
     | panic ch => exact hp.elim
     | outgrown => exact hp.elim
   · rintro e W2 ⟨⟨v, rfl⟩, hi, hl, hk⟩
     exact ⟨none, _, by have := run_endLoop (P := P) hl (by rw [hrec]; simp); rw [hrec] at this; exact this, hdone N _ (Nat.le_refl _) (hI.putObj _ hi (by omega) hl rfl) ((World.putObj_heap_other (by omega)).trans hk)⟩
end Go.Proofs.YtgdcfkbimkclaaaGreatDoor
