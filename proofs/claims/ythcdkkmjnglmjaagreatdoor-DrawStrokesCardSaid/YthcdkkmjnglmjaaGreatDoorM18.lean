/- Merged texts: DrG DrH DrI DrJ DrK DrM DrN. -/
import Derived.Test.YthcdkkmjnglmjaaGreatDoorM17
import Derived.Test.YthcdkkmjnglmjaaGreatDoorM11
set_option linter.unusedSimpArgs false
set_option linter.unusedVariables false
/- Package draw: Stroke. -/
namespace Go.Proofs.YthcdkkmjnglmjaaGreatDoor
open Go.RowKit Go.Shelf
attribute [local go_sem] Oper.semAt_some
/-- A row of spans whose places are told. -/
def SpV (Q : PtT → Prop) (v : Value) (w : World) : Prop := ∃ a n cap M, v = .slice a n cap ∧ SetRow Q M ∧ M.length = n ∧ n ≤ 1000000 ∧ Elems w (.slice a n cap) n 3 (rowC encS M)
theorem SpV.below {Q : PtT → Prop} {v : Value} {w w' : World} (h : SpV Q v w) (hb : Below w.heap.size w w') : SpV Q v w' := by
 obtain ⟨a, n, cap, M, h1, h2, h3, h4, h5⟩ := h
 exact ⟨a, n, cap, M, h1, h2, h3, h4, h5.below hb⟩
theorem GivesSet.spv {Q : PtT → Prop} {er : Int} {w w' : World} {e : Ending} (h : GivesSet true Q er w e w') : ∃ v, e = .returned (.tuple #[v, .int .i64 0]) ∧ SpV Q v w' ∧ Below w.heap.size w w' := by
 obtain ⟨M, h1, -, h3, v, he, hr, hb⟩ := h
 have h4 := ownsRow_rows encS_len hr
 obtain ⟨a, cap, rfl, -⟩ := h4.shape
 exact ⟨_, he, ⟨a, _, cap, M, rfl, h1 rfl, rfl, h3, h4⟩, hb⟩
theorem GivesSet.badR {Q : PtT → Prop} {er : Int} {w w' : World} {e : Ending} (h : GivesSet false Q er w e w') : ∃ v, e = .returned (.tuple #[v, .int .i64 er]) ∧ Below w.heap.size w w' := by
 obtain ⟨M, -, -, -, v, he, -, hb⟩ := h
 exact ⟨v, he, hb⟩
/-- What is painted: the row's places are told. -/
def Painted (C : CanT) (Q : PtT → Prop) (f : ColT → ColT) (D : CanT) : Prop := ∃ M, SetRow Q M ∧ D = paintC C M f
theorem epaint_spv (c : ColT) (hc : okC c) (E p : Nat) (C : CanT) (Q : PtT → Prop) (hQ : ∀ q, Q q → (-256 ≤ q.x ∧ q.x ≤ 255) ∧ (-256 ≤ q.y ∧ q.y ≤ 255)) (v : Value) (w : World) (hE : w.heap[E]? = some (.cells #[.pointer (some ⟨p, 0, none⟩)] 127 (0, 0))) (hC : CanAt w p C) (hv : SpV Q v w) :
 Calls Tryz.prog 47 #[.pointer (some ⟨E, 0, none⟩), v, c.val] w (DrewP E 0 (Painted C Q (fpaint c)) w) := by
 obtain ⟨a, n, cap, M, rfl, h1, h2, h3, h4⟩ := hv
 have hr := h1.rightB hQ
 refine (epaint_any c hc E p C a n cap M h2 h3 w hE hC h4).mono fun e w' h => ?_
 rw [hr] at h
 exact Drew.P h fun _ => ⟨M, h1, rfl⟩
structure BrT where
 c : ColT
 size : Int
 round : Bool
def BrT.val (b : BrT) : Value := .agg #[.int .u8 b.c.r, .int .u8 b.c.g, .int .u8 b.c.b, .int .u8 b.c.a, .int .i64 b.size, .bool b.round]
def BrT.obj (b : BrT) : Obj := .cells #[.int .u8 b.c.r, .int .u8 b.c.g, .int .u8 b.c.b, .int .u8 b.c.a, .int .i64 b.size, .bool b.round] 38 (0, 0)
theorem swm_near {size : Int} {round : Bool} {l : List PtT} (hs : sizeB size = true) (hl : l.any (fun p => !drawnB p) = false) : ∀ q, SwM size round l q → (-256 ≤ q.x ∧ q.x ≤ 255) ∧ (-256 ≤ q.y ∧ q.y ≤ 255) := by
 rintro q ⟨c, hc, h⟩
 have h0 := of_decide_eq_true hs
 have h1 := inRef_in h0.1 h
 have h2 : drawnB c = true := by
  have := List.any_eq_false.1 hl c hc
  simpa using this
 have h3 := of_decide_eq_true h2
 omega
set_option maxRecDepth 100000 in
set_option maxHeartbeats 2000000 in
theorem dStroke1_any (b : BrT) (hc : okC b.c) (E p qp qb : Nat) (C : CanT) (a : Option Addr) (m cap : Nat) (L : List PtT) (hlen : L.length = m) (hm : m ≤ 30000) (hok : (sizeB b.size && !L.any (fun p => !drawnB p)) = true)
 (w : World) (hE : w.heap[E]? = some (.cells #[.pointer (some ⟨p, 0, none⟩)] 127 (0, 0))) (hC : CanAt w p C) (he : Elems w (.slice a m cap) m 2 (rowC encP L))
 (hl : BlkA qp (.cells #[.slice a m cap] 39 (0, 0)) w) (hq : BlkA qb b.obj w) :
 Calls Tryz.prog 60 #[.pointer (some ⟨E, 0, none⟩), .pointer (some ⟨qp, 0, none⟩), .pointer (some ⟨qb, 0, none⟩)] w (DrewP E 0 (Painted C (SwM b.size b.round L) (fpaint b.c)) w) := by
 have HEA := H7 (BlkA.mk hE)
 have HCC := H7 hC
 have HEL := H7 he
 have HL := H7 hl
 have HB := H7 hq
 have HP := H7 (fun v w' h1 h2 h3 => epaint_spv b.c hc E p C (SwM b.size b.round L) (swm_near (by simp at hok; exact hok.1) (by simpa using (Bool.and_eq_true_iff.1 hok).2)) v w' h1 h2 h3)
 have HSW := H7 (fun w' h => shSweep_any a m cap L hlen hm b.size b.round w' h)
 rw [hok] at HSW
 obtain ⟨⟨cr, cg, cb, ca⟩, size, round⟩ := b
 unfold BrT.obj at HB
 unfold ColT.val at HP
 simp only at HP HB HSW ⊢
 clear hE hC he hlen hm hc hl hq hok
 go_enter Tryz.func60, Tryz.ntmps60
 refine (wpIn_wide (n := 0)).1 ?_
 apply w7v 12 (Rl := [(eqv _), (eqv _), (eqv _), (eqv _), (eqv _), (eqv _), (fun v_ w_ => ∃ v, v_ = .tuple #[v, .int .i64 0] ∧ SpV (SwM size round L) v w_), (fun v_ w_ => SpV (SwM size round L) v_ w_), (fun v_ _ => v_ = (.int .i64 0 : Value)), (fun v_ w_ => SpV (SwM size round L) v_ w_), (eqv _), (eqv _)]) (C := (fun x y => Below x.heap.size x y))
 case hm => kernel_rfl
 case hk => rfl
 case hCr => exact (fun _ => B7 _ _)
 case hCt => intro _ _ _; exact (fun h k => g7t h k)
 case hst => exact ⟨fun _ _ _ _ h => h, fun _ _ _ _ h => h, fun _ _ _ _ h => h, fun _ _ _ _ h => h, fun _ _ _ _ h => h, fun _ _ _ _ h => h, fun _ _ _ hC ⟨v, e, h⟩ => ⟨v, e, h.below hC⟩, fun _ _ _ hC h => h.below hC, fun _ _ _ _ h => h, fun _ _ _ hC h => h.below hC, fun _ _ _ _ h => h, fun _ _ _ _ h => h, trivial⟩
 case hfo => kernel_rfl
 case ht => kernel_rfl
 case hC0 => exact (g7d _)
 case hsteps =>
  refine ⟨?_, ?_, ?_, ?_, ?_, ?_, ?_, ?_, ?_, ?_, ?_, ?_, trivial⟩
  · intro a' w' hA hC hD; have s0 := hA.to 0 (by kernel_rfl) rfl; clear hA hD; refine o7p rfl ?_; intro K hK; gi_wp2; exact hK _ _ rfl (B7 _ _)
  · intro a' w' hA hC hD; have s1 := hA.to 1 (by kernel_rfl) rfl
    have z0 := c7b (k := 0) (HL.out.below hC).at_ rfl
    clear hA hD; refine o7p rfl ?_; intro K hK; gi_wp2; exact hK _ _ rfl (B7 _ _)
  · intro a' w' hA hC hD; have s2 := hA.to 2 (by kernel_rfl) rfl; clear hA hD; refine o7p rfl ?_; intro K hK; gi_wp2; exact hK _ _ rfl (B7 _ _)
  · intro a' w' hA hC hD; obtain ⟨u6, s6, rfl⟩ := hD ⟨2, .data⟩ (by simp) rfl _ rfl
    have z0 := c7b (k := 4) (HB.out.below hC).at_ rfl
    clear hA hD; refine o7p rfl ?_; intro K hK; gi_wp2; exact hK _ _ rfl (B7 _ _)
  · intro a' w' hA hC hD; have s2 := hA.to 2 (by kernel_rfl) rfl; clear hA hD; refine o7p rfl ?_; intro K hK; gi_wp2; exact hK _ _ rfl (B7 _ _)
  · intro a' w' hA hC hD; obtain ⟨u8, s8, rfl⟩ := hD ⟨4, .data⟩ (by simp) rfl _ rfl
    have z0 := c7b (k := 5) (HB.out.below hC).at_ rfl
    clear hA hD; refine o7p rfl ?_; intro K hK; gi_wp2; exact hK _ _ rfl (B7 _ _)
  · intro a' w' hA hC hD; obtain ⟨u5, s5, rfl⟩ := hD ⟨1, .data⟩ (by simp) rfl _ rfl; obtain ⟨u7, s7, rfl⟩ := hD ⟨3, .data⟩ (by simp) rfl _ rfl; obtain ⟨u9, s9, rfl⟩ := hD ⟨5, .data⟩ (by simp) rfl _ rfl; clear hA hD; refine o7p rfl ?_; intro K hK; gi_wp2
    refine (callsIn_wide.2 (HSW.out _ (HEL.out.below hC))).mono ?_; intro e w5 h; obtain ⟨v, rfl, h1, h2⟩ := h.spv; exact hK _ _ ⟨v, rfl, h1⟩ h2
  · intro a' w' hA hC hD; obtain ⟨u10, s10, r10⟩ := hD ⟨6, .data⟩ (by simp) rfl _ rfl; replace r10 : (fun v_ w_ => ∃ v, v_ = .tuple #[v, .int .i64 0] ∧ SpV (SwM size round L) v w_) u10 w' := r10
    obtain ⟨v6, rfl, h6⟩ := r10
    clear hA hD; refine o7p rfl ?_; intro K hK; gi_wp2; exact hK _ _ h6 (B7 _ _)
  · intro a' w' hA hC hD; obtain ⟨u10, s10, r10⟩ := hD ⟨6, .data⟩ (by simp) rfl _ rfl; replace r10 : (fun v_ w_ => ∃ v, v_ = .tuple #[v, .int .i64 0] ∧ SpV (SwM size round L) v w_) u10 w' := r10
    obtain ⟨v6, rfl, h6⟩ := r10
    clear hA hD; refine o7p rfl ?_; intro K hK; gi_wp2; exact hK (.int .i64 0) _ rfl (B7 _ _)
  · intro a' w' hA hC hD; obtain ⟨u11, s11, r11⟩ := hD ⟨7, .data⟩ (by simp) rfl _ rfl; replace r11 : (fun v_ w_ => SpV (SwM size round L) v_ w_) u11 w' := r11; obtain ⟨u12, s12, r12⟩ := hD ⟨8, .data⟩ (by simp) rfl _ rfl; replace r12 : u12 = .int .i64 0 := r12; subst r12; clear hA hD; refine o7p rfl ?_; intro K hK; gi_wp2
    refine (callsIn_wide.2 (sureS_ok _ _)).mono ?_; rintro e w5 ⟨rfl, rfl⟩; exact hK _ _ r11 (B7 _ _)
  · intro a' w' hA hC hD; have s2 := hA.to 2 (by kernel_rfl) rfl; clear hA hD; refine o7p rfl ?_; intro K hK; gi_wp2; exact hK _ _ rfl (B7 _ _)
  · intro a' w' hA hC hD; obtain ⟨u14, s14, rfl⟩ := hD ⟨10, .data⟩ (by simp) rfl _ rfl
    have z0 := c7b (k := 0) (HB.out.below hC).at_ rfl; have z1 := c7b (k := 1) (HB.out.below hC).at_ rfl; have z2 := c7b (k := 2) (HB.out.below hC).at_ rfl; have z3 := c7b (k := 3) (HB.out.below hC).at_ rfl
    clear hA hD; refine o7p rfl ?_; intro K hK; gi_wp2; exact hK _ _ rfl (B7 _ _)
 case hend =>
  intro w4 hC
  simp only [EndFrom, eqv, forall_eq, Act.put, List.length_cons, List.length_nil, List.drop_succ_cons, List.drop_zero, Nat.reduceAdd, List.setIfInBounds_toArray, List.set_cons_succ, List.set_cons_zero]
  rintro v6 - v7 - v9 h9
  have HS9 := H7 h9
  have HCC := H7 (HCC.out.below hC)
  have HEA := H7 (HEA.out.below hC)
  have HLW := H7 (LowAt.mk hC)
  clear h9 hC
  gi_wp2_with fail
  refine (callsIn_wide.2 (HP.out v9 _ HEA.out.at_ HCC.out HS9.out)).mono ?_
  intro e w5 h
  have HR := H7 (h.of_below HLW.out.low)
  obtain ⟨rfl, -⟩ := HR.out.2.1 rfl
  clear h
  gi_wp2_with fail
  go_end0
  exact HR.out
set_option maxRecDepth 100000 in
set_option maxHeartbeats 2000000 in
theorem dStroke1_bad (b : BrT) (S : CanT → Prop) (E p qp qb : Nat) (C : CanT) (a : Option Addr) (m cap : Nat) (L : List PtT) (hlen : L.length = m) (hm : m ≤ 30000) (hok : (sizeB b.size && !L.any (fun p => !drawnB p)) = false)
 (w : World) (hE : w.heap[E]? = some (.cells #[.pointer (some ⟨p, 0, none⟩)] 127 (0, 0))) (hC : CanAt w p C) (he : Elems w (.slice a m cap) m 2 (rowC encP L))
 (hl : BlkA qp (.cells #[.slice a m cap] 39 (0, 0)) w) (hq : BlkA qb b.obj w) :
 Calls Tryz.prog 60 #[.pointer (some ⟨E, 0, none⟩), .pointer (some ⟨qp, 0, none⟩), .pointer (some ⟨qb, 0, none⟩)] w (DrewP E 2 S w) := by
 have HEA := H7 (BlkA.mk hE)
 have HCC := H7 hC
 have HEL := H7 he
 have HL := H7 hl
 have HB := H7 hq
 have HSW := H7 (fun w' h => shSweep_any a m cap L hlen hm b.size b.round w' h)
 rw [hok] at HSW
 obtain ⟨⟨cr, cg, cb, ca⟩, size, round⟩ := b
 unfold BrT.obj at HB
 simp only at HB HSW ⊢
 clear hE hC he hlen hm hl hq hok
 go_enter Tryz.func60, Tryz.ntmps60
 refine (wpIn_wide (n := 0)).1 ?_
 apply w7v 12 (Rl := [(eqv _), (eqv _), (eqv _), (eqv _), (eqv _), (eqv _), (fun v_ w_ => ∃ v, v_ = .tuple #[v, .int .i64 2]), (fun v_ w_ => True), (fun v_ _ => v_ = (.int .i64 2 : Value)), (fun v_ w_ => False), (eqv _), (eqv _)]) (C := (fun x y => Below x.heap.size x y))
 case hm => kernel_rfl
 case hk => rfl
 case hCr => exact (fun _ => B7 _ _)
 case hCt => intro _ _ _; exact (fun h k => g7t h k)
 case hst => exact ⟨fun _ _ _ _ h => h, fun _ _ _ _ h => h, fun _ _ _ _ h => h, fun _ _ _ _ h => h, fun _ _ _ _ h => h, fun _ _ _ _ h => h, fun _ _ _ hC h => h, fun _ _ _ hC h => h, fun _ _ _ _ h => h, fun _ _ _ hC h => h, fun _ _ _ _ h => h, fun _ _ _ _ h => h, trivial⟩
 case hfo => kernel_rfl
 case ht => kernel_rfl
 case hC0 => exact (g7d _)
 case hsteps =>
  refine ⟨?_, ?_, ?_, ?_, ?_, ?_, ?_, ?_, ?_, ?_, ?_, ?_, trivial⟩
  · intro a' w' hA hC hD; have s0 := hA.to 0 (by kernel_rfl) rfl; clear hA hD; refine o7p rfl ?_; intro K hK; gi_wp2; exact hK _ _ rfl (B7 _ _)
  · intro a' w' hA hC hD; have s1 := hA.to 1 (by kernel_rfl) rfl
    have z0 := c7b (k := 0) (HL.out.below hC).at_ rfl
    clear hA hD; refine o7p rfl ?_; intro K hK; gi_wp2; exact hK _ _ rfl (B7 _ _)
  · intro a' w' hA hC hD; have s2 := hA.to 2 (by kernel_rfl) rfl; clear hA hD; refine o7p rfl ?_; intro K hK; gi_wp2; exact hK _ _ rfl (B7 _ _)
  · intro a' w' hA hC hD; obtain ⟨u6, s6, rfl⟩ := hD ⟨2, .data⟩ (by simp) rfl _ rfl
    have z0 := c7b (k := 4) (HB.out.below hC).at_ rfl
    clear hA hD; refine o7p rfl ?_; intro K hK; gi_wp2; exact hK _ _ rfl (B7 _ _)
  · intro a' w' hA hC hD; have s2 := hA.to 2 (by kernel_rfl) rfl; clear hA hD; refine o7p rfl ?_; intro K hK; gi_wp2; exact hK _ _ rfl (B7 _ _)
  · intro a' w' hA hC hD; obtain ⟨u8, s8, rfl⟩ := hD ⟨4, .data⟩ (by simp) rfl _ rfl
    have z0 := c7b (k := 5) (HB.out.below hC).at_ rfl
    clear hA hD; refine o7p rfl ?_; intro K hK; gi_wp2; exact hK _ _ rfl (B7 _ _)
  · intro a' w' hA hC hD; obtain ⟨u5, s5, rfl⟩ := hD ⟨1, .data⟩ (by simp) rfl _ rfl; obtain ⟨u7, s7, rfl⟩ := hD ⟨3, .data⟩ (by simp) rfl _ rfl; obtain ⟨u9, s9, rfl⟩ := hD ⟨5, .data⟩ (by simp) rfl _ rfl; clear hA hD; refine o7p rfl ?_; intro K hK; gi_wp2
    refine (callsIn_wide.2 (HSW.out _ (HEL.out.below hC))).mono ?_; intro e w5 h; obtain ⟨v, rfl, h2⟩ := h.badR; exact hK _ _ ⟨v, rfl⟩ h2
  · intro a' w' hA hC hD; obtain ⟨u10, s10, r10⟩ := hD ⟨6, .data⟩ (by simp) rfl _ rfl; replace r10 : (fun v_ w_ => ∃ v, v_ = .tuple #[v, .int .i64 2]) u10 w' := r10
    obtain ⟨v6, rfl⟩ := r10
    clear hA hD; refine o7p rfl ?_; intro K hK; gi_wp2; exact hK _ _ trivial (B7 _ _)
  · intro a' w' hA hC hD; obtain ⟨u10, s10, r10⟩ := hD ⟨6, .data⟩ (by simp) rfl _ rfl; replace r10 : (fun v_ w_ => ∃ v, v_ = .tuple #[v, .int .i64 2]) u10 w' := r10
    obtain ⟨v6, rfl⟩ := r10
    clear hA hD; refine o7p rfl ?_; intro K hK; gi_wp2; exact hK (.int .i64 2) _ rfl (B7 _ _)
  · intro a' w' hA hC hD; obtain ⟨u11, s11, r11⟩ := hD ⟨7, .data⟩ (by simp) rfl _ rfl; replace r11 : (fun v_ w_ => True) u11 w' := r11; obtain ⟨u12, s12, r12⟩ := hD ⟨8, .data⟩ (by simp) rfl _ rfl; replace r12 : u12 = .int .i64 2 := r12; subst r12
    have hdf := hA.defers
    clear hA hD; refine o7p rfl ?_; intro K hK; gi_wp2
    refine (callsIn_wide.2 (sureS_no _ 2 (by decide) _)).mono ?_; rintro e w5 ⟨h1, rfl⟩; unfold PanicE at h1; subst h1; exact ⟨hdf, drewP_panic (by decide) hC⟩
  · intro a' w' hA hC hD; have s2 := hA.to 2 (by kernel_rfl) rfl; clear hA hD; refine o7p rfl ?_; intro K hK; gi_wp2; exact hK _ _ rfl (B7 _ _)
  · intro a' w' hA hC hD; obtain ⟨u14, s14, rfl⟩ := hD ⟨10, .data⟩ (by simp) rfl _ rfl
    have z0 := c7b (k := 0) (HB.out.below hC).at_ rfl; have z1 := c7b (k := 1) (HB.out.below hC).at_ rfl; have z2 := c7b (k := 2) (HB.out.below hC).at_ rfl; have z3 := c7b (k := 3) (HB.out.below hC).at_ rfl
    clear hA hD; refine o7p rfl ?_; intro K hK; gi_wp2; exact hK _ _ rfl (B7 _ _)
 case hend =>
  intro w4 hC
  simp only [EndFrom, eqv, forall_eq, Act.put, List.length_cons, List.length_nil, List.drop_succ_cons, List.drop_zero, Nat.reduceAdd, List.setIfInBounds_toArray, List.set_cons_succ, List.set_cons_zero]
  rintro v6 - v7 - v9 h9
  exact h9.elim
/- Package draw: Stroke itself, Line. -/
set_option maxRecDepth 100000 in
set_option maxHeartbeats 1000000 in
theorem dStroke_any (b : BrT) (hc : okC b.c) (p : Nat) (C : CanT) (a : Option Addr) (m cap : Nat) (L : List PtT) (hlen : L.length = m) (hm : m ≤ 30000) (w : World) (hC : CanAt w p C) (he : Elems w (.slice a m cap) m 2 (rowC encP L)) :
 Calls Tryz.prog 21 #[.pointer (some ⟨p, 0, none⟩), b.val, .slice a m cap] w (DrawnP (errOf (sizeB b.size && !L.any (fun p => !drawnB p)) 2) (Painted C (SwM b.size b.round L) (fpaint b.c)) w) := by
 have HS := H7 (St.start w)
 have HD : Hid (∀ E qp qb w1, Below w.heap.size w w1 → w1.heap[E]? = some (.cells #[.pointer (some ⟨p, 0, none⟩)] 127 (0, 0)) → BlkA qp (.cells #[.slice a m cap] 39 (0, 0)) w1 → BlkA qb b.obj w1 →
  Calls Tryz.prog 60 #[.pointer (some ⟨E, 0, none⟩), .pointer (some ⟨qp, 0, none⟩), .pointer (some ⟨qb, 0, none⟩)] w1 (DrewP E (errOf (sizeB b.size && !L.any (fun p => !drawnB p)) 2) (Painted C (SwM b.size b.round L) (fpaint b.c)) w1)) := H7 fun E qp qb w1 hb hE h1 h2 => by
  cases hok : (sizeB b.size && !L.any (fun p => !drawnB p)) with
  | true => exact dStroke1_any b hc E p qp qb C a m cap L hlen hm hok w1 hE (hC.below hb) (he.below hb) h1 h2
  | false => exact dStroke1_bad b _ E p qp qb C a m cap L hlen hm hok w1 hE (hC.below hb) (he.below hb) h1 h2
 have hmf : ∀ (fn : Fn) (first cap : Array Value) (w : World), (Instr.makeFunc fn first cap).run Tryz.prog w = .ok (.func fn first cap) w := fun _ _ _ _ => rfl
 obtain ⟨S, hS⟩ : ∃ S, Painted C (SwM b.size b.round L) (fpaint b.c) = S := ⟨_, rfl⟩
 obtain ⟨er, her⟩ : ∃ er, errOf (sizeB b.size && !L.any (fun p => !drawnB p)) 2 = er := ⟨_, rfl⟩
 rw [hS, her] at HD ⊢
 unfold BrT.val
 unfold BrT.obj at HD
 clear hC he hlen hm hc hS her
 go_enter Tryz.func21, Tryz.ntmps21
 repeat ((fail_if_success (with_reducible refine stop_at (id := 1) ?_)); (first | go_values | go_skip | go_guarded | go_step | go_upon | go_back | (simp only [Int.not_lt, Int.not_le] at *; go_simp) | (go_values <;> (try go_simp)) | (go_ite <;> go_prune <;> (try go_simp)) | (split <;> (first | (rename_i hx; exact (hx _ rfl).elim) | go_prune))))
 have hs_ := ((HS.out.alloc (.cells #[.int .u8 b.c.r, .int .u8 b.c.g, .int .u8 b.c.b, .int .u8 b.c.a, .int .i64 b.size, .bool b.round] 38)).alloc (.cells #[.slice a m cap] 39))
 obtain ⟨w1, hw_⟩ : ∃ w1 : World, ((w.alloc (.cells #[.int .u8 b.c.r, .int .u8 b.c.g, .int .u8 b.c.b, .int .u8 b.c.a, .int .i64 b.size, .bool b.round] 38)).alloc (.cells #[.slice a m cap] 39)) = w1 := ⟨_, rfl⟩
 rw [hw_] at hs_
 try simp only [World.size_alloc] at hs_
 have HS := H7 hs_
 rw [hw_]
 clear hw_ hs_
 go_wp2_with fail
 refine (dTriesP_any 60 #[.pointer (some ⟨w.heap.size + 1, 0, none⟩), .pointer (some ⟨w.heap.size, 0, none⟩)] p er S w1 (fun _ _ => by simp [go_sem]) (fun w2 E hE hb hE2 => HD.out E (w.heap.size + 1) w.heap.size w2 (HS.out.below hb).low hE2 ⟨(HS.out.below hb).blockAt 0 rfl⟩ ⟨(HS.out.below hb).blockAt 1 rfl⟩)).mono ?_
 intro e w3 h
 have HR := H7 (h.of_below HS.out.low)
 clear h
 rcases Classical.em (er = 0) with h0 | h0
 · obtain ⟨d, rfl, -⟩ := HR.out.2.1 h0
   go_wp2_with fail
   refine bodyPost_ret (v := .tuple #[.pointer (some ⟨d, 0, none⟩), .int .i64 0]) (by simp [results, Tryz.results21, go_sem]) rfl HR.out
 · obtain rfl := HR.out.2.2 h0
   go_wp2_with fail
   refine bodyPost_ret (v := .tuple #[.pointer none, .int .i64 er]) (by simp [results, Tryz.results21, go_sem]) rfl HR.out
/- Package draw: Line. -/
theorem DrewP.to {E : Nat} {er er' : Int} {S S' : CanT → Prop} {w w' : World} {e : Ending} (h : DrewP E er S w e w') (h1 : er = er') (h2 : S = S') : DrewP E er' S' w e w' := by subst h1; subst h2; exact h
def lineOk (b : BrT) (f t : PtT) : Bool := (drawnB f && drawnB t) && (sizeB b.size && !(lineL f t).any (fun p => !drawnB p))
set_option maxRecDepth 100000 in
set_option maxHeartbeats 2000000 in
theorem dLine1_any (b : BrT) (hc : okC b.c) (f t : PtT) (E p qf qt qb : Nat) (C : CanT)
 (w : World) (hE : w.heap[E]? = some (.cells #[.pointer (some ⟨p, 0, none⟩)] 127 (0, 0))) (hC : CanAt w p C)
 (hf : BlkA qf (.cells #[.int .i64 f.x, .int .i64 f.y] 26 (0, 0)) w) (ht : BlkA qt (.cells #[.int .i64 t.x, .int .i64 t.y] 26 (0, 0)) w) (hq : BlkA qb b.obj w) :
 Calls Tryz.prog 63 #[.pointer (some ⟨E, 0, none⟩), .pointer (some ⟨qf, 0, none⟩), .pointer (some ⟨qt, 0, none⟩), .pointer (some ⟨qb, 0, none⟩)] w (DrewP E (errOf (lineOk b f t) 2) (Painted C (SwM b.size b.round (lineL f t)) (fpaint b.c)) w) := by
 have HEA := H7 (BlkA.mk hE)
 have HCC := H7 hC
 have HB := H7 hq
 have HLN := H7 (fun w' => shLine_any f t w')
 have HHC := H7 hc
 have x0 := c7b (k := 0) hf.at_ rfl
 have x1 := c7b (k := 1) hf.at_ rfl
 have y0 := c7b (k := 0) ht.at_ rfl
 have y1 := c7b (k := 1) ht.at_ rfl
 obtain ⟨ok1, hok1⟩ : ∃ ok1, (drawnB f && drawnB t) = ok1 := ⟨_, rfl⟩
 unfold lineOk
 rw [hok1] at HLN ⊢
 unfold PtT.val at HLN
 have HOK := H7 hok1
 clear hE hC hq hc hf ht hok1
 go_enter Tryz.func63, Tryz.ntmps63
 go_wp2_with fail
 clear x0 x1 y0 y1
 refine (HLN.out _).mono ?_
 intro e w1 h
 obtain ⟨hgl, a, cap, rfl, hel, hb1⟩ := h.got encP_len
 have HCC := H7 (HCC.out.below hb1)
 have HEA := H7 (HEA.out.below hb1)
 have HB := H7 (HB.out.below hb1)
 have HLW := H7 (LowAt.mk hb1)
 clear h hb1 HLN
 cases ok1 with
 | false =>
  simp only [errOf, Bool.false_and]
  go_wp2_with fail
  refine (sureP_no _ 2 (by decide) _).mono ?_
  rintro e w2 ⟨h1, rfl⟩
  unfold PanicE at h1
  subst h1
  exact ⟨rfl, (drewP_panic (er := 2) (by decide) HLW.out.low).to (by simp [errOf]) rfl⟩
 | true =>
  have hd := Bool.and_eq_true_iff.1 HOK.out
  have hle : lineE f t = lineL f t := by unfold lineE; rw [HOK.out]; rfl
  rw [hle] at hel hgl ⊢
  have hsm := lineL_small hd.1 hd.2
  have HSW := H7 (fun w' h => shSweep_any a (lineL f t).length cap (lineL f t) rfl (by omega) b.size b.round w' h)
  simp only [errOf, Bool.true_and]
  obtain ⟨LL, hLL⟩ : ∃ LL, lineL f t = LL := ⟨_, rfl⟩
  rw [hLL] at hel HSW ⊢
  have HLL := H7 hLL
  obtain ⟨m, hm⟩ : ∃ m, LL.length = m := ⟨_, rfl⟩
  rw [hm] at hel HSW ⊢
  have HEL := H7 hel
  clear hel hle hsm hLL hm hgl
  go_wp2_with fail
  refine (sureP_ok _ _).mono ?_
  rintro e w2 ⟨rfl, rfl⟩
  cases hok : (sizeB b.size && !LL.any (fun p => !drawnB p)) with
  | true =>
   rw [hok] at HSW
   have HP := H7 (fun v w' h1 h2 h3 => epaint_spv b.c HHC.out E p C (SwM b.size b.round LL) (swm_near (by simp at hok; exact hok.1) (by simpa using (Bool.and_eq_true_iff.1 hok).2)) v w' h1 h2 h3)
   obtain ⟨⟨cr, cg, cb, ca⟩, size, round⟩ := b
   unfold BrT.obj at HB
   unfold ColT.val at HP
   simp only at HP HB HSW ⊢
   have HK2 := H7 hok
   clear hok HHC
   repeat ((fail_if_success (with_reducible refine stop_at (id := 1) ?_)); (first | go_values | go_skip | go_guarded | go_step | go_upon | go_back | (simp only [Int.not_lt, Int.not_le] at *; go_simp) | (go_values <;> (try go_simp)) | (go_ite <;> go_prune <;> (try go_simp)) | (split <;> (first | (rename_i hx; exact (hx _ rfl).elim) | go_prune))))
   refine (wpIn_wide (n := 0)).1 ?_
   apply w7v 12 (Rl := [(eqv _), (eqv _), (eqv _), (eqv _), (eqv _), (eqv _), (fun v_ w_ => ∃ v, v_ = .tuple #[v, .int .i64 0] ∧ SpV (SwM size round LL) v w_), (fun v_ w_ => SpV (SwM size round LL) v_ w_), (fun v_ _ => v_ = (.int .i64 0 : Value)), (fun v_ w_ => SpV (SwM size round LL) v_ w_), (eqv _), (eqv _)]) (C := (fun x y => Below x.heap.size x y))
   case hm => kernel_rfl
   case hk => rfl
   case hCr => exact (fun _ => B7 _ _)
   case hCt => intro _ _ _; exact (fun h k => g7t h k)
   case hst => exact ⟨fun _ _ _ _ h => h, fun _ _ _ _ h => h, fun _ _ _ _ h => h, fun _ _ _ _ h => h, fun _ _ _ _ h => h, fun _ _ _ _ h => h, fun _ _ _ hC ⟨v, e, h⟩ => ⟨v, e, h.below hC⟩, fun _ _ _ hC h => h.below hC, fun _ _ _ _ h => h, fun _ _ _ hC h => h.below hC, fun _ _ _ _ h => h, fun _ _ _ _ h => h, trivial⟩
   case hfo => kernel_rfl
   case ht => kernel_rfl
   case hC0 => exact (g7d _)
   case hsteps =>
    refine ⟨?_, ?_, ?_, ?_, ?_, ?_, ?_, ?_, ?_, ?_, ?_, ?_, trivial⟩
    · intro a' w' hA hC hD; have s0 := hA.to 0 (by kernel_rfl) rfl; clear hA hD; refine o7p rfl ?_; intro K hK; gi_wp2; exact hK _ _ rfl (B7 _ _)
    · intro a' w' hA hC hD; have s5 := hA.to 5 (by kernel_rfl) rfl; clear hA hD; refine o7p rfl ?_; intro K hK; gi_wp2; exact hK _ _ rfl (B7 _ _)
    · intro a' w' hA hC hD; have s3 := hA.to 3 (by kernel_rfl) rfl; clear hA hD; refine o7p rfl ?_; intro K hK; gi_wp2; exact hK _ _ rfl (B7 _ _)
    · intro a' w' hA hC hD; obtain ⟨u14, s14, rfl⟩ := hD ⟨2, .data⟩ (by simp) rfl _ rfl
      have z0 := c7b (k := 4) (HB.out.below hC).at_ rfl
      clear hA hD; refine o7p rfl ?_; intro K hK; gi_wp2; exact hK _ _ rfl (B7 _ _)
    · intro a' w' hA hC hD; have s3 := hA.to 3 (by kernel_rfl) rfl; clear hA hD; refine o7p rfl ?_; intro K hK; gi_wp2; exact hK _ _ rfl (B7 _ _)
    · intro a' w' hA hC hD; obtain ⟨u16, s16, rfl⟩ := hD ⟨4, .data⟩ (by simp) rfl _ rfl
      have z0 := c7b (k := 5) (HB.out.below hC).at_ rfl
      clear hA hD; refine o7p rfl ?_; intro K hK; gi_wp2; exact hK _ _ rfl (B7 _ _)
    · intro a' w' hA hC hD; obtain ⟨u13, s13, rfl⟩ := hD ⟨1, .data⟩ (by simp) rfl _ rfl; obtain ⟨u15, s15, rfl⟩ := hD ⟨3, .data⟩ (by simp) rfl _ rfl; obtain ⟨u17, s17, rfl⟩ := hD ⟨5, .data⟩ (by simp) rfl _ rfl; clear hA hD; refine o7p rfl ?_; intro K hK; gi_wp2
      refine (callsIn_wide.2 (HSW.out _ (HEL.out.below hC))).mono ?_; intro e w5 h; obtain ⟨v, rfl, h1, h2⟩ := h.spv; exact hK _ _ ⟨v, rfl, h1⟩ h2
    · intro a' w' hA hC hD; obtain ⟨u18, s18, r18⟩ := hD ⟨6, .data⟩ (by simp) rfl _ rfl; replace r18 : (fun v_ w_ => ∃ v, v_ = .tuple #[v, .int .i64 0] ∧ SpV (SwM size round LL) v w_) u18 w' := r18
      obtain ⟨v6, rfl, h6⟩ := r18
      clear hA hD; refine o7p rfl ?_; intro K hK; gi_wp2; exact hK _ _ h6 (B7 _ _)
    · intro a' w' hA hC hD; obtain ⟨u18, s18, r18⟩ := hD ⟨6, .data⟩ (by simp) rfl _ rfl; replace r18 : (fun v_ w_ => ∃ v, v_ = .tuple #[v, .int .i64 0] ∧ SpV (SwM size round LL) v w_) u18 w' := r18
      obtain ⟨v6, rfl, h6⟩ := r18
      clear hA hD; refine o7p rfl ?_; intro K hK; gi_wp2; exact hK (.int .i64 0) _ rfl (B7 _ _)
    · intro a' w' hA hC hD; obtain ⟨u19, s19, r19⟩ := hD ⟨7, .data⟩ (by simp) rfl _ rfl; replace r19 : (fun v_ w_ => SpV (SwM size round LL) v_ w_) u19 w' := r19; obtain ⟨u20, s20, r20⟩ := hD ⟨8, .data⟩ (by simp) rfl _ rfl; replace r20 : u20 = .int .i64 0 := r20; subst r20; clear hA hD; refine o7p rfl ?_; intro K hK; gi_wp2
      refine (callsIn_wide.2 (sureS_ok _ _)).mono ?_; rintro e w5 ⟨rfl, rfl⟩; exact hK _ _ r19 (B7 _ _)
    · intro a' w' hA hC hD; have s3 := hA.to 3 (by kernel_rfl) rfl; clear hA hD; refine o7p rfl ?_; intro K hK; gi_wp2; exact hK _ _ rfl (B7 _ _)
    · intro a' w' hA hC hD; obtain ⟨u22, s22, rfl⟩ := hD ⟨10, .data⟩ (by simp) rfl _ rfl
      have z0 := c7b (k := 0) (HB.out.below hC).at_ rfl; have z1 := c7b (k := 1) (HB.out.below hC).at_ rfl; have z2 := c7b (k := 2) (HB.out.below hC).at_ rfl; have z3 := c7b (k := 3) (HB.out.below hC).at_ rfl
      clear hA hD; refine o7p rfl ?_; intro K hK; gi_wp2; exact hK _ _ rfl (B7 _ _)
   case hend =>
    intro w4 hC
    simp only [EndFrom, eqv, forall_eq, Act.put, List.length_cons, List.length_nil, List.drop_succ_cons, List.drop_zero, Nat.reduceAdd, List.setIfInBounds_toArray, List.set_cons_succ, List.set_cons_zero]
    rintro v6 - v7 - v9 h9
    have HS9 := H7 h9
    have HCC := H7 (HCC.out.below hC)
    have HEA := H7 (HEA.out.below hC)
    have HLW := H7 (HLW.out.below hC)
    clear h9 hC
    gi_wp2_with fail
    refine (callsIn_wide.2 (HP.out v9 _ HEA.out.at_ HCC.out HS9.out)).mono ?_
    intro e w5 h
    have HR := H7 (h.of_below HLW.out.low)
    obtain ⟨rfl, -⟩ := HR.out.2.1 rfl
    clear h
    gi_wp2_with fail
    go_end0
    exact HR.out.to (by rw [HLL.out, HK2.out]; rfl) (by rw [HLL.out])
  | false =>
   rw [hok] at HSW
   obtain ⟨⟨cr, cg, cb, ca⟩, size, round⟩ := b
   unfold BrT.obj at HB
   simp only at HB HSW ⊢
   have HK2 := H7 hok
   clear hok HHC
   repeat ((fail_if_success (with_reducible refine stop_at (id := 1) ?_)); (first | go_values | go_skip | go_guarded | go_step | go_upon | go_back | (simp only [Int.not_lt, Int.not_le] at *; go_simp) | (go_values <;> (try go_simp)) | (go_ite <;> go_prune <;> (try go_simp)) | (split <;> (first | (rename_i hx; exact (hx _ rfl).elim) | go_prune))))
   refine (wpIn_wide (n := 0)).1 ?_
   apply w7v 12 (Rl := [(eqv _), (eqv _), (eqv _), (eqv _), (eqv _), (eqv _), (fun v_ w_ => ∃ v, v_ = .tuple #[v, .int .i64 2]), (fun v_ w_ => True), (fun v_ _ => v_ = (.int .i64 2 : Value)), (fun v_ w_ => False), (eqv _), (eqv _)]) (C := (fun x y => Below x.heap.size x y))
   case hm => kernel_rfl
   case hk => rfl
   case hCr => exact (fun _ => B7 _ _)
   case hCt => intro _ _ _; exact (fun h k => g7t h k)
   case hst => exact ⟨fun _ _ _ _ h => h, fun _ _ _ _ h => h, fun _ _ _ _ h => h, fun _ _ _ _ h => h, fun _ _ _ _ h => h, fun _ _ _ _ h => h, fun _ _ _ hC h => h, fun _ _ _ hC h => h, fun _ _ _ _ h => h, fun _ _ _ hC h => h, fun _ _ _ _ h => h, fun _ _ _ _ h => h, trivial⟩
   case hfo => kernel_rfl
   case ht => kernel_rfl
   case hC0 => exact (g7d _)
   case hsteps =>
    refine ⟨?_, ?_, ?_, ?_, ?_, ?_, ?_, ?_, ?_, ?_, ?_, ?_, trivial⟩
    · intro a' w' hA hC hD; have s0 := hA.to 0 (by kernel_rfl) rfl; clear hA hD; refine o7p rfl ?_; intro K hK; gi_wp2; exact hK _ _ rfl (B7 _ _)
    · intro a' w' hA hC hD; have s5 := hA.to 5 (by kernel_rfl) rfl; clear hA hD; refine o7p rfl ?_; intro K hK; gi_wp2; exact hK _ _ rfl (B7 _ _)
    · intro a' w' hA hC hD; have s3 := hA.to 3 (by kernel_rfl) rfl; clear hA hD; refine o7p rfl ?_; intro K hK; gi_wp2; exact hK _ _ rfl (B7 _ _)
    · intro a' w' hA hC hD; obtain ⟨u14, s14, rfl⟩ := hD ⟨2, .data⟩ (by simp) rfl _ rfl
      have z0 := c7b (k := 4) (HB.out.below hC).at_ rfl
      clear hA hD; refine o7p rfl ?_; intro K hK; gi_wp2; exact hK _ _ rfl (B7 _ _)
    · intro a' w' hA hC hD; have s3 := hA.to 3 (by kernel_rfl) rfl; clear hA hD; refine o7p rfl ?_; intro K hK; gi_wp2; exact hK _ _ rfl (B7 _ _)
    · intro a' w' hA hC hD; obtain ⟨u16, s16, rfl⟩ := hD ⟨4, .data⟩ (by simp) rfl _ rfl
      have z0 := c7b (k := 5) (HB.out.below hC).at_ rfl
      clear hA hD; refine o7p rfl ?_; intro K hK; gi_wp2; exact hK _ _ rfl (B7 _ _)
    · intro a' w' hA hC hD; obtain ⟨u13, s13, rfl⟩ := hD ⟨1, .data⟩ (by simp) rfl _ rfl; obtain ⟨u15, s15, rfl⟩ := hD ⟨3, .data⟩ (by simp) rfl _ rfl; obtain ⟨u17, s17, rfl⟩ := hD ⟨5, .data⟩ (by simp) rfl _ rfl; clear hA hD; refine o7p rfl ?_; intro K hK; gi_wp2
      refine (callsIn_wide.2 (HSW.out _ (HEL.out.below hC))).mono ?_; intro e w5 h; obtain ⟨v, rfl, h2⟩ := h.badR; exact hK _ _ ⟨v, rfl⟩ h2
    · intro a' w' hA hC hD; obtain ⟨u18, s18, r18⟩ := hD ⟨6, .data⟩ (by simp) rfl _ rfl; replace r18 : (fun v_ w_ => ∃ v, v_ = .tuple #[v, .int .i64 2]) u18 w' := r18
      obtain ⟨v6, rfl⟩ := r18
      clear hA hD; refine o7p rfl ?_; intro K hK; gi_wp2; exact hK _ _ trivial (B7 _ _)
    · intro a' w' hA hC hD; obtain ⟨u18, s18, r18⟩ := hD ⟨6, .data⟩ (by simp) rfl _ rfl; replace r18 : (fun v_ w_ => ∃ v, v_ = .tuple #[v, .int .i64 2]) u18 w' := r18
      obtain ⟨v6, rfl⟩ := r18
      clear hA hD; refine o7p rfl ?_; intro K hK; gi_wp2; exact hK (.int .i64 2) _ rfl (B7 _ _)
    · intro a' w' hA hC hD; obtain ⟨u19, s19, r19⟩ := hD ⟨7, .data⟩ (by simp) rfl _ rfl; replace r19 : (fun v_ w_ => True) u19 w' := r19; obtain ⟨u20, s20, r20⟩ := hD ⟨8, .data⟩ (by simp) rfl _ rfl; replace r20 : u20 = .int .i64 2 := r20; subst r20
      have hdf := hA.defers
      clear hA hD; refine o7p rfl ?_; intro K hK; gi_wp2
      refine (callsIn_wide.2 (sureS_no _ 2 (by decide) _)).mono ?_; rintro e w5 ⟨h1, rfl⟩; unfold PanicE at h1; subst h1; exact ⟨hdf, (drewP_panic (er := 2) (by decide) (HLW.out.below hC).low).to (by rw [HLL.out, HK2.out]; rfl) rfl⟩
    · intro a' w' hA hC hD; have s3 := hA.to 3 (by kernel_rfl) rfl; clear hA hD; refine o7p rfl ?_; intro K hK; gi_wp2; exact hK _ _ rfl (B7 _ _)
    · intro a' w' hA hC hD; obtain ⟨u22, s22, rfl⟩ := hD ⟨10, .data⟩ (by simp) rfl _ rfl
      have z0 := c7b (k := 0) (HB.out.below hC).at_ rfl; have z1 := c7b (k := 1) (HB.out.below hC).at_ rfl; have z2 := c7b (k := 2) (HB.out.below hC).at_ rfl; have z3 := c7b (k := 3) (HB.out.below hC).at_ rfl
      clear hA hD; refine o7p rfl ?_; intro K hK; gi_wp2; exact hK _ _ rfl (B7 _ _)
   case hend =>
    intro w4 hC
    simp only [EndFrom, eqv, forall_eq, Act.put, List.length_cons, List.length_nil, List.drop_succ_cons, List.drop_zero, Nat.reduceAdd, List.setIfInBounds_toArray, List.set_cons_succ, List.set_cons_zero]
    rintro v6 - v7 - v9 h9
    exact h9.elim
/- Package draw: Line itself; Rect and Veil. -/
set_option maxRecDepth 100000 in
set_option maxHeartbeats 1000000 in
theorem dLine_any (b : BrT) (hc : okC b.c) (f t : PtT) (p : Nat) (C : CanT) (w : World) (hC : CanAt w p C) :
 Calls Tryz.prog 24 #[.pointer (some ⟨p, 0, none⟩), b.val, f.val, t.val] w (DrawnP (errOf (lineOk b f t) 2) (Painted C (SwM b.size b.round (lineL f t)) (fpaint b.c)) w) := by
 have HS := H7 (St.start w)
 have HD := H7 (fun E qf qt qb w1 (hb : Below w.heap.size w w1) hE h1 h2 h3 => dLine1_any b hc f t E p qf qt qb C w1 hE (hC.below hb) h1 h2 h3)
 have hmf : ∀ (fn : Fn) (first cap : Array Value) (w : World), (Instr.makeFunc fn first cap).run Tryz.prog w = .ok (.func fn first cap) w := fun _ _ _ _ => rfl
 obtain ⟨S, hS⟩ : ∃ S, Painted C (SwM b.size b.round (lineL f t)) (fpaint b.c) = S := ⟨_, rfl⟩
 obtain ⟨er, her⟩ : ∃ er, errOf (lineOk b f t) 2 = er := ⟨_, rfl⟩
 rw [hS, her] at HD ⊢
 unfold BrT.val PtT.val
 unfold BrT.obj at HD
 clear hC hc hS her
 go_enter Tryz.func24, Tryz.ntmps24
 repeat ((fail_if_success (with_reducible refine stop_at (id := 1) ?_)); (first | go_values | go_skip | go_guarded | go_step | go_upon | go_back | (simp only [Int.not_lt, Int.not_le] at *; go_simp) | (go_values <;> (try go_simp)) | (go_ite <;> go_prune <;> (try go_simp)) | (split <;> (first | (rename_i hx; exact (hx _ rfl).elim) | go_prune))))
 have hs_ := (((HS.out.alloc (.cells #[.int .u8 b.c.r, .int .u8 b.c.g, .int .u8 b.c.b, .int .u8 b.c.a, .int .i64 b.size, .bool b.round] 38)).alloc (.cells #[.int .i64 f.x, .int .i64 f.y] 26)).alloc (.cells #[.int .i64 t.x, .int .i64 t.y] 26))
 obtain ⟨w1, hw_⟩ : ∃ w1 : World, (((w.alloc (.cells #[.int .u8 b.c.r, .int .u8 b.c.g, .int .u8 b.c.b, .int .u8 b.c.a, .int .i64 b.size, .bool b.round] 38)).alloc (.cells #[.int .i64 f.x, .int .i64 f.y] 26)).alloc (.cells #[.int .i64 t.x, .int .i64 t.y] 26)) = w1 := ⟨_, rfl⟩
 rw [hw_] at hs_
 try simp only [World.size_alloc] at hs_
 have HS := H7 hs_
 rw [hw_]
 clear hw_ hs_
 go_wp2_with fail
 refine (dTriesP_any 63 #[.pointer (some ⟨w.heap.size + 1, 0, none⟩), .pointer (some ⟨w.heap.size + 1 + 1, 0, none⟩), .pointer (some ⟨w.heap.size, 0, none⟩)] p er S w1 (fun _ _ => by simp [go_sem]) (fun w2 E hE hb hE2 => HD.out E (w.heap.size + 1) (w.heap.size + 1 + 1) w.heap.size w2 (HS.out.below hb).low hE2 ⟨(HS.out.below hb).blockAt 1 rfl⟩ ⟨(HS.out.below hb).blockAt 0 rfl⟩ ⟨(HS.out.below hb).blockAt 2 rfl⟩)).mono ?_
 intro e w3 h
 have HR := H7 (h.of_below HS.out.low)
 clear h
 rcases Classical.em (er = 0) with h0 | h0
 · obtain ⟨d, rfl, -⟩ := HR.out.2.1 h0
   go_wp2_with fail
   refine bodyPost_ret (v := .tuple #[.pointer (some ⟨d, 0, none⟩), .int .i64 0]) (by simp [results, Tryz.results24, go_sem]) rfl HR.out
 · obtain rfl := HR.out.2.2 h0
   go_wp2_with fail
   refine bodyPost_ret (v := .tuple #[.pointer none, .int .i64 er]) (by simp [results, Tryz.results24, go_sem]) rfl HR.out
set_option maxRecDepth 100000 in
theorem dRect1_any (E : Addr) (w : World) : Calls Tryz.prog 46 #[.pointer (some E)] w (Gives (.func (.func 47) #[.pointer (some E)] #[]) w) := by
 have hmf : ∀ (fn : Fn) (first cap : Array Value) (w : World), (Instr.makeFunc fn first cap).run Tryz.prog w = .ok (.func fn first cap) w := fun _ _ _ _ => rfl
 go_enter Tryz.func46, Tryz.ntmps46
 go_wp2_with fail
 go_ret
 exact ⟨rfl, B7 _ _⟩
/- Package draw: Rect and Veil. -/
theorem rect_near {f t : PtT} (hok : (drawnB f && drawnB t) = true) : ∀ q, RectP f t q → (-256 ≤ q.x ∧ q.x ≤ 255) ∧ (-256 ≤ q.y ∧ q.y ≤ 255) := by
 have hd := Bool.and_eq_true_iff.1 hok
 have h1 := of_decide_eq_true hd.1
 have h2 := of_decide_eq_true hd.2
 intro q h
 unfold RectP at h
 omega
theorem rect_spv {f t : PtT} {w w' : World} {e : Ending} (hok : (drawnB f && drawnB t) = true) (h : GivesRowE 60 3 (rectL f t).length ((rectL f t).flatMap encS) (errOf (drawnB f && drawnB t) 2) w e w') : ∃ v, e = .returned (.tuple #[v, .int .i64 0]) ∧ SpV (RectP f t) v w' ∧ Below w.heap.size w w' := by
 have hd := Bool.and_eq_true_iff.1 hok
 have hs := rectL_small hd.1 hd.2
 have h1 := rectL_set hd.1 hd.2
 rw [hok] at h
 obtain ⟨h2, a, cap, he, hel, hb⟩ := h.got encS_len
 exact ⟨_, he, ⟨a, _, cap, rectL f t, rfl, h1, rfl, by omega, hel⟩, hb⟩
theorem rect_bad {f t : PtT} {w w' : World} {e : Ending} (hok : (drawnB f && drawnB t) = false) (h : GivesRowE 60 3 (rectL f t).length ((rectL f t).flatMap encS) (errOf (drawnB f && drawnB t) 2) w e w') : ∃ v, e = .returned (.tuple #[v, .int .i64 2]) ∧ Below w.heap.size w w' := by
 rw [hok] at h
 obtain ⟨v, he, -, hb⟩ := h
 exact ⟨v, he, hb⟩
set_option maxRecDepth 100000 in
set_option maxHeartbeats 2000000 in
theorem dRectc_any (c : ColT) (hc : okC c) (f t : PtT) (E p qn qf qt qc : Nat) (C : CanT)
 (w : World) (hE : w.heap[E]? = some (.cells #[.pointer (some ⟨p, 0, none⟩)] 127 (0, 0))) (hC : CanAt w p C)
 (hn : BlkA qn (.cells #[.func (.func 46) #[] #[]] 85 (0, 0)) w) (hf : BlkA qf (.cells #[.int .i64 f.x, .int .i64 f.y] 26 (0, 0)) w) (ht : BlkA qt (.cells #[.int .i64 t.x, .int .i64 t.y] 26 (0, 0)) w) (hq : BlkA qc (.cells #[.int .u8 c.r, .int .u8 c.g, .int .u8 c.b, .int .u8 c.a] 34 (0, 0)) w) :
 Calls Tryz.prog 84 #[.pointer (some ⟨E, 0, none⟩), .pointer (some ⟨qn, 0, none⟩), .pointer (some ⟨qf, 0, none⟩), .pointer (some ⟨qt, 0, none⟩), .pointer (some ⟨qc, 0, none⟩)] w (DrewP E (errOf (drawnB f && drawnB t) 2) (Painted C (RectP f t) (fpaint c)) w) := by
 have HEA := H7 (BlkA.mk hE)
 have HCC := H7 hC
 have HN := H7 hn
 have HF := H7 hf
 have HT := H7 ht
 have HQ := H7 hq
 have HRC := H7 (fun w' => shRect_any f t w')
 unfold PtT.val at HRC
 cases hok : (drawnB f && drawnB t) with
 | true =>
  have HOK := H7 hok
  have HP := H7 (fun v w' h1 h2 h3 => epaint_spv c hc E p C (RectP f t) (rect_near hok) v w' h1 h2 h3)
  unfold ColT.val at HP
  simp only [errOf]
  clear hE hC hn hf ht hq hc hok
  go_enter Tryz.func84, Tryz.ntmps84
  refine (wpIn_wide (n := 0)).1 ?_
  apply w7v 10 (Rl := [(eqv _), (eqv _), (eqv _), (eqv _), (eqv _), (fun v_ w_ => ∃ v, v_ = .tuple #[v, .int .i64 0] ∧ SpV (RectP f t) v w_), (fun v_ w_ => SpV (RectP f t) v_ w_), (fun v_ _ => v_ = (.int .i64 0 : Value)), (fun v_ w_ => SpV (RectP f t) v_ w_), (eqv _)]) (C := (fun x y => Below x.heap.size x y))
  case hm => kernel_rfl
  case hk => rfl
  case hCr => exact (fun _ => B7 _ _)
  case hCt => intro _ _ _; exact (fun h k => g7t h k)
  case hst => exact ⟨fun _ _ _ _ h => h, fun _ _ _ _ h => h, fun _ _ _ _ h => h, fun _ _ _ _ h => h, fun _ _ _ _ h => h, fun _ _ _ hC ⟨v, e, h⟩ => ⟨v, e, h.below hC⟩, fun _ _ _ hC h => h.below hC, fun _ _ _ _ h => h, fun _ _ _ hC h => h.below hC, fun _ _ _ _ h => h, trivial⟩
  case hfo => kernel_rfl
  case ht => kernel_rfl
  case hC0 => exact (g7d _)
  case hsteps =>
   refine ⟨?_, ?_, ?_, ?_, ?_, ?_, ?_, ?_, ?_, ?_, trivial⟩
   · intro a' w' hA hC hD; have s1 := hA.to 1 (by kernel_rfl) rfl
     have z0 := c7b (k := 0) (HN.out.below hC).at_ rfl
     clear hA hD; refine o7p rfl ?_; intro K hK; gi_wp2; exact hK _ _ rfl (B7 _ _)
   · intro a' w' hA hC hD; have s0 := hA.to 0 (by kernel_rfl) rfl; clear hA hD; refine o7p rfl ?_; intro K hK; gi_wp2; exact hK _ _ rfl (B7 _ _)
   · intro a' w' hA hC hD; obtain ⟨u6, s6, rfl⟩ := hD ⟨0, .data⟩ (by simp) rfl _ rfl; obtain ⟨u7, s7, rfl⟩ := hD ⟨1, .data⟩ (by simp) rfl _ rfl; clear hA hD; refine o7p rfl ?_; intro K hK
     gi_wp2_with fail; refine (callsIn_wide.2 (dRect1_any _ _)).mono ?_; rintro e w2 ⟨rfl, hb⟩
     exact hK _ _ rfl hb
   · intro a' w' hA hC hD; have s2 := hA.to 2 (by kernel_rfl) rfl
     have z0 := c7b (k := 0) (HF.out.below hC).at_ rfl; have z1 := c7b (k := 1) (HF.out.below hC).at_ rfl
     clear hA hD; refine o7p rfl ?_; intro K hK; gi_wp2; exact hK _ _ rfl (B7 _ _)
   · intro a' w' hA hC hD; have s3 := hA.to 3 (by kernel_rfl) rfl
     have z0 := c7b (k := 0) (HT.out.below hC).at_ rfl; have z1 := c7b (k := 1) (HT.out.below hC).at_ rfl
     clear hA hD; refine o7p rfl ?_; intro K hK; gi_wp2; exact hK _ _ rfl (B7 _ _)
   · intro a' w' hA hC hD; obtain ⟨u9, s9, rfl⟩ := hD ⟨3, .data⟩ (by simp) rfl _ rfl; obtain ⟨u10, s10, rfl⟩ := hD ⟨4, .data⟩ (by simp) rfl _ rfl; clear hA hD; refine o7p rfl ?_; intro K hK; gi_wp2
     refine (callsIn_wide.2 (HRC.out _)).mono ?_; intro e w5 h; obtain ⟨v, rfl, h1, h2⟩ := rect_spv HOK.out h; exact hK _ _ ⟨v, rfl, h1⟩ h2
   · intro a' w' hA hC hD; obtain ⟨u11, s11, r11⟩ := hD ⟨5, .data⟩ (by simp) rfl _ rfl; replace r11 : (fun v_ w_ => ∃ v, v_ = .tuple #[v, .int .i64 0] ∧ SpV (RectP f t) v w_) u11 w' := r11
     obtain ⟨v6, rfl, h6⟩ := r11
     clear hA hD; refine o7p rfl ?_; intro K hK; gi_wp2; exact hK _ _ h6 (B7 _ _)
   · intro a' w' hA hC hD; obtain ⟨u11, s11, r11⟩ := hD ⟨5, .data⟩ (by simp) rfl _ rfl; replace r11 : (fun v_ w_ => ∃ v, v_ = .tuple #[v, .int .i64 0] ∧ SpV (RectP f t) v w_) u11 w' := r11
     obtain ⟨v6, rfl, h6⟩ := r11
     clear hA hD; refine o7p rfl ?_; intro K hK; gi_wp2; exact hK (.int .i64 0) _ rfl (B7 _ _)
   · intro a' w' hA hC hD; obtain ⟨u12, s12, r12⟩ := hD ⟨6, .data⟩ (by simp) rfl _ rfl; replace r12 : (fun v_ w_ => SpV (RectP f t) v_ w_) u12 w' := r12; obtain ⟨u13, s13, r13⟩ := hD ⟨7, .data⟩ (by simp) rfl _ rfl; replace r13 : u13 = .int .i64 0 := r13; subst r13; clear hA hD; refine o7p rfl ?_; intro K hK; gi_wp2
     refine (callsIn_wide.2 (sureS_ok _ _)).mono ?_; rintro e w5 ⟨rfl, rfl⟩; exact hK _ _ r12 (B7 _ _)
   · intro a' w' hA hC hD; have s4 := hA.to 4 (by kernel_rfl) rfl
     have z0 := c7b (k := 0) (HQ.out.below hC).at_ rfl; have z1 := c7b (k := 1) (HQ.out.below hC).at_ rfl; have z2 := c7b (k := 2) (HQ.out.below hC).at_ rfl; have z3 := c7b (k := 3) (HQ.out.below hC).at_ rfl
     clear hA hD; refine o7p rfl ?_; intro K hK; gi_wp2; exact hK _ _ rfl (B7 _ _)
  case hend =>
   intro w4 hC
   simp only [EndFrom, eqv, forall_eq, Act.put, List.length_cons, List.length_nil, List.drop_succ_cons, List.drop_zero, Nat.reduceAdd, List.setIfInBounds_toArray, List.set_cons_succ, List.set_cons_zero]
   rintro v6 - v7 - v9 h9
   have HS9 := H7 h9
   have HCC := H7 (HCC.out.below hC)
   have HEA := H7 (HEA.out.below hC)
   have HLW := H7 (LowAt.mk hC)
   clear h9 hC
   gi_wp2_with fail
   refine (callsIn_wide.2 (HP.out v9 _ HEA.out.at_ HCC.out HS9.out)).mono ?_
   intro e w5 h
   have HR := H7 (h.of_below HLW.out.low)
   obtain ⟨rfl, -⟩ := HR.out.2.1 rfl
   clear h
   gi_wp2_with fail
   go_end0
   exact HR.out
 | false =>
  have HOK := H7 hok
  simp only [errOf]
  clear hE hC hn hf ht hq hc hok
  go_enter Tryz.func84, Tryz.ntmps84
  refine (wpIn_wide (n := 0)).1 ?_
  apply w7v 10 (Rl := [(eqv _), (eqv _), (eqv _), (eqv _), (eqv _), (fun v_ w_ => ∃ v, v_ = .tuple #[v, .int .i64 2]), (fun v_ w_ => True), (fun v_ _ => v_ = (.int .i64 2 : Value)), (fun v_ w_ => False), (eqv _)]) (C := (fun x y => Below x.heap.size x y))
  case hm => kernel_rfl
  case hk => rfl
  case hCr => exact (fun _ => B7 _ _)
  case hCt => intro _ _ _; exact (fun h k => g7t h k)
  case hst => exact ⟨fun _ _ _ _ h => h, fun _ _ _ _ h => h, fun _ _ _ _ h => h, fun _ _ _ _ h => h, fun _ _ _ _ h => h, fun _ _ _ hC h => h, fun _ _ _ hC h => h, fun _ _ _ _ h => h, fun _ _ _ hC h => h, fun _ _ _ _ h => h, trivial⟩
  case hfo => kernel_rfl
  case ht => kernel_rfl
  case hC0 => exact (g7d _)
  case hsteps =>
   refine ⟨?_, ?_, ?_, ?_, ?_, ?_, ?_, ?_, ?_, ?_, trivial⟩
   · intro a' w' hA hC hD; have s1 := hA.to 1 (by kernel_rfl) rfl
     have z0 := c7b (k := 0) (HN.out.below hC).at_ rfl
     clear hA hD; refine o7p rfl ?_; intro K hK; gi_wp2; exact hK _ _ rfl (B7 _ _)
   · intro a' w' hA hC hD; have s0 := hA.to 0 (by kernel_rfl) rfl; clear hA hD; refine o7p rfl ?_; intro K hK; gi_wp2; exact hK _ _ rfl (B7 _ _)
   · intro a' w' hA hC hD; obtain ⟨u6, s6, rfl⟩ := hD ⟨0, .data⟩ (by simp) rfl _ rfl; obtain ⟨u7, s7, rfl⟩ := hD ⟨1, .data⟩ (by simp) rfl _ rfl; clear hA hD; refine o7p rfl ?_; intro K hK
     gi_wp2_with fail; refine (callsIn_wide.2 (dRect1_any _ _)).mono ?_; rintro e w2 ⟨rfl, hb⟩
     exact hK _ _ rfl hb
   · intro a' w' hA hC hD; have s2 := hA.to 2 (by kernel_rfl) rfl
     have z0 := c7b (k := 0) (HF.out.below hC).at_ rfl; have z1 := c7b (k := 1) (HF.out.below hC).at_ rfl
     clear hA hD; refine o7p rfl ?_; intro K hK; gi_wp2; exact hK _ _ rfl (B7 _ _)
   · intro a' w' hA hC hD; have s3 := hA.to 3 (by kernel_rfl) rfl
     have z0 := c7b (k := 0) (HT.out.below hC).at_ rfl; have z1 := c7b (k := 1) (HT.out.below hC).at_ rfl
     clear hA hD; refine o7p rfl ?_; intro K hK; gi_wp2; exact hK _ _ rfl (B7 _ _)
   · intro a' w' hA hC hD; obtain ⟨u9, s9, rfl⟩ := hD ⟨3, .data⟩ (by simp) rfl _ rfl; obtain ⟨u10, s10, rfl⟩ := hD ⟨4, .data⟩ (by simp) rfl _ rfl; clear hA hD; refine o7p rfl ?_; intro K hK; gi_wp2
     refine (callsIn_wide.2 (HRC.out _)).mono ?_; intro e w5 h; obtain ⟨v, rfl, h2⟩ := rect_bad HOK.out h; exact hK _ _ ⟨v, rfl⟩ h2
   · intro a' w' hA hC hD; obtain ⟨u11, s11, r11⟩ := hD ⟨5, .data⟩ (by simp) rfl _ rfl; replace r11 : (fun v_ w_ => ∃ v, v_ = .tuple #[v, .int .i64 2]) u11 w' := r11
     obtain ⟨v6, rfl⟩ := r11
     clear hA hD; refine o7p rfl ?_; intro K hK; gi_wp2; exact hK _ _ trivial (B7 _ _)
   · intro a' w' hA hC hD; obtain ⟨u11, s11, r11⟩ := hD ⟨5, .data⟩ (by simp) rfl _ rfl; replace r11 : (fun v_ w_ => ∃ v, v_ = .tuple #[v, .int .i64 2]) u11 w' := r11
     obtain ⟨v6, rfl⟩ := r11
     clear hA hD; refine o7p rfl ?_; intro K hK; gi_wp2; exact hK (.int .i64 2) _ rfl (B7 _ _)
   · intro a' w' hA hC hD; obtain ⟨u12, s12, r12⟩ := hD ⟨6, .data⟩ (by simp) rfl _ rfl; replace r12 : (fun v_ w_ => True) u12 w' := r12; obtain ⟨u13, s13, r13⟩ := hD ⟨7, .data⟩ (by simp) rfl _ rfl; replace r13 : u13 = .int .i64 2 := r13; subst r13
     have hdf := hA.defers
     clear hA hD; refine o7p rfl ?_; intro K hK; gi_wp2
     refine (callsIn_wide.2 (sureS_no _ 2 (by decide) _)).mono ?_; rintro e w5 ⟨h1, rfl⟩; unfold PanicE at h1; subst h1; exact ⟨hdf, drewP_panic (by decide) hC⟩
   · intro a' w' hA hC hD; have s4 := hA.to 4 (by kernel_rfl) rfl
     have z0 := c7b (k := 0) (HQ.out.below hC).at_ rfl; have z1 := c7b (k := 1) (HQ.out.below hC).at_ rfl; have z2 := c7b (k := 2) (HQ.out.below hC).at_ rfl; have z3 := c7b (k := 3) (HQ.out.below hC).at_ rfl
     clear hA hD; refine o7p rfl ?_; intro K hK; gi_wp2; exact hK _ _ rfl (B7 _ _)
  case hend =>
   intro w4 hC
   simp only [EndFrom, eqv, forall_eq, Act.put, List.length_cons, List.length_nil, List.drop_succ_cons, List.drop_zero, Nat.reduceAdd, List.setIfInBounds_toArray, List.set_cons_succ, List.set_cons_zero]
   rintro v6 - v7 - v9 h9
   exact h9.elim
/- Package draw: Rect and Veil themselves. -/
set_option maxRecDepth 100000 in
set_option maxHeartbeats 1000000 in
theorem dRectr_any (c : ColT) (hc : okC c) (f t : PtT) (p : Nat) (C : CanT) (w : World) (hC : CanAt w p C) :
 Calls Tryz.prog 45 #[.pointer (some ⟨p, 0, none⟩), c.val, f.val, t.val, .func (.func 46) #[] #[]] w (DrawnP (errOf (drawnB f && drawnB t) 2) (Painted C (RectP f t) (fpaint c)) w) := by
 have HS := H7 (St.start w)
 have HD := H7 (fun E qn qf qt qc w1 (hb : Below w.heap.size w w1) hE h0 h1 h2 h3 => dRectc_any c hc f t E p qn qf qt qc C w1 hE (hC.below hb) h0 h1 h2 h3)
 have hmf : ∀ (fn : Fn) (first cap : Array Value) (w : World), (Instr.makeFunc fn first cap).run Tryz.prog w = .ok (.func fn first cap) w := fun _ _ _ _ => rfl
 obtain ⟨S, hS⟩ : ∃ S, Painted C (RectP f t) (fpaint c) = S := ⟨_, rfl⟩
 obtain ⟨er, her⟩ : ∃ er, errOf (drawnB f && drawnB t) 2 = er := ⟨_, rfl⟩
 rw [hS, her] at HD ⊢
 unfold ColT.val PtT.val
 clear hC hc hS her
 go_enter Tryz.func45, Tryz.ntmps45
 repeat ((fail_if_success (with_reducible refine stop_at (id := 1) ?_)); (first | go_values | go_skip | go_guarded | go_step | go_upon | go_back | (simp only [Int.not_lt, Int.not_le] at *; go_simp) | (go_values <;> (try go_simp)) | (go_ite <;> go_prune <;> (try go_simp)) | (split <;> (first | (rename_i hx; exact (hx _ rfl).elim) | go_prune))))
 have hs_ := ((((HS.out.alloc (.cells #[.int .u8 c.r, .int .u8 c.g, .int .u8 c.b, .int .u8 c.a] 34)).alloc (.cells #[.int .i64 f.x, .int .i64 f.y] 26)).alloc (.cells #[.int .i64 t.x, .int .i64 t.y] 26)).alloc (.cells #[.func (.func 46) #[] #[]] 85))
 obtain ⟨w1, hw_⟩ : ∃ w1 : World, ((((w.alloc (.cells #[.int .u8 c.r, .int .u8 c.g, .int .u8 c.b, .int .u8 c.a] 34)).alloc (.cells #[.int .i64 f.x, .int .i64 f.y] 26)).alloc (.cells #[.int .i64 t.x, .int .i64 t.y] 26)).alloc (.cells #[.func (.func 46) #[] #[]] 85)) = w1 := ⟨_, rfl⟩
 rw [hw_] at hs_
 try simp only [World.size_alloc] at hs_
 have HS := H7 hs_
 rw [hw_]
 clear hw_ hs_
 go_wp2_with fail
 refine (dTriesP_any 84 #[.pointer (some ⟨w.heap.size + 1 + 1 + 1, 0, none⟩), .pointer (some ⟨w.heap.size + 1, 0, none⟩), .pointer (some ⟨w.heap.size + 1 + 1, 0, none⟩), .pointer (some ⟨w.heap.size, 0, none⟩)] p er S w1 (fun _ _ => by simp [go_sem]) (fun w2 E hE hb hE2 => HD.out E (w.heap.size + 1 + 1 + 1) (w.heap.size + 1) (w.heap.size + 1 + 1) w.heap.size w2 (HS.out.below hb).low hE2 ⟨(HS.out.below hb).blockAt 0 rfl⟩ ⟨(HS.out.below hb).blockAt 2 rfl⟩ ⟨(HS.out.below hb).blockAt 1 rfl⟩ ⟨(HS.out.below hb).blockAt 3 rfl⟩)).mono ?_
 intro e w3 h
 have HR := H7 (h.of_below HS.out.low)
 clear h
 rcases Classical.em (er = 0) with h0 | h0
 · obtain ⟨d, rfl, -⟩ := HR.out.2.1 h0
   go_wp2_with fail
   refine bodyPost_ret (v := .tuple #[.pointer (some ⟨d, 0, none⟩), .int .i64 0]) (by simp [results, Tryz.results45, go_sem]) rfl HR.out
 · obtain rfl := HR.out.2.2 h0
   go_wp2_with fail
   refine bodyPost_ret (v := .tuple #[.pointer none, .int .i64 er]) (by simp [results, Tryz.results45, go_sem]) rfl HR.out
set_option maxRecDepth 100000 in
set_option maxHeartbeats 1000000 in
theorem dRect_any (c : ColT) (hc : okC c) (f t : PtT) (p : Nat) (C : CanT) (w : World) (hC : CanAt w p C) :
 Calls Tryz.prog 11 #[.pointer (some ⟨p, 0, none⟩), c.val, f.val, t.val] w (DrawnP (errOf (drawnB f && drawnB t) 2) (Painted C (RectP f t) (fpaint c)) w) := by
 have HS := H7 (St.start w)
 have HD := H7 (fun w1 (hb : Below w.heap.size w w1) => dRectr_any c hc f t p C w1 (hC.below hb))
 obtain ⟨S, hS⟩ : ∃ S, Painted C (RectP f t) (fpaint c) = S := ⟨_, rfl⟩
 obtain ⟨er, her⟩ : ∃ er, errOf (drawnB f && drawnB t) 2 = er := ⟨_, rfl⟩
 rw [hS, her] at HD ⊢
 unfold ColT.val PtT.val at *
 clear hC hc hS her
 go_enter Tryz.func11, Tryz.ntmps11
 repeat ((fail_if_success (with_reducible refine stop_at (id := 1) ?_)); (first | go_values | go_skip | go_guarded | go_step | go_upon | go_back | (simp only [Int.not_lt, Int.not_le] at *; go_simp) | (go_values <;> (try go_simp)) | (go_ite <;> go_prune <;> (try go_simp)) | (split <;> (first | (rename_i hx; exact (hx _ rfl).elim) | go_prune))))
 have hs_ := (((HS.out.alloc (.cells #[.int .u8 c.r, .int .u8 c.g, .int .u8 c.b, .int .u8 c.a] 34)).alloc (.cells #[.int .i64 f.x, .int .i64 f.y] 26)).alloc (.cells #[.int .i64 t.x, .int .i64 t.y] 26))
 obtain ⟨w1, hw_⟩ : ∃ w1 : World, (((w.alloc (.cells #[.int .u8 c.r, .int .u8 c.g, .int .u8 c.b, .int .u8 c.a] 34)).alloc (.cells #[.int .i64 f.x, .int .i64 f.y] 26)).alloc (.cells #[.int .i64 t.x, .int .i64 t.y] 26)) = w1 := ⟨_, rfl⟩
 rw [hw_] at hs_
 try simp only [World.size_alloc] at hs_
 have HS := H7 hs_
 rw [hw_]
 clear hw_ hs_
 have c0 := h7c HS 2 0 rfl rfl
 have c1 := h7c HS 2 1 rfl rfl
 have c2 := h7c HS 2 2 rfl rfl
 have c3 := h7c HS 2 3 rfl rfl
 have x0 := h7c HS 1 0 rfl rfl
 have x1 := h7c HS 1 1 rfl rfl
 have y0 := h7c HS 0 0 rfl rfl
 have y1 := h7c HS 0 1 rfl rfl
 go_wp2_with fail
 clear c0 c1 c2 c3 x0 x1 y0 y1
 refine (HD.out _ HS.out.low).mono ?_
 intro e w3 h
 have HR := H7 (h.of_below HS.out.low)
 clear h
 rcases Classical.em (er = 0) with h0 | h0
 · obtain ⟨d, rfl, -⟩ := HR.out.2.1 h0
   go_wp2_with fail
   refine bodyPost_ret (v := .tuple #[.pointer (some ⟨d, 0, none⟩), .int .i64 0]) (by simp [results, Tryz.results11, go_sem]) rfl HR.out
 · obtain rfl := HR.out.2.2 h0
   go_wp2_with fail
   refine bodyPost_ret (v := .tuple #[.pointer none, .int .i64 er]) (by simp [results, Tryz.results11, go_sem]) rfl HR.out
/- Package draw: a frame's rows in a map. -/
/-- A row's two ends. -/
def endsL (s : SpT) : List SpT := if s.t ≤ s.f + 1 then [s] else [⟨s.y, s.f, s.f⟩, ⟨s.y, s.t, s.t⟩]
theorem endsL_ne (s : SpT) : endsL s ≠ [] := by unfold endsL; split <;> simp
theorem endsL_len (s : SpT) : (endsL s).length ≤ 2 := by unfold endsL; split <;> simp
theorem endsL_set {s : SpT} (h : s.f ≤ s.t) : SetRow (fun p => hasB [⟨s.y, s.f, s.f⟩, ⟨s.y, s.t, s.t⟩] p = true) (endsL s) := by
 obtain ⟨y, f, t⟩ := s
 simp only at h
 unfold endsL
 by_cases h1 : t ≤ f + 1
 · rw [if_pos h1]
   refine ⟨⟨by simpa using h, List.pairwise_singleton _ _⟩, fun p => ?_⟩
   rw [hasB_iff, hasB_iff]
   simp only [List.mem_cons, List.not_mem_nil, or_false, exists_eq_or_imp, exists_eq_left]
   omega
 · rw [if_neg h1]
   refine ⟨⟨by simp, ?_⟩, fun p => by simp⟩
   simp [ordP]
   omega
/-- A frame's row, of a rectangle's rows. -/
def frL (R : List SpT) (i : Nat) : List SpT := match R[i]? with
 | none => []
 | some s => if i = 0 ∨ i + 1 = R.length then [s] else endsL s
theorem frL_ends {R : List SpT} {i : Nat} {s : SpT} (h : R[i]? = some s) (hi : i = 0 ∨ i + 1 = R.length) : frL R i = [s] := by unfold frL; rw [h]; simp only; rw [if_pos hi]
theorem frL_mid {R : List SpT} {i : Nat} {s : SpT} (h : R[i]? = some s) (hi : ¬ (i = 0 ∨ i + 1 = R.length)) : frL R i = endsL s := by unfold frL; rw [h]; simp only; rw [if_neg hi]
/-- The map holds the first k rows of a frame. -/
structure FrS (wb : World) (R : List SpT) (k : Nat) (W : World) : Prop where
 low : Below wb.heap.size wb W
 gr : ∃ D F G, GrD W (wb.heap.size + 1) wb.heap.size k D F G ∧ ∀ j : Nat, j < k → G (j : Int) = frL R j
theorem FrS.start (wb : World) (R : List SpT) : FrS wb R 0 (wb.alloc (.map #[] 0)) := ⟨(B7 _ _).alloc (Nat.le_refl _) _, _, _, _, GrD.start wb, fun j h => absurd h (Nat.not_lt_zero _)⟩
theorem FrS.size {wb W : World} {R : List SpT} {k : Nat} (h : FrS wb R k W) : wb.heap.size < W.heap.size := by
 obtain ⟨D, F, G, h1, -⟩ := h.gr
 rcases Nat.lt_or_ge wb.heap.size W.heap.size with h2 | h2
 · exact h2
 · obtain ⟨es, c, h3, -⟩ := h1.map
   have := b7t h3
   omega
theorem FrS.below {wb x y : World} {R : List SpT} {k : Nat} (h : FrS wb R k x) (hb : Below x.heap.size x y) : FrS wb R k y := by
 obtain ⟨D, F, G, h1, h2⟩ := h.gr
 exact ⟨h.low.trans (hb.mono h.low.size), D, F, G, h1.kept hb, h2⟩
theorem FrS.put {wb x y : World} {R : List SpT} {k : Nat} (h : FrS wb R k x) (hk : k < 1000) (hb : Below x.heap.size x y) {v : Value} {L : List SpT} (hrow : y.ownsRow x.heap.size 60 3 v L.length (L.flatMap encS)) (hL : L ≠ []) (hfr : frL R k = L) :
 ∃ w2, (Instr.mapUpdate 90 (.map (some wb.heap.size)) (.int .i64 (k : Int)) v).run Tryz.prog y = .ok () w2 ∧ FrS wb R (k + 1) w2 := by
 obtain ⟨D, F, G, h1, h2⟩ := h.gr
 have hs := h.size
 obtain ⟨w2, hr, hg, hgb⟩ := h1.put (y := (k : Int)) (by unfold inK; omega) (by unfold maxLen; omega) (w := y) ⟨hb.os, hb.tape, hb.output, hb.size, fun q hq _ => hb.block q hq⟩ (v' := v) (L := L) (ownsRow_mono hrow (by omega)) hL (by
  obtain ⟨h3, ⟨h4, h5⟩ | ⟨g, cap, cur, h4, h5, -⟩⟩ := hrow
  · exact absurd (List.length_eq_zero_iff.1 h5) hL
  · rw [h4]; exact .inr ⟨g, rfl, h5⟩)
 refine ⟨w2, hr, ⟨(h.low.trans (hb.mono h.low.size)).grown hgb (Nat.le_trans h.low.size hb.size) (fun j e => by cases e; exact Nat.le_refl _), _, _, _, hg, fun j hj => ?_⟩⟩
 by_cases e : j = k
 · subst e; simp [hfr]
 · have e2 : ¬ ((j : Int) = (k : Int)) := by omega
   simp only [if_neg e2]
   exact h2 j (by omega)
/-- Painted row for row. -/
def frameK (C : CanT) (R : List SpT) (c : ColT) (k : Nat) : CanT := (List.range k).foldl (fun D i => paintC D (frL R i) (fpaint c)) C
theorem frameK_succ (C : CanT) (R : List SpT) (c : ColT) (k : Nat) : frameK C R c (k + 1) = paintC (frameK C R c k) (frL R k) (fpaint c) := by unfold frameK; rw [List.range_succ, List.foldl_append]; rfl
theorem frameK_ok {C : CanT} (hC : okCan C) (R : List SpT) {c : ColT} (hc : okC c) : ∀ k, okCan (frameK C R c k)
 | 0 => hC
 | k + 1 => by rw [frameK_succ]; exact paintC_ok (frameK_ok hC R hc k) _ (fpaint_ok hc)
theorem frL_right {R : List SpT} (hR : ∀ s ∈ R, s.f ≤ s.t ∧ (-256 ≤ s.y ∧ s.y ≤ 255) ∧ (-256 ≤ s.f ∧ s.f ≤ 255) ∧ (-256 ≤ s.t ∧ s.t ≤ 255)) (i : Nat) : rightB (frL R i) = true := by
 have h1 : ∀ s ∈ R, rightB [s] = true ∧ rightB (endsL s) = true := fun s hs => by
  have h := hR s hs
  refine ⟨rightB_ofD ⟨by simpa using h.1, List.pairwise_singleton _ _⟩ (by simp; omega), rightB_ofD (endsL_set h.1).row fun q hq => ?_⟩
  unfold endsL at hq
  split at hq
  · rw [List.mem_singleton.1 hq]; omega
  · simp only [List.mem_cons, List.not_mem_nil, or_false] at hq
    rcases hq with rfl | rfl <;> simp only <;> omega
 unfold frL
 cases hx : R[i]? with
 | none => exact rightB_ofD rowP_nil (by simp)
 | some s =>
  have h2 := h1 s (List.mem_of_getElem? hx)
  simp only
  split
  · exact h2.1
  · exact h2.2
theorem frL_len {R : List SpT} (i : Nat) : (frL R i).length ≤ 2 := by
 unfold frL
 split
 · simp
 · split
   · simp
   · exact endsL_len _
/-- The frame is painted up to a row. -/
structure FrP (w : World) (b E qc : Nat) (c : ColT) (C : CanT) (R : List SpT) (n j : Nat) (W : World) : Prop where
 gr : ∃ D F G, GrD W (b + 1) b n D F G ∧ ∀ i : Nat, i < n → G (i : Int) = frL R i
 tu : Turned (fun k => k = E) w W
 ex : ∃ d, W.heap[E]? = some (.cells #[.pointer (some ⟨d, 0, none⟩)] 127 (0, 0)) ∧ CanAt W d (frameK C R c j)
 col : W.heap[qc]? = some (.cells #[.int .u8 c.r, .int .u8 c.g, .int .u8 c.b, .int .u8 c.a] 34 (0, 0))
theorem FrP.step {w W W' : World} {b E qc : Nat} {c : ColT} {C : CanT} {R : List SpT} {n j : Nat} {e : Ending} (h : FrP w b E qc c C R n j W) (hE : E < b) (h2 : Drew E 0 (paintC (frameK C R c j) (frL R j) (fpaint c)) W e W') : e = .returned (.tuple #[]) ∧ FrP w b E qc c C R n (j + 1) W' := by
 obtain ⟨D, F, G, h3, h4⟩ := h.gr
 obtain ⟨he, d', hd1, hd2⟩ := h2.2.1 rfl
 obtain ⟨d, hd3, -⟩ := h.ex
 have hne : qc ≠ E := by
  intro e
  have := h.col
  rw [e, hd3] at this
  simp at this
 have hg : W.grownBy W' (some E) := ⟨h2.1.os, h2.1.tape, h2.1.output, h2.1.size, fun k hk hn => h2.1.block k hk (fun e => hn (by rw [e]))⟩
 refine ⟨he, ⟨D, F, G, h3.other hg (fun e => by cases e; omega) (fun z hz => ?_), h4⟩, (h.tu.trans h2.1).mono (fun k _ hs => hs.elim id id), ⟨d', hd1, by rw [frameK_succ]; exact hd2⟩, (h2.1.block _ (b7t h.col) hne).trans h.col⟩
 cases hv : (F z).ownBlock with
 | none => exact .inl rfl
 | some q => exact .inr fun e => by have := ((h3.row z hz).lt q hv).1; cases e; omega
end Go.Proofs.YthcdkkmjnglmjaaGreatDoor
