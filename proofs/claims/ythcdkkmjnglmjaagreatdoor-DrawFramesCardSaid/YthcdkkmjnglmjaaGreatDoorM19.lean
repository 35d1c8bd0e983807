/- Merged texts: DrG DrH DrI DrJ DrK DrM. -/
import Derived.Test.YthcdkkmjnglmjaaGreatDoorM18
import Derived.Test.YthcdkkmjnglmjaaGreatDoorM12
/- Package draw: Stroke. -/
namespace Go.Proofs.YthcdkkmjnglmjaaGreatDoor
set_option linter.unusedSimpArgs false
set_option linter.unusedVariables false
open Go.RowKit Go.Shelf
attribute [local go_sem] Oper.semAt_some

/-- A row of spans whose places are told. -/
def SpV (Q : PtT → Prop) (v : Value) (w : World) : Prop := ∃ a n cap M, v = .slice a n cap ∧ SetRow Q M ∧ M.length = n ∧ n ≤ 1000000 ∧ Elems w (.slice a n cap) n 3 (rowC encS M)
theorem SpV.below {Q : PtT → Prop} {v : Value} {w w' : World} (h : SpV Q v w) (hb : Below w.heap.size w w') : SpV Q v w' := by
 obtain ⟨a, n, cap, M, h1, h2, h3, h4, h5⟩ := h
 exact ⟨a, n, cap, M, h1, h2, h3, h4, h5.below hb⟩
theorem GivesSet.spv {Q : PtT → Prop} {er : Int} {w w' : World} {e : Ending} (h : GivesSet true Q er w e w') : ∃ v, e = .returned (.tuple #[v, .int .i64 0]) ∧ SpV Q v w' ∧ Below w.heap.size w w' := by
 obtain ⟨M, h1, -, h3, v, he, hr, hb⟩ := h
 have h4 := ownsRow_rows encS_len hr
 obtain ⟨a, cap, rfl, -⟩ := h4.shape
 exact ⟨_, he, ⟨a, _, cap, M, rfl, h1 rfl, rfl, h3, h4⟩, hb⟩
theorem GivesSet.badR {Q : PtT → Prop} {er : Int} {w w' : World} {e : Ending} (h : GivesSet false Q er w e w') : ∃ v, e = .returned (.tuple #[v, .int .i64 er]) ∧ Below w.heap.size w w' := by
 obtain ⟨M, -, -, -, v, he, -, hb⟩ := h
 exact ⟨v, he, hb⟩
/-- What is painted: the row's places are told. -/
def Painted (C : CanT) (Q : PtT → Prop) (f : ColT → ColT) (D : CanT) : Prop := ∃ M, SetRow Q M ∧ D = paintC C M f
theorem epaint_spv (c : ColT) (hc : okC c) (E p : Nat) (C : CanT) (Q : PtT → Prop) (hQ : ∀ q, Q q → (-256 ≤ q.x ∧ q.x ≤ 255) ∧ (-256 ≤ q.y ∧ q.y ≤ 255)) (v : Value) (w : World) (hE : w.heap[E]? = some (.cells #[.pointer (some ⟨p, 0, none⟩)] 127 (0, 0))) (hC : CanAt w p C) (hv : SpV Q v w) :
 Calls Tryz.prog 47 #[.pointer (some ⟨E, 0, none⟩), v, c.val] w (DrewP E 0 (Painted C Q (fpaint c)) w) := by
 obtain ⟨a, n, cap, M, rfl, h1, h2, h3, h4⟩ := hv
 have hr := h1.rightB hQ
 refine (epaint_any c hc E p C a n cap M h2 h3 w hE hC h4).mono fun e w' h => ?_
 rw [hr] at h
 exact Drew.P h fun _ => ⟨M, h1, rfl⟩

structure BrT where
 c : ColT
 size : Int
 round : Bool
def BrT.val (b : BrT) : Value := .agg #[.int .u8 b.c.r, .int .u8 b.c.g, .int .u8 b.c.b, .int .u8 b.c.a, .int .i64 b.size, .bool b.round]
def BrT.obj (b : BrT) : Obj := .cells #[.int .u8 b.c.r, .int .u8 b.c.g, .int .u8 b.c.b, .int .u8 b.c.a, .int .i64 b.size, .bool b.round] 38 (0, 0)
theorem swm_near {size : Int} {round : Bool} {l : List PtT} (hs : sizeB size = true) (hl : l.any (fun p => !drawnB p) = false) : ∀ q, SwM size round l q → (-256 ≤ q.x ∧ q.x ≤ 255) ∧ (-256 ≤ q.y ∧ q.y ≤ 255) := by
 rintro q ⟨c, hc, h⟩
 have h0 := of_decide_eq_true hs
 have h1 := inRef_in h0.1 h
 have h2 : drawnB c = true := by
  have := List.any_eq_false.1 hl c hc
  simpa using this
 have h3 := of_decide_eq_true h2
 omega

set_option maxRecDepth 100000 in
set_option maxHeartbeats 2000000 in
theorem dStroke1_any (b : BrT) (hc : okC b.c) (E p qp qb : Nat) (C : CanT) (a : Option Addr) (m cap : Nat) (L : List PtT) (hlen : L.length = m) (hm : m ≤ 30000) (hok : (sizeB b.size && !L.any (fun p => !drawnB p)) = true)
 (w : World) (hE : w.heap[E]? = some (.cells #[.pointer (some ⟨p, 0, none⟩)] 127 (0, 0))) (hC : CanAt w p C) (he : Elems w (.slice a m cap) m 2 (rowC encP L))
 (hl : BlkA qp (.cells #[.slice a m cap] 39 (0, 0)) w) (hq : BlkA qb b.obj w) :
 Calls Tryz.prog 60 #[.pointer (some ⟨E, 0, none⟩), .pointer (some ⟨qp, 0, none⟩), .pointer (some ⟨qb, 0, none⟩)] w (DrewP E 0 (Painted C (SwM b.size b.round L) (fpaint b.c)) w) := by
 have HEA := Lib.hid (BlkA.mk hE)
 have HCC := Lib.hid hC
 have HEL := Lib.hid he
 have HL := Lib.hid hl
 have HB := Lib.hid hq
 have HP := Lib.hid (fun v w' h1 h2 h3 => epaint_spv b.c hc E p C (SwM b.size b.round L) (swm_near (by simp at hok; exact hok.1) (by simpa using (Bool.and_eq_true_iff.1 hok).2)) v w' h1 h2 h3)
 have HSW := Lib.hid (fun w' h => shSweep_any a m cap L hlen hm b.size b.round w' h)
 rw [hok] at HSW
 obtain ⟨⟨cr, cg, cb, ca⟩, size, round⟩ := b
 unfold BrT.obj at HB
 unfold ColT.val at HP
 simp only at HP HB HSW ⊢
 clear hE hC he hlen hm hc hl hq hok
 go_enter Tryz.func60, Tryz.ntmps60
 refine (wpIn_wide (n := 0)).1 ?_
 apply wp_region_vals 12 (Rl := [(eqv _), (eqv _), (eqv _), (eqv _), (eqv _), (eqv _), (fun v_ w_ => ∃ v, v_ = .tuple #[v, .int .i64 0] ∧ SpV (SwM size round L) v w_), (fun v_ w_ => SpV (SwM size round L) v_ w_), (fun v_ _ => v_ = (.int .i64 0 : Value)), (fun v_ w_ => SpV (SwM size round L) v_ w_), (eqv _), (eqv _)]) (C := (fun x y => Below x.heap.size x y))
 case hm => kernel_rfl
 case hk => rfl
 case hCr => exact (fun _ => Below.refl _ _)
 case hCt => intro _ _ _; exact (fun h k => grows_trans h k)
 case hst => exact ⟨fun _ _ _ _ h => h, fun _ _ _ _ h => h, fun _ _ _ _ h => h, fun _ _ _ _ h => h, fun _ _ _ _ h => h, fun _ _ _ _ h => h, fun _ _ _ hC ⟨v, e, h⟩ => ⟨v, e, h.below hC⟩, fun _ _ _ hC h => h.below hC, fun _ _ _ _ h => h, fun _ _ _ hC h => h.below hC, fun _ _ _ _ h => h, fun _ _ _ _ h => h, trivial⟩
 case hfo => kernel_rfl
 case ht => kernel_rfl
 case hC0 => exact (grows_drew _)
 case hsteps =>
  refine ⟨?_, ?_, ?_, ?_, ?_, ?_, ?_, ?_, ?_, ?_, ?_, ?_, trivial⟩
  · intro a' w' hA hC hD; have s0 : a'.tmps[0]? = some _ := (hA.at 0 (by kernel_rfl)).trans rfl; clear hA hD; refine stepOk_plain rfl ?_; intro K hK; gi_wp2; exact hK _ _ rfl ((fun _ => Below.refl _ _) _)
  · intro a' w' hA hC hD; have s1 : a'.tmps[1]? = some _ := (hA.at 1 (by kernel_rfl)).trans rfl
    have z0 := cell_of_block (k := 0) (HL.out.below hC).at_ rfl
    clear hA hD; refine stepOk_plain rfl ?_; intro K hK; gi_wp2; exact hK _ _ rfl ((fun _ => Below.refl _ _) _)
  · intro a' w' hA hC hD; have s2 : a'.tmps[2]? = some _ := (hA.at 2 (by kernel_rfl)).trans rfl; clear hA hD; refine stepOk_plain rfl ?_; intro K hK; gi_wp2; exact hK _ _ rfl ((fun _ => Below.refl _ _) _)
  · intro a' w' hA hC hD; obtain ⟨u6, s6, r6⟩ := hD ⟨2, .data⟩ (by simp) rfl _ rfl; replace r6 : u6 = _ := r6; subst r6
    have z0 := cell_of_block (k := 4) (HB.out.below hC).at_ rfl
    clear hA hD; refine stepOk_plain rfl ?_; intro K hK; gi_wp2; exact hK _ _ rfl ((fun _ => Below.refl _ _) _)
  · intro a' w' hA hC hD; have s2 : a'.tmps[2]? = some _ := (hA.at 2 (by kernel_rfl)).trans rfl; clear hA hD; refine stepOk_plain rfl ?_; intro K hK; gi_wp2; exact hK _ _ rfl ((fun _ => Below.refl _ _) _)
  · intro a' w' hA hC hD; obtain ⟨u8, s8, r8⟩ := hD ⟨4, .data⟩ (by simp) rfl _ rfl; replace r8 : u8 = _ := r8; subst r8
    have z0 := cell_of_block (k := 5) (HB.out.below hC).at_ rfl
    clear hA hD; refine stepOk_plain rfl ?_; intro K hK; gi_wp2; exact hK _ _ rfl ((fun _ => Below.refl _ _) _)
  · intro a' w' hA hC hD; obtain ⟨u5, s5, r5⟩ := hD ⟨1, .data⟩ (by simp) rfl _ rfl; replace r5 : u5 = _ := r5; subst r5; obtain ⟨u7, s7, r7⟩ := hD ⟨3, .data⟩ (by simp) rfl _ rfl; replace r7 : u7 = _ := r7; subst r7; obtain ⟨u9, s9, r9⟩ := hD ⟨5, .data⟩ (by simp) rfl _ rfl; replace r9 : u9 = _ := r9; subst r9; clear hA hD; refine stepOk_plain rfl ?_; intro K hK; gi_wp2
    refine (callsIn_wide.2 (HSW.out _ (HEL.out.below hC))).mono ?_; intro e w5 h; obtain ⟨v, rfl, h1, h2⟩ := h.spv; exact hK _ _ ⟨v, rfl, h1⟩ h2
  · intro a' w' hA hC hD; obtain ⟨u10, s10, r10⟩ := hD ⟨6, .data⟩ (by simp) rfl _ rfl; replace r10 : (fun v_ w_ => ∃ v, v_ = .tuple #[v, .int .i64 0] ∧ SpV (SwM size round L) v w_) u10 w' := r10
    obtain ⟨v6, rfl, h6⟩ := r10
    clear hA hD; refine stepOk_plain rfl ?_; intro K hK; gi_wp2; exact hK _ _ h6 (Below.refl _ _)
  · intro a' w' hA hC hD; obtain ⟨u10, s10, r10⟩ := hD ⟨6, .data⟩ (by simp) rfl _ rfl; replace r10 : (fun v_ w_ => ∃ v, v_ = .tuple #[v, .int .i64 0] ∧ SpV (SwM size round L) v w_) u10 w' := r10
    obtain ⟨v6, rfl, h6⟩ := r10
    clear hA hD; refine stepOk_plain rfl ?_; intro K hK; gi_wp2; exact hK (.int .i64 0) _ rfl ((fun _ => Below.refl _ _) _)
  · intro a' w' hA hC hD; obtain ⟨u11, s11, r11⟩ := hD ⟨7, .data⟩ (by simp) rfl _ rfl; replace r11 : (fun v_ w_ => SpV (SwM size round L) v_ w_) u11 w' := r11; obtain ⟨u12, s12, r12⟩ := hD ⟨8, .data⟩ (by simp) rfl _ rfl; replace r12 : u12 = .int .i64 0 := r12; subst r12; clear hA hD; refine stepOk_plain rfl ?_; intro K hK; gi_wp2
    refine (callsIn_wide.2 (sureS_ok _ _)).mono ?_; rintro e w5 ⟨rfl, rfl⟩; exact hK _ _ r11 (Below.refl _ _)
  · intro a' w' hA hC hD; have s2 : a'.tmps[2]? = some _ := (hA.at 2 (by kernel_rfl)).trans rfl; clear hA hD; refine stepOk_plain rfl ?_; intro K hK; gi_wp2; exact hK _ _ rfl ((fun _ => Below.refl _ _) _)
  · intro a' w' hA hC hD; obtain ⟨u14, s14, r14⟩ := hD ⟨10, .data⟩ (by simp) rfl _ rfl; replace r14 : u14 = _ := r14; subst r14
    have z0 := cell_of_block (k := 0) (HB.out.below hC).at_ rfl; have z1 := cell_of_block (k := 1) (HB.out.below hC).at_ rfl; have z2 := cell_of_block (k := 2) (HB.out.below hC).at_ rfl; have z3 := cell_of_block (k := 3) (HB.out.below hC).at_ rfl
    clear hA hD; refine stepOk_plain rfl ?_; intro K hK; gi_wp2; exact hK _ _ rfl ((fun _ => Below.refl _ _) _)
 case hend =>
  intro w4 hC
  simp only [EndFrom, eqv, forall_eq, Act.put, List.length_cons, List.length_nil, List.drop_succ_cons, List.drop_zero, Nat.reduceAdd, List.setIfInBounds_toArray, List.set_cons_succ, List.set_cons_zero]
  rintro v6 - v7 - v9 h9
  have HS9 := Lib.hid h9
  have HCC := Lib.hid (HCC.out.below hC)
  have HEA := Lib.hid (HEA.out.below hC)
  have HLW := Lib.hid (LowAt.mk hC)
  clear h9 hC
  gi_wp2_with fail
  refine (callsIn_wide.2 (HP.out v9 _ HEA.out.at_ HCC.out HS9.out)).mono ?_
  intro e w5 h
  have HR := Lib.hid (h.of_below HLW.out.low)
  obtain ⟨rfl, -⟩ := HR.out.2.1 rfl
  clear h
  gi_wp2_with fail
  go_end0
  exact HR.out

set_option maxRecDepth 100000 in
set_option maxHeartbeats 2000000 in
theorem dStroke1_bad (b : BrT) (S : CanT → Prop) (E p qp qb : Nat) (C : CanT) (a : Option Addr) (m cap : Nat) (L : List PtT) (hlen : L.length = m) (hm : m ≤ 30000) (hok : (sizeB b.size && !L.any (fun p => !drawnB p)) = false)
 (w : World) (hE : w.heap[E]? = some (.cells #[.pointer (some ⟨p, 0, none⟩)] 127 (0, 0))) (hC : CanAt w p C) (he : Elems w (.slice a m cap) m 2 (rowC encP L))
 (hl : BlkA qp (.cells #[.slice a m cap] 39 (0, 0)) w) (hq : BlkA qb b.obj w) :
 Calls Tryz.prog 60 #[.pointer (some ⟨E, 0, none⟩), .pointer (some ⟨qp, 0, none⟩), .pointer (some ⟨qb, 0, none⟩)] w (DrewP E 2 S w) := by
 have HEA := Lib.hid (BlkA.mk hE)
 have HCC := Lib.hid hC
 have HEL := Lib.hid he
 have HL := Lib.hid hl
 have HB := Lib.hid hq
 have HSW := Lib.hid (fun w' h => shSweep_any a m cap L hlen hm b.size b.round w' h)
 rw [hok] at HSW
 obtain ⟨⟨cr, cg, cb, ca⟩, size, round⟩ := b
 unfold BrT.obj at HB
 simp only at HB HSW ⊢
 clear hE hC he hlen hm hl hq hok
 go_enter Tryz.func60, Tryz.ntmps60
 refine (wpIn_wide (n := 0)).1 ?_
 apply wp_region_vals 12 (Rl := [(eqv _), (eqv _), (eqv _), (eqv _), (eqv _), (eqv _), (fun v_ w_ => ∃ v, v_ = .tuple #[v, .int .i64 2]), (fun v_ w_ => True), (fun v_ _ => v_ = (.int .i64 2 : Value)), (fun v_ w_ => False), (eqv _), (eqv _)]) (C := (fun x y => Below x.heap.size x y))
 case hm => kernel_rfl
 case hk => rfl
 case hCr => exact (fun _ => Below.refl _ _)
 case hCt => intro _ _ _; exact (fun h k => grows_trans h k)
 case hst => exact ⟨fun _ _ _ _ h => h, fun _ _ _ _ h => h, fun _ _ _ _ h => h, fun _ _ _ _ h => h, fun _ _ _ _ h => h, fun _ _ _ _ h => h, fun _ _ _ hC h => h, fun _ _ _ hC h => h, fun _ _ _ _ h => h, fun _ _ _ hC h => h, fun _ _ _ _ h => h, fun _ _ _ _ h => h, trivial⟩
 case hfo => kernel_rfl
 case ht => kernel_rfl
 case hC0 => exact (grows_drew _)
 case hsteps =>
  refine ⟨?_, ?_, ?_, ?_, ?_, ?_, ?_, ?_, ?_, ?_, ?_, ?_, trivial⟩
  · intro a' w' hA hC hD; have s0 : a'.tmps[0]? = some _ := (hA.at 0 (by kernel_rfl)).trans rfl; clear hA hD; refine stepOk_plain rfl ?_; intro K hK; gi_wp2; exact hK _ _ rfl ((fun _ => Below.refl _ _) _)
  · intro a' w' hA hC hD; have s1 : a'.tmps[1]? = some _ := (hA.at 1 (by kernel_rfl)).trans rfl
    have z0 := cell_of_block (k := 0) (HL.out.below hC).at_ rfl
    clear hA hD; refine stepOk_plain rfl ?_; intro K hK; gi_wp2; exact hK _ _ rfl ((fun _ => Below.refl _ _) _)
  · intro a' w' hA hC hD; have s2 : a'.tmps[2]? = some _ := (hA.at 2 (by kernel_rfl)).trans rfl; clear hA hD; refine stepOk_plain rfl ?_; intro K hK; gi_wp2; exact hK _ _ rfl ((fun _ => Below.refl _ _) _)
  · intro a' w' hA hC hD; obtain ⟨u6, s6, r6⟩ := hD ⟨2, .data⟩ (by simp) rfl _ rfl; replace r6 : u6 = _ := r6; subst r6
    have z0 := cell_of_block (k := 4) (HB.out.below hC).at_ rfl
    clear hA hD; refine stepOk_plain rfl ?_; intro K hK; gi_wp2; exact hK _ _ rfl ((fun _ => Below.refl _ _) _)
  · intro a' w' hA hC hD; have s2 : a'.tmps[2]? = some _ := (hA.at 2 (by kernel_rfl)).trans rfl; clear hA hD; refine stepOk_plain rfl ?_; intro K hK; gi_wp2; exact hK _ _ rfl ((fun _ => Below.refl _ _) _)
  · intro a' w' hA hC hD; obtain ⟨u8, s8, r8⟩ := hD ⟨4, .data⟩ (by simp) rfl _ rfl; replace r8 : u8 = _ := r8; subst r8
    have z0 := cell_of_block (k := 5) (HB.out.below hC).at_ rfl
    clear hA hD; refine stepOk_plain rfl ?_; intro K hK; gi_wp2; exact hK _ _ rfl ((fun _ => Below.refl _ _) _)
  · intro a' w' hA hC hD; obtain ⟨u5, s5, r5⟩ := hD ⟨1, .data⟩ (by simp) rfl _ rfl; replace r5 : u5 = _ := r5; subst r5; obtain ⟨u7, s7, r7⟩ := hD ⟨3, .data⟩ (by simp) rfl _ rfl; replace r7 : u7 = _ := r7; subst r7; obtain ⟨u9, s9, r9⟩ := hD ⟨5, .data⟩ (by simp) rfl _ rfl; replace r9 : u9 = _ := r9; subst r9; clear hA hD; refine stepOk_plain rfl ?_; intro K hK; gi_wp2
    refine (callsIn_wide.2 (HSW.out _ (HEL.out.below hC))).mono ?_; intro e w5 h; obtain ⟨v, rfl, h2⟩ := h.badR; exact hK _ _ ⟨v, rfl⟩ h2
  · intro a' w' hA hC hD; obtain ⟨u10, s10, r10⟩ := hD ⟨6, .data⟩ (by simp) rfl _ rfl; replace r10 : (fun v_ w_ => ∃ v, v_ = .tuple #[v, .int .i64 2]) u10 w' := r10
    obtain ⟨v6, rfl⟩ := r10
    clear hA hD; refine stepOk_plain rfl ?_; intro K hK; gi_wp2; exact hK _ _ trivial (Below.refl _ _)
  · intro a' w' hA hC hD; obtain ⟨u10, s10, r10⟩ := hD ⟨6, .data⟩ (by simp) rfl _ rfl; replace r10 : (fun v_ w_ => ∃ v, v_ = .tuple #[v, .int .i64 2]) u10 w' := r10
    obtain ⟨v6, rfl⟩ := r10
    clear hA hD; refine stepOk_plain rfl ?_; intro K hK; gi_wp2; exact hK (.int .i64 2) _ rfl ((fun _ => Below.refl _ _) _)
  · intro a' w' hA hC hD; obtain ⟨u11, s11, r11⟩ := hD ⟨7, .data⟩ (by simp) rfl _ rfl; replace r11 : (fun v_ w_ => True) u11 w' := r11; obtain ⟨u12, s12, r12⟩ := hD ⟨8, .data⟩ (by simp) rfl _ rfl; replace r12 : u12 = .int .i64 2 := r12; subst r12
    have hdf := hA.defers
    clear hA hD; refine stepOk_plain rfl ?_; intro K hK; gi_wp2
    refine (callsIn_wide.2 (sureS_no _ 2 (by decide) _)).mono ?_; rintro e w5 ⟨h1, rfl⟩; unfold PanicE at h1; subst h1; exact ⟨hdf, drewP_panic (by decide) hC⟩
  · intro a' w' hA hC hD; have s2 : a'.tmps[2]? = some _ := (hA.at 2 (by kernel_rfl)).trans rfl; clear hA hD; refine stepOk_plain rfl ?_; intro K hK; gi_wp2; exact hK _ _ rfl ((fun _ => Below.refl _ _) _)
  · intro a' w' hA hC hD; obtain ⟨u14, s14, r14⟩ := hD ⟨10, .data⟩ (by simp) rfl _ rfl; replace r14 : u14 = _ := r14; subst r14
    have z0 := cell_of_block (k := 0) (HB.out.below hC).at_ rfl; have z1 := cell_of_block (k := 1) (HB.out.below hC).at_ rfl; have z2 := cell_of_block (k := 2) (HB.out.below hC).at_ rfl; have z3 := cell_of_block (k := 3) (HB.out.below hC).at_ rfl
    clear hA hD; refine stepOk_plain rfl ?_; intro K hK; gi_wp2; exact hK _ _ rfl ((fun _ => Below.refl _ _) _)
 case hend =>
  intro w4 hC
  simp only [EndFrom, eqv, forall_eq, Act.put, List.length_cons, List.length_nil, List.drop_succ_cons, List.drop_zero, Nat.reduceAdd, List.setIfInBounds_toArray, List.set_cons_succ, List.set_cons_zero]
  rintro v6 - v7 - v9 h9
  exact h9.elim
end Go.Proofs.YthcdkkmjnglmjaaGreatDoor

/- Package draw: Stroke itself, Line. -/
namespace Go.Proofs.YthcdkkmjnglmjaaGreatDoor
set_option linter.unusedSimpArgs false
set_option linter.unusedVariables false
open Go.RowKit Go.Shelf
attribute [local go_sem] Oper.semAt_some

set_option maxRecDepth 100000 in
set_option maxHeartbeats 1000000 in
theorem dStroke_any (b : BrT) (hc : okC b.c) (p : Nat) (C : CanT) (a : Option Addr) (m cap : Nat) (L : List PtT) (hlen : L.length = m) (hm : m ≤ 30000) (w : World) (hC : CanAt w p C) (he : Elems w (.slice a m cap) m 2 (rowC encP L)) :
 Calls Tryz.prog 21 #[.pointer (some ⟨p, 0, none⟩), b.val, .slice a m cap] w (DrawnP (errOf (sizeB b.size && !L.any (fun p => !drawnB p)) 2) (Painted C (SwM b.size b.round L) (fpaint b.c)) w) := by
 have HS := Lib.hid (St.start w)
 have HD : Hid (∀ E qp qb w1, Below w.heap.size w w1 → w1.heap[E]? = some (.cells #[.pointer (some ⟨p, 0, none⟩)] 127 (0, 0)) → BlkA qp (.cells #[.slice a m cap] 39 (0, 0)) w1 → BlkA qb b.obj w1 →
  Calls Tryz.prog 60 #[.pointer (some ⟨E, 0, none⟩), .pointer (some ⟨qp, 0, none⟩), .pointer (some ⟨qb, 0, none⟩)] w1 (DrewP E (errOf (sizeB b.size && !L.any (fun p => !drawnB p)) 2) (Painted C (SwM b.size b.round L) (fpaint b.c)) w1)) := Lib.hid fun E qp qb w1 hb hE h1 h2 => by
  cases hok : (sizeB b.size && !L.any (fun p => !drawnB p)) with
  | true => exact dStroke1_any b hc E p qp qb C a m cap L hlen hm hok w1 hE (hC.below hb) (he.below hb) h1 h2
  | false => exact dStroke1_bad b _ E p qp qb C a m cap L hlen hm hok w1 hE (hC.below hb) (he.below hb) h1 h2
 have hmf : ∀ (fn : Fn) (first cap : Array Value) (w : World), (Instr.makeFunc fn first cap).run Tryz.prog w = .ok (.func fn first cap) w := fun _ _ _ _ => rfl
 obtain ⟨S, hS⟩ : ∃ S, Painted C (SwM b.size b.round L) (fpaint b.c) = S := ⟨_, rfl⟩
 obtain ⟨er, her⟩ : ∃ er, errOf (sizeB b.size && !L.any (fun p => !drawnB p)) 2 = er := ⟨_, rfl⟩
 rw [hS, her] at HD ⊢
 unfold BrT.val
 unfold BrT.obj at HD
 clear hC he hlen hm hc hS her
 go_enter Tryz.func21, Tryz.ntmps21
 repeat ((fail_if_success (with_reducible refine stop_at (id := 1) ?_)); (first | go_values | go_skip | go_guarded | go_step | go_upon | go_back | (simp only [Int.not_lt, Int.not_le] at *; go_simp) | (go_values <;> (try go_simp)) | (go_ite <;> go_prune <;> (try go_simp)) | (split <;> (first | (rename_i hx; exact (hx _ rfl).elim) | go_prune))))
 have hs_ := ((HS.out.alloc (.cells #[.int .u8 b.c.r, .int .u8 b.c.g, .int .u8 b.c.b, .int .u8 b.c.a, .int .i64 b.size, .bool b.round] 38)).alloc (.cells #[.slice a m cap] 39))
 obtain ⟨w1, hw_⟩ : ∃ w1 : World, ((w.alloc (.cells #[.int .u8 b.c.r, .int .u8 b.c.g, .int .u8 b.c.b, .int .u8 b.c.a, .int .i64 b.size, .bool b.round] 38)).alloc (.cells #[.slice a m cap] 39)) = w1 := ⟨_, rfl⟩
 rw [hw_] at hs_
 try simp only [World.size_alloc] at hs_
 have HS := Lib.hid hs_
 rw [hw_]
 clear hw_ hs_
 go_wp2_with fail
 refine (dTriesP_any 60 #[.pointer (some ⟨w.heap.size + 1, 0, none⟩), .pointer (some ⟨w.heap.size, 0, none⟩)] p er S w1 (fun _ _ => by simp [go_sem]) (fun w2 E hE hb hE2 => HD.out E (w.heap.size + 1) w.heap.size w2 (HS.out.below hb).low hE2 ⟨(HS.out.below hb).blockAt 0 rfl⟩ ⟨(HS.out.below hb).blockAt 1 rfl⟩)).mono ?_
 intro e w3 h
 have HR := Lib.hid (h.of_below HS.out.low)
 clear h
 rcases Classical.em (er = 0) with h0 | h0
 · obtain ⟨d, rfl, -⟩ := HR.out.2.1 h0
   go_wp2_with fail
   refine bodyPost_ret (v := .tuple #[.pointer (some ⟨d, 0, none⟩), .int .i64 0]) (by simp [results, Tryz.results21, go_sem]) rfl HR.out
 · obtain rfl := HR.out.2.2 h0
   go_wp2_with fail
   refine bodyPost_ret (v := .tuple #[.pointer none, .int .i64 er]) (by simp [results, Tryz.results21, go_sem]) rfl HR.out
end Go.Proofs.YthcdkkmjnglmjaaGreatDoor

/- Package draw: Line. -/
namespace Go.Proofs.YthcdkkmjnglmjaaGreatDoor
set_option linter.unusedSimpArgs false
set_option linter.unusedVariables false
open Go.RowKit Go.Shelf
attribute [local go_sem] Oper.semAt_some

theorem DrewP.to {E : Nat} {er er' : Int} {S S' : CanT → Prop} {w w' : World} {e : Ending} (h : DrewP E er S w e w') (h1 : er = er') (h2 : S = S') : DrewP E er' S' w e w' := by subst h1; subst h2; exact h
def lineOk (b : BrT) (f t : PtT) : Bool := (drawnB f && drawnB t) && (sizeB b.size && !(lineL f t).any (fun p => !drawnB p))
set_option maxRecDepth 100000 in
set_option maxHeartbeats 2000000 in
theorem dLine1_any (b : BrT) (hc : okC b.c) (f t : PtT) (E p qf qt qb : Nat) (C : CanT)
 (w : World) (hE : w.heap[E]? = some (.cells #[.pointer (some ⟨p, 0, none⟩)] 127 (0, 0))) (hC : CanAt w p C)
 (hf : BlkA qf (.cells #[.int .i64 f.x, .int .i64 f.y] 26 (0, 0)) w) (ht : BlkA qt (.cells #[.int .i64 t.x, .int .i64 t.y] 26 (0, 0)) w) (hq : BlkA qb b.obj w) :
 Calls Tryz.prog 63 #[.pointer (some ⟨E, 0, none⟩), .pointer (some ⟨qf, 0, none⟩), .pointer (some ⟨qt, 0, none⟩), .pointer (some ⟨qb, 0, none⟩)] w (DrewP E (errOf (lineOk b f t) 2) (Painted C (SwM b.size b.round (lineL f t)) (fpaint b.c)) w) := by
 have HEA := Lib.hid (BlkA.mk hE)
 have HCC := Lib.hid hC
 have HB := Lib.hid hq
 have HLN := Lib.hid (fun w' => shLine_any f t w')
 have HHC := Lib.hid hc
 have x0 := cell_of_block (k := 0) hf.at_ rfl
 have x1 := cell_of_block (k := 1) hf.at_ rfl
 have y0 := cell_of_block (k := 0) ht.at_ rfl
 have y1 := cell_of_block (k := 1) ht.at_ rfl
 obtain ⟨ok1, hok1⟩ : ∃ ok1, (drawnB f && drawnB t) = ok1 := ⟨_, rfl⟩
 unfold lineOk
 rw [hok1] at HLN ⊢
 unfold PtT.val at HLN
 have HOK := Lib.hid hok1
 clear hE hC hq hc hf ht hok1
 go_enter Tryz.func63, Tryz.ntmps63
 go_wp2_with fail
 clear x0 x1 y0 y1
 refine (HLN.out _).mono ?_
 intro e w1 h
 obtain ⟨hgl, a, cap, rfl, hel, hb1⟩ := h.got encP_len
 have HCC := Lib.hid (HCC.out.below hb1)
 have HEA := Lib.hid (HEA.out.below hb1)
 have HB := Lib.hid (HB.out.below hb1)
 have HLW := Lib.hid (LowAt.mk hb1)
 clear h hb1 HLN
 cases ok1 with
 | false =>
  simp only [errOf, Bool.false_and]
  go_wp2_with fail
  refine (sureP_no _ 2 (by decide) _).mono ?_
  rintro e w2 ⟨h1, rfl⟩
  unfold PanicE at h1
  subst h1
  exact ⟨rfl, (drewP_panic (er := 2) (by decide) HLW.out.low).to (by simp [errOf]) rfl⟩
 | true =>
  have hd := Bool.and_eq_true_iff.1 HOK.out
  have hle : lineE f t = lineL f t := by unfold lineE; rw [HOK.out]; rfl
  rw [hle] at hel hgl ⊢
  have hsm := lineL_small hd.1 hd.2
  have HSW := Lib.hid (fun w' h => shSweep_any a (lineL f t).length cap (lineL f t) rfl (by omega) b.size b.round w' h)
  simp only [errOf, Bool.true_and]
  obtain ⟨LL, hLL⟩ : ∃ LL, lineL f t = LL := ⟨_, rfl⟩
  rw [hLL] at hel HSW ⊢
  have HLL := Lib.hid hLL
  obtain ⟨m, hm⟩ : ∃ m, LL.length = m := ⟨_, rfl⟩
  rw [hm] at hel HSW ⊢
  have HEL := Lib.hid hel
  clear hel hle hsm hLL hm hgl
  go_wp2_with fail
  refine (sureP_ok _ _).mono ?_
  rintro e w2 ⟨rfl, rfl⟩
  cases hok : (sizeB b.size && !LL.any (fun p => !drawnB p)) with
  | true =>
   rw [hok] at HSW
   have HP := Lib.hid (fun v w' h1 h2 h3 => epaint_spv b.c HHC.out E p C (SwM b.size b.round LL) (swm_near (by simp at hok; exact hok.1) (by simpa using (Bool.and_eq_true_iff.1 hok).2)) v w' h1 h2 h3)
   obtain ⟨⟨cr, cg, cb, ca⟩, size, round⟩ := b
   unfold BrT.obj at HB
   unfold ColT.val at HP
   simp only at HP HB HSW ⊢
   have HK2 := Lib.hid hok
   clear hok HHC
   repeat ((fail_if_success (with_reducible refine stop_at (id := 1) ?_)); (first | go_values | go_skip | go_guarded | go_step | go_upon | go_back | (simp only [Int.not_lt, Int.not_le] at *; go_simp) | (go_values <;> (try go_simp)) | (go_ite <;> go_prune <;> (try go_simp)) | (split <;> (first | (rename_i hx; exact (hx _ rfl).elim) | go_prune))))
   refine (wpIn_wide (n := 0)).1 ?_
   apply wp_region_vals 12 (Rl := [(eqv _), (eqv _), (eqv _), (eqv _), (eqv _), (eqv _), (fun v_ w_ => ∃ v, v_ = .tuple #[v, .int .i64 0] ∧ SpV (SwM size round LL) v w_), (fun v_ w_ => SpV (SwM size round LL) v_ w_), (fun v_ _ => v_ = (.int .i64 0 : Value)), (fun v_ w_ => SpV (SwM size round LL) v_ w_), (eqv _), (eqv _)]) (C := (fun x y => Below x.heap.size x y))
   case hm => kernel_rfl
   case hk => rfl
   case hCr => exact (fun _ => Below.refl _ _)
   case hCt => intro _ _ _; exact (fun h k => grows_trans h k)
   case hst => exact ⟨fun _ _ _ _ h => h, fun _ _ _ _ h => h, fun _ _ _ _ h => h, fun _ _ _ _ h => h, fun _ _ _ _ h => h, fun _ _ _ _ h => h, fun _ _ _ hC ⟨v, e, h⟩ => ⟨v, e, h.below hC⟩, fun _ _ _ hC h => h.below hC, fun _ _ _ _ h => h, fun _ _ _ hC h => h.below hC, fun _ _ _ _ h => h, fun _ _ _ _ h => h, trivial⟩
   case hfo => kernel_rfl
   case ht => kernel_rfl
   case hC0 => exact (grows_drew _)
   case hsteps =>
    refine ⟨?_, ?_, ?_, ?_, ?_, ?_, ?_, ?_, ?_, ?_, ?_, ?_, trivial⟩
    · intro a' w' hA hC hD; have s0 : a'.tmps[0]? = some _ := (hA.at 0 (by kernel_rfl)).trans rfl; clear hA hD; refine stepOk_plain rfl ?_; intro K hK; gi_wp2; exact hK _ _ rfl ((fun _ => Below.refl _ _) _)
    · intro a' w' hA hC hD; have s5 : a'.tmps[5]? = some _ := (hA.at 5 (by kernel_rfl)).trans rfl; clear hA hD; refine stepOk_plain rfl ?_; intro K hK; gi_wp2; exact hK _ _ rfl ((fun _ => Below.refl _ _) _)
    · intro a' w' hA hC hD; have s3 : a'.tmps[3]? = some _ := (hA.at 3 (by kernel_rfl)).trans rfl; clear hA hD; refine stepOk_plain rfl ?_; intro K hK; gi_wp2; exact hK _ _ rfl ((fun _ => Below.refl _ _) _)
    · intro a' w' hA hC hD; obtain ⟨u14, s14, r14⟩ := hD ⟨2, .data⟩ (by simp) rfl _ rfl; replace r14 : u14 = _ := r14; subst r14
      have z0 := cell_of_block (k := 4) (HB.out.below hC).at_ rfl
      clear hA hD; refine stepOk_plain rfl ?_; intro K hK; gi_wp2; exact hK _ _ rfl ((fun _ => Below.refl _ _) _)
    · intro a' w' hA hC hD; have s3 : a'.tmps[3]? = some _ := (hA.at 3 (by kernel_rfl)).trans rfl; clear hA hD; refine stepOk_plain rfl ?_; intro K hK; gi_wp2; exact hK _ _ rfl ((fun _ => Below.refl _ _) _)
    · intro a' w' hA hC hD; obtain ⟨u16, s16, r16⟩ := hD ⟨4, .data⟩ (by simp) rfl _ rfl; replace r16 : u16 = _ := r16; subst r16
      have z0 := cell_of_block (k := 5) (HB.out.below hC).at_ rfl
      clear hA hD; refine stepOk_plain rfl ?_; intro K hK; gi_wp2; exact hK _ _ rfl ((fun _ => Below.refl _ _) _)
    · intro a' w' hA hC hD; obtain ⟨u13, s13, r13⟩ := hD ⟨1, .data⟩ (by simp) rfl _ rfl; replace r13 : u13 = _ := r13; subst r13; obtain ⟨u15, s15, r15⟩ := hD ⟨3, .data⟩ (by simp) rfl _ rfl; replace r15 : u15 = _ := r15; subst r15; obtain ⟨u17, s17, r17⟩ := hD ⟨5, .data⟩ (by simp) rfl _ rfl; replace r17 : u17 = _ := r17; subst r17; clear hA hD; refine stepOk_plain rfl ?_; intro K hK; gi_wp2
      refine (callsIn_wide.2 (HSW.out _ (HEL.out.below hC))).mono ?_; intro e w5 h; obtain ⟨v, rfl, h1, h2⟩ := h.spv; exact hK _ _ ⟨v, rfl, h1⟩ h2
    · intro a' w' hA hC hD; obtain ⟨u18, s18, r18⟩ := hD ⟨6, .data⟩ (by simp) rfl _ rfl; replace r18 : (fun v_ w_ => ∃ v, v_ = .tuple #[v, .int .i64 0] ∧ SpV (SwM size round LL) v w_) u18 w' := r18
      obtain ⟨v6, rfl, h6⟩ := r18
      clear hA hD; refine stepOk_plain rfl ?_; intro K hK; gi_wp2; exact hK _ _ h6 (Below.refl _ _)
    · intro a' w' hA hC hD; obtain ⟨u18, s18, r18⟩ := hD ⟨6, .data⟩ (by simp) rfl _ rfl; replace r18 : (fun v_ w_ => ∃ v, v_ = .tuple #[v, .int .i64 0] ∧ SpV (SwM size round LL) v w_) u18 w' := r18
      obtain ⟨v6, rfl, h6⟩ := r18
      clear hA hD; refine stepOk_plain rfl ?_; intro K hK; gi_wp2; exact hK (.int .i64 0) _ rfl ((fun _ => Below.refl _ _) _)
    · intro a' w' hA hC hD; obtain ⟨u19, s19, r19⟩ := hD ⟨7, .data⟩ (by simp) rfl _ rfl; replace r19 : (fun v_ w_ => SpV (SwM size round LL) v_ w_) u19 w' := r19; obtain ⟨u20, s20, r20⟩ := hD ⟨8, .data⟩ (by simp) rfl _ rfl; replace r20 : u20 = .int .i64 0 := r20; subst r20; clear hA hD; refine stepOk_plain rfl ?_; intro K hK; gi_wp2
      refine (callsIn_wide.2 (sureS_ok _ _)).mono ?_; rintro e w5 ⟨rfl, rfl⟩; exact hK _ _ r19 (Below.refl _ _)
    · intro a' w' hA hC hD; have s3 : a'.tmps[3]? = some _ := (hA.at 3 (by kernel_rfl)).trans rfl; clear hA hD; refine stepOk_plain rfl ?_; intro K hK; gi_wp2; exact hK _ _ rfl ((fun _ => Below.refl _ _) _)
    · intro a' w' hA hC hD; obtain ⟨u22, s22, r22⟩ := hD ⟨10, .data⟩ (by simp) rfl _ rfl; replace r22 : u22 = _ := r22; subst r22
      have z0 := cell_of_block (k := 0) (HB.out.below hC).at_ rfl; have z1 := cell_of_block (k := 1) (HB.out.below hC).at_ rfl; have z2 := cell_of_block (k := 2) (HB.out.below hC).at_ rfl; have z3 := cell_of_block (k := 3) (HB.out.below hC).at_ rfl
      clear hA hD; refine stepOk_plain rfl ?_; intro K hK; gi_wp2; exact hK _ _ rfl ((fun _ => Below.refl _ _) _)
   case hend =>
    intro w4 hC
    simp only [EndFrom, eqv, forall_eq, Act.put, List.length_cons, List.length_nil, List.drop_succ_cons, List.drop_zero, Nat.reduceAdd, List.setIfInBounds_toArray, List.set_cons_succ, List.set_cons_zero]
    rintro v6 - v7 - v9 h9
    have HS9 := Lib.hid h9
    have HCC := Lib.hid (HCC.out.below hC)
    have HEA := Lib.hid (HEA.out.below hC)
    have HLW := Lib.hid (HLW.out.below hC)
    clear h9 hC
    gi_wp2_with fail
    refine (callsIn_wide.2 (HP.out v9 _ HEA.out.at_ HCC.out HS9.out)).mono ?_
    intro e w5 h
    have HR := Lib.hid (h.of_below HLW.out.low)
    obtain ⟨rfl, -⟩ := HR.out.2.1 rfl
    clear h
    gi_wp2_with fail
    go_end0
    exact HR.out.to (by rw [HLL.out, HK2.out]; rfl) (by rw [HLL.out])
  | false =>
   rw [hok] at HSW
   obtain ⟨⟨cr, cg, cb, ca⟩, size, round⟩ := b
   unfold BrT.obj at HB
   simp only at HB HSW ⊢
   have HK2 := Lib.hid hok
   clear hok HHC
   repeat ((fail_if_success (with_reducible refine stop_at (id := 1) ?_)); (first | go_values | go_skip | go_guarded | go_step | go_upon | go_back | (simp only [Int.not_lt, Int.not_le] at *; go_simp) | (go_values <;> (try go_simp)) | (go_ite <;> go_prune <;> (try go_simp)) | (split <;> (first | (rename_i hx; exact (hx _ rfl).elim) | go_prune))))
   refine (wpIn_wide (n := 0)).1 ?_
   apply wp_region_vals 12 (Rl := [(eqv _), (eqv _), (eqv _), (eqv _), (eqv _), (eqv _), (fun v_ w_ => ∃ v, v_ = .tuple #[v, .int .i64 2]), (fun v_ w_ => True), (fun v_ _ => v_ = (.int .i64 2 : Value)), (fun v_ w_ => False), (eqv _), (eqv _)]) (C := (fun x y => Below x.heap.size x y))
   case hm => kernel_rfl
   case hk => rfl
   case hCr => exact (fun _ => Below.refl _ _)
   case hCt => intro _ _ _; exact (fun h k => grows_trans h k)
   case hst => exact ⟨fun _ _ _ _ h => h, fun _ _ _ _ h => h, fun _ _ _ _ h => h, fun _ _ _ _ h => h, fun _ _ _ _ h => h, fun _ _ _ _ h => h, fun _ _ _ hC h => h, fun _ _ _ hC h => h, fun _ _ _ _ h => h, fun _ _ _ hC h => h, fun _ _ _ _ h => h, fun _ _ _ _ h => h, trivial⟩
   case hfo => kernel_rfl
   case ht => kernel_rfl
   case hC0 => exact (grows_drew _)
   case hsteps =>
    refine ⟨?_, ?_, ?_, ?_, ?_, ?_, ?_, ?_, ?_, ?_, ?_, ?_, trivial⟩
    · intro a' w' hA hC hD; have s0 : a'.tmps[0]? = some _ := (hA.at 0 (by kernel_rfl)).trans rfl; clear hA hD; refine stepOk_plain rfl ?_; intro K hK; gi_wp2; exact hK _ _ rfl ((fun _ => Below.refl _ _) _)
    · intro a' w' hA hC hD; have s5 : a'.tmps[5]? = some _ := (hA.at 5 (by kernel_rfl)).trans rfl; clear hA hD; refine stepOk_plain rfl ?_; intro K hK; gi_wp2; exact hK _ _ rfl ((fun _ => Below.refl _ _) _)
    · intro a' w' hA hC hD; have s3 : a'.tmps[3]? = some _ := (hA.at 3 (by kernel_rfl)).trans rfl; clear hA hD; refine stepOk_plain rfl ?_; intro K hK; gi_wp2; exact hK _ _ rfl ((fun _ => Below.refl _ _) _)
    · intro a' w' hA hC hD; obtain ⟨u14, s14, r14⟩ := hD ⟨2, .data⟩ (by simp) rfl _ rfl; replace r14 : u14 = _ := r14; subst r14
      have z0 := cell_of_block (k := 4) (HB.out.below hC).at_ rfl
      clear hA hD; refine stepOk_plain rfl ?_; intro K hK; gi_wp2; exact hK _ _ rfl ((fun _ => Below.refl _ _) _)
    · intro a' w' hA hC hD; have s3 : a'.tmps[3]? = some _ := (hA.at 3 (by kernel_rfl)).trans rfl; clear hA hD; refine stepOk_plain rfl ?_; intro K hK; gi_wp2; exact hK _ _ rfl ((fun _ => Below.refl _ _) _)
    · intro a' w' hA hC hD; obtain ⟨u16, s16, r16⟩ := hD ⟨4, .data⟩ (by simp) rfl _ rfl; replace r16 : u16 = _ := r16; subst r16
      have z0 := cell_of_block (k := 5) (HB.out.below hC).at_ rfl
      clear hA hD; refine stepOk_plain rfl ?_; intro K hK; gi_wp2; exact hK _ _ rfl ((fun _ => Below.refl _ _) _)
    · intro a' w' hA hC hD; obtain ⟨u13, s13, r13⟩ := hD ⟨1, .data⟩ (by simp) rfl _ rfl; replace r13 : u13 = _ := r13; subst r13; obtain ⟨u15, s15, r15⟩ := hD ⟨3, .data⟩ (by simp) rfl _ rfl; replace r15 : u15 = _ := r15; subst r15; obtain ⟨u17, s17, r17⟩ := hD ⟨5, .data⟩ (by simp) rfl _ rfl; replace r17 : u17 = _ := r17; subst r17; clear hA hD; refine stepOk_plain rfl ?_; intro K hK; gi_wp2
      refine (callsIn_wide.2 (HSW.out _ (HEL.out.below hC))).mono ?_; intro e w5 h; obtain ⟨v, rfl, h2⟩ := h.badR; exact hK _ _ ⟨v, rfl⟩ h2
    · intro a' w' hA hC hD; obtain ⟨u18, s18, r18⟩ := hD ⟨6, .data⟩ (by simp) rfl _ rfl; replace r18 : (fun v_ w_ => ∃ v, v_ = .tuple #[v, .int .i64 2]) u18 w' := r18
      obtain ⟨v6, rfl⟩ := r18
      clear hA hD; refine stepOk_plain rfl ?_; intro K hK; gi_wp2; exact hK _ _ trivial (Below.refl _ _)
    · intro a' w' hA hC hD; obtain ⟨u18, s18, r18⟩ := hD ⟨6, .data⟩ (by simp) rfl _ rfl; replace r18 : (fun v_ w_ => ∃ v, v_ = .tuple #[v, .int .i64 2]) u18 w' := r18
      obtain ⟨v6, rfl⟩ := r18
      clear hA hD; refine stepOk_plain rfl ?_; intro K hK; gi_wp2; exact hK (.int .i64 2) _ rfl ((fun _ => Below.refl _ _) _)
    · intro a' w' hA hC hD; obtain ⟨u19, s19, r19⟩ := hD ⟨7, .data⟩ (by simp) rfl _ rfl; replace r19 : (fun v_ w_ => True) u19 w' := r19; obtain ⟨u20, s20, r20⟩ := hD ⟨8, .data⟩ (by simp) rfl _ rfl; replace r20 : u20 = .int .i64 2 := r20; subst r20
      have hdf := hA.defers
      clear hA hD; refine stepOk_plain rfl ?_; intro K hK; gi_wp2
      refine (callsIn_wide.2 (sureS_no _ 2 (by decide) _)).mono ?_; rintro e w5 ⟨h1, rfl⟩; unfold PanicE at h1; subst h1; exact ⟨hdf, (drewP_panic (er := 2) (by decide) (HLW.out.below hC).low).to (by rw [HLL.out, HK2.out]; rfl) rfl⟩
    · intro a' w' hA hC hD; have s3 : a'.tmps[3]? = some _ := (hA.at 3 (by kernel_rfl)).trans rfl; clear hA hD; refine stepOk_plain rfl ?_; intro K hK; gi_wp2; exact hK _ _ rfl ((fun _ => Below.refl _ _) _)
    · intro a' w' hA hC hD; obtain ⟨u22, s22, r22⟩ := hD ⟨10, .data⟩ (by simp) rfl _ rfl; replace r22 : u22 = _ := r22; subst r22
      have z0 := cell_of_block (k := 0) (HB.out.below hC).at_ rfl; have z1 := cell_of_block (k := 1) (HB.out.below hC).at_ rfl; have z2 := cell_of_block (k := 2) (HB.out.below hC).at_ rfl; have z3 := cell_of_block (k := 3) (HB.out.below hC).at_ rfl
      clear hA hD; refine stepOk_plain rfl ?_; intro K hK; gi_wp2; exact hK _ _ rfl ((fun _ => Below.refl _ _) _)
   case hend =>
    intro w4 hC
    simp only [EndFrom, eqv, forall_eq, Act.put, List.length_cons, List.length_nil, List.drop_succ_cons, List.drop_zero, Nat.reduceAdd, List.setIfInBounds_toArray, List.set_cons_succ, List.set_cons_zero]
    rintro v6 - v7 - v9 h9
    exact h9.elim
end Go.Proofs.YthcdkkmjnglmjaaGreatDoor

/- Package draw: Line itself; Rect and Veil. -/
namespace Go.Proofs.YthcdkkmjnglmjaaGreatDoor
set_option linter.unusedSimpArgs false
set_option linter.unusedVariables false
open Go.RowKit Go.Shelf
attribute [local go_sem] Oper.semAt_some

set_option maxRecDepth 100000 in
set_option maxHeartbeats 1000000 in
theorem dLine_any (b : BrT) (hc : okC b.c) (f t : PtT) (p : Nat) (C : CanT) (w : World) (hC : CanAt w p C) :
 Calls Tryz.prog 24 #[.pointer (some ⟨p, 0, none⟩), b.val, f.val, t.val] w (DrawnP (errOf (lineOk b f t) 2) (Painted C (SwM b.size b.round (lineL f t)) (fpaint b.c)) w) := by
 have HS := Lib.hid (St.start w)
 have HD := Lib.hid (fun E qf qt qb w1 (hb : Below w.heap.size w w1) hE h1 h2 h3 => dLine1_any b hc f t E p qf qt qb C w1 hE (hC.below hb) h1 h2 h3)
 have hmf : ∀ (fn : Fn) (first cap : Array Value) (w : World), (Instr.makeFunc fn first cap).run Tryz.prog w = .ok (.func fn first cap) w := fun _ _ _ _ => rfl
 obtain ⟨S, hS⟩ : ∃ S, Painted C (SwM b.size b.round (lineL f t)) (fpaint b.c) = S := ⟨_, rfl⟩
 obtain ⟨er, her⟩ : ∃ er, errOf (lineOk b f t) 2 = er := ⟨_, rfl⟩
 rw [hS, her] at HD ⊢
 unfold BrT.val PtT.val
 unfold BrT.obj at HD
 clear hC hc hS her
 go_enter Tryz.func24, Tryz.ntmps24
 repeat ((fail_if_success (with_reducible refine stop_at (id := 1) ?_)); (first | go_values | go_skip | go_guarded | go_step | go_upon | go_back | (simp only [Int.not_lt, Int.not_le] at *; go_simp) | (go_values <;> (try go_simp)) | (go_ite <;> go_prune <;> (try go_simp)) | (split <;> (first | (rename_i hx; exact (hx _ rfl).elim) | go_prune))))
 have hs_ := (((HS.out.alloc (.cells #[.int .u8 b.c.r, .int .u8 b.c.g, .int .u8 b.c.b, .int .u8 b.c.a, .int .i64 b.size, .bool b.round] 38)).alloc (.cells #[.int .i64 f.x, .int .i64 f.y] 26)).alloc (.cells #[.int .i64 t.x, .int .i64 t.y] 26))
 obtain ⟨w1, hw_⟩ : ∃ w1 : World, (((w.alloc (.cells #[.int .u8 b.c.r, .int .u8 b.c.g, .int .u8 b.c.b, .int .u8 b.c.a, .int .i64 b.size, .bool b.round] 38)).alloc (.cells #[.int .i64 f.x, .int .i64 f.y] 26)).alloc (.cells #[.int .i64 t.x, .int .i64 t.y] 26)) = w1 := ⟨_, rfl⟩
 rw [hw_] at hs_
 try simp only [World.size_alloc] at hs_
 have HS := Lib.hid hs_
 rw [hw_]
 clear hw_ hs_
 go_wp2_with fail
 refine (dTriesP_any 63 #[.pointer (some ⟨w.heap.size + 1, 0, none⟩), .pointer (some ⟨w.heap.size + 1 + 1, 0, none⟩), .pointer (some ⟨w.heap.size, 0, none⟩)] p er S w1 (fun _ _ => by simp [go_sem]) (fun w2 E hE hb hE2 => HD.out E (w.heap.size + 1) (w.heap.size + 1 + 1) w.heap.size w2 (HS.out.below hb).low hE2 ⟨(HS.out.below hb).blockAt 1 rfl⟩ ⟨(HS.out.below hb).blockAt 0 rfl⟩ ⟨(HS.out.below hb).blockAt 2 rfl⟩)).mono ?_
 intro e w3 h
 have HR := Lib.hid (h.of_below HS.out.low)
 clear h
 rcases Classical.em (er = 0) with h0 | h0
 · obtain ⟨d, rfl, -⟩ := HR.out.2.1 h0
   go_wp2_with fail
   refine bodyPost_ret (v := .tuple #[.pointer (some ⟨d, 0, none⟩), .int .i64 0]) (by simp [results, Tryz.results24, go_sem]) rfl HR.out
 · obtain rfl := HR.out.2.2 h0
   go_wp2_with fail
   refine bodyPost_ret (v := .tuple #[.pointer none, .int .i64 er]) (by simp [results, Tryz.results24, go_sem]) rfl HR.out
set_option maxRecDepth 100000 in
theorem dRect1_any (E : Addr) (w : World) : Calls Tryz.prog 46 #[.pointer (some E)] w (Gives (.func (.func 47) #[.pointer (some E)] #[]) w) := by
 have hmf : ∀ (fn : Fn) (first cap : Array Value) (w : World), (Instr.makeFunc fn first cap).run Tryz.prog w = .ok (.func fn first cap) w := fun _ _ _ _ => rfl
 go_enter Tryz.func46, Tryz.ntmps46
 go_wp2_with fail
 go_ret
 exact ⟨rfl, Below.refl _ _⟩

end Go.Proofs.YthcdkkmjnglmjaaGreatDoor

/- Package draw: Rect and Veil. -/
namespace Go.Proofs.YthcdkkmjnglmjaaGreatDoor
set_option linter.unusedSimpArgs false
set_option linter.unusedVariables false
open Go.RowKit Go.Shelf
attribute [local go_sem] Oper.semAt_some

theorem rect_near {f t : PtT} (hok : (drawnB f && drawnB t) = true) : ∀ q, RectP f t q → (-256 ≤ q.x ∧ q.x ≤ 255) ∧ (-256 ≤ q.y ∧ q.y ≤ 255) := by
 have hd := Bool.and_eq_true_iff.1 hok
 have h1 := of_decide_eq_true hd.1
 have h2 := of_decide_eq_true hd.2
 intro q h
 unfold RectP at h
 omega
theorem rect_spv {f t : PtT} {w w' : World} {e : Ending} (hok : (drawnB f && drawnB t) = true) (h : GivesRowE 60 3 (rectL f t).length ((rectL f t).flatMap encS) (errOf (drawnB f && drawnB t) 2) w e w') : ∃ v, e = .returned (.tuple #[v, .int .i64 0]) ∧ SpV (RectP f t) v w' ∧ Below w.heap.size w w' := by
 have hd := Bool.and_eq_true_iff.1 hok
 have hs := rectL_small hd.1 hd.2
 have h1 := rectL_set hd.1 hd.2
 rw [hok] at h
 obtain ⟨h2, a, cap, he, hel, hb⟩ := h.got encS_len
 exact ⟨_, he, ⟨a, _, cap, rectL f t, rfl, h1, rfl, by omega, hel⟩, hb⟩
theorem rect_bad {f t : PtT} {w w' : World} {e : Ending} (hok : (drawnB f && drawnB t) = false) (h : GivesRowE 60 3 (rectL f t).length ((rectL f t).flatMap encS) (errOf (drawnB f && drawnB t) 2) w e w') : ∃ v, e = .returned (.tuple #[v, .int .i64 2]) ∧ Below w.heap.size w w' := by
 rw [hok] at h
 obtain ⟨v, he, -, hb⟩ := h
 exact ⟨v, he, hb⟩
set_option maxRecDepth 100000 in
set_option maxHeartbeats 2000000 in
theorem dRectc_any (c : ColT) (hc : okC c) (f t : PtT) (E p qn qf qt qc : Nat) (C : CanT)
 (w : World) (hE : w.heap[E]? = some (.cells #[.pointer (some ⟨p, 0, none⟩)] 127 (0, 0))) (hC : CanAt w p C)
 (hn : BlkA qn (.cells #[.func (.func 46) #[] #[]] 85 (0, 0)) w) (hf : BlkA qf (.cells #[.int .i64 f.x, .int .i64 f.y] 26 (0, 0)) w) (ht : BlkA qt (.cells #[.int .i64 t.x, .int .i64 t.y] 26 (0, 0)) w) (hq : BlkA qc (.cells #[.int .u8 c.r, .int .u8 c.g, .int .u8 c.b, .int .u8 c.a] 34 (0, 0)) w) :
 Calls Tryz.prog 84 #[.pointer (some ⟨E, 0, none⟩), .pointer (some ⟨qn, 0, none⟩), .pointer (some ⟨qf, 0, none⟩), .pointer (some ⟨qt, 0, none⟩), .pointer (some ⟨qc, 0, none⟩)] w (DrewP E (errOf (drawnB f && drawnB t) 2) (Painted C (RectP f t) (fpaint c)) w) := by
 have HEA := Lib.hid (BlkA.mk hE)
 have HCC := Lib.hid hC
 have HN := Lib.hid hn
 have HF := Lib.hid hf
 have HT := Lib.hid ht
 have HQ := Lib.hid hq
 have HRC := Lib.hid (fun w' => shRect_any f t w')
 unfold PtT.val at HRC
 cases hok : (drawnB f && drawnB t) with
 | true =>
  have HOK := Lib.hid hok
  have HP := Lib.hid (fun v w' h1 h2 h3 => epaint_spv c hc E p C (RectP f t) (rect_near hok) v w' h1 h2 h3)
  unfold ColT.val at HP
  simp only [errOf]
  clear hE hC hn hf ht hq hc hok
  go_enter Tryz.func84, Tryz.ntmps84
  refine (wpIn_wide (n := 0)).1 ?_
  apply wp_region_vals 10 (Rl := [(eqv _), (eqv _), (eqv _), (eqv _), (eqv _), (fun v_ w_ => ∃ v, v_ = .tuple #[v, .int .i64 0] ∧ SpV (RectP f t) v w_), (fun v_ w_ => SpV (RectP f t) v_ w_), (fun v_ _ => v_ = (.int .i64 0 : Value)), (fun v_ w_ => SpV (RectP f t) v_ w_), (eqv _)]) (C := (fun x y => Below x.heap.size x y))
  case hm => kernel_rfl
  case hk => rfl
  case hCr => exact (fun _ => Below.refl _ _)
  case hCt => intro _ _ _; exact (fun h k => grows_trans h k)
  case hst => exact ⟨fun _ _ _ _ h => h, fun _ _ _ _ h => h, fun _ _ _ _ h => h, fun _ _ _ _ h => h, fun _ _ _ _ h => h, fun _ _ _ hC ⟨v, e, h⟩ => ⟨v, e, h.below hC⟩, fun _ _ _ hC h => h.below hC, fun _ _ _ _ h => h, fun _ _ _ hC h => h.below hC, fun _ _ _ _ h => h, trivial⟩
  case hfo => kernel_rfl
  case ht => kernel_rfl
  case hC0 => exact (grows_drew _)
  case hsteps =>
   refine ⟨?_, ?_, ?_, ?_, ?_, ?_, ?_, ?_, ?_, ?_, trivial⟩
   · intro a' w' hA hC hD; have s1 : a'.tmps[1]? = some _ := (hA.at 1 (by kernel_rfl)).trans rfl
     have z0 := cell_of_block (k := 0) (HN.out.below hC).at_ rfl
     clear hA hD; refine stepOk_plain rfl ?_; intro K hK; gi_wp2; exact hK _ _ rfl ((fun _ => Below.refl _ _) _)
   · intro a' w' hA hC hD; have s0 : a'.tmps[0]? = some _ := (hA.at 0 (by kernel_rfl)).trans rfl; clear hA hD; refine stepOk_plain rfl ?_; intro K hK; gi_wp2; exact hK _ _ rfl ((fun _ => Below.refl _ _) _)
   · intro a' w' hA hC hD; obtain ⟨u6, s6, r6⟩ := hD ⟨0, .data⟩ (by simp) rfl _ rfl; replace r6 : u6 = _ := r6; subst r6; obtain ⟨u7, s7, r7⟩ := hD ⟨1, .data⟩ (by simp) rfl _ rfl; replace r7 : u7 = _ := r7; subst r7; clear hA hD; refine stepOk_plain rfl ?_; intro K hK
     gi_wp2_with fail; refine (callsIn_wide.2 (dRect1_any _ _)).mono ?_; rintro e w2 ⟨rfl, hb⟩
     exact hK _ _ rfl hb
   · intro a' w' hA hC hD; have s2 : a'.tmps[2]? = some _ := (hA.at 2 (by kernel_rfl)).trans rfl
     have z0 := cell_of_block (k := 0) (HF.out.below hC).at_ rfl; have z1 := cell_of_block (k := 1) (HF.out.below hC).at_ rfl
     clear hA hD; refine stepOk_plain rfl ?_; intro K hK; gi_wp2; exact hK _ _ rfl ((fun _ => Below.refl _ _) _)
   · intro a' w' hA hC hD; have s3 : a'.tmps[3]? = some _ := (hA.at 3 (by kernel_rfl)).trans rfl
     have z0 := cell_of_block (k := 0) (HT.out.below hC).at_ rfl; have z1 := cell_of_block (k := 1) (HT.out.below hC).at_ rfl
     clear hA hD; refine stepOk_plain rfl ?_; intro K hK; gi_wp2; exact hK _ _ rfl ((fun _ => Below.refl _ _) _)
   · intro a' w' hA hC hD; obtain ⟨u9, s9, r9⟩ := hD ⟨3, .data⟩ (by simp) rfl _ rfl; replace r9 : u9 = _ := r9; subst r9; obtain ⟨u10, s10, r10⟩ := hD ⟨4, .data⟩ (by simp) rfl _ rfl; replace r10 : u10 = _ := r10; subst r10; clear hA hD; refine stepOk_plain rfl ?_; intro K hK; gi_wp2
     refine (callsIn_wide.2 (HRC.out _)).mono ?_; intro e w5 h; obtain ⟨v, rfl, h1, h2⟩ := rect_spv HOK.out h; exact hK _ _ ⟨v, rfl, h1⟩ h2
   · intro a' w' hA hC hD; obtain ⟨u11, s11, r11⟩ := hD ⟨5, .data⟩ (by simp) rfl _ rfl; replace r11 : (fun v_ w_ => ∃ v, v_ = .tuple #[v, .int .i64 0] ∧ SpV (RectP f t) v w_) u11 w' := r11
     obtain ⟨v6, rfl, h6⟩ := r11
     clear hA hD; refine stepOk_plain rfl ?_; intro K hK; gi_wp2; exact hK _ _ h6 (Below.refl _ _)
   · intro a' w' hA hC hD; obtain ⟨u11, s11, r11⟩ := hD ⟨5, .data⟩ (by simp) rfl _ rfl; replace r11 : (fun v_ w_ => ∃ v, v_ = .tuple #[v, .int .i64 0] ∧ SpV (RectP f t) v w_) u11 w' := r11
     obtain ⟨v6, rfl, h6⟩ := r11
     clear hA hD; refine stepOk_plain rfl ?_; intro K hK; gi_wp2; exact hK (.int .i64 0) _ rfl ((fun _ => Below.refl _ _) _)
   · intro a' w' hA hC hD; obtain ⟨u12, s12, r12⟩ := hD ⟨6, .data⟩ (by simp) rfl _ rfl; replace r12 : (fun v_ w_ => SpV (RectP f t) v_ w_) u12 w' := r12; obtain ⟨u13, s13, r13⟩ := hD ⟨7, .data⟩ (by simp) rfl _ rfl; replace r13 : u13 = .int .i64 0 := r13; subst r13; clear hA hD; refine stepOk_plain rfl ?_; intro K hK; gi_wp2
     refine (callsIn_wide.2 (sureS_ok _ _)).mono ?_; rintro e w5 ⟨rfl, rfl⟩; exact hK _ _ r12 (Below.refl _ _)
   · intro a' w' hA hC hD; have s4 : a'.tmps[4]? = some _ := (hA.at 4 (by kernel_rfl)).trans rfl
     have z0 := cell_of_block (k := 0) (HQ.out.below hC).at_ rfl; have z1 := cell_of_block (k := 1) (HQ.out.below hC).at_ rfl; have z2 := cell_of_block (k := 2) (HQ.out.below hC).at_ rfl; have z3 := cell_of_block (k := 3) (HQ.out.below hC).at_ rfl
     clear hA hD; refine stepOk_plain rfl ?_; intro K hK; gi_wp2; exact hK _ _ rfl ((fun _ => Below.refl _ _) _)
  case hend =>
   intro w4 hC
   simp only [EndFrom, eqv, forall_eq, Act.put, List.length_cons, List.length_nil, List.drop_succ_cons, List.drop_zero, Nat.reduceAdd, List.setIfInBounds_toArray, List.set_cons_succ, List.set_cons_zero]
   rintro v6 - v7 - v9 h9
   have HS9 := Lib.hid h9
   have HCC := Lib.hid (HCC.out.below hC)
   have HEA := Lib.hid (HEA.out.below hC)
   have HLW := Lib.hid (LowAt.mk hC)
   clear h9 hC
   gi_wp2_with fail
   refine (callsIn_wide.2 (HP.out v9 _ HEA.out.at_ HCC.out HS9.out)).mono ?_
   intro e w5 h
   have HR := Lib.hid (h.of_below HLW.out.low)
   obtain ⟨rfl, -⟩ := HR.out.2.1 rfl
   clear h
   gi_wp2_with fail
   go_end0
   exact HR.out
 | false =>
  have HOK := Lib.hid hok
  simp only [errOf]
  clear hE hC hn hf ht hq hc hok
  go_enter Tryz.func84, Tryz.ntmps84
  refine (wpIn_wide (n := 0)).1 ?_
  apply wp_region_vals 10 (Rl := [(eqv _), (eqv _), (eqv _), (eqv _), (eqv _), (fun v_ w_ => ∃ v, v_ = .tuple #[v, .int .i64 2]), (fun v_ w_ => True), (fun v_ _ => v_ = (.int .i64 2 : Value)), (fun v_ w_ => False), (eqv _)]) (C := (fun x y => Below x.heap.size x y))
  case hm => kernel_rfl
  case hk => rfl
  case hCr => exact (fun _ => Below.refl _ _)
  case hCt => intro _ _ _; exact (fun h k => grows_trans h k)
  case hst => exact ⟨fun _ _ _ _ h => h, fun _ _ _ _ h => h, fun _ _ _ _ h => h, fun _ _ _ _ h => h, fun _ _ _ _ h => h, fun _ _ _ hC h => h, fun _ _ _ hC h => h, fun _ _ _ _ h => h, fun _ _ _ hC h => h, fun _ _ _ _ h => h, trivial⟩
  case hfo => kernel_rfl
  case ht => kernel_rfl
  case hC0 => exact (grows_drew _)
  case hsteps =>
   refine ⟨?_, ?_, ?_, ?_, ?_, ?_, ?_, ?_, ?_, ?_, trivial⟩
   · intro a' w' hA hC hD; have s1 : a'.tmps[1]? = some _ := (hA.at 1 (by kernel_rfl)).trans rfl
     have z0 := cell_of_block (k := 0) (HN.out.below hC).at_ rfl
     clear hA hD; refine stepOk_plain rfl ?_; intro K hK; gi_wp2; exact hK _ _ rfl ((fun _ => Below.refl _ _) _)
   · intro a' w' hA hC hD; have s0 : a'.tmps[0]? = some _ := (hA.at 0 (by kernel_rfl)).trans rfl; clear hA hD; refine stepOk_plain rfl ?_; intro K hK; gi_wp2; exact hK _ _ rfl ((fun _ => Below.refl _ _) _)
   · intro a' w' hA hC hD; obtain ⟨u6, s6, r6⟩ := hD ⟨0, .data⟩ (by simp) rfl _ rfl; replace r6 : u6 = _ := r6; subst r6; obtain ⟨u7, s7, r7⟩ := hD ⟨1, .data⟩ (by simp) rfl _ rfl; replace r7 : u7 = _ := r7; subst r7; clear hA hD; refine stepOk_plain rfl ?_; intro K hK
     gi_wp2_with fail; refine (callsIn_wide.2 (dRect1_any _ _)).mono ?_; rintro e w2 ⟨rfl, hb⟩
     exact hK _ _ rfl hb
   · intro a' w' hA hC hD; have s2 : a'.tmps[2]? = some _ := (hA.at 2 (by kernel_rfl)).trans rfl
     have z0 := cell_of_block (k := 0) (HF.out.below hC).at_ rfl; have z1 := cell_of_block (k := 1) (HF.out.below hC).at_ rfl
     clear hA hD; refine stepOk_plain rfl ?_; intro K hK; gi_wp2; exact hK _ _ rfl ((fun _ => Below.refl _ _) _)
   · intro a' w' hA hC hD; have s3 : a'.tmps[3]? = some _ := (hA.at 3 (by kernel_rfl)).trans rfl
     have z0 := cell_of_block (k := 0) (HT.out.below hC).at_ rfl; have z1 := cell_of_block (k := 1) (HT.out.below hC).at_ rfl
     clear hA hD; refine stepOk_plain rfl ?_; intro K hK; gi_wp2; exact hK _ _ rfl ((fun _ => Below.refl _ _) _)
   · intro a' w' hA hC hD; obtain ⟨u9, s9, r9⟩ := hD ⟨3, .data⟩ (by simp) rfl _ rfl; replace r9 : u9 = _ := r9; subst r9; obtain ⟨u10, s10, r10⟩ := hD ⟨4, .data⟩ (by simp) rfl _ rfl; replace r10 : u10 = _ := r10; subst r10; clear hA hD; refine stepOk_plain rfl ?_; intro K hK; gi_wp2
     refine (callsIn_wide.2 (HRC.out _)).mono ?_; intro e w5 h; obtain ⟨v, rfl, h2⟩ := rect_bad HOK.out h; exact hK _ _ ⟨v, rfl⟩ h2
   · intro a' w' hA hC hD; obtain ⟨u11, s11, r11⟩ := hD ⟨5, .data⟩ (by simp) rfl _ rfl; replace r11 : (fun v_ w_ => ∃ v, v_ = .tuple #[v, .int .i64 2]) u11 w' := r11
     obtain ⟨v6, rfl⟩ := r11
     clear hA hD; refine stepOk_plain rfl ?_; intro K hK; gi_wp2; exact hK _ _ trivial (Below.refl _ _)
   · intro a' w' hA hC hD; obtain ⟨u11, s11, r11⟩ := hD ⟨5, .data⟩ (by simp) rfl _ rfl; replace r11 : (fun v_ w_ => ∃ v, v_ = .tuple #[v, .int .i64 2]) u11 w' := r11
     obtain ⟨v6, rfl⟩ := r11
     clear hA hD; refine stepOk_plain rfl ?_; intro K hK; gi_wp2; exact hK (.int .i64 2) _ rfl ((fun _ => Below.refl _ _) _)
   · intro a' w' hA hC hD; obtain ⟨u12, s12, r12⟩ := hD ⟨6, .data⟩ (by simp) rfl _ rfl; replace r12 : (fun v_ w_ => True) u12 w' := r12; obtain ⟨u13, s13, r13⟩ := hD ⟨7, .data⟩ (by simp) rfl _ rfl; replace r13 : u13 = .int .i64 2 := r13; subst r13
     have hdf := hA.defers
     clear hA hD; refine stepOk_plain rfl ?_; intro K hK; gi_wp2
     refine (callsIn_wide.2 (sureS_no _ 2 (by decide) _)).mono ?_; rintro e w5 ⟨h1, rfl⟩; unfold PanicE at h1; subst h1; exact ⟨hdf, drewP_panic (by decide) hC⟩
   · intro a' w' hA hC hD; have s4 : a'.tmps[4]? = some _ := (hA.at 4 (by kernel_rfl)).trans rfl
     have z0 := cell_of_block (k := 0) (HQ.out.below hC).at_ rfl; have z1 := cell_of_block (k := 1) (HQ.out.below hC).at_ rfl; have z2 := cell_of_block (k := 2) (HQ.out.below hC).at_ rfl; have z3 := cell_of_block (k := 3) (HQ.out.below hC).at_ rfl
     clear hA hD; refine stepOk_plain rfl ?_; intro K hK; gi_wp2; exact hK _ _ rfl ((fun _ => Below.refl _ _) _)
  case hend =>
   intro w4 hC
   simp only [EndFrom, eqv, forall_eq, Act.put, List.length_cons, List.length_nil, List.drop_succ_cons, List.drop_zero, Nat.reduceAdd, List.setIfInBounds_toArray, List.set_cons_succ, List.set_cons_zero]
   rintro v6 - v7 - v9 h9
   exact h9.elim

end Go.Proofs.YthcdkkmjnglmjaaGreatDoor

/- Package draw: Rect and Veil themselves. -/
namespace Go.Proofs.YthcdkkmjnglmjaaGreatDoor
set_option linter.unusedSimpArgs false
set_option linter.unusedVariables false
open Go.RowKit Go.Shelf
attribute [local go_sem] Oper.semAt_some

set_option maxRecDepth 100000 in
set_option maxHeartbeats 1000000 in
theorem dRectr_any (c : ColT) (hc : okC c) (f t : PtT) (p : Nat) (C : CanT) (w : World) (hC : CanAt w p C) :
 Calls Tryz.prog 45 #[.pointer (some ⟨p, 0, none⟩), c.val, f.val, t.val, .func (.func 46) #[] #[]] w (DrawnP (errOf (drawnB f && drawnB t) 2) (Painted C (RectP f t) (fpaint c)) w) := by
 have HS := Lib.hid (St.start w)
 have HD := Lib.hid (fun E qn qf qt qc w1 (hb : Below w.heap.size w w1) hE h0 h1 h2 h3 => dRectc_any c hc f t E p qn qf qt qc C w1 hE (hC.below hb) h0 h1 h2 h3)
 have hmf : ∀ (fn : Fn) (first cap : Array Value) (w : World), (Instr.makeFunc fn first cap).run Tryz.prog w = .ok (.func fn first cap) w := fun _ _ _ _ => rfl
 obtain ⟨S, hS⟩ : ∃ S, Painted C (RectP f t) (fpaint c) = S := ⟨_, rfl⟩
 obtain ⟨er, her⟩ : ∃ er, errOf (drawnB f && drawnB t) 2 = er := ⟨_, rfl⟩
 rw [hS, her] at HD ⊢
 unfold ColT.val PtT.val
 clear hC hc hS her
 go_enter Tryz.func45, Tryz.ntmps45
 repeat ((fail_if_success (with_reducible refine stop_at (id := 1) ?_)); (first | go_values | go_skip | go_guarded | go_step | go_upon | go_back | (simp only [Int.not_lt, Int.not_le] at *; go_simp) | (go_values <;> (try go_simp)) | (go_ite <;> go_prune <;> (try go_simp)) | (split <;> (first | (rename_i hx; exact (hx _ rfl).elim) | go_prune))))
 have hs_ := ((((HS.out.alloc (.cells #[.int .u8 c.r, .int .u8 c.g, .int .u8 c.b, .int .u8 c.a] 34)).alloc (.cells #[.int .i64 f.x, .int .i64 f.y] 26)).alloc (.cells #[.int .i64 t.x, .int .i64 t.y] 26)).alloc (.cells #[.func (.func 46) #[] #[]] 85))
 obtain ⟨w1, hw_⟩ : ∃ w1 : World, ((((w.alloc (.cells #[.int .u8 c.r, .int .u8 c.g, .int .u8 c.b, .int .u8 c.a] 34)).alloc (.cells #[.int .i64 f.x, .int .i64 f.y] 26)).alloc (.cells #[.int .i64 t.x, .int .i64 t.y] 26)).alloc (.cells #[.func (.func 46) #[] #[]] 85)) = w1 := ⟨_, rfl⟩
 rw [hw_] at hs_
 try simp only [World.size_alloc] at hs_
 have HS := Lib.hid hs_
 rw [hw_]
 clear hw_ hs_
 go_wp2_with fail
 refine (dTriesP_any 84 #[.pointer (some ⟨w.heap.size + 1 + 1 + 1, 0, none⟩), .pointer (some ⟨w.heap.size + 1, 0, none⟩), .pointer (some ⟨w.heap.size + 1 + 1, 0, none⟩), .pointer (some ⟨w.heap.size, 0, none⟩)] p er S w1 (fun _ _ => by simp [go_sem]) (fun w2 E hE hb hE2 => HD.out E (w.heap.size + 1 + 1 + 1) (w.heap.size + 1) (w.heap.size + 1 + 1) w.heap.size w2 (HS.out.below hb).low hE2 ⟨(HS.out.below hb).blockAt 0 rfl⟩ ⟨(HS.out.below hb).blockAt 2 rfl⟩ ⟨(HS.out.below hb).blockAt 1 rfl⟩ ⟨(HS.out.below hb).blockAt 3 rfl⟩)).mono ?_
 intro e w3 h
 have HR := Lib.hid (h.of_below HS.out.low)
 clear h
 rcases Classical.em (er = 0) with h0 | h0
 · obtain ⟨d, rfl, -⟩ := HR.out.2.1 h0
   go_wp2_with fail
   refine bodyPost_ret (v := .tuple #[.pointer (some ⟨d, 0, none⟩), .int .i64 0]) (by simp [results, Tryz.results45, go_sem]) rfl HR.out
 · obtain rfl := HR.out.2.2 h0
   go_wp2_with fail
   refine bodyPost_ret (v := .tuple #[.pointer none, .int .i64 er]) (by simp [results, Tryz.results45, go_sem]) rfl HR.out
set_option maxRecDepth 100000 in
set_option maxHeartbeats 1000000 in
theorem dRect_any (c : ColT) (hc : okC c) (f t : PtT) (p : Nat) (C : CanT) (w : World) (hC : CanAt w p C) :
 Calls Tryz.prog 11 #[.pointer (some ⟨p, 0, none⟩), c.val, f.val, t.val] w (DrawnP (errOf (drawnB f && drawnB t) 2) (Painted C (RectP f t) (fpaint c)) w) := by
 have HS := Lib.hid (St.start w)
 have HD := Lib.hid (fun w1 (hb : Below w.heap.size w w1) => dRectr_any c hc f t p C w1 (hC.below hb))
 obtain ⟨S, hS⟩ : ∃ S, Painted C (RectP f t) (fpaint c) = S := ⟨_, rfl⟩
 obtain ⟨er, her⟩ : ∃ er, errOf (drawnB f && drawnB t) 2 = er := ⟨_, rfl⟩
 rw [hS, her] at HD ⊢
 unfold ColT.val PtT.val at *
 clear hC hc hS her
 go_enter Tryz.func11, Tryz.ntmps11
 repeat ((fail_if_success (with_reducible refine stop_at (id := 1) ?_)); (first | go_values | go_skip | go_guarded | go_step | go_upon | go_back | (simp only [Int.not_lt, Int.not_le] at *; go_simp) | (go_values <;> (try go_simp)) | (go_ite <;> go_prune <;> (try go_simp)) | (split <;> (first | (rename_i hx; exact (hx _ rfl).elim) | go_prune))))
 have hs_ := (((HS.out.alloc (.cells #[.int .u8 c.r, .int .u8 c.g, .int .u8 c.b, .int .u8 c.a] 34)).alloc (.cells #[.int .i64 f.x, .int .i64 f.y] 26)).alloc (.cells #[.int .i64 t.x, .int .i64 t.y] 26))
 obtain ⟨w1, hw_⟩ : ∃ w1 : World, (((w.alloc (.cells #[.int .u8 c.r, .int .u8 c.g, .int .u8 c.b, .int .u8 c.a] 34)).alloc (.cells #[.int .i64 f.x, .int .i64 f.y] 26)).alloc (.cells #[.int .i64 t.x, .int .i64 t.y] 26)) = w1 := ⟨_, rfl⟩
 rw [hw_] at hs_
 try simp only [World.size_alloc] at hs_
 have HS := Lib.hid hs_
 rw [hw_]
 clear hw_ hs_
 have c0 := cell_of_block (k := 0) (HS.out.blockAt 2 rfl) rfl
 have c1 := cell_of_block (k := 1) (HS.out.blockAt 2 rfl) rfl
 have c2 := cell_of_block (k := 2) (HS.out.blockAt 2 rfl) rfl
 have c3 := cell_of_block (k := 3) (HS.out.blockAt 2 rfl) rfl
 have x0 := cell_of_block (k := 0) (HS.out.blockAt 1 rfl) rfl
 have x1 := cell_of_block (k := 1) (HS.out.blockAt 1 rfl) rfl
 have y0 := cell_of_block (k := 0) (HS.out.blockAt 0 rfl) rfl
 have y1 := cell_of_block (k := 1) (HS.out.blockAt 0 rfl) rfl
 go_wp2_with fail
 clear c0 c1 c2 c3 x0 x1 y0 y1
 refine (HD.out _ HS.out.low).mono ?_
 intro e w3 h
 have HR := Lib.hid (h.of_below HS.out.low)
 clear h
 rcases Classical.em (er = 0) with h0 | h0
 · obtain ⟨d, rfl, -⟩ := HR.out.2.1 h0
   go_wp2_with fail
   refine bodyPost_ret (v := .tuple #[.pointer (some ⟨d, 0, none⟩), .int .i64 0]) (by simp [results, Tryz.results11, go_sem]) rfl HR.out
 · obtain rfl := HR.out.2.2 h0
   go_wp2_with fail
   refine bodyPost_ret (v := .tuple #[.pointer none, .int .i64 er]) (by simp [results, Tryz.results11, go_sem]) rfl HR.out

end Go.Proofs.YthcdkkmjnglmjaaGreatDoor
