/- Layer 6: rows.put. -/
import Derived.Test.YtflbcabjefpojaaShM
import Derived.Test.YtflbcabjefpojaaBase
namespace Go.Proofs.Ytflbcabjefpojaa
set_option linter.unusedSimpArgs false
set_option linter.unusedVariables false
open Go.RowKit Go.Shelf Go.Maps

/-- The spans of L at each Y. -/
def GrOf (L : List SpT) (y : Int) : List SpT := L.filter fun s => s.y == y
theorem GrOf_put (L : List SpT) (s : SpT) : (fun z => if z = s.y then GrOf L s.y ++ [s] else GrOf L z) = GrOf (L ++ [s]) := by
  funext z
  unfold GrOf
  rw [List.filter_append]
  by_cases h : z = s.y
  · subst h; simp
  · have : ¬ s.y = z := fun e => h e.symm
    simp [h, this]
theorem GrOf_len (L : List SpT) (y : Int) : (GrOf L y).length ≤ L.length := List.length_filter_le _ _

theorem own_of_row {w : World} {base : Nat} {e : TypeId} {k : Nat} {v : Value} {n : Nat} {xs : List Value} (h : w.ownsRow base e k v n xs) : ∀ j, v.ownBlock = some j → base ≤ j ∧ j < w.heap.size := fun j hj => h.lt j hj
theorem GrD.look2 {w0 w : World} {base b n : Nat} {D : DataW Value} {F : Int → Value} {G : Int → List SpT} (h : GrD w0 base b n D F G) {y : Int} (hy : inK y) (hg : w0.grownBy w (F y).ownBlock) :
    (Instr.lookup 74 (.map (some b)) (.int .i64 y) false).run Try.prog w = .ok (F y) w := by
  have hbF : some b ≠ (F y).ownBlock := fun e => by have := ((h.row y hy).lt b e.symm).1; have := h.lt; omega
  have hm := h.map.kept hg hbF
  obtain ⟨v, ps, hrun, hv⟩ := hm.lookup keyedI Try.underlying74 (Try.zeroValue29 w) (zd := .held nilS) (zp := []) rfl (keyOf_int_mk Try.underlying3 (inK_wf hy))
  rw [h.at_ y hy] at hv
  simp only [heldR, Option.some.injEq, Prod.mk.injEq, DataW.held.injEq] at hv
  rw [hrun, hv.1]

/-- A row's block behind a put: the same, or a new one. -/
def Loc (v v' : Value) (n : Nat) : Prop := v'.ownBlock = v.ownBlock ∨ ∃ g, v'.ownBlock = some g ∧ n ≤ g
/-- As long as a flag is down. -/
def KeepsIf (b : Bool) (p : Prop) : Prop := b = false → p
/-- What put does. -/
def PutP (base b n : Nat) (F : Int → Value) (L : List SpT) (s : SpT) (w : World) (e : Ending) (w' : World) : Prop :=
  e = .returned (.tuple #[]) ∧ ∃ v' D', GrD w' base b (n + 1) D' (fun z => if z = s.y then v' else F z) (GrOf (L ++ [s])) ∧ Loc (F s.y) v' w.heap.size ∧ Turned (fun k => k = b ∨ (F s.y).ownBlock = some k) w w'

set_option maxRecDepth 100000 in
set_option maxHeartbeats 1000000 in
theorem put_any (s : SpT) (hy : inK s.y) (pr base b n : Nat) (D : DataW Value) (F : Int → Value) (L : List SpT) (hn : n < 1000000000) (hL : L.length < 1000000000) (w : World) (h : GrD w base b n D F (GrOf L)) (hbase : base ≤ w.heap.size)
    (hp : w.heap[pr]? = some (.cells #[.map (some b)] 76 (0, 0))) (hpF : (F s.y).ownBlock ≠ some pr) (hpb : pr ≠ b) :
    Calls Try.prog 41 #[.pointer (some ⟨pr, 0, none⟩), s.val] w (PutP base b n F L s w) := by
  have HH := Lib.hid h
  have HY := Lib.hid hy
  have HP := Lib.hid hp
  have HPF := Lib.hid (And.intro hpF hpb)
  have HS := Lib.hid (St.start w)
  have HN := Lib.hid (And.intro hn hL)
  have HB := Lib.hid hbase
  obtain ⟨S, hS⟩ : ∃ S, S = s := ⟨_, rfl⟩
  rw [← hS]
  rw [← hS] at HY HPF
  have HSS := Lib.hid hS
  obtain ⟨sy, sf, st⟩ := s
  unfold SpT.val
  rw [HSS.out]
  simp only
  rw [← HSS.out]
  clear h hy hp hpF hpb hn hL hbase hS
  go_enter Try.func41, Try.ntmps41
  repeat ((fail_if_success (with_reducible refine stop_at (id := 1) ?_)); (first | go_values | go_skip | go_guarded | go_step | go_upon | go_back | (simp only [Int.not_lt, Int.not_le] at *; go_simp) | (go_values <;> (try go_simp)) | (go_ite <;> go_prune <;> (try go_simp)) | (split <;> (first | (rename_i hx; exact (hx _ rfl).elim) | go_prune))))
  obtain ⟨p1, hp1⟩ : ∃ p1, w.heap.size = p1 := ⟨_, rfl⟩
  have hs_ := (HS.out.alloc (.cells #[.int .i64 sy, .int .i64 sf, .int .i64 st] 39))
  obtain ⟨w1, hw_⟩ : ∃ w1 : World, (w.alloc (.cells #[.int .i64 sy, .int .i64 sf, .int .i64 st] 39)) = w1 := ⟨_, rfl⟩
  rw [hw_] at hs_
  try simp only [World.size_alloc] at hs_
  have HS := Lib.hid hs_
  rw [hw_]
  clear hw_ hs_
  have hlt1 : w.heap.size < w1.heap.size := HS.out.lt 0 rfl
  have h1 := HH.out.kept HS.out.low
  have hyy : inK sy := by have := HY.out; rw [HSS.out] at this; exact this
  have hrow := h1.row sy hyy
  have hown : ∀ j, (F sy).ownBlock = some j → base ≤ j ∧ j < w.heap.size := fun j hj => (HH.out.row sy hyy).lt j hj
  have HLK := Lib.hid (fun w' (hC : w1.grownBy w' (F sy).ownBlock) => h1.look2 hyy (w := w') hC : ∀ w', w1.grownBy w' (F sy).ownBlock → (Instr.lookup 74 (.map (some b)) (.int .i64 sy) false).run Try.prog w' = .ok (F sy) w')
  have HPR := Lib.hid (fun w' (hC : w1.grownBy w' (F sy).ownBlock) => (hC.block pr (Nat.lt_trans (block_lt HP.out) hlt1) (fun e => HPF.out.1 (by rw [HSS.out]; exact e.symm))).trans ((HS.out.low.block pr (block_lt HP.out)).trans HP.out))
  have HBX := Lib.hid (fun w' (hC : w1.grownBy w' (F sy).ownBlock) => (hC.block w.heap.size hlt1 (fun e => by have := (hown _ e.symm).2; omega)).trans (HS.out.blockAt 0 rfl))
  have HOW := Lib.hid (show ∀ j, (F sy).ownBlock = some j → base ≤ j ∧ j < w1.heap.size from fun j hj => ⟨(hown j hj).1, Nat.lt_trans (hown j hj).2 hlt1⟩)
  have HG1 := Lib.hid h1
  have HRW := Lib.hid hrow
  have HYY := Lib.hid hyy
  have HLT1 := Lib.hid hlt1
  clear h1 hrow hyy hlt1 hown
  simp only [hp1] at HBX ⊢
  have HNN := Lib.hid (show (GrOf L sy).length + 1 ≤ maxLen ∧ ((GrOf L sy).length + 1) * 24 ≤ 140737488355328 by
    have h1 := GrOf_len L sy
    have h2 := HN.out.2
    exact ⟨by unfold maxLen; omega, by omega⟩)
  refine (wpIn_wide (n := 0)).1 ?_
  obtain ⟨i0, hi, hz0, hz1, hz2⟩ := info_parts infoS
  have HI := Lib.hid (And.intro hi (And.intro hz0 (And.intro hz1 hz2)))
  clear hi hz0 hz1 hz2
  apply wp_region_store 16 15 (fun b_ w_ => KeepsIf b_ (w_.ownsRow base 39 3 (F sy) (GrOf L sy).length ((GrOf L sy).flatMap encS))) (Rl := [(eqv _), (eqv _), (eqv _), (eqv _), (eqv _), (eqv _), (eqv _), (eqv _), (eqv _), (eqv _), (eqv _), (eqv _), (eqv _), (eqv _), (fun v_ w_ => ∃ b, v_ = .slice (some ⟨b, 0, none⟩) 1 1 ∧ (F sy).ownBlock ≠ some b ∧ w_.heap[b]? = some (.cells #[.int .i64 sy, .int .i64 sf, .int .i64 st] 39 (0, 0))), (fun v_ w_ => w_.ownsRow base 39 3 v_ (GrOf L sy ++ [S]).length ((GrOf L sy ++ [S]).flatMap encS) ∧ Loc (F sy) v_ w1.heap.size)]) (C := (fun x y => x.grownBy y (F sy).ownBlock)) (C0 := (fun x y => Below x.heap.size x y))
  case hm => kernel_rfl
  case hk => rfl
  case hCr => exact (fun x => World.grownBy.refl x _)
  case hCt => intro _ _ _; exact (fun h k => grownTrans h k)
  case h00 => exact (fun x => Below.refl _ x)
  case h0C => intro _ _; exact fun h => ⟨h.os, h.tape, h.output, h.size, fun k hk _ => h.block k hk⟩
  case hst => exact ⟨fun _ _ _ _ h => h, fun _ _ _ _ h => h, fun _ _ _ _ h => h, fun _ _ _ _ h => h, fun _ _ _ _ h => h, fun _ _ _ _ h => h, fun _ _ _ _ h => h, fun _ _ _ _ h => h, fun _ _ _ _ h => h, fun _ _ _ _ h => h, fun _ _ _ _ h => h, fun _ _ _ _ h => h, fun _ _ _ _ h => h, fun _ _ _ _ h => h, fun v x y hC ⟨b, h1, h2, h3⟩ => ⟨b, h1, h2, (hC.block b (block_lt h3) h2.symm).trans h3⟩, fun v x y hC ⟨h1, h2⟩ => ⟨ownsRow_below h1 hC, h2⟩, trivial⟩
  case hfo => kernel_rfl
  case ht => kernel_rfl
  case hC0 => exact (⟨rfl, rfl, rfl, Nat.le_refl _, fun _ _ _ => rfl⟩)
  case hsk => decide
  case hso => decide
  case hsg => rfl
  case hsteps =>
    refine ⟨?_, ?_, ?_, ?_, ?_, ?_, ?_, ?_, ?_, ?_, ?_, ?_, ?_, ?_, ?_, ?_, trivial⟩
    · -- 0
      intro a' w' b_ hA hC hJ hB1 hB2 hD
      skip
      clear hB1 hB2
      have s0 : a'.tmps[0]? = some _ := (hA.at 0 (by kernel_rfl)).trans rfl
      clear hA hD
      refine stepOk_plain rfl ?_
      intro K hK
      gi_wp2
      exact hK _ _ rfl ⟨(fun x => Below.refl _ x) _, hJ⟩
    · -- 1
      intro a' w' b_ hA hC hJ hB1 hB2 hD
      skip
      clear hB1 hB2
      obtain ⟨u4, s4, r4⟩ := hD ⟨0, .data⟩ (by simp) rfl _ rfl
      replace r4 : u4 = _ := r4
      subst r4
      clear hA hD
      refine stepOk_plain rfl ?_
      intro K hK
      gi_wp2
      exact hK _ _ rfl ⟨(fun x => Below.refl _ x) _, hJ⟩
    · -- 2
      intro a' w' b_ hA hC hJ hB1 hB2 hD
      skip
      clear hB1 hB2
      obtain ⟨u5, s5, r5⟩ := hD ⟨1, .data⟩ (by simp) rfl _ rfl
      replace r5 : u5 = _ := r5
      subst r5
      clear hA hD
      refine stepOk_plain rfl ?_
      intro K hK
      gi_wp2
      exact hK _ _ rfl ⟨(fun x => Below.refl _ x) _, hJ⟩
    · -- 3
      intro a' w' b_ hA hC hJ hB1 hB2 hD
      skip
      clear hB1 hB2
      obtain ⟨u6, s6, r6⟩ := hD ⟨2, .data⟩ (by simp) rfl _ rfl
      replace r6 : u6 = _ := r6
      subst r6
      have b1 := cell_of_block (k := 0) (HPR.out w' hC) rfl
      clear hA hD
      refine stepOk_plain rfl ?_
      intro K hK
      gi_wp2
      exact hK _ _ rfl ⟨(fun x => Below.refl _ x) _, hJ⟩
    · -- 4
      intro a' w' b_ hA hC hJ hB1 hB2 hD
      skip
      clear hB1 hB2
      have s3 : a'.tmps[3]? = some _ := (hA.at 3 (by kernel_rfl)).trans rfl
      clear hA hD
      refine stepOk_plain rfl ?_
      intro K hK
      gi_wp2
      exact hK _ _ rfl ⟨(fun x => Below.refl _ x) _, hJ⟩
    · -- 5
      intro a' w' b_ hA hC hJ hB1 hB2 hD
      skip
      clear hB1 hB2
      obtain ⟨u8, s8, r8⟩ := hD ⟨4, .data⟩ (by simp) rfl _ rfl
      replace r8 : u8 = _ := r8
      subst r8
      have b1 := cell_of_block (k := 0) (HBX.out w' hC) rfl
      clear hA hD
      refine stepOk_plain rfl ?_
      intro K hK
      gi_wp2
      exact hK _ _ rfl ⟨(fun x => Below.refl _ x) _, hJ⟩
    · -- 6
      intro a' w' b_ hA hC hJ hB1 hB2 hD
      obtain rfl := hB1 (by kernel_rfl)
      clear hB1 hB2
      have s0 : a'.tmps[0]? = some _ := (hA.at 0 (by kernel_rfl)).trans rfl
      clear hA hD
      refine stepOk_plain rfl ?_
      intro K hK
      gi_wp2
      exact hK _ _ rfl ⟨(fun x => Below.refl _ x) _, hJ⟩
    · -- 7
      intro a' w' b_ hA hC hJ hB1 hB2 hD
      obtain rfl := hB1 (by kernel_rfl)
      clear hB1 hB2
      obtain ⟨u10, s10, r10⟩ := hD ⟨6, .data⟩ (by simp) rfl _ rfl
      replace r10 : u10 = _ := r10
      subst r10
      clear hA hD
      refine stepOk_plain rfl ?_
      intro K hK
      gi_wp2
      exact hK _ _ rfl ⟨(fun x => Below.refl _ x) _, hJ⟩
    · -- 8
      intro a' w' b_ hA hC hJ hB1 hB2 hD
      obtain rfl := hB1 (by kernel_rfl)
      clear hB1 hB2
      obtain ⟨u11, s11, r11⟩ := hD ⟨7, .data⟩ (by simp) rfl _ rfl
      replace r11 : u11 = _ := r11
      subst r11
      clear hA hD
      refine stepOk_plain rfl ?_
      intro K hK
      gi_wp2
      exact hK _ _ rfl ⟨(fun x => Below.refl _ x) _, hJ⟩
    · -- 9
      intro a' w' b_ hA hC hJ hB1 hB2 hD
      obtain rfl := hB1 (by kernel_rfl)
      clear hB1 hB2
      obtain ⟨u12, s12, r12⟩ := hD ⟨8, .data⟩ (by simp) rfl _ rfl
      replace r12 : u12 = _ := r12
      subst r12
      have b1 := cell_of_block (k := 0) (HPR.out w' hC) rfl
      clear hA hD
      refine stepOk_plain rfl ?_
      intro K hK
      gi_wp2
      exact hK _ _ rfl ⟨(fun x => Below.refl _ x) _, hJ⟩
    · -- 10
      intro a' w' b_ hA hC hJ hB1 hB2 hD
      obtain rfl := hB1 (by kernel_rfl)
      clear hB1 hB2
      have s3 : a'.tmps[3]? = some _ := (hA.at 3 (by kernel_rfl)).trans rfl
      clear hA hD
      refine stepOk_plain rfl ?_
      intro K hK
      gi_wp2
      exact hK _ _ rfl ⟨(fun x => Below.refl _ x) _, hJ⟩
    · -- 11
      intro a' w' b_ hA hC hJ hB1 hB2 hD
      obtain rfl := hB1 (by kernel_rfl)
      clear hB1 hB2
      obtain ⟨u14, s14, r14⟩ := hD ⟨10, .data⟩ (by simp) rfl _ rfl
      replace r14 : u14 = _ := r14
      subst r14
      have b1 := cell_of_block (k := 0) (HBX.out w' hC) rfl
      clear hA hD
      refine stepOk_plain rfl ?_
      intro K hK
      gi_wp2
      exact hK _ _ rfl ⟨(fun x => Below.refl _ x) _, hJ⟩
    · -- 12
      intro a' w' b_ hA hC hJ hB1 hB2 hD
      obtain rfl := hB1 (by kernel_rfl)
      clear hB1 hB2
      obtain ⟨u13, s13, r13⟩ := hD ⟨9, .data⟩ (by simp) rfl _ rfl
      replace r13 : u13 = _ := r13
      subst r13
      obtain ⟨u15, s15, r15⟩ := hD ⟨11, .data⟩ (by simp) rfl _ rfl
      replace r15 : u15 = _ := r15
      subst r15
      have b1 := HLK.out w' hC
      clear hA hD
      refine stepOk_plain rfl ?_
      intro K hK
      gi_wp2
      exact hK _ _ rfl ⟨(fun x => Below.refl _ x) _, hJ⟩
    · -- 13
      intro a' w' b_ hA hC hJ hB1 hB2 hD
      obtain rfl := hB1 (by kernel_rfl)
      clear hB1 hB2
      have s3 : a'.tmps[3]? = some _ := (hA.at 3 (by kernel_rfl)).trans rfl
      have b0 := cell_of_block (k := 0) (HBX.out w' hC) rfl; have b1 := cell_of_block (k := 1) (HBX.out w' hC) rfl; have b2 := cell_of_block (k := 2) (HBX.out w' hC) rfl
      clear hA hD
      refine stepOk_plain rfl ?_
      intro K hK
      gi_wp2
      exact hK _ _ rfl ⟨(fun x => Below.refl _ x) _, hJ⟩
    · -- 14
      intro a' w' b_ hA hC hJ hB1 hB2 hD
      obtain rfl := hB1 (by kernel_rfl)
      clear hB1 hB2
      obtain ⟨u17, s17, r17⟩ := hD ⟨13, .data⟩ (by simp) rfl _ rfl
      replace r17 : u17 = _ := r17
      subst r17
      clear hA hD
      refine stepOk_plain rfl ?_
      intro K hK
      gi_wp2
      exact hK _ _ ⟨w'.heap.size, rfl, fun e => by have := (HOW.out _ e).2; have := hC.size; omega, newBlock _ _ _ rfl⟩ ⟨(Below.refl _ _).alloc (Nat.le_refl _) _, fun hb => (hJ hb).alloc _⟩
    · -- 15
      intro a' w' b_ hA hC hJ hB1 hB2 hD
      obtain rfl := hB2 rfl
      clear hB1 hB2
      obtain ⟨u16, s16, r16⟩ := hD ⟨12, .data⟩ (by simp) rfl _ rfl
      replace r16 : u16 = _ := r16
      subst r16
      obtain ⟨u18, s18, r18⟩ := hD ⟨14, .data⟩ (by simp) rfl _ rfl
      replace r18 : (fun v_ w_ => ∃ b, v_ = .slice (some ⟨b, 0, none⟩) 1 1 ∧ (F sy).ownBlock ≠ some b ∧ w_.heap[b]? = some (.cells #[.int .i64 sy, .int .i64 sf, .int .i64 st] 39 (0, 0))) u18 w' := r18
      obtain ⟨g, hg18, hbn, hbk⟩ := r18; subst hg18
      clear hA hD
      refine stepOk_plain rfl ?_
      intro K hK
      have H := HI.out; obtain ⟨v', w'', hrun, hr1, hr2, _, hr4⟩ := run_append_own_at (P := Try.prog) w' base 29 29 39 i0 (.agg #[.int .i64 0, .int .i64 0, .int .i64 0]) 3 24 Try.underlying29 H.1 H.2.1 H.2.2.1 H.2.2.2 rfl (by decide) (F sy) (GrOf L sy).length ((GrOf L sy).flatMap encS) (hJ rfl) ⟨g, 0, none⟩ 1 1 (encS S) rfl (by rw [HSS.out]; exact fun j x hx => cells_of_block hbk j x (by simpa [encS] using hx)) (encS_one S) HNN.out.1 HNN.out.2 (Nat.le_trans (Nat.le_trans HB.out (Nat.le_of_lt HLT1.out)) hC.size); refine opIn_append _ _ _ rfl (by simp [Act.eval, s16]) (by simp [Act.eval, s18]) hrun (hK v' w'' ⟨?_, ?_⟩ ⟨hr2, fun h => by cases h⟩); (rw [List.length_append, List.flatMap_append]; simpa using hr1); (rcases hr4 with h | h; exact .inl h; exact .inr ⟨_, h, hC.size⟩)
      skip
  case hJ0 => exact fun _ => HRW.out.drew
  case hend =>
    intro w2 hC hJ
    simp only [EndFrom, eqv, forall_eq, Act.put, List.length_cons, List.length_nil, List.drop_succ_cons, List.drop_zero, Nat.reduceAdd, List.setIfInBounds_toArray, List.set_cons_succ, List.set_cons_zero]
    rintro v1 - v2 ⟨hr1, hr2⟩
    obtain ⟨w3, hrun, hg3, hw3⟩ := HG1.out.put (w := w2) (y := sy) (v' := v2) (L := GrOf L sy ++ [S]) HYY.out (by have := HN.out.1; unfold maxLen; omega) hC hr1 (by simp) hr2
    have hloc : Loc (F S.y) v2 w.heap.size := by
      rw [show S.y = sy by rw [HSS.out]]
      rcases hr2 with h | ⟨g, h, hge⟩
      · exact .inl h
      · exact .inr ⟨g, h, by have := HLT1.out; omega⟩
    have htur : Turned (fun k => k = b ∨ (F S.y).ownBlock = some k) w w3 := by
      rw [show S.y = sy by rw [HSS.out]]
      refine (((Turned.of_grown (row := none) ⟨HS.out.low.os, HS.out.low.tape, HS.out.low.output, HS.out.low.size, fun k hk _ => HS.out.low.block k hk⟩).trans (Turned.of_grown hC)).trans (Turned.of_grown hw3)).mono fun k hk h => ?_
      rcases h with (h | h) | h
      · cases h
      · exact .inr h.symm
      · exact .inl (Option.some.inj h)
    have hgr : GrD w3 base b (n + 1) (D.put (.int .i64 sy) (.held v2)) (fun z => if z = S.y then v2 else F z) (GrOf (L ++ [S])) := by
      have e : S.y = sy := by rw [HSS.out]
      rw [← GrOf_put, e]
      exact hg3
    have HRES := Lib.hid (And.intro hgr (And.intro hloc htur))
    clear hgr hloc htur hg3 hw3 hr1 hr2 hC hJ
    gi_wp2
    go_end0
    exact ⟨rfl, v2, _, HRES.out⟩
end Go.Proofs.Ytflbcabjefpojaa
