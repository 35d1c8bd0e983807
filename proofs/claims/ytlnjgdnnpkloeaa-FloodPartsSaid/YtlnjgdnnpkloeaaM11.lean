/- Merged texts: ShM ShV SortI ShX ShQ Fld ShR ShS ShY ShT ShU Cmp ShZ ShW. -/
import Derived.Test.YtlnjgdnnpkloeaaM9
import Derived.Maps.AppendAt
import Derived.Maps.OwnSet
import Derived.Maps.RangeWalk
import Derived.Test.YtlnjgdnnpkloeaaM1
import Derived.Shelf.SortM.Plain
import Derived.Shelf.SortM.SortNone
import Derived.Test.YtlnjgdnnpkloeaaM10
/- Layer 6: the map of rows, by Y. -/
namespace Go.Proofs.Ytlnjgdnnpkloeaa
set_option linter.unusedSimpArgs false
set_option linter.unusedVariables false
open Go.RowKit Go.Shelf Go.Maps

def heldR (v : Value) : Option (DataW Value × List MemPlace) := some (.held v, [])
def nilS : Value := .slice none 0 0
def inK (y : Int) : Prop := -1000 ≤ y ∧ y ≤ 1000
theorem inK_wf {y : Int} (h : inK y) : (Lit.int .i64 y).wf = true := WalkArith.wf_i64 (by unfold inK at h; omega)

/-- Block b is a map that holds at each Y a row of the call's own; no two in one block. -/
structure GrD (w : World) (base b n : Nat) (D : DataW Value) (F : Int → Value) (G : Int → List SpT) : Prop where
  map : w.ownsMap Try.prog 3 heldR b n D
  at_ : ∀ y, inK y → D.atKey (.int .i64 y) (.held nilS) = .held (F y)
  row : ∀ y, inK y → w.ownsRow base 42 3 (F y) (G y).length ((G y).flatMap encS)
  apart : ∀ y z j, inK y → inK z → y ≠ z → (F y).ownBlock = some j → (F z).ownBlock ≠ some j
  has : ∀ y, inK y → (Maps.has D (.int .i64 y) = true ↔ G y ≠ [])
  only : ∀ k, Maps.has D k = true → ∃ y, inK y ∧ k = .int .i64 y
  lt : b < base

theorem keyedI : Keyed Try.prog 3 := int_keyed Try.underlying3
theorem GrD.look {w : World} {base b n : Nat} {D : DataW Value} {F : Int → Value} {G : Int → List SpT} (h : GrD w base b n D F G) {y : Int} (hy : inK y) :
    (Instr.lookup 130 (.map (some b)) (.int .i64 y) false).run Try.prog w = .ok (F y) w := by
  obtain ⟨v, ps, hrun, hv⟩ := h.map.lookup keyedI Try.underlying130 (Try.zeroValue38 w) (zd := .held nilS) (zp := []) rfl (keyOf_int_mk Try.underlying3 (inK_wf hy))
  rw [h.at_ y hy] at hv
  simp only [heldR, Option.some.injEq, Prod.mk.injEq, DataW.held.injEq] at hv
  rw [hrun, hv.1]
theorem GrD.start (w : World) : GrD (w.alloc (.map #[] 0)) (w.heap.size + 1) w.heap.size 0 (.map []) (fun _ => nilS) (fun _ => []) :=
  ⟨World.ownsMap_made _ _ _ _, fun _ _ => rfl, fun _ _ => World.ownsRow_nil _ _ _ _, fun _ _ _ _ _ _ h => (by cases h), fun _ _ => (by simp [Maps.has]), fun _ h => (by simp [Maps.has] at h), Nat.lt_succ_self _⟩
theorem GrD.kept {w w' : World} {base b n : Nat} {D : DataW Value} {F : Int → Value} {G : Int → List SpT} (h : GrD w base b n D F G) (hb : Below w.heap.size w w') : GrD w' base b n D F G :=
  ⟨h.map.kept (row := none) ⟨hb.os, hb.tape, hb.output, hb.size, fun k hk _ => hb.block k hk⟩ (by simp), h.at_, fun y hy => ownsRow_below (h.row y hy) hb, h.apart, h.has, h.only, h.lt⟩

theorem GrD.put {w0 w : World} {base b n : Nat} {D : DataW Value} {F : Int → Value} {G : Int → List SpT} (h : GrD w0 base b n D F G) {y : Int} (hy : inK y) (hn : n < maxLen) (hg : w0.grownBy w (F y).ownBlock) {v' : Value} {L : List SpT}
    (hrow : w.ownsRow base 42 3 v' L.length (L.flatMap encS)) (hL : L ≠ []) (hloc : v'.ownBlock = (F y).ownBlock ∨ ∃ g, v'.ownBlock = some g ∧ w0.heap.size ≤ g) :
    ∃ w2, (Instr.mapUpdate 130 (.map (some b)) (.int .i64 y) v').run Try.prog w = .ok () w2 ∧ GrD w2 base b (n + 1) (D.put (.int .i64 y) (.held v')) (fun z => if z = y then v' else F z) (fun z => if z = y then L else G z) ∧ w.grownBy w2 (some b) := by
  have hbF : some b ≠ (F y).ownBlock := fun e => by have := ((h.row y hy).lt b e.symm).1; have := h.lt; omega
  have hm := h.map.kept hg hbF
  have hkey := keyOf_int_mk (P := Try.prog) Try.underlying3 (inK_wf hy)
  obtain ⟨w2, hrun, hm2, hg2⟩ := hm.update keyedI Try.underlying130 hn hkey (val := v') rfl
  have hik : WideAt.IsKeyLit (Lit.int .i64 y) := by first | trivial | exact Maps.isKeyLit_of_keyOf hkey | simp [WideAt.IsKeyLit]
  have hne : ∀ z, z ≠ y → (Lit.int .i64 z) ≠ (Lit.int .i64 y) := fun z hz e => hz (by cases e; rfl)
  have hrowb : ∀ (x : World) (v : Value) (k : Nat) (xs : List Value), x.ownsRow base 42 3 v k xs → v.ownBlock = none ∨ v.ownBlock ≠ some b := fun x v k xs hr => by
    cases hv : v.ownBlock with
    | none => exact .inl rfl
    | some j => exact .inr fun e => by cases e; have := (hr.lt b hv).1; have := h.lt; omega
  refine ⟨w2, hrun, ⟨hm2, fun z hz => ?_, fun z hz => ?_, fun z z' j hz hz' hne' hj => ?_, fun z hz => ?_, fun k hk => ?_, h.lt⟩, hg2⟩
  · by_cases e : z = y
    · subst e; rw [atKey_put_same hm.isMap hik]; simp
    · rw [atKey_put_other (hne z e), h.at_ z hz]; simp [e]
  · by_cases e : z = y
    · subst e; simp only [if_true]; exact hrow.kept hg2 (hrowb _ _ _ _ hrow)
    · simp only [if_neg e]
      have hr := h.row z hz
      refine (hr.kept hg ?_).kept hg2 (hrowb _ _ _ _ hr)
      cases hv : (F z).ownBlock with
      | none => exact .inl rfl
      | some j => exact .inr fun e' => h.apart z y j hz hy e hv e'.symm
  · by_cases e : z = y
    · subst e
      have e2 : ¬ z' = z := fun e2 => hne' e2.symm
      simp only [if_true, if_neg e2] at hj ⊢
      rcases hloc with hl | ⟨g, hl, hge⟩
      · rw [hl] at hj; exact h.apart z z' j hz hz' hne' hj
      · rw [hl] at hj; cases hj
        intro hj'
        have := ((h.row z' hz').lt _ hj').2
        omega
    · by_cases e' : z' = y
      · subst e'
        simp only [if_neg e, if_true] at hj ⊢
        rcases hloc with hl | ⟨g, hl, hge⟩
        · rw [hl]; exact fun hj' => h.apart z' z j hz' hz (fun e => hne' e.symm) hj' hj
        · rw [hl]; intro hj'; cases hj'
          have := ((h.row z hz).lt _ hj).2
          omega
      · simp only [if_neg e, if_neg e'] at hj ⊢
        exact h.apart z z' j hz hz' hne' hj
  · by_cases e : z = y
    · subst e; rw [has_put_same hm.isMap hik]; simp [hL]
    · rw [has_put_other (hne z e), h.has z hz]; simp [e]
  · by_cases e : k = .int .i64 y
    · exact ⟨y, hy, e⟩
    · rw [has_put_other e] at hk; exact h.only k hk
end Go.Proofs.Ytlnjgdnnpkloeaa

/- Layer 6: rows.put. -/
namespace Go.Proofs.Ytlnjgdnnpkloeaa
set_option linter.unusedSimpArgs false
set_option linter.unusedVariables false
open Go.RowKit Go.Shelf Go.Maps

/-- The spans of L at each Y. -/
def GrOf (L : List SpT) (y : Int) : List SpT := L.filter fun s => s.y == y
theorem GrOf_put (L : List SpT) (s : SpT) : (fun z => if z = s.y then GrOf L s.y ++ [s] else GrOf L z) = GrOf (L ++ [s]) := by
  funext z
  unfold GrOf
  rw [List.filter_append]
  by_cases h : z = s.y
  · subst h; simp
  · have : ¬ s.y = z := fun e => h e.symm
    simp [h, this]
theorem GrOf_len (L : List SpT) (y : Int) : (GrOf L y).length ≤ L.length := List.length_filter_le _ _

theorem GrD.look2 {w0 w : World} {base b n : Nat} {D : DataW Value} {F : Int → Value} {G : Int → List SpT} (h : GrD w0 base b n D F G) {y : Int} (hy : inK y) (hg : w0.grownBy w (F y).ownBlock) :
    (Instr.lookup 130 (.map (some b)) (.int .i64 y) false).run Try.prog w = .ok (F y) w := by
  have hbF : some b ≠ (F y).ownBlock := fun e => by have := ((h.row y hy).lt b e.symm).1; have := h.lt; omega
  have hm := h.map.kept hg hbF
  obtain ⟨v, ps, hrun, hv⟩ := hm.lookup keyedI Try.underlying130 (Try.zeroValue38 w) (zd := .held nilS) (zp := []) rfl (keyOf_int_mk Try.underlying3 (inK_wf hy))
  rw [h.at_ y hy] at hv
  simp only [heldR, Option.some.injEq, Prod.mk.injEq, DataW.held.injEq] at hv
  rw [hrun, hv.1]

/-- A row's block behind a put: the same, or a new one. -/
def Loc (v v' : Value) (n : Nat) : Prop := v'.ownBlock = v.ownBlock ∨ ∃ g, v'.ownBlock = some g ∧ n ≤ g
/-- As long as a flag is down. -/
def KeepsIf (b : Bool) (p : Prop) : Prop := b = false → p
/-- What put does. -/
def PutP (base b n : Nat) (F : Int → Value) (L : List SpT) (s : SpT) (w : World) (e : Ending) (w' : World) : Prop :=
  e = .returned (.tuple #[]) ∧ ∃ v' D', GrD w' base b (n + 1) D' (fun z => if z = s.y then v' else F z) (GrOf (L ++ [s])) ∧ Loc (F s.y) v' w.heap.size ∧ Turned (fun k => k = b ∨ (F s.y).ownBlock = some k) w w'

set_option maxRecDepth 100000 in
set_option maxHeartbeats 1000000 in
theorem put_any (s : SpT) (hy : inK s.y) (pr base b n : Nat) (D : DataW Value) (F : Int → Value) (L : List SpT) (hn : n < 1000000000) (hL : L.length < 1000000000) (w : World) (h : GrD w base b n D F (GrOf L)) (hbase : base ≤ w.heap.size)
    (hp : w.heap[pr]? = some (.cells #[.map (some b)] 132 (0, 0))) (hpF : (F s.y).ownBlock ≠ some pr) (hpb : pr ≠ b) :
    Calls Try.prog 64 #[.pointer (some ⟨pr, 0, none⟩), s.val] w (PutP base b n F L s w) := by
  have HH := Lib.hid h
  have HY := Lib.hid hy
  have HP := Lib.hid hp
  have HPF := Lib.hid (And.intro hpF hpb)
  have HS := Lib.hid (St.start w)
  have HN := Lib.hid (And.intro hn hL)
  have HB := Lib.hid hbase
  obtain ⟨S, hS⟩ : ∃ S, S = s := ⟨_, rfl⟩
  rw [← hS]
  rw [← hS] at HY HPF
  have HSS := Lib.hid hS
  obtain ⟨sy, sf, st⟩ := s
  unfold SpT.val
  rw [HSS.out]
  simp only
  rw [← HSS.out]
  clear h hy hp hpF hpb hn hL hbase hS
  go_enter Try.func64, Try.ntmps64
  repeat ((fail_if_success (with_reducible refine stop_at (id := 1) ?_)); (first | go_values | go_skip | go_guarded | go_step | go_upon | go_back | (simp only [Int.not_lt, Int.not_le] at *; go_simp) | (go_values <;> (try go_simp)) | (go_ite <;> go_prune <;> (try go_simp)) | (split <;> (first | (rename_i hx; exact (hx _ rfl).elim) | go_prune))))
  obtain ⟨p1, hp1⟩ : ∃ p1, w.heap.size = p1 := ⟨_, rfl⟩
  have hs_ := (HS.out.alloc (.cells #[.int .i64 sy, .int .i64 sf, .int .i64 st] 42))
  obtain ⟨w1, hw_⟩ : ∃ w1 : World, (w.alloc (.cells #[.int .i64 sy, .int .i64 sf, .int .i64 st] 42)) = w1 := ⟨_, rfl⟩
  rw [hw_] at hs_
  try simp only [World.size_alloc] at hs_
  have HS := Lib.hid hs_
  rw [hw_]
  clear hw_ hs_
  have hlt1 : w.heap.size < w1.heap.size := HS.out.lt 0 rfl
  have h1 := HH.out.kept HS.out.low
  have hyy : inK sy := by have := HY.out; rw [HSS.out] at this; exact this
  have hrow := h1.row sy hyy
  have hown : ∀ j, (F sy).ownBlock = some j → base ≤ j ∧ j < w.heap.size := fun j hj => (HH.out.row sy hyy).lt j hj
  have HLK := Lib.hid (fun w' (hC : w1.grownBy w' (F sy).ownBlock) => h1.look2 hyy (w := w') hC : ∀ w', w1.grownBy w' (F sy).ownBlock → (Instr.lookup 130 (.map (some b)) (.int .i64 sy) false).run Try.prog w' = .ok (F sy) w')
  have HPR := Lib.hid (fun w' (hC : w1.grownBy w' (F sy).ownBlock) => (hC.block pr (Nat.lt_trans (block_lt HP.out) hlt1) (fun e => HPF.out.1 (by rw [HSS.out]; exact e.symm))).trans ((HS.out.low.block pr (block_lt HP.out)).trans HP.out))
  have HBX := Lib.hid (fun w' (hC : w1.grownBy w' (F sy).ownBlock) => (hC.block w.heap.size hlt1 (fun e => by have := (hown _ e.symm).2; omega)).trans (HS.out.blockAt 0 rfl))
  have HOW := Lib.hid (show ∀ j, (F sy).ownBlock = some j → base ≤ j ∧ j < w1.heap.size from fun j hj => ⟨(hown j hj).1, Nat.lt_trans (hown j hj).2 hlt1⟩)
  have HG1 := Lib.hid h1
  have HRW := Lib.hid hrow
  have HYY := Lib.hid hyy
  have HLT1 := Lib.hid hlt1
  clear h1 hrow hyy hlt1 hown
  simp only [hp1] at HBX ⊢
  have HNN := Lib.hid (show (GrOf L sy).length + 1 ≤ maxLen ∧ ((GrOf L sy).length + 1) * 24 ≤ 140737488355328 by
    have h1 := GrOf_len L sy
    have h2 := HN.out.2
    exact ⟨by unfold maxLen; omega, by omega⟩)
  refine (wpIn_wide (n := 0)).1 ?_
  obtain ⟨i0, hi, hz0, hz1, hz2⟩ := info_parts infoS
  have HI := Lib.hid (And.intro hi (And.intro hz0 (And.intro hz1 hz2)))
  clear hi hz0 hz1 hz2
  apply wp_region_store 16 15 (fun b_ w_ => KeepsIf b_ (w_.ownsRow base 42 3 (F sy) (GrOf L sy).length ((GrOf L sy).flatMap encS))) (Rl := [(eqv _), (eqv _), (eqv _), (eqv _), (eqv _), (eqv _), (eqv _), (eqv _), (eqv _), (eqv _), (eqv _), (eqv _), (eqv _), (eqv _), (fun v_ w_ => ∃ b, v_ = .slice (some ⟨b, 0, none⟩) 1 1 ∧ (F sy).ownBlock ≠ some b ∧ w_.heap[b]? = some (.cells #[.int .i64 sy, .int .i64 sf, .int .i64 st] 42 (0, 0))), (fun v_ w_ => w_.ownsRow base 42 3 v_ (GrOf L sy ++ [S]).length ((GrOf L sy ++ [S]).flatMap encS) ∧ Loc (F sy) v_ w1.heap.size)]) (C := (fun x y => x.grownBy y (F sy).ownBlock)) (C0 := (fun x y => Below x.heap.size x y))
  case hm => kernel_rfl
  case hk => rfl
  case hCr => exact (fun x => World.grownBy.refl x _)
  case hCt => intro _ _ _; exact (fun h k => grownTrans h k)
  case h00 => exact (fun x => Below.refl _ x)
  case h0C => intro _ _; exact fun h => ⟨h.os, h.tape, h.output, h.size, fun k hk _ => h.block k hk⟩
  case hst => exact ⟨fun _ _ _ _ h => h, fun _ _ _ _ h => h, fun _ _ _ _ h => h, fun _ _ _ _ h => h, fun _ _ _ _ h => h, fun _ _ _ _ h => h, fun _ _ _ _ h => h, fun _ _ _ _ h => h, fun _ _ _ _ h => h, fun _ _ _ _ h => h, fun _ _ _ _ h => h, fun _ _ _ _ h => h, fun _ _ _ _ h => h, fun _ _ _ _ h => h, fun v x y hC ⟨b, h1, h2, h3⟩ => ⟨b, h1, h2, (hC.block b (block_lt h3) h2.symm).trans h3⟩, fun v x y hC ⟨h1, h2⟩ => ⟨ownsRow_below h1 hC, h2⟩, trivial⟩
  case hfo => kernel_rfl
  case ht => kernel_rfl
  case hC0 => exact (⟨rfl, rfl, rfl, Nat.le_refl _, fun _ _ _ => rfl⟩)
  case hsk => decide
  case hso => decide
  case hsg => rfl
  case hsteps =>
    refine ⟨?_, ?_, ?_, ?_, ?_, ?_, ?_, ?_, ?_, ?_, ?_, ?_, ?_, ?_, ?_, ?_, trivial⟩
    · -- 0
      intro a' w' b_ hA hC hJ hB1 hB2 hD
      skip
      clear hB1 hB2
      have s0 : a'.tmps[0]? = some _ := (hA.at 0 (by kernel_rfl)).trans rfl
      clear hA hD
      refine stepOk_plain rfl ?_
      intro K hK
      gi_wp2
      exact hK _ _ rfl ⟨(fun x => Below.refl _ x) _, hJ⟩
    · -- 1
      intro a' w' b_ hA hC hJ hB1 hB2 hD
      skip
      clear hB1 hB2
      obtain ⟨u4, s4, r4⟩ := hD ⟨0, .data⟩ (by simp) rfl _ rfl
      replace r4 : u4 = _ := r4
      subst r4
      clear hA hD
      refine stepOk_plain rfl ?_
      intro K hK
      gi_wp2
      exact hK _ _ rfl ⟨(fun x => Below.refl _ x) _, hJ⟩
    · -- 2
      intro a' w' b_ hA hC hJ hB1 hB2 hD
      skip
      clear hB1 hB2
      obtain ⟨u5, s5, r5⟩ := hD ⟨1, .data⟩ (by simp) rfl _ rfl
      replace r5 : u5 = _ := r5
      subst r5
      clear hA hD
      refine stepOk_plain rfl ?_
      intro K hK
      gi_wp2
      exact hK _ _ rfl ⟨(fun x => Below.refl _ x) _, hJ⟩
    · -- 3
      intro a' w' b_ hA hC hJ hB1 hB2 hD
      skip
      clear hB1 hB2
      obtain ⟨u6, s6, r6⟩ := hD ⟨2, .data⟩ (by simp) rfl _ rfl
      replace r6 : u6 = _ := r6
      subst r6
      have b1 := cell_of_block (k := 0) (HPR.out w' hC) rfl
      clear hA hD
      refine stepOk_plain rfl ?_
      intro K hK
      gi_wp2
      exact hK _ _ rfl ⟨(fun x => Below.refl _ x) _, hJ⟩
    · -- 4
      intro a' w' b_ hA hC hJ hB1 hB2 hD
      skip
      clear hB1 hB2
      have s3 : a'.tmps[3]? = some _ := (hA.at 3 (by kernel_rfl)).trans rfl
      clear hA hD
      refine stepOk_plain rfl ?_
      intro K hK
      gi_wp2
      exact hK _ _ rfl ⟨(fun x => Below.refl _ x) _, hJ⟩
    · -- 5
      intro a' w' b_ hA hC hJ hB1 hB2 hD
      skip
      clear hB1 hB2
      obtain ⟨u8, s8, r8⟩ := hD ⟨4, .data⟩ (by simp) rfl _ rfl
      replace r8 : u8 = _ := r8
      subst r8
      have b1 := cell_of_block (k := 0) (HBX.out w' hC) rfl
      clear hA hD
      refine stepOk_plain rfl ?_
      intro K hK
      gi_wp2
      exact hK _ _ rfl ⟨(fun x => Below.refl _ x) _, hJ⟩
    · -- 6
      intro a' w' b_ hA hC hJ hB1 hB2 hD
      obtain rfl := hB1 (by kernel_rfl)
      clear hB1 hB2
      have s0 : a'.tmps[0]? = some _ := (hA.at 0 (by kernel_rfl)).trans rfl
      clear hA hD
      refine stepOk_plain rfl ?_
      intro K hK
      gi_wp2
      exact hK _ _ rfl ⟨(fun x => Below.refl _ x) _, hJ⟩
    · -- 7
      intro a' w' b_ hA hC hJ hB1 hB2 hD
      obtain rfl := hB1 (by kernel_rfl)
      clear hB1 hB2
      obtain ⟨u10, s10, r10⟩ := hD ⟨6, .data⟩ (by simp) rfl _ rfl
      replace r10 : u10 = _ := r10
      subst r10
      clear hA hD
      refine stepOk_plain rfl ?_
      intro K hK
      gi_wp2
      exact hK _ _ rfl ⟨(fun x => Below.refl _ x) _, hJ⟩
    · -- 8
      intro a' w' b_ hA hC hJ hB1 hB2 hD
      obtain rfl := hB1 (by kernel_rfl)
      clear hB1 hB2
      obtain ⟨u11, s11, r11⟩ := hD ⟨7, .data⟩ (by simp) rfl _ rfl
      replace r11 : u11 = _ := r11
      subst r11
      clear hA hD
      refine stepOk_plain rfl ?_
      intro K hK
      gi_wp2
      exact hK _ _ rfl ⟨(fun x => Below.refl _ x) _, hJ⟩
    · -- 9
      intro a' w' b_ hA hC hJ hB1 hB2 hD
      obtain rfl := hB1 (by kernel_rfl)
      clear hB1 hB2
      obtain ⟨u12, s12, r12⟩ := hD ⟨8, .data⟩ (by simp) rfl _ rfl
      replace r12 : u12 = _ := r12
      subst r12
      have b1 := cell_of_block (k := 0) (HPR.out w' hC) rfl
      clear hA hD
      refine stepOk_plain rfl ?_
      intro K hK
      gi_wp2
      exact hK _ _ rfl ⟨(fun x => Below.refl _ x) _, hJ⟩
    · -- 10
      intro a' w' b_ hA hC hJ hB1 hB2 hD
      obtain rfl := hB1 (by kernel_rfl)
      clear hB1 hB2
      have s3 : a'.tmps[3]? = some _ := (hA.at 3 (by kernel_rfl)).trans rfl
      clear hA hD
      refine stepOk_plain rfl ?_
      intro K hK
      gi_wp2
      exact hK _ _ rfl ⟨(fun x => Below.refl _ x) _, hJ⟩
    · -- 11
      intro a' w' b_ hA hC hJ hB1 hB2 hD
      obtain rfl := hB1 (by kernel_rfl)
      clear hB1 hB2
      obtain ⟨u14, s14, r14⟩ := hD ⟨10, .data⟩ (by simp) rfl _ rfl
      replace r14 : u14 = _ := r14
      subst r14
      have b1 := cell_of_block (k := 0) (HBX.out w' hC) rfl
      clear hA hD
      refine stepOk_plain rfl ?_
      intro K hK
      gi_wp2
      exact hK _ _ rfl ⟨(fun x => Below.refl _ x) _, hJ⟩
    · -- 12
      intro a' w' b_ hA hC hJ hB1 hB2 hD
      obtain rfl := hB1 (by kernel_rfl)
      clear hB1 hB2
      obtain ⟨u13, s13, r13⟩ := hD ⟨9, .data⟩ (by simp) rfl _ rfl
      replace r13 : u13 = _ := r13
      subst r13
      obtain ⟨u15, s15, r15⟩ := hD ⟨11, .data⟩ (by simp) rfl _ rfl
      replace r15 : u15 = _ := r15
      subst r15
      have b1 := HLK.out w' hC
      clear hA hD
      refine stepOk_plain rfl ?_
      intro K hK
      gi_wp2
      exact hK _ _ rfl ⟨(fun x => Below.refl _ x) _, hJ⟩
    · -- 13
      intro a' w' b_ hA hC hJ hB1 hB2 hD
      obtain rfl := hB1 (by kernel_rfl)
      clear hB1 hB2
      have s3 : a'.tmps[3]? = some _ := (hA.at 3 (by kernel_rfl)).trans rfl
      have b0 := cell_of_block (k := 0) (HBX.out w' hC) rfl; have b1 := cell_of_block (k := 1) (HBX.out w' hC) rfl; have b2 := cell_of_block (k := 2) (HBX.out w' hC) rfl
      clear hA hD
      refine stepOk_plain rfl ?_
      intro K hK
      gi_wp2
      exact hK _ _ rfl ⟨(fun x => Below.refl _ x) _, hJ⟩
    · -- 14
      intro a' w' b_ hA hC hJ hB1 hB2 hD
      obtain rfl := hB1 (by kernel_rfl)
      clear hB1 hB2
      obtain ⟨u17, s17, r17⟩ := hD ⟨13, .data⟩ (by simp) rfl _ rfl
      replace r17 : u17 = _ := r17
      subst r17
      clear hA hD
      refine stepOk_plain rfl ?_
      intro K hK
      gi_wp2
      exact hK _ _ ⟨w'.heap.size, rfl, fun e => by have := (HOW.out _ e).2; have := hC.size; omega, newBlock _ _ _ rfl⟩ ⟨(Below.refl _ _).alloc (Nat.le_refl _) _, fun hb => (hJ hb).alloc _⟩
    · -- 15
      intro a' w' b_ hA hC hJ hB1 hB2 hD
      obtain rfl := hB2 rfl
      clear hB1 hB2
      obtain ⟨u16, s16, r16⟩ := hD ⟨12, .data⟩ (by simp) rfl _ rfl
      replace r16 : u16 = _ := r16
      subst r16
      obtain ⟨u18, s18, r18⟩ := hD ⟨14, .data⟩ (by simp) rfl _ rfl
      replace r18 : (fun v_ w_ => ∃ b, v_ = .slice (some ⟨b, 0, none⟩) 1 1 ∧ (F sy).ownBlock ≠ some b ∧ w_.heap[b]? = some (.cells #[.int .i64 sy, .int .i64 sf, .int .i64 st] 42 (0, 0))) u18 w' := r18
      obtain ⟨g, hg18, hbn, hbk⟩ := r18; subst hg18
      clear hA hD
      refine stepOk_plain rfl ?_
      intro K hK
      have H := HI.out; obtain ⟨v', w'', hrun, hr1, hr2, _, hr4⟩ := run_append_own_at (P := Try.prog) w' base 38 38 42 i0 (.agg #[.int .i64 0, .int .i64 0, .int .i64 0]) 3 24 Try.underlying38 H.1 H.2.1 H.2.2.1 H.2.2.2 rfl (by decide) (F sy) (GrOf L sy).length ((GrOf L sy).flatMap encS) (hJ rfl) ⟨g, 0, none⟩ 1 1 (encS S) rfl (by rw [HSS.out]; exact fun j x hx => cells_of_block hbk j x (by simpa [encS] using hx)) (encS_one S) HNN.out.1 HNN.out.2 (Nat.le_trans (Nat.le_trans HB.out (Nat.le_of_lt HLT1.out)) hC.size); refine opIn_append _ _ _ rfl (by simp [Act.eval, s16]) (by simp [Act.eval, s18]) hrun (hK v' w'' ⟨?_, ?_⟩ ⟨hr2, fun h => by cases h⟩); (rw [List.length_append, List.flatMap_append]; simpa using hr1); (rcases hr4 with h | h; exact .inl h; exact .inr ⟨_, h, hC.size⟩)
      skip
  case hJ0 => exact fun _ => HRW.out.drew
  case hend =>
    intro w2 hC hJ
    simp only [EndFrom, eqv, forall_eq, Act.put, List.length_cons, List.length_nil, List.drop_succ_cons, List.drop_zero, Nat.reduceAdd, List.setIfInBounds_toArray, List.set_cons_succ, List.set_cons_zero]
    rintro v1 - v2 ⟨hr1, hr2⟩
    obtain ⟨w3, hrun, hg3, hw3⟩ := HG1.out.put (w := w2) (y := sy) (v' := v2) (L := GrOf L sy ++ [S]) HYY.out (by have := HN.out.1; unfold maxLen; omega) hC hr1 (by simp) hr2
    have hloc : Loc (F S.y) v2 w.heap.size := by
      rw [show S.y = sy by rw [HSS.out]]
      rcases hr2 with h | ⟨g, h, hge⟩
      · exact .inl h
      · exact .inr ⟨g, h, by have := HLT1.out; omega⟩
    have htur : Turned (fun k => k = b ∨ (F S.y).ownBlock = some k) w w3 := by
      rw [show S.y = sy by rw [HSS.out]]
      refine (((Turned.of_grown (row := none) ⟨HS.out.low.os, HS.out.low.tape, HS.out.low.output, HS.out.low.size, fun k hk _ => HS.out.low.block k hk⟩).trans (Turned.of_grown hC)).trans (Turned.of_grown hw3)).mono fun k hk h => ?_
      rcases h with (h | h) | h
      · cases h
      · exact .inr h.symm
      · exact .inl (Option.some.inj h)
    have hgr : GrD w3 base b (n + 1) (D.put (.int .i64 sy) (.held v2)) (fun z => if z = S.y then v2 else F z) (GrOf (L ++ [S])) := by
      have e : S.y = sy := by rw [HSS.out]
      rw [← GrOf_put, e]
      exact hg3
    have HRES := Lib.hid (And.intro hgr (And.intro hloc htur))
    clear hgr hloc htur hg3 hw3 hr1 hr2 hC hJ
    gi_wp2
    go_end0
    exact ⟨rfl, v2, _, HRES.out⟩
end Go.Proofs.Ytlnjgdnnpkloeaa

/- slices.SortFunc at a row of structs, with what it leaves alone; slices.Sort at a row of ints. -/
namespace Go.Proofs.Ytlnjgdnnpkloeaa
set_option linter.unusedSimpArgs false
set_option linter.unusedVariables false
open Go.RowKit Go.Shelf

section
variable {α : Type} [Inhabited α] {P : Program} {ρ : Ren}
end

section
variable {P : Program} {ρ : Ren}
end
end Go.Proofs.Ytlnjgdnnpkloeaa

/- Layer 6: sorted. -/
namespace Go.Proofs.Ytlnjgdnnpkloeaa
set_option linter.unusedSimpArgs false
set_option linter.unusedVariables false
open Go.RowKit Go.Shelf Go.Maps

theorem rowI : RowT Try.prog 25 3 1 8 := .of (z := .int .i64 0) Try.underlying25 (by kernel_rfl) rfl (by decide)
def encI (y : Int) : List Value := [.int .i64 y]
theorem encI_len (y : Int) : (encI y).length = 1 := rfl
theorem encI_one (y : Int) : ∀ u ∈ encI y, u.oneCell' = true := by
  intro u hu
  simp [encI] at hu
  subst hu
  rfl
/-- Other blocks are written. -/
theorem StO.other {α : Type} {w0 x y : World} {its : List It} {base : Nat} {e : TypeId} {k : Nat} {enc : α → List Value} {v : Value} {L : List α} {r : Nat} (h : StO w0 its base e k enc v L x) (hg : x.grownBy y (some r)) (h0 : w0.heap.size ≤ r) (ht : ∀ i ∈ its, i.top ≤ r) (hv : v.ownBlock ≠ some r) : StO w0 its base e k enc v L y :=
  ⟨h.st.grown (base := r) (fun j e => by cases e; exact Nat.le_refl _) h0 ht hg, h.row.kept hg (.inr hv), h.low, h.top, Nat.le_trans h.hi hg.size⟩
theorem sameKey_int (a b : Int) : (Lit.int .i64 a).sameKey (.int .i64 b) = decide (a = b) := by
  by_cases h : a = b
  · subst h; simp [Lit.sameKey]
  · simp [Lit.sameKey, h]

/-- The keys. -/
structure KeysP (D : DataW Value) (ks : List Int) (left : Lit → Bool) : Prop where
  left_ : ∀ y, left (.int .i64 y) = true ↔ Maps.has D (.int .i64 y) = true ∧ y ∉ ks
  nd : ks.Nodup
  has : ∀ y ∈ ks, Maps.has D (.int .i64 y) = true
theorem KeysP.step {D : DataW Value} {ks : List Int} {left : Lit → Bool} (h : KeysP D ks left) {x : Int} (hx : left (.int .i64 x) = true) : KeysP D (ks ++ [x]) (fun z => left z && !z.sameKey (.int .i64 x)) := by
  obtain ⟨h1, h2⟩ := (h.left_ x).1 hx
  refine ⟨fun y => ?_, List.nodup_append.2 ⟨h.nd, by simp, fun a ha b hb => ?_⟩, fun y hy => ?_⟩
  · rw [Bool.and_eq_true, h.left_ y, sameKey_int]
    simp only [Bool.not_eq_true', decide_eq_false_iff_not, List.mem_append, List.mem_singleton, not_or]
    constructor
    · rintro ⟨⟨a, b⟩, c⟩; exact ⟨a, b, c⟩
    · rintro ⟨a, b, c⟩; exact ⟨⟨a, b⟩, c⟩
  · simp at hb; subst hb; exact fun e => h2 (by rw [← e]; exact ha)
  · rcases List.mem_append.1 hy with hy | hy
    · exact h.has y hy
    · simp at hy; subst hy; exact h1

end Go.Proofs.Ytlnjgdnnpkloeaa

/- Layer 6, plain: the row of spans of a field of truths, place by place. -/
namespace Go.Proofs.Ytlnjgdnnpkloeaa
set_option linter.unusedSimpArgs false
set_option linter.unusedVariables false
open Go.RowKit Go.Shelf

/-- L is the row of spans of the places of a box of which F holds. -/
structure RowOf (x1 y1 : Int) (n m : Nat) (F : Nat → Nat → Bool) (L : List SpT) : Prop where
  row : RowP L
  box : ∀ s ∈ L, y1 ≤ s.y ∧ s.y < y1 + n ∧ x1 ≤ s.f ∧ s.t < x1 + m
  has : ∀ p, hasB L p = true ↔ (y1 ≤ p.y ∧ p.y < y1 + n) ∧ (x1 ≤ p.x ∧ p.x < x1 + m) ∧ F (p.y - y1).toNat (p.x - x1).toNat = true
theorem RowOf.unique {x1 y1 : Int} {n m : Nat} {F : Nat → Nat → Bool} {L M : List SpT} (h : RowOf x1 y1 n m F L) (k : RowOf x1 y1 n m F M) : L = M :=
  rowP_unique h.row k.row fun p => (h.has p).trans (k.has p).symm
/-- So far: j rows, and i places. -/
structure RowTo (x1 y1 : Int) (m : Nat) (F : Nat → Nat → Bool) (L : List SpT) (j i : Nat) : Prop where
  row : RowP L
  box : ∀ s ∈ L, y1 ≤ s.y ∧ s.y ≤ y1 + j ∧ x1 ≤ s.f ∧ s.t < x1 + m ∧ (s.y = y1 + j → s.t < x1 + i)
  has : ∀ p, hasB L p = true ↔ (x1 ≤ p.x ∧ p.x < x1 + m) ∧ y1 ≤ p.y ∧ (p.y < y1 + j ∨ p.y = y1 + j ∧ p.x < x1 + i) ∧ F (p.y - y1).toNat (p.x - x1).toNat = true
/-- Is a span open? -/
def OpenTo (x1 y1 : Int) (L : List SpT) (j i : Nat) : Bool → Prop
  | true => ∃ L0 s, L = L0 ++ [s] ∧ s.y = y1 + (j : Int) ∧ s.t = x1 + (i : Int) - 1
  | false => ∀ s ∈ L, s.y = y1 + (j : Int) → s.t + 1 < x1 + (i : Int)
theorem hasB_app (L M : List SpT) (p : PtT) : hasB (L ++ M) p = (hasB L p || hasB M p) := by simp [hasB]
theorem hasB_one (s : SpT) (p : PtT) : hasB [s] p = inB p s := by simp [hasB]
variable {x1 y1 : Int} {m : Nat} {F : Nat → Nat → Bool} {L : List SpT} {j i : Nat}
theorem RowTo.skip (h : RowTo x1 y1 m F L j i) (hi : i < m) (hF : F j i = false) : RowTo x1 y1 m F L j (i + 1) ∧ OpenTo x1 y1 L j (i + 1) false := by
  refine ⟨⟨h.row, fun s hs => ?_, fun p => ?_⟩, fun s hs e => ?_⟩
  · obtain ⟨a, b, c, d, e⟩ := h.box s hs
    exact ⟨a, b, c, d, fun e' => by have := e e'; omega⟩
  · rw [h.has p]
    constructor
    · rintro ⟨a, b, c, d⟩
      exact ⟨a, b, by omega, d⟩
    · rintro ⟨a, b, c, d⟩
      refine ⟨a, b, ?_, d⟩
      rcases c with c | ⟨c1, c2⟩
      · exact .inl c
      · refine .inr ⟨c1, ?_⟩
        refine Int.not_le.1 fun hle => ?_
        rw [show (p.y - y1).toNat = j by omega, show (p.x - x1).toNat = i by omega, hF] at d
        cases d
  · have := (h.box s hs).2.2.2.2 e
    omega
theorem RowTo.open (h : RowTo x1 y1 m F L j i) (hi : i < m) (hF : F j i = true) {L0 : List SpT} {s : SpT} (hL : L = L0 ++ [s]) (hy : s.y = y1 + (j : Int)) (ht : s.t = x1 + (i : Int) - 1) :
    RowTo x1 y1 m F (L0 ++ [⟨s.y, s.f, x1 + (i : Int)⟩]) j (i + 1) ∧ OpenTo x1 y1 (L0 ++ [⟨s.y, s.f, x1 + (i : Int)⟩]) j (i + 1) true := by
  subst hL
  obtain ⟨h1, h2, h3⟩ := List.pairwise_append.1 h.row.ord
  have hs := h.row.sp s (by simp)
  obtain ⟨b1, b2, b3, b4, b5⟩ := h.box s (by simp)
  have hbefore : ∀ q ∈ L0, q.y < s.y ∨ q.y = s.y ∧ q.t + 1 < s.f := fun q hq => by
    have := h3 q hq s (by simp); unfold ordP at this; exact this
  refine ⟨⟨⟨fun q hq => ?_, ?_⟩, fun q hq => ?_, fun p => ?_⟩, _, _, rfl, hy, by simp; omega⟩
  · rcases List.mem_append.1 hq with hq | hq
    · exact h.row.sp q (by simp [hq])
    · simp at hq; subst hq; simp only; omega
  · refine List.pairwise_append.2 ⟨h1, List.pairwise_singleton _ _, fun q hq r hr => ?_⟩
    simp at hr; subst hr
    have := hbefore q hq
    unfold ordP; simp only; omega
  · rcases List.mem_append.1 hq with hq | hq
    · obtain ⟨a, b, c, d, e⟩ := h.box q (by simp [hq])
      exact ⟨a, b, c, d, fun e' => by have := e e'; omega⟩
    · simp at hq; subst hq
      simp only
      exact ⟨b1, b2, b3, by omega, fun _ => by omega⟩
  · have hp := h.has p
    rw [hasB_app, hasB_one, Bool.or_eq_true] at hp ⊢
    simp only [inB, decide_eq_true_eq] at hp ⊢
    constructor
    · rintro (a | ⟨a1, a2, a3⟩)
      · obtain ⟨c1, c2, c3, c4⟩ := hp.1 (.inl a)
        exact ⟨c1, c2, by omega, c4⟩
      · by_cases e : p.x ≤ s.t
        · obtain ⟨c1, c2, c3, c4⟩ := hp.1 (.inr ⟨a1, a2, e⟩)
          exact ⟨c1, c2, by omega, c4⟩
        · refine ⟨by omega, by omega, by omega, ?_⟩
          rw [show (p.y - y1).toNat = j by omega, show (p.x - x1).toNat = i by omega]
          exact hF
    · rintro ⟨c1, c2, c3, c4⟩
      by_cases e : p.y = y1 + (j : Int) ∧ p.x = x1 + (i : Int)
      · right; omega
      · rcases hp.2 ⟨c1, c2, by omega, c4⟩ with a | a
        · exact .inl a
        · right; omega
theorem RowTo.new (h : RowTo x1 y1 m F L j i) (hi : i < m) (hF : F j i = true) (ho : OpenTo x1 y1 L j i false) :
    RowTo x1 y1 m F (L ++ [⟨y1 + (j : Int), x1 + (i : Int), x1 + (i : Int)⟩]) j (i + 1) ∧ OpenTo x1 y1 (L ++ [⟨y1 + (j : Int), x1 + (i : Int), x1 + (i : Int)⟩]) j (i + 1) true := by
  refine ⟨⟨⟨fun q hq => ?_, ?_⟩, fun q hq => ?_, fun p => ?_⟩, _, _, rfl, rfl, by simp; omega⟩
  · rcases List.mem_append.1 hq with hq | hq
    · exact h.row.sp q hq
    · simp at hq; subst hq; simp
  · refine List.pairwise_append.2 ⟨h.row.ord, List.pairwise_singleton _ _, fun q hq r hr => ?_⟩
    simp at hr; subst hr
    have h1 := h.box q hq
    have h2 := ho q hq
    unfold ordP; simp only; omega
  · rcases List.mem_append.1 hq with hq | hq
    · obtain ⟨a, b, c, d, e⟩ := h.box q hq
      exact ⟨a, b, c, d, fun e' => by have := e e'; omega⟩
    · simp at hq; subst hq
      simp only
      exact ⟨by omega, by omega, by omega, by omega, fun _ => by omega⟩
  · have hp := h.has p
    rw [hasB_app, hasB_one, Bool.or_eq_true, hp]
    simp only [inB, decide_eq_true_eq]
    constructor
    · rintro (⟨c1, c2, c3, c4⟩ | ⟨a1, a2, a3⟩)
      · exact ⟨c1, c2, by omega, c4⟩
      · refine ⟨by omega, by omega, by omega, ?_⟩
        rw [show (p.y - y1).toNat = j by omega, show (p.x - x1).toNat = i by omega]
        exact hF
    · rintro ⟨c1, c2, c3, c4⟩
      by_cases e : p.y = y1 + (j : Int) ∧ p.x = x1 + (i : Int)
      · right; omega
      · left; exact ⟨c1, c2, by omega, c4⟩
theorem RowTo.down (h : RowTo x1 y1 m F L j m) : RowTo x1 y1 m F L (j + 1) 0 ∧ OpenTo x1 y1 L (j + 1) 0 false := by
  refine ⟨⟨h.row, fun s hs => ?_, fun p => ?_⟩, fun s hs e => ?_⟩
  · obtain ⟨a, b, c, d, e⟩ := h.box s hs
    exact ⟨a, by omega, c, d, fun e' => by omega⟩
  · rw [h.has p]
    constructor
    · rintro ⟨a, b, c, d⟩
      exact ⟨a, b, by omega, d⟩
    · rintro ⟨a, b, c, d⟩
      exact ⟨a, b, by omega, d⟩
  · have := (h.box s hs).2.1
    omega
end Go.Proofs.Ytlnjgdnnpkloeaa

/- Fields of truths: rows of rows. -/
namespace Go.Proofs.Ytlnjgdnnpkloeaa
set_option linter.unusedSimpArgs false
set_option linter.unusedVariables false
open Go.RowKit Go.Shelf

def encB (m : Nat) (b : Nat) : List Value := [.slice (some ⟨b, 0, none⟩) m m]
theorem encB_len (m b : Nat) : (encB m b).length = 1 := rfl
def rowV (m : Nat) (f : Nat → Bool) : List Value := (List.range m).map fun i => .bool (f i)
theorem rowV_get (m : Nat) (f : Nat → Bool) (i : Nat) (h : i < m) : (rowV m f)[i]? = some (.bool (f i)) := by simp [rowV, h]
def upd1 (f : Nat → Bool) (i : Nat) (u : Bool) : Nat → Bool := fun k => if k = i then u else f k
def upd2 (F : Nat → Nat → Bool) (j i : Nat) (u : Bool) : Nat → Nat → Bool := fun a b => if a = j ∧ b = i then u else F a b
theorem rowV_set (m : Nat) (f : Nat → Bool) (i : Nat) (u : Bool) : (rowV m f).set i (.bool u) = rowV m (upd1 f i u) := by
  refine List.ext_getElem? fun k => ?_
  rw [List.getElem?_set]
  by_cases h : i = k
  · subst h
    by_cases hm : i < m
    · simp [rowV, hm, upd1]
    · simp [rowV, hm]
  · by_cases hm : k < m
    · have : ¬ k = i := fun e => h e.symm
      simp [rowV, hm, upd1, this, h]
    · simp [rowV, hm, h]
theorem rowV_ext (m : Nat) (f f' : Nat → Bool) (h : ∀ i, i < m → f i = f' i) : rowV m f = rowV m f' := by
  unfold rowV
  refine List.map_congr_left fun i hi => ?_
  rw [h i (List.mem_range.1 hi)]

/-- The blocks of n rows of m truths each. -/
structure FldB (w0 : World) (its : List It) (base : Nat) (v : Value) (B : List Nat) (m : Nat) (F : Nat → Nat → Bool) (w : World) : Prop where
  o : StO w0 its base 115 1 (encB m) v B w
  nd : B.Nodup
  row : ∀ j b, B[j]? = some b → w.ownsRow base 4 1 (.slice (some ⟨b, 0, none⟩) m m) m (rowV m (F j))
theorem FldB.below {w0 w w' : World} {its : List It} {base : Nat} {v : Value} {B : List Nat} {m : Nat} {F : Nat → Nat → Bool} (h : FldB w0 its base v B m F w) (hb : Below w.heap.size w w') : FldB w0 its base v B m F w' :=
  ⟨h.o.below hb, h.nd, fun j b hj => ownsRow_below (h.row j b hj) hb⟩
/-- A field of the call's own. -/
def Fld (w0 : World) (its : List It) (base g cap n m : Nat) (F : Nat → Nat → Bool) (w : World) : Prop := ∃ B : List Nat, B.length = n ∧ FldB w0 its base (.slice (some ⟨g, 0, none⟩) n cap) B m F w
theorem Fld.below {w0 w w' : World} {its : List It} {base g cap n m : Nat} {F : Nat → Nat → Bool} (h : Fld w0 its base g cap n m F w) (hb : Below w.heap.size w w') : Fld w0 its base g cap n m F w' := by
  obtain ⟨B, h1, h2⟩ := h
  exact ⟨B, h1, h2.below hb⟩
theorem Fld.st {w0 w : World} {its : List It} {base g cap n m : Nat} {F : Nat → Nat → Bool} (h : Fld w0 its base g cap n m F w) : St w0 its w := by
  obtain ⟨B, h1, h2⟩ := h
  exact h2.o.st
theorem Fld.ext {w0 w : World} {its : List It} {base g cap n m : Nat} {F F' : Nat → Nat → Bool} (h : Fld w0 its base g cap n m F w) (he : ∀ j i, j < n → i < m → F j i = F' j i) : Fld w0 its base g cap n m F' w := by
  obtain ⟨B, h1, h2⟩ := h
  refine ⟨B, h1, h2.o, h2.nd, fun j b hj => ?_⟩
  rw [← rowV_ext m (F j) (F' j) (fun i hi => he j i (by rw [← h1]; exact (List.getElem?_eq_some_iff.1 hj).1) hi)]
  exact h2.row j b hj
/-- What the walk asks of a place: to read it, and to write it. -/
theorem Fld.at {w0 w : World} {its : List It} {base g cap n m : Nat} {F : Nat → Nat → Bool} (h : Fld w0 its base g cap n m F w) (j i : Nat) (hj : j < n) (hi : i < m) :
    ∃ b, base ≤ b ∧ w.cell? ⟨g, j, none⟩ = some (.slice (some ⟨b, 0, none⟩) m m) ∧ w.cell? ⟨b, i, none⟩ = some (.bool (F j i)) ∧ w.frozen? ⟨b, i, none⟩ = false ∧
      ∀ u : Bool, Fld w0 its base g cap n m (upd2 F j i u) (w.setCell ⟨b, i, none⟩ (.bool u)) := by
  obtain ⟨B, h1, h2⟩ := h
  obtain ⟨b, hb⟩ : ∃ b, B[j]? = some b := ⟨_, List.getElem?_eq_getElem (by omega)⟩
  have hr := h2.row j b hb
  obtain ⟨hbb, hlt, cur, hcur⟩ := ownsRow_block hr
  refine ⟨b, hbb, ?_, ownsRow_cell hr (rowV_get m _ i hi), ownsRow_free hr i, fun u => ?_⟩
  · have := h2.o.cell (encB_len m) j b 0 _ hb rfl
    simpa using this
  · have hg := grownBy_setCellAt w b i (.bool u)
    have hgb : g ≠ b := by
      obtain ⟨_, _, cg, hcg⟩ := ownsRow_block (g := g) (n := B.length) (cap := cap) (by have := h2.o.row; rw [← h1] at this; exact this)
      intro e
      subst e
      rw [hcg] at hcur
      simp at hcur
    refine ⟨B, h1, ⟨⟨h2.o.st.grown (base := base) (row := some b) (fun j e => by cases e; exact hbb) h2.o.low h2.o.top hg, h2.o.row.kept hg (.inr (by simp [Value.ownBlock]; exact hgb)), h2.o.low, h2.o.top, by rw [World.size_setCell]; exact h2.o.hi⟩, h2.nd, fun j' b' hj' => ?_⟩⟩
    by_cases e : b' = b
    · subst e
      have ej : j' = j := (List.getElem?_inj (List.getElem?_eq_some_iff.1 hj').1 h2.nd).1 (hj'.trans hb.symm)
      subst ej
      have := ownsRow_set hr i (by omega) (.bool u)
      rw [rowV_set] at this
      rw [rowV_ext m (upd2 F j' i u j') (upd1 (F j') i u) (fun k _ => by simp [upd2, upd1])]
      exact this
    · have ne : ¬ j' = j := fun e2 => e (by subst e2; rw [hj'] at hb; exact Option.some.inj hb)
      rw [rowV_ext m (upd2 F j i u j') (F j') (fun k _ => by simp [upd2, ne])]
      exact (h2.row j' b' hj').kept hg (.inr (by simp [Value.ownBlock]; exact e))
/-- A field that another call made. -/
theorem Fld.into {w0 x y : World} {its : List It} {g cap n m : Nat} {F : Nat → Nat → Bool} (hs : St w0 its x) (h : Fld x [] x.heap.size g cap n m F y) : Fld w0 its x.heap.size g cap n m F y := by
  obtain ⟨B, h1, h2⟩ := h
  exact ⟨B, h1, ⟨⟨hs.below h2.o.st.low, h2.o.row, hs.size, hs.top, h2.o.hi⟩, h2.nd, h2.row⟩⟩

theorem FldB.push {w0 x y w' : World} {its : List It} {base : Nat} {v v' : Value} {B : List Nat} {m : Nat} {F : Nat → Nat → Bool} (h : FldB w0 its base v B m F x) (hy : Below x.heap.size x y) (b : Nat) (hb : x.heap.size ≤ b)
    (hrow : y.ownsRow base 4 1 (.slice (some ⟨b, 0, none⟩) m m) m (rowV m (F B.length))) (ho : StO w0 its base 115 1 (encB m) v' (B ++ [b]) w') (hg : y.grownBy w' v.ownBlock) : FldB w0 its base v' (B ++ [b]) m F w' := by
  have hne : ∀ c xs, y.ownsRow base 4 1 (.slice (some ⟨c, 0, none⟩) m m) m xs → (Value.slice (some ⟨c, 0, none⟩) m m).ownBlock = none ∨ (Value.slice (some ⟨c, 0, none⟩) m m).ownBlock ≠ v.ownBlock := by
    intro c xs hr
    refine .inr fun e => ?_
    obtain ⟨_, _, cur, hcur⟩ := ownsRow_block hr
    rcases (h.o.below hy).row.2 with ⟨rfl, _⟩ | ⟨g', cap', cur', rfl, _, hg', _⟩
    · simp [Value.ownBlock] at e
    · simp only [Value.ownBlock, Option.some.injEq] at e
      subst e
      rw [hcur] at hg'
      simp at hg'
  refine ⟨ho, ?_, fun j c hj => ?_⟩
  · refine List.nodup_append.2 ⟨h.nd, by simp, fun c hc d hd => ?_⟩
    simp at hd
    subst hd
    obtain ⟨j, hj⟩ := List.getElem?_of_mem hc
    have := (ownsRow_block (h.row j c hj)).2.1
    omega
  · rcases Nat.lt_or_ge j B.length with hlt | hge
    · rw [List.getElem?_append_left hlt] at hj
      have := ownsRow_below (h.row j c hj) hy
      exact this.kept hg (hne _ _ this)
    · obtain rfl : j = B.length := by
        have := (List.getElem?_eq_some_iff.1 hj).1
        simp at this
        omega
      rw [List.getElem?_append_right (Nat.le_refl _)] at hj
      simp at hj
      subst hj
      exact hrow.kept hg (hne _ _ hrow)

end Go.Proofs.Ytlnjgdnnpkloeaa

/- Layer 6: the document's Row. -/
namespace Go.Proofs.Ytlnjgdnnpkloeaa
set_option linter.unusedSimpArgs false
set_option linter.unusedVariables false
open Go.RowKit Go.Shelf

/-- A field that is read. -/
def FldR (w : World) (g n m : Nat) (F : Nat → Nat → Bool) : Prop := g < w.heap.size ∧ ∀ j, j < n → ∃ b, b < w.heap.size ∧ w.cell? ⟨g, j, none⟩ = some (.slice (some ⟨b, 0, none⟩) m m) ∧ ∀ i, i < m → w.cell? ⟨b, i, none⟩ = some (.bool (F j i))
theorem Fld.read {w0 w : World} {its : List It} {base g cap n m : Nat} {F : Nat → Nat → Bool} (h : Fld w0 its base g cap n m F w) : FldR w g n m F := by
  obtain ⟨B, h1, h2⟩ := h
  subst h1
  refine ⟨(ownsRow_block h2.o.row).2.1, fun j hj => ?_⟩
  obtain ⟨b, hb⟩ : ∃ b, B[j]? = some b := ⟨_, List.getElem?_eq_getElem hj⟩
  have hr := h2.row j b hb
  refine ⟨b, (ownsRow_block hr).2.1, ?_, fun i hi => ownsRow_cell hr (rowV_get m _ i hi)⟩
  have := h2.o.cell (encB_len m) j b 0 _ hb rfl
  simpa using this
theorem FldR.below {w w' : World} {g n m : Nat} {F : Nat → Nat → Bool} (h : FldR w g n m F) (hb : Below w.heap.size w w') : FldR w' g n m F := by
  refine ⟨Nat.lt_of_lt_of_le h.1 hb.size, fun j hj => ?_⟩
  obtain ⟨b, h1, h2, h3⟩ := h.2 j hj
  exact ⟨b, Nat.lt_of_lt_of_le h1 hb.size, (hb.cell (p := ⟨g, j, none⟩) h.1).trans h2, fun i hi => (hb.cell (p := ⟨b, i, none⟩) h1).trans (h3 i hi)⟩

end Go.Proofs.Ytlnjgdnnpkloeaa

/- Layer 6: the document's Rect. -/
namespace Go.Proofs.Ytlnjgdnnpkloeaa
set_option linter.unusedSimpArgs false
set_option linter.unusedVariables false
open Go.RowKit Go.Shelf

/-- L is THE row of spans of the places of which P holds. -/
structure SetRow (P : PtT → Prop) (L : List SpT) : Prop where
  row : RowP L
  has : ∀ p, hasB L p = true ↔ P p
theorem SetRow.unique {P : PtT → Prop} {L M : List SpT} (h : SetRow P L) (k : SetRow P M) : L = M := rowP_unique h.row k.row fun p => (h.has p).trans (k.has p).symm
theorem SetRow.congr {P Q : PtT → Prop} {L : List SpT} (h : SetRow P L) (e : ∀ p, P p ↔ Q p) : SetRow Q L := ⟨h.row, fun p => (h.has p).trans (e p)⟩
theorem RowOf.setRow {x1 y1 : Int} {n m : Nat} {F : Nat → Nat → Bool} {L : List SpT} {P : PtT → Prop} (h : RowOf x1 y1 n m F L) (hin : ∀ p, P p → (y1 ≤ p.y ∧ p.y < y1 + n) ∧ (x1 ≤ p.x ∧ p.x < x1 + m)) (hF : ∀ r c : Nat, F r c = true ↔ P ⟨x1 + c, y1 + r⟩) : SetRow P L := by
  refine ⟨h.row, fun p => (h.has p).trans ?_⟩
  have key : ∀ p : PtT, (y1 ≤ p.y ∧ x1 ≤ p.x) → (F (p.y - y1).toNat (p.x - x1).toNat = true ↔ P p) := fun p hp => by
    rw [hF]
    have e1 : x1 + ((p.x - x1).toNat : Int) = p.x := by omega
    have e2 : y1 + ((p.y - y1).toNat : Int) = p.y := by omega
    rw [e1, e2]
  constructor
  · rintro ⟨a, b, c⟩; exact (key p ⟨a.1, b.1⟩).1 c
  · intro hp; obtain ⟨a, b⟩ := hin p hp; exact ⟨a, b, (key p ⟨a.1, b.1⟩).2 hp⟩
theorem upd2_true {F : Nat → Nat → Bool} {j i a b : Nat} : upd2 F j i true a b = true ↔ (a = j ∧ b = i) ∨ F a b = true := by
  unfold upd2
  by_cases h : a = j ∧ b = i
  · simp [h]
  · rw [if_neg h]; simp [h]

/-- The places of a rectangle. -/
def RectP (a b p : PtT) : Prop := (min a.x b.x ≤ p.x ∧ p.x ≤ max a.x b.x) ∧ (min a.y b.y ≤ p.y ∧ p.y ≤ max a.y b.y)
/-- a number on the way from a to b -/
theorem way_at {a b : Int} {j : Nat} (hj : (j : Int) ≤ wayN a b) : min a b ≤ a + sideN a b * (j : Int) ∧ a + sideN a b * (j : Int) ≤ max a b ∧ sideN a b * (j : Int) = a + sideN a b * (j : Int) - a ∧ -(j : Int) ≤ sideN a b * (j : Int) ∧ sideN a b * (j : Int) ≤ (j : Int) := by
  unfold wayN at hj
  unfold sideN
  by_cases h : b < a
  · rw [if_pos h] at hj ⊢; omega
  · rw [if_neg h] at hj ⊢; omega
theorem way_back {a b c : Int} (h1 : min a b ≤ c) (h2 : c ≤ max a b) : ∃ j : Nat, (j : Int) ≤ wayN a b ∧ c = a + sideN a b * (j : Int) := by
  unfold wayN sideN
  by_cases h : b < a
  · rw [if_pos h, if_pos h]; exact ⟨(a - c).toNat, by omega, by omega⟩
  · rw [if_neg h, if_neg h]; exact ⟨(c - a).toNat, by omega, by omega⟩
/-- So far: J whole rows, and I places of the next. -/
def RectF (a b : PtT) (J I : Nat) (F : Nat → Nat → Bool) : Prop := ∀ r c : Nat, F r c = true ↔ ∃ j i : Nat, (j < J ∨ j = J ∧ i < I) ∧ (i : Int) ≤ wayN a.x b.x ∧ -79 + (r : Int) = a.y + sideN a.y b.y * (j : Int) ∧ -79 + (c : Int) = a.x + sideN a.x b.x * (i : Int)
theorem RectF.step {a b : PtT} {J I R C : Nat} {F : Nat → Nat → Bool} (h : RectF a b J I F) (hI : (I : Int) ≤ wayN a.x b.x) (hR : -79 + (R : Int) = a.y + sideN a.y b.y * (J : Int)) (hC : -79 + (C : Int) = a.x + sideN a.x b.x * (I : Int)) : RectF a b J (I + 1) (upd2 F R C true) := by
  intro r c
  rw [upd2_true, h r c]
  constructor
  · rintro (⟨rfl, rfl⟩ | ⟨j, i, h1, h2, h3, h4⟩)
    · exact ⟨J, I, .inr ⟨rfl, by omega⟩, hI, hR, hC⟩
    · exact ⟨j, i, by omega, h2, h3, h4⟩
  · rintro ⟨j, i, h1, h2, h3, h4⟩
    by_cases e : j = J ∧ i = I
    · obtain ⟨rfl, rfl⟩ := e
      left; omega
    · right; exact ⟨j, i, by omega, h2, h3, h4⟩
theorem RectF.down {a b : PtT} {J I : Nat} {F : Nat → Nat → Bool} (h : RectF a b J I F) (hI : (I : Int) = wayN a.x b.x + 1) : RectF a b (J + 1) 0 F := by
  intro r c
  rw [h r c]
  constructor
  · rintro ⟨j, i, h1, h2, h3, h4⟩; exact ⟨j, i, by omega, h2, h3, h4⟩
  · rintro ⟨j, i, h1, h2, h3, h4⟩; exact ⟨j, i, by omega, h2, h3, h4⟩
theorem RectF.all {a b : PtT} {J : Nat} {F : Nat → Nat → Bool} (h : RectF a b J 0 F) (hJ : (J : Int) = wayN a.y b.y + 1) (r c : Nat) : F r c = true ↔ RectP a b ⟨-79 + (c : Int), -79 + (r : Int)⟩ := by
  rw [h r c]
  unfold RectP
  constructor
  · rintro ⟨j, i, h1, h2, h3, h4⟩
    simp only
    rw [h3, h4]
    have a1 := way_at h2
    have a2 := way_at (a := a.y) (b := b.y) (j := j) (by omega)
    exact ⟨⟨a1.1, a1.2.1⟩, a2.1, a2.2.1⟩
  · rintro ⟨⟨h1, h2⟩, h3, h4⟩
    obtain ⟨i, i1, i2⟩ := way_back h1 h2
    obtain ⟨j, j1, j2⟩ := way_back h3 h4
    exact ⟨j, i, by omega, i1, j2, i2⟩
end Go.Proofs.Ytlnjgdnnpkloeaa

/- Layer 6, plain: rows that are merged. -/
namespace Go.Proofs.Ytlnjgdnnpkloeaa
set_option linter.unusedSimpArgs false
set_option linter.unusedVariables false
open Go.RowKit Go.Shelf

theorem GrOf_mem {L : List SpT} {y : Int} {s : SpT} : s ∈ GrOf L y ↔ s ∈ L ∧ s.y = y := by simp [GrOf]
theorem hasB_GrOf (L : List SpT) (p : PtT) : hasB (GrOf L p.y) p = hasB L p := by
  rw [Bool.eq_iff_iff, hasB_iff, hasB_iff]
  constructor
  · rintro ⟨s, hs, h⟩; exact ⟨s, (GrOf_mem.1 hs).1, h⟩
  · rintro ⟨s, hs, h⟩; exact ⟨s, GrOf_mem.2 ⟨hs, h.1⟩, h⟩
theorem hasB_perm {l m : List SpT} (h : l.Perm m) (p : PtT) : hasB l p = hasB m p := by
  rw [Bool.eq_iff_iff, hasB_iff, hasB_iff]
  exact ⟨fun ⟨s, hs, k⟩ => ⟨s, h.mem_iff.1 hs, k⟩, fun ⟨s, hs, k⟩ => ⟨s, h.mem_iff.2 hs, k⟩⟩
/-- R is the row of the spans 'done', all of one Y. -/
structure MgTo (y : Int) (dn R : List SpT) : Prop where
  row : RowP R
  y_ : ∀ r ∈ R, r.y = y
  f_ : ∀ r ∈ R, ∃ q ∈ dn, q.f = r.f
  t_ : ∀ r ∈ R, ∃ q ∈ dn, q.t = r.t
  has : ∀ p, hasB R p = true ↔ hasB dn p = true
  len : R.length ≤ dn.length
theorem MgTo.new {y : Int} {dn R : List SpT} {s : SpT} (h : MgTo y dn R) (hy : s.y = y) (hft : s.f ≤ s.t) (hgt : ∀ R0 r, R = R0 ++ [r] → r.t + 1 < s.f) : MgTo y (dn ++ [s]) (R ++ [s]) := by
  have hall : ∀ q ∈ R, q.t + 1 < s.f := by
    intro q hq
    rcases List.eq_nil_or_concat R with e | ⟨R0, r, e⟩
    · rw [e] at hq; cases hq
    · have e' : R = R0 ++ [r] := by rw [e, List.concat_eq_append]
      have h1 := hgt R0 r e'
      rw [e'] at hq
      rcases List.mem_append.1 hq with hq | hq
      · have ho := h.row.ord
        rw [e'] at ho
        have h2 := (List.pairwise_append.1 ho).2.2 q hq r (by simp)
        have h3 := h.y_ q (by rw [e']; simp [hq])
        have h4 := h.y_ r (by rw [e']; simp)
        have h5 := h.row.sp r (by rw [e']; simp)
        unfold ordP at h2
        omega
      · simp at hq; subst hq; exact h1
  refine ⟨⟨fun q hq => ?_, List.pairwise_append.2 ⟨h.row.ord, List.pairwise_singleton _ _, fun q hq x hx => ?_⟩⟩, fun q hq => ?_, fun q hq => ?_, fun q hq => ?_, fun p => ?_, ?_⟩
  · rcases List.mem_append.1 hq with hq | hq
    · exact h.row.sp q hq
    · simp at hq; subst hq; exact hft
  · simp at hx; subst hx
    have h1 := hall q hq
    have h2 := h.y_ q hq
    unfold ordP; omega
  · rcases List.mem_append.1 hq with hq | hq
    · exact h.y_ q hq
    · simp at hq; subst hq; exact hy
  · rcases List.mem_append.1 hq with hq | hq
    · obtain ⟨a, b, c⟩ := h.f_ q hq; exact ⟨a, by simp [b], c⟩
    · simp at hq; subst hq; exact ⟨q, by simp, rfl⟩
  · rcases List.mem_append.1 hq with hq | hq
    · obtain ⟨a, b, c⟩ := h.t_ q hq; exact ⟨a, by simp [b], c⟩
    · simp at hq; subst hq; exact ⟨q, by simp, rfl⟩
  · rw [hasB_app, hasB_app, Bool.or_eq_true, Bool.or_eq_true, h.has p]
  · have := h.len; simp; omega

/-- M is the row of the spans of L of the first k Y. -/
structure RowK (L : List SpT) (ks : List Int) (k : Nat) (M : List SpT) : Prop where
  row : RowP M
  y_ : ∀ r ∈ M, r.y ∈ ks.take k
  has : ∀ p, hasB M p = true ↔ p.y ∈ ks.take k ∧ hasB L p = true
  t_ : ∀ r ∈ M, ∃ q ∈ L, q.t = r.t
  len : M.length ≤ ((ks.take k).map fun y => (GrOf L y).length).sum
theorem RowK.step {L : List SpT} {ks : List Int} {k : Nat} {M R s : List SpT} {y : Int} (h : RowK L ks k M) (hks : ks.Pairwise (fun x y => x < y)) (hy : ks[k]? = some y) (hp : s.Perm (GrOf L y)) (hm : MgTo y s R) : RowK L ks (k + 1) (M ++ R) := by
  have ht : ks.take (k + 1) = ks.take k ++ [y] := by rw [List.take_add_one, hy]; simp
  have hlt : ∀ z ∈ ks.take k, z < y := by
    intro z hz
    have hks' := hks
    rw [← List.take_append_drop (k + 1) ks, ht] at hks'
    exact (List.pairwise_append.1 (List.pairwise_append.1 hks').1).2.2 z hz y (by simp)
  refine ⟨⟨fun q hq => ?_, List.pairwise_append.2 ⟨h.row.ord, hm.row.ord, fun q hq x hx => ?_⟩⟩, fun q hq => ?_, fun p => ?_, fun q hq => ?_, ?_⟩
  · rcases List.mem_append.1 hq with hq | hq
    · exact h.row.sp q hq
    · exact hm.row.sp q hq
  · have h1 := hlt _ (h.y_ q hq)
    have h2 := hm.y_ x hx
    unfold ordP; omega
  · rw [ht]
    rcases List.mem_append.1 hq with hq | hq
    · simp [h.y_ q hq]
    · simp [hm.y_ q hq]
  · rw [hasB_app, Bool.or_eq_true, h.has p, hm.has p, hasB_perm hp, ht]
    simp only [List.mem_append, List.mem_singleton]
    constructor
    · rintro (⟨a, b⟩ | a)
      · exact ⟨.inl a, b⟩
      · obtain ⟨q, hq, k1, k2, k3⟩ := (hasB_iff _ _).1 a
        have := GrOf_mem.1 hq
        have e : p.y = y := by omega
        refine ⟨.inr e, ?_⟩
        rw [← hasB_GrOf, e]; exact a
    · rintro ⟨a | a, b⟩
      · exact .inl ⟨a, b⟩
      · right; rw [← a, hasB_GrOf]; exact b
  · rcases List.mem_append.1 hq with hq | hq
    · exact h.t_ q hq
    · obtain ⟨a, b, c⟩ := hm.t_ q hq
      exact ⟨a, (GrOf_mem.1 (hp.mem_iff.1 b)).1, c⟩
  · have h1 := h.len
    have h2 := hm.len
    have h3 := hp.length_eq
    rw [ht, List.map_append, List.sum_append, List.length_append]
    simp only [List.map_cons, List.map_nil, List.sum_cons, List.sum_nil]
    omega
theorem RowK.setRow {L : List SpT} {ks : List Int} {M : List SpT} (h : RowK L ks ks.length M) (hk : ∀ s ∈ L, s.y ∈ ks) : SetRow (fun p => hasB L p = true) M := by
  refine ⟨h.row, fun p => (h.has p).trans ?_⟩
  rw [List.take_length]
  refine ⟨fun ⟨_, b⟩ => b, fun b => ⟨?_, b⟩⟩
  obtain ⟨s, hs, h1, _⟩ := (hasB_iff _ _).1 b
  rw [← h1]; exact hk s hs
end Go.Proofs.Ytlnjgdnnpkloeaa

/- Layer 6: the document's Union, Sweep. -/
namespace Go.Proofs.Ytlnjgdnnpkloeaa
set_option linter.unusedSimpArgs false
set_option linter.unusedVariables false
open Go.RowKit Go.Shelf

/-- A slice of rows of spans. -/
def RowsR (w : World) (a : Option Addr) (ls : List (List SpT)) : Prop := ∀ k l, ls[k]? = some l → ∃ b off a' cap', a = some ⟨b, off, none⟩ ∧ b < w.heap.size ∧ w.cell? ⟨b, off + k, none⟩ = some (.slice a' l.length cap') ∧ Elems w (.slice a' l.length cap') l.length 3 (rowC encS l)
theorem RowsR.below {w w' : World} {a : Option Addr} {ls : List (List SpT)} (h : RowsR w a ls) (hb : Below w.heap.size w w') : RowsR w' a ls := fun k l hk => by
  obtain ⟨b, off, a', cap', h1, h2, h3, h4⟩ := h k l hk
  exact ⟨b, off, a', cap', h1, Nat.lt_of_lt_of_le h2 hb.size, (hb.cell (p := ⟨b, off + k, none⟩) h2).trans h3, h4.below hb⟩
/-- The field of the places of a row. -/
def UnF (M : List SpT) (F : Nat → Nat → Bool) : Prop := ∀ r c : Nat, F r c = true ↔ hasB M ⟨-256 + (c : Int), -256 + (r : Int)⟩ = true
theorem UnF.begin {M : List SpT} {F : Nat → Nat → Bool} (h : UnF M F) (y f : Int) : UnF (M ++ [⟨y, f, f - 1⟩]) F := fun r c => by
  rw [h r c, hasB_app, hasB_one, Bool.or_eq_true]
  simp only [inB, decide_eq_true_eq]
  constructor
  · exact .inl
  · rintro (h | ⟨h1, h2, h3⟩)
    · exact h
    · omega
theorem UnF.step {M : List SpT} {F : Nat → Nat → Bool} {y f x : Int} {R C : Nat} (h : UnF (M ++ [⟨y, f, x - 1⟩]) F) (hf : f ≤ x) (hR : -256 + (R : Int) = y) (hC : -256 + (C : Int) = x) : UnF (M ++ [⟨y, f, x⟩]) (upd2 F R C true) := fun r c => by
  have := h r c
  rw [hasB_app, hasB_one, Bool.or_eq_true] at this
  rw [upd2_true, this, hasB_app, hasB_one, Bool.or_eq_true]
  simp only [inB, decide_eq_true_eq]
  constructor
  · rintro (⟨rfl, rfl⟩ | h | ⟨h1, h2, h3⟩)
    · right; omega
    · exact .inl h
    · right; omega
  · rintro (h | ⟨h1, h2, h3⟩)
    · exact .inr (.inl h)
    · by_cases e : -256 + (c : Int) = x
      · left; omega
      · right; right; omega
theorem UnF.same {M : List SpT} {F : Nat → Nat → Bool} {s : SpT} {t : Int} (h : UnF (M ++ [⟨s.y, s.f, t⟩]) F) (ht : t = s.t) : UnF (M ++ [s]) F := by subst ht; exact h
end Go.Proofs.Ytlnjgdnnpkloeaa

/- Layer 6: the document's Sweep. -/
namespace Go.Proofs.Ytlnjgdnnpkloeaa
set_option linter.unusedSimpArgs false
set_option linter.unusedVariables false
open Go.RowKit Go.Shelf

theorem le_of_sq {x s : Int} (hs : 0 ≤ s) (h : x * x ≤ s * s) : x ≤ s := by
  refine Int.not_lt.1 fun hlt => ?_
  have h1 : s * s < x * x := Int.lt_of_lt_of_le (Int.mul_lt_mul_of_pos_left hlt (show 0 < s + 1 by omega) |> fun h => (by
    have h2 : (s + 1) * (s + 1) ≤ x * x := Int.mul_le_mul (by omega) (by omega) (by omega) (by omega)
    have h3 : s * s < (s + 1) * (s + 1) := by
      have : (s + 1) * (s + 1) = s * s + 2 * s + 1 := by rw [Int.add_mul, Int.mul_add]; omega
      omega
    exact Int.lt_of_lt_of_le h3 h2)) (Int.le_refl _)
  omega
theorem inRef_in {size : Int} {round : Bool} {c p : PtT} (hs : 0 ≤ size) (h : inRef size round c p = true) : (c.x - size ≤ p.x ∧ p.x ≤ c.x + size) ∧ (c.y - size ≤ p.y ∧ p.y ≤ c.y + size) := by
  have key : wayN c.x p.x ≤ size ∧ wayN c.y p.y ≤ size := by
    unfold inRef at h
    cases round
    · simpa using h
    · simp only [cond_true, decide_eq_true_eq] at h
      have h1 := Int.mul_nonneg (wayN_nonneg c.x p.x) (wayN_nonneg c.x p.x)
      have h2 := Int.mul_nonneg (wayN_nonneg c.y p.y) (wayN_nonneg c.y p.y)
      exact ⟨le_of_sq hs (by omega), le_of_sq hs (by omega)⟩
  unfold wayN at key
  split at key <;> split at key <;> omega
/-- The field of the places of which Q holds. -/
def SwF (Q : PtT → Prop) (F : Nat → Nat → Bool) : Prop := ∀ r c : Nat, F r c = true ↔ Q ⟨-79 + (c : Int), -79 + (r : Int)⟩
theorem SwF.congr {Q Q' : PtT → Prop} {F : Nat → Nat → Bool} (h : SwF Q F) (e : ∀ p, Q p ↔ Q' p) : SwF Q' F := fun r c => (h r c).trans (e _)
/-- What the places M sweep, and the place c so far. -/
def SwQ (size : Int) (round : Bool) (M : List PtT) (c : PtT) (y x : Int) (p : PtT) : Prop := (∃ c' ∈ M, inRef size round c' p = true) ∨ (inRef size round c p = true ∧ (p.y < y ∨ p.y = y ∧ p.x < x))
def SwM (size : Int) (round : Bool) (M : List PtT) (p : PtT) : Prop := ∃ c' ∈ M, inRef size round c' p = true
section
variable {size : Int} {round : Bool} {M : List PtT} {c : PtT} {y x : Int} {F : Nat → Nat → Bool}
theorem SwF.begin (h : SwF (SwM size round M) F) (hs : 0 ≤ size) : SwF (SwQ size round M c (c.y - size) (c.x - size)) F := h.congr fun p => by
  unfold SwM SwQ
  constructor
  · exact .inl
  · rintro (h | ⟨h1, h2⟩)
    · exact h
    · have := inRef_in hs h1; omega
theorem SwF.step (h : SwF (SwQ size round M c y x) F) {R C : Nat} (hR : -79 + (R : Int) = y) (hC : -79 + (C : Int) = x) (hi : inRef size round c ⟨x, y⟩ = true) : SwF (SwQ size round M c y (x + 1)) (upd2 F R C true) := fun r k => by
  rw [upd2_true, h r k]
  unfold SwQ
  simp only
  constructor
  · rintro (⟨rfl, rfl⟩ | h | ⟨h1, h2⟩)
    · right; rw [hR, hC]; exact ⟨hi, by omega⟩
    · exact .inl h
    · exact .inr ⟨h1, by omega⟩
  · rintro (h | ⟨h1, h2⟩)
    · exact .inr (.inl h)
    · by_cases e : -79 + (r : Int) = y ∧ -79 + (k : Int) = x
      · left; omega
      · right; right; exact ⟨h1, by omega⟩
theorem SwF.skip (h : SwF (SwQ size round M c y x) F) (hi : inRef size round c ⟨x, y⟩ = false) : SwF (SwQ size round M c y (x + 1)) F := h.congr fun p => by
  unfold SwQ
  constructor
  · rintro (h | ⟨h1, h2⟩)
    · exact .inl h
    · exact .inr ⟨h1, by omega⟩
  · rintro (h | ⟨h1, h2⟩)
    · exact .inl h
    · refine .inr ⟨h1, ?_⟩
      by_cases e : p.y = y ∧ p.x = x
      · obtain ⟨px, py⟩ := p
        simp only at e
        rw [e.1, e.2, hi] at h1
        cases h1
      · omega
theorem SwF.down (h : SwF (SwQ size round M c y (c.x + size + 1)) F) (hs : 0 ≤ size) : SwF (SwQ size round M c (y + 1) (c.x - size)) F := h.congr fun p => by
  unfold SwQ
  constructor
  · rintro (h | ⟨h1, h2⟩)
    · exact .inl h
    · exact .inr ⟨h1, by omega⟩
  · rintro (h | ⟨h1, h2⟩)
    · exact .inl h
    · have := inRef_in hs h1; exact .inr ⟨h1, by omega⟩
theorem SwF.done {q : Int} (h : SwF (SwQ size round M c (c.y + size + 1) q) F) (hs : 0 ≤ size) : SwF (SwM size round (M ++ [c])) F := h.congr fun p => by
  unfold SwM SwQ
  constructor
  · rintro (⟨c', h1, h2⟩ | ⟨h1, h2⟩)
    · exact ⟨c', by simp [h1], h2⟩
    · exact ⟨c, by simp, h1⟩
  · rintro ⟨c', h1, h2⟩
    rcases List.mem_append.1 h1 with h1 | h1
    · exact .inl ⟨c', h1, h2⟩
    · simp at h1; subst h1
      have := inRef_in hs h2
      exact .inr ⟨h2, by omega⟩
end
end Go.Proofs.Ytlnjgdnnpkloeaa

/- cmp.Compare at ints. -/
namespace Go.Proofs.Ytlnjgdnnpkloeaa
set_option linter.unusedSimpArgs false
set_option linter.unusedVariables false
open Go.RowKit Go.Shelf
end Go.Proofs.Ytlnjgdnnpkloeaa

/- Layer 6: rows.row. -/
namespace Go.Proofs.Ytlnjgdnnpkloeaa
set_option linter.unusedSimpArgs false
set_option linter.unusedVariables false
open Go.RowKit Go.Shelf Go.Maps

theorem GrD.turn {w w' : World} {base b n : Nat} {D : DataW Value} {F : Int → Value} {G : Int → List SpT} (h : GrD w base b n D F G) {y : Int} (hy : inK y) (hg : w.grownBy w' (F y).ownBlock) {s : List SpT} (hrow : w'.ownsRow base 42 3 (F y) s.length (s.flatMap encS)) (hs : s ≠ [] ↔ G y ≠ []) :
    GrD w' base b n D F (fun z => if z = y then s else G z) := by
  have hbF : some b ≠ (F y).ownBlock := fun e => by have := ((h.row y hy).lt b e.symm).1; have := h.lt; omega
  refine ⟨h.map.kept hg hbF, h.at_, fun z hz => ?_, h.apart, fun z hz => ?_, h.only, h.lt⟩
  · by_cases e : z = y
    · subst e; simp only [if_true]; exact hrow
    · simp only [if_neg e]
      refine (h.row z hz).kept hg ?_
      cases hv : (F z).ownBlock with
      | none => exact .inl rfl
      | some j => exact .inr fun e' => h.apart z y j hz hy e hv e'.symm
  · by_cases e : z = y
    · subst e; simp only [if_true]; rw [h.has z hz]; exact hs.symm
    · simp only [if_neg e]; exact h.has z hz
theorem GrD.other {w w' : World} {base b n : Nat} {D : DataW Value} {F : Int → Value} {G : Int → List SpT} (h : GrD w base b n D F G) {row : Option Nat} (hg : w.grownBy w' row) (hb : some b ≠ row) (hr : ∀ z, inK z → (F z).ownBlock = none ∨ (F z).ownBlock ≠ row) : GrD w' base b n D F G :=
  ⟨h.map.kept hg hb, h.at_, fun z hz => (h.row z hz).kept hg (hr z hz), h.apart, h.has, h.only, h.lt⟩

end Go.Proofs.Ytlnjgdnnpkloeaa

/- Layer 6: about. -/
namespace Go.Proofs.Ytlnjgdnnpkloeaa
set_option linter.unusedSimpArgs false
set_option linter.unusedVariables false
open Go.RowKit Go.Shelf
attribute [local go_sem] Oper.semAt_some

end Go.Proofs.Ytlnjgdnnpkloeaa
