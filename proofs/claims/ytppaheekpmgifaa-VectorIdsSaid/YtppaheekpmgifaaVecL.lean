/- Package vector: Lacks. -/
import Derived.Test.YtppaheekpmgifaaVecK
namespace Go.Proofs.Ytppaheekpmgifaa
set_option linter.unusedSimpArgs false
set_option linter.unusedVariables false
open Go.RowKit Go.Shelf
attribute [local go_sem] Oper.semAt_some

structure StrT where
  site : Int
  fr : Int
  upto : Int
def StrT.cells (s : StrT) : List Value := [.int .i64 s.site, .int .u64 s.fr, .int .u64 s.upto]

/-- What a lacks of the sites told so far. -/
def lackOf (a b : Nat → Int) (pre : List (Fin 8)) : List StrT := (pre.filter fun x => decide (a (x.1 + 1) < b (x.1 + 1))).map fun x => ⟨((x.1 + 1 : Nat) : Int), a (x.1 + 1) + 1, b (x.1 + 1)⟩
def lacks (a b : Nat → Int) : List StrT := if vecOk a = true ∧ vecOk b = true then lackOf a b (List.finRange 8) else []

theorem infoStr : (Try.prog.info? 36).map (fun i => (i.zero, i.size, i.bytes)) = some (some (.agg #[.int .i64 0, .int .u64 0, .int .u64 0]), 3, 24) := by kernel_rfl

set_option maxRecDepth 100000 in
set_option maxHeartbeats 2000000 in
theorem lacks_bad (a b : Nat → Int) (w : World) (hno : ¬ (vecOk a = true ∧ vecOk b = true)) : Calls Try.prog 11 #[vecV a, vecV b] w (GivesRow 36 3 (lacks a b).length ((lacks a b).flatMap StrT.cells) w) := by
  have hl : lacks a b = [] := if_neg hno
  rw [hl]
  cases ha : vecOk a
  · go_enter Try.func11, Try.ntmps11
    simp only [vecV, lit9]
    clear hno hl
    go_wp2_with fail
    refine (vecCheck_any a _).mono ?_
    rintro e w1 ⟨rfl, hb⟩
    simp only [ha, errOf]
    go_wp2_with fail
    go_ret
    exact ⟨_, rfl, World.ownsRow_nil _ _ _ _, ((((Below.refl w.heap.size w).alloc (Nat.le_refl _) _).alloc (by simp) _).trans (hb.mono (by simp; omega)))⟩
  · have hbb : vecOk b = false := by
      cases hb : vecOk b with
      | false => rfl
      | true => exact absurd ⟨ha, hb⟩ hno
    go_enter Try.func11, Try.ntmps11
    simp only [vecV, lit9]
    clear hno hl
    go_wp2_with fail
    refine (vecCheck_any a _).mono ?_
    rintro e w1 ⟨rfl, hb⟩
    obtain ⟨hc, hf⟩ := bcell hb
    have hz := hb.size
    simp at hz
    simp only [ha, errOf]
    go_wp2_with fail
    refine (vecCheck_any b _).mono ?_
    rintro e w2 ⟨rfl, hb2⟩
    simp only [hbb, errOf]
    go_wp2_with fail
    go_ret
    exact ⟨_, rfl, World.ownsRow_nil _ _ _ _, ((((Below.refl w.heap.size w).alloc (Nat.le_refl _) _).alloc (by simp) _).trans (hb.mono (by simp; omega))).trans (hb2.mono (by omega))⟩

theorem lackOf_snoc (a b : Nat → Int) (pre : List (Fin 8)) (x : Fin 8) : lackOf a b (pre ++ [x]) = lackOf a b pre ++ if a (x.1 + 1) < b (x.1 + 1) then [⟨((x.1 + 1 : Nat) : Int), a (x.1 + 1) + 1, b (x.1 + 1)⟩] else [] := by
  unfold lackOf
  rw [List.filter_append, List.map_append]
  by_cases h : a (x.1 + 1) < b (x.1 + 1) <;> simp [h, List.filter_cons]

set_option maxRecDepth 100000 in
set_option maxHeartbeats 2000000 in
theorem lacks_good (a b : Nat → Int) (ha0 : ∀ k, 0 ≤ a k) (w : World) (hok : vecOk a = true ∧ vecOk b = true) : Calls Try.prog 11 #[vecV a, vecV b] w (GivesRow 36 3 (lacks a b).length ((lacks a b).flatMap StrT.cells) w) := by
  have hl : lacks a b = lackOf a b (List.finRange 8) := if_pos hok
  rw [hl]
  clear hl
  obtain ⟨ha, hbo⟩ := hok
  have ham : ∀ x : Fin 8, a (x.1 + 1) ≤ 4611686018427387904 := by
    unfold vecOk at ha
    simp only [Bool.and_eq_true] at ha
    exact fun x => (sitesOk_iff a).1 ha.2 _ (by omega) (by omega)
  have Ham := Lib.hid ham
  have Ha0 := Lib.hid ha0
  clear ham ha0
  refine (callsIn_wide (n := 10)).1 ?_
  refine callsIn_of_wp_marks Try.func11 rfl trivial ?_ rfl
  simp only [vecV, lit9, Try.ntmps11, List.size_toArray, List.length_cons, List.length_nil, Nat.reduceAdd, Nat.reduceSub, Array.replicate_succ, Array.replicate_zero, List.push_toArray, List.append_toArray, List.nil_append, List.cons_append]
  gi_wp2_with fail
  refine (callsIn_wide.2 (vecCheck_any a _)).mono ?_
  rintro e w1 ⟨rfl, hb⟩
  obtain ⟨hc, hf⟩ := bcell hb
  have hz := hb.size
  simp at hz
  simp only [ha, errOf]
  gi_wp2_with fail
  refine (callsIn_wide.2 (vecCheck_any b _)).mono ?_
  rintro e w2 ⟨rfl, hb2⟩
  have hA1 := ((Below.refl w.heap.size w).alloc (Nat.le_refl _) (.cells (lit9 a) 24)).alloc (by simp) (.cells (lit9 b) 24)
  have hA := Lib.hid ((hA1.trans (hb.mono (by simp; omega))).trans (hb2.mono (by omega)))
  have g1 := (hb2.block _ (by omega)).trans ((hb.block _ (by simp; omega)).trans (heap_alloc_keeps (World.alloc_heap_new w (.cells (lit9 a) 24)) (.cells (lit9 b) 24)))
  have g2 := (hb2.block _ (by omega)).trans ((hb.block _ (by simp)).trans (newBlock (w.alloc (.cells (lit9 a) 24)) (.cells (lit9 b) 24) (w.heap.size + 1) (by simp)))
  have G1 := Lib.hid g1
  have G2 := Lib.hid g2
  obtain ⟨c0, c1, c2, c3, c4, c5, c6, c7, c8⟩ := vec9 g2
  have l2 := block_lt g2
  clear hc hf hz hb hb2 hA1 g1 g2
  simp only [hbo, errOf]
  gi_wp2_with (gi_at_call 40; refine (callsIn_wide.2 (sites_any _ _)).mono ?_; rintro e w' ⟨rfl, rfl⟩)
  clear c0 c1 c2 c3 c4 c5 c6 c7 c8
  have hst : ∀ x : Fin 8, (x.1 + 1) < 9 := fun x => by omega
  refine range_iter (gf := 49) (lb := #[.pointer (some ⟨w2.heap.size + 1 + 1, 0, none⟩)])
    (sites_iter (w2.heap.size + 1 + 1) (w2.heap.size + 1) b _ (by simp) (by simp) ?hc ?hh) (by omega) rfl (enters_of Try.func49 (by kernel_rfl) rfl)
    (by simp) (Below.refl _ _) (fun _ => rfl) (fun x => [(20, .int .i64 (((x.1 + 1 : Nat)) : Int)), (21, .int .u64 (b (x.1 + 1)))]) (fun _ => by simp [siteArgs])
    (fun pre W => (∃ v, Boxed W w2.heap.size 31 v ∧ W.ownsRow (w2.heap.size + 3) 36 3 v (lackOf a b pre).length ((lackOf a b pre).flatMap StrT.cells) ∧ pre.length ≤ 1000000) ∧ Below w2.heap.size w2 W ∧ w2.heap.size + 3 ≤ W.heap.size)
    (fun _ _ _ => False)
    (OwnFrom.and (Own.from (holdsRow_own (w2.heap.size + 3) w2.heap.size 31 36 3 (fun pre => (lackOf a b pre).length) (fun pre => (lackOf a b pre).flatMap StrT.cells) (fun pre _ => pre.length ≤ 1000000)) _) (OwnFrom.and (ownFrom_below (Nat.le_refl _) (by simp; omega)) (ownFrom_size _)))
    (fun c => ownFrom_pure _ _)
    ?h0 (fun x => [(6, .int .i64 (((x.1 + 1 : Nat)) : Int)), (7, .int .u64 (b (x.1 + 1)))]) ?assign ?body ?done ?stop
  case hc => simp [go_sem]
  case hh =>
    intro k hk
    have h9 := lit9_get b k hk
    unfold lit9 at h9
    simp [go_sem] at h9 ⊢
    exact h9
  case h0 =>
    refine ⟨⟨_, ?_, World.ownsRow_nil _ _ _ _, by simp⟩, ?_⟩
    · exact heap_alloc_keeps (heap_alloc_keeps (World.alloc_heap_new w2 _) _) _
    · exact ⟨by (repeat (first | exact Below.refl _ _ | assumption | refine Below.alloc ?_ (by first | omega | (simp; done) | (simp; omega)) _ | refine Below.setCell ?_ (by first | omega | (simp; done) | (simp; omega)) _ | refine Below.drew ?_)), by simp⟩
  case assign =>
    intro l x W K hK
    simp only [loopAct, List.foldl, List.cons_append, List.nil_append] at hK ⊢
    gi_wp2
    exact hK
  case body =>
    rintro l pre x W ⟨⟨sv, hbx, hrow, hlen⟩, hB, hL⟩ hpre
    have HL := Lib.hid hL
    clear hL
    simp only [loopAct, List.foldl, List.cons_append, List.nil_append]
    have ga := (hB.block _ (block_lt G1.out)).trans G1.out
    have ca := cell_of_block ga (lit9_get a _ (hst x))
    have la := block_lt G1.out
    have cb := hbx.cell
    have Hbx := Lib.hid hbx
    have Hrow := Lib.hid hrow
    have HB := Lib.hid hB
    have Ga := Lib.hid ga
    clear hbx hrow hB ga
    have hsn := lackOf_snoc a b pre x
    have Hsn := Lib.hid hsn
    clear hsn
    by_cases hlt : a (x.1 + 1) < b (x.1 + 1)
    rotate_left
    · -- nothing is lacked of this site
      gi_wp2_with fail
      refine ⟨KeepsOthers.refl _, KeepsAt.refl _ _, ⟨sv, Hbx.out, ?_, by simp; omega⟩, HB.out, HL.out⟩
      rw [Hsn.out, if_neg (by omega), List.append_nil]
      exact Hrow.out
    · gi_wp2_with fail
      have Hlt := Lib.hid hlt
      clear hlt
      refine wp_region_facts (by kernel_rfl) [(fun v_ _ => v_ = (sv : Value)), (fun v_ _ => v_ = (.int .i64 ((x.1 : Int) + 1) : Value)), (fun v_ _ => v_ = (.int .i64 ((x.1 : Int) + 1) : Value)), (fun v_ _ => v_ = (.pointer (some ⟨w.heap.size, x.1 + 1, none⟩) : Value)), (fun v_ _ => v_ = (.int .u64 (a (x.1 + 1)) : Value)), (fun v_ _ => v_ = (.int .u64 (a (x.1 + 1) + 1) : Value)), (fun v_ _ => v_ = (.int .u64 (b (x.1 + 1)) : Value)), (fun v_ _ => v_ = (.agg #[.int .i64 ((x.1 : Int) + 1), .int .u64 (a (x.1 + 1) + 1), .int .u64 (b (x.1 + 1))] : Value)), (fun v_ w_ => ∃ q, v_ = .slice (some ⟨q, 0, none⟩) 1 1 ∧ w_.heap[q]? = some (.cells #[.int .i64 ((x.1 : Int) + 1), .int .u64 (a (x.1 + 1) + 1), .int .u64 (b (x.1 + 1))] 36 (0, 0)))] (fun x y => Below x.heap.size x y) (fun _ => Below.refl _ _) (fun h k => grows_trans h k) ⟨fun _ _ _ _ h => h, fun _ _ _ _ h => h, fun _ _ _ _ h => h, fun _ _ _ _ h => h, fun _ _ _ _ h => h, fun _ _ _ _ h => h, fun _ _ _ _ h => h, fun _ _ _ _ h => h, fun _ _ _ hC ⟨q, e, h⟩ => ⟨q, e, (hC.block _ (block_lt h)).trans h⟩, trivial⟩ (by kernel_rfl) (by kernel_rfl) (grows_drew _)  ?steps ?fin
      case steps =>
        refine ⟨?_, ?_, ?_, ?_, ?_, ?_, ?_, ?_, ?_, trivial⟩
        · -- 0
          intro a' w' hA hC hD
          have s5 : a'.tmps[5]? = some (.pointer (some ⟨w2.heap.size, 0, none⟩)) := (hA.at 5 (by kernel_rfl)).trans rfl
          have c9 := (hC.cell (p := ⟨w2.heap.size, 0, none⟩) Hbx.out.lt).trans Hbx.out.cell
          clear hA hD
          refine stepOk_plain rfl ?_
          intro K hK
          gi_wp2
          exact hK (sv) _ rfl ((fun _ => Below.refl _ _) _)
        · -- 1
          intro a' w' hA hC hD
          have s6 : a'.tmps[6]? = some (.int .i64 ((x.1 : Int) + 1)) := (hA.at 6 (by kernel_rfl)).trans rfl
          clear hA hD
          refine stepOk_plain rfl ?_
          intro K hK
          gi_wp2
          exact hK (.int .i64 ((x.1 : Int) + 1)) _ rfl ((fun _ => Below.refl _ _) _)
        · -- 2
          intro a' w' hA hC hD
          have s6 : a'.tmps[6]? = some (.int .i64 ((x.1 : Int) + 1)) := (hA.at 6 (by kernel_rfl)).trans rfl
          clear hA hD
          refine stepOk_plain rfl ?_
          intro K hK
          gi_wp2
          exact hK (.int .i64 ((x.1 : Int) + 1)) _ rfl ((fun _ => Below.refl _ _) _)
        · -- 3
          intro a' w' hA hC hD
          have s2 : a'.tmps[2]? = some (.pointer (some ⟨w.heap.size, 0, none⟩)) := (hA.at 2 (by kernel_rfl)).trans rfl
          obtain ⟨u29, s29, r29⟩ := hD ⟨2, .data⟩ (by simp) rfl _ rfl
          replace r29 : u29 = .int .i64 ((x.1 : Int) + 1) := r29
          subst r29
          have b9 := hst x
          clear hA hD
          refine stepOk_plain rfl ?_
          intro K hK
          gi_wp2
          exact hK (.pointer (some ⟨w.heap.size, x.1 + 1, none⟩)) _ rfl ((fun _ => Below.refl _ _) _)
        · -- 4
          intro a' w' hA hC hD
          obtain ⟨u30, s30, r30⟩ := hD ⟨3, .data⟩ (by simp) rfl _ rfl
          replace r30 : u30 = .pointer (some ⟨w.heap.size, x.1 + 1, none⟩) := r30
          subst r30
          have c9 := cell_of_block ((hC.block _ (block_lt Ga.out)).trans Ga.out) (lit9_get a _ (hst x))
          clear hA hD
          refine stepOk_plain rfl ?_
          intro K hK
          gi_wp2
          exact hK (.int .u64 (a (x.1 + 1))) _ rfl ((fun _ => Below.refl _ _) _)
        · -- 5
          intro a' w' hA hC hD
          obtain ⟨u31, s31, r31⟩ := hD ⟨4, .data⟩ (by simp) rfl _ rfl
          replace r31 : u31 = .int .u64 (a (x.1 + 1)) := r31
          subst r31
          have b1 := Ha0.out (x.1 + 1); have b2 := Ham.out x
          clear hA hD
          refine stepOk_plain rfl ?_
          intro K hK
          gi_wp2
          exact hK (.int .u64 (a (x.1 + 1) + 1)) _ rfl ((fun _ => Below.refl _ _) _)
        · -- 6
          intro a' w' hA hC hD
          have s7 : a'.tmps[7]? = some (.int .u64 (b (x.1 + 1))) := (hA.at 7 (by kernel_rfl)).trans rfl
          clear hA hD
          refine stepOk_plain rfl ?_
          intro K hK
          gi_wp2
          exact hK (.int .u64 (b (x.1 + 1))) _ rfl ((fun _ => Below.refl _ _) _)
        · -- 7
          intro a' w' hA hC hD
          obtain ⟨u28, s28, r28⟩ := hD ⟨1, .data⟩ (by simp) rfl _ rfl
          replace r28 : u28 = .int .i64 ((x.1 : Int) + 1) := r28
          subst r28
          obtain ⟨u32, s32, r32⟩ := hD ⟨5, .data⟩ (by simp) rfl _ rfl
          replace r32 : u32 = .int .u64 (a (x.1 + 1) + 1) := r32
          subst r32
          obtain ⟨u33, s33, r33⟩ := hD ⟨6, .data⟩ (by simp) rfl _ rfl
          replace r33 : u33 = .int .u64 (b (x.1 + 1)) := r33
          subst r33
          clear hA hD
          refine stepOk_plain rfl ?_
          intro K hK
          gi_wp2
          exact hK (.agg #[.int .i64 ((x.1 : Int) + 1), .int .u64 (a (x.1 + 1) + 1), .int .u64 (b (x.1 + 1))]) _ rfl ((fun _ => Below.refl _ _) _)
        · -- 8
          intro a' w' hA hC hD
          obtain ⟨u34, s34, r34⟩ := hD ⟨7, .data⟩ (by simp) rfl _ rfl
          replace r34 : u34 = .agg #[.int .i64 ((x.1 : Int) + 1), .int .u64 (a (x.1 + 1) + 1), .int .u64 (b (x.1 + 1))] := r34
          subst r34
          clear hA hD
          refine stepOk_plain rfl ?_
          intro K hK
          gi_wp2
          exact hK (.slice (some ⟨w'.heap.size, 0, none⟩) 1 1) _ ⟨w'.heap.size, rfl, World.alloc_heap_new _ _⟩ ((Below.refl _ _).alloc (Nat.le_refl _) _)
      case fin =>
        intro w3 hC
        simp only [EndFrom, forall_eq, Act.put, List.length_cons, List.length_nil, List.drop_succ_cons, List.drop_zero, Nat.reduceAdd, List.setIfInBounds_toArray, List.set_cons_succ, List.set_cons_zero]
        rintro _ ⟨q, rfl, hq⟩
        obtain ⟨i0, hi, hz0, hz1, hz2⟩ := info_parts infoStr
        have hrow3 := ownsRow_below Hrow.out hC
        have hbase : w2.heap.size + 3 ≤ w3.heap.size := Nat.le_trans HL.out hC.size
        have hsmall : (lackOf a b pre).length + 1 ≤ 8 := by
          have : (lackOf a b pre).length ≤ pre.length := by unfold lackOf; rw [List.length_map]; exact List.length_filter_le _ _
          omega
        gi_wp2_with (gi_at_builtin; refine wpListIn_append_own _ rfl _ _ 31 rfl (w2.heap.size + 3) 36 i0 (.agg #[.int .i64 0, .int .u64 0, .int .u64 0]) 3 24 Try.underlying31 hi hz0 hz1 hz2 rfl (by decide) _ _ _ rfl hrow3 ⟨q, 0, none⟩ 1 1 [.int .i64 ((x.1 : Int) + 1), .int .u64 (a (x.1 + 1) + 1), .int .u64 (b (x.1 + 1))] rfl rfl (cells_of_block hq) (by simp [Value.oneCell']) (by unfold maxLen; omega) (by omega) hbase ?_; intro v' w4 hown' hgrow _; obtain ⟨g', cap', rfl⟩ := ownsRow_succ hown'; obtain ⟨hv4, hv5, hr5, hk5, hko, hbl⟩ := append_step hC Hbx.out (by decide) Hrow.out hown' hgrow; have hc4 := hv4.cell; have hf4 := hv4.frozen; have HV5 := Lib.hid hv5; have HR5 := Lib.hid hr5; have HK5 := Lib.hid hk5; have HKO := Lib.hid hko; have HBL := Lib.hid hbl; clear hv4 hv5 hr5 hk5 hko hbl hown' hgrow hrow3 hC hq)
        refine ⟨HKO.out, fun j hj => HK5.out j ?_ ?_ ?_, ⟨_, HV5.out, ?_, by simp; omega⟩, HB.out.trans (HBL.out _ (by omega) (Nat.le_refl _)), Nat.le_trans HL.out HKO.out.size⟩
        · simp at hj; have := HL.out; omega
        · simp at hj; omega
        · simp at hj; omega
        · rw [Hsn.out, if_pos Hlt.out]
          simpa [StrT.cells] using HR5.out
  case done =>
    rintro D W hD ⟨⟨sv, hbx, hrow, _⟩, hB, hL⟩ hK
    have cb := hbx.cell
    gi_wp2
    simp at hD
    have hz := hA.out.size
    refine ret_marked rfl hK (v := sv) (by simp [results, Try.results11, go_sem]) ⟨sv, rfl, ?_, ?_⟩
    · exact ownsRow_putObj (ownsRow_mono hrow (by omega)) _ hK rfl
    · exact below_putObj (hA.out.trans (hB.mono hz)) hK (by omega) _
  case stop =>
    rintro D c pre W hD _ h _
    exact h.elim
end Go.Proofs.Ytppaheekpmgifaa
