/- Package ident: hand.next. -/
import Derived.Test.YtppaheekpmgifaaDoorIdK
namespace Go.Proofs.YtppaheekpmgifaaDoor
set_option linter.unusedSimpArgs false
set_option linter.unusedVariables false
open Go.RowKit Go.Shelf

def ClkT.Fits (c : ClkT) : Prop := (-9223372036854775808 ≤ c.site ∧ c.site ≤ 9223372036854775807) ∧ (0 ≤ c.time ∧ c.time < 18446744073709551616) ∧ (0 ≤ c.seq ∧ c.seq < 18446744073709551616)
def nextOk (c : ClkT) : Bool := decide (c.time < 4611686018427387904) && decide (c.seq < 4611686018427387904)
def clkOn (c : ClkT) : ClkT := ⟨c.site, c.time + 1, c.seq + 1⟩
def clkId (c : ClkT) : IdT := ⟨c.time, c.site, c.seq⟩

set_option maxRecDepth 100000 in
set_option maxHeartbeats 2000000 in
theorem handNext_no (H : Nat) (c : ClkT) (hn : nextOk c = false) (w : World) (hH : w.heap[H]? = some (.cells c.cells 92 (0, 0))) :
    Calls Tryd.prog 42 #[.pointer (some ⟨H, 0, none⟩)] w fun e w' => Panics 212 e ∧ Below w.heap.size w w' := by
  obtain ⟨c1, c2, c3⟩ := c
  have lH := block_lt hH
  have c1' := cell_of_block (k := 1) (v := .int .u64 c2) hH rfl
  have c2' := cell_of_block (k := 2) (v := .int .u64 c3) hH rfl
  clear hH
  by_cases h2 : c2 < 4611686018427387904
  · have h3 : decide (c3 < 4611686018427387904) = false := by simpa [nextOk, h2] using hn
    clear hn
    go_enter Tryd.func42, Tryd.ntmps42
    go_wp2_with fail
    refine (iNeed_no _ _).mono ?_
    rintro e w2 ⟨rfl, rfl⟩
    refine ⟨rfl, ?_, ?_⟩
    · unfold Panics
      rfl
    · exact (Below.refl w.heap.size w).alloc (Nat.le_refl _) _
  · have h3 : decide (c2 < 4611686018427387904) = false := by simpa using h2
    clear hn h2
    go_enter Tryd.func42, Tryd.ntmps42
    go_wp2_with fail
    refine (iNeed_no _ _).mono ?_
    rintro e w2 ⟨rfl, rfl⟩
    refine ⟨rfl, ?_, ?_⟩
    · unfold Panics
      rfl
    · exact (Below.refl w.heap.size w).alloc (Nat.le_refl _) _

set_option maxRecDepth 100000 in
set_option maxHeartbeats 2000000 in
theorem handNext_ok (H : Nat) (c : ClkT) (hf : c.Fits) (hn : nextOk c = true) (w : World) (hH : w.heap[H]? = some (.cells c.cells 92 (0, 0))) :
    Calls Tryd.prog 42 #[.pointer (some ⟨H, 0, none⟩)] w fun e w' => e = .returned (clkId (clkOn c)).val ∧ w'.heap[H]? = some (.cells (clkOn c).cells 92 (0, 0)) ∧ But H w.heap.size w w' := by
  obtain ⟨c1, c2, c3⟩ := c
  obtain ⟨_, ⟨f1, _⟩, f2, _⟩ := hf
  simp only at f1 f2
  have lH := block_lt hH
  have HH := Lib.hid hH
  have c1' := cell_of_block (k := 1) (v := .int .u64 c2) hH rfl
  have c2' := cell_of_block (k := 2) (v := .int .u64 c3) hH rfl
  have fH := free_of_block hH
  clear hH
  simp [nextOk] at hn
  obtain ⟨h2, h3⟩ := hn
  have w2 : IntKind.u64.wrap (c2 + 1) = c2 + 1 := by rw [IntKind.wrap_u64]; omega
  have w3 : IntKind.u64.wrap (c3 + 1) = c3 + 1 := by rw [IntKind.wrap_u64]; omega
  clear f1 f2
  go_enter Tryd.func42, Tryd.ntmps42
  go_wp2_with fail
  refine (iNeed_ok _ _).mono ?_
  rintro e w2 ⟨rfl, rfl⟩
  go_wp2_with fail
  have hsz : ((w.setCell ⟨H, 1, none⟩ (.int .u64 (c2 + 1))).setCell ⟨H, 2, none⟩ (.int .u64 (c3 + 1))).heap.size = w.heap.size := by simp [World.setCell]
  have g0 := heap_alloc_keeps (heap_set_same (k := 2) (heap_set_same (k := 1) HH.out (.int .u64 (c2 + 1))) (.int .u64 (c3 + 1))) (.cells #[.int .u64 0, .int .i64 0, .int .u64 0] 27)
  have g1 := World.alloc_heap_new ((w.setCell ⟨H, 1, none⟩ (.int .u64 (c2 + 1))).setCell ⟨H, 2, none⟩ (.int .u64 (c3 + 1))) (.cells #[.int .u64 0, .int .i64 0, .int .u64 0] 27)
  rw [hsz] at g1
  have gb : But H w.heap.size w _ := ⟨(Below.setCell (p := ⟨H, 2, none⟩) (Below.setCell (p := ⟨H, 1, none⟩) (Below.refl 0 w) (Nat.zero_le _) (.int .u64 (c2 + 1))) (Nat.zero_le _) (.int .u64 (c3 + 1))).alloc (Nat.zero_le _) (.cells #[.int .u64 0, .int .i64 0, .int .u64 0] 27), fun k hk hkp => by
    rw [Below.heap_alloc _ _ k (by rw [hsz]; exact hk), Below.heap_setCell _ _ _ _ hkp, Below.heap_setCell _ _ _ _ hkp]⟩
  clear hsz
  clear c1' c2' fH HH
  revert g0 g1 gb
  generalize World.alloc _ _ = W2
  intro g0 g1 gb
  have G0 := Lib.hid (show W2.heap[H]? = some (.cells #[.int .i64 c1, .int .u64 (c2 + 1), .int .u64 (c3 + 1)] 92 (0, 0)) from g0)
  have G1 := Lib.hid (show W2.heap[w.heap.size]? = some (.cells #[.int .u64 0, .int .i64 0, .int .u64 0] 27 (0, 0)) from g1)
  have GB := Lib.hid gb
  clear g0 g1 gb
  refine (wpIn_wide (n := 0)).1 ?_
  apply wp_region_vals 16 (Rl := [(eqv _), (eqv _), (eqv _), (eqv _), (eqv _), (eqv _), (eqv _), (eqv _), (eqv _), (eqv _), (eqv _), (eqv _), (eqv _), (eqv _), (eqv _), (eqv _)]) (C := (fun x y => Below x.heap.size x y))
  case hm => kernel_rfl
  case hk => rfl
  case hCr => exact (fun _ => Below.refl _ _)
  case hCt => intro _ _ _; exact (fun h k => grows_trans h k)
  case hst => exact ⟨fun _ _ _ _ h => h, fun _ _ _ _ h => h, fun _ _ _ _ h => h, fun _ _ _ _ h => h, fun _ _ _ _ h => h, fun _ _ _ _ h => h, fun _ _ _ _ h => h, fun _ _ _ _ h => h, fun _ _ _ _ h => h, fun _ _ _ _ h => h, fun _ _ _ _ h => h, fun _ _ _ _ h => h, fun _ _ _ _ h => h, fun _ _ _ _ h => h, fun _ _ _ _ h => h, fun _ _ _ _ h => h, trivial⟩
  case hfo => kernel_rfl
  case ht => kernel_rfl
  case hC0 => exact (grows_drew _)
  case hsteps =>
    refine ⟨?_, ?_, ?_, ?_, ?_, ?_, ?_, ?_, ?_, ?_, ?_, ?_, ?_, ?_, ?_, ?_, trivial⟩
    · -- 0
      intro a' w' hA hC hD
      have s0 : a'.tmps[0]? = some _ := (hA.at 0 (by kernel_rfl)).trans rfl
      clear hA hD
      refine stepOk_plain rfl ?_
      intro K hK
      gi_wp2
      exact hK _ _ rfl ((fun _ => Below.refl _ _) _)
    · -- 1
      intro a' w' hA hC hD
      obtain ⟨u36, s36, r36⟩ := hD ⟨0, .data⟩ (by simp) rfl _ rfl
      replace r36 : u36 = _ := r36
      subst r36
      clear hA hD
      refine stepOk_plain rfl ?_
      intro K hK
      gi_wp2
      exact hK _ _ rfl ((fun _ => Below.refl _ _) _)
    · -- 2
      intro a' w' hA hC hD
      obtain ⟨u37, s37, r37⟩ := hD ⟨1, .data⟩ (by simp) rfl _ rfl
      replace r37 : u37 = _ := r37
      subst r37
      clear hA hD
      refine stepOk_plain rfl ?_
      intro K hK
      gi_wp2
      exact hK _ _ rfl ((fun _ => Below.refl _ _) _)
    · -- 3
      intro a' w' hA hC hD
      obtain ⟨u38, s38, r38⟩ := hD ⟨2, .data⟩ (by simp) rfl _ rfl
      replace r38 : u38 = _ := r38
      subst r38
      clear hA hD
      refine stepOk_plain rfl ?_
      intro K hK
      gi_wp2
      exact hK _ _ rfl ((fun _ => Below.refl _ _) _)
    · -- 4
      intro a' w' hA hC hD
      obtain ⟨u39, s39, r39⟩ := hD ⟨3, .data⟩ (by simp) rfl _ rfl
      replace r39 : u39 = _ := r39
      subst r39
      have d0 := cell_of_block (k := 1) (v := .int .u64 (c2 + 1)) ((hC.block _ (block_lt G0.out)).trans G0.out) rfl
      clear hA hD
      refine stepOk_plain rfl ?_
      intro K hK
      gi_wp2
      exact hK _ _ rfl ((fun _ => Below.refl _ _) _)
    · -- 5
      intro a' w' hA hC hD
      have s0 : a'.tmps[0]? = some _ := (hA.at 0 (by kernel_rfl)).trans rfl
      clear hA hD
      refine stepOk_plain rfl ?_
      intro K hK
      gi_wp2
      exact hK _ _ rfl ((fun _ => Below.refl _ _) _)
    · -- 6
      intro a' w' hA hC hD
      obtain ⟨u41, s41, r41⟩ := hD ⟨5, .data⟩ (by simp) rfl _ rfl
      replace r41 : u41 = _ := r41
      subst r41
      clear hA hD
      refine stepOk_plain rfl ?_
      intro K hK
      gi_wp2
      exact hK _ _ rfl ((fun _ => Below.refl _ _) _)
    · -- 7
      intro a' w' hA hC hD
      obtain ⟨u42, s42, r42⟩ := hD ⟨6, .data⟩ (by simp) rfl _ rfl
      replace r42 : u42 = _ := r42
      subst r42
      clear hA hD
      refine stepOk_plain rfl ?_
      intro K hK
      gi_wp2
      exact hK _ _ rfl ((fun _ => Below.refl _ _) _)
    · -- 8
      intro a' w' hA hC hD
      obtain ⟨u43, s43, r43⟩ := hD ⟨7, .data⟩ (by simp) rfl _ rfl
      replace r43 : u43 = _ := r43
      subst r43
      clear hA hD
      refine stepOk_plain rfl ?_
      intro K hK
      gi_wp2
      exact hK _ _ rfl ((fun _ => Below.refl _ _) _)
    · -- 9
      intro a' w' hA hC hD
      obtain ⟨u44, s44, r44⟩ := hD ⟨8, .data⟩ (by simp) rfl _ rfl
      replace r44 : u44 = _ := r44
      subst r44
      have d0 := cell_of_block (k := 0) (v := .int .i64 c1) ((hC.block _ (block_lt G0.out)).trans G0.out) rfl
      clear hA hD
      refine stepOk_plain rfl ?_
      intro K hK
      gi_wp2
      exact hK _ _ rfl ((fun _ => Below.refl _ _) _)
    · -- 10
      intro a' w' hA hC hD
      have s0 : a'.tmps[0]? = some _ := (hA.at 0 (by kernel_rfl)).trans rfl
      clear hA hD
      refine stepOk_plain rfl ?_
      intro K hK
      gi_wp2
      exact hK _ _ rfl ((fun _ => Below.refl _ _) _)
    · -- 11
      intro a' w' hA hC hD
      obtain ⟨u46, s46, r46⟩ := hD ⟨10, .data⟩ (by simp) rfl _ rfl
      replace r46 : u46 = _ := r46
      subst r46
      clear hA hD
      refine stepOk_plain rfl ?_
      intro K hK
      gi_wp2
      exact hK _ _ rfl ((fun _ => Below.refl _ _) _)
    · -- 12
      intro a' w' hA hC hD
      obtain ⟨u47, s47, r47⟩ := hD ⟨11, .data⟩ (by simp) rfl _ rfl
      replace r47 : u47 = _ := r47
      subst r47
      clear hA hD
      refine stepOk_plain rfl ?_
      intro K hK
      gi_wp2
      exact hK _ _ rfl ((fun _ => Below.refl _ _) _)
    · -- 13
      intro a' w' hA hC hD
      obtain ⟨u48, s48, r48⟩ := hD ⟨12, .data⟩ (by simp) rfl _ rfl
      replace r48 : u48 = _ := r48
      subst r48
      clear hA hD
      refine stepOk_plain rfl ?_
      intro K hK
      gi_wp2
      exact hK _ _ rfl ((fun _ => Below.refl _ _) _)
    · -- 14
      intro a' w' hA hC hD
      obtain ⟨u49, s49, r49⟩ := hD ⟨13, .data⟩ (by simp) rfl _ rfl
      replace r49 : u49 = _ := r49
      subst r49
      have d0 := cell_of_block (k := 2) (v := .int .u64 (c3 + 1)) ((hC.block _ (block_lt G0.out)).trans G0.out) rfl
      clear hA hD
      refine stepOk_plain rfl ?_
      intro K hK
      gi_wp2
      exact hK _ _ rfl ((fun _ => Below.refl _ _) _)
    · -- 15
      intro a' w' hA hC hD
      obtain ⟨u40, s40, r40⟩ := hD ⟨4, .data⟩ (by simp) rfl _ rfl
      replace r40 : u40 = _ := r40
      subst r40
      obtain ⟨u45, s45, r45⟩ := hD ⟨9, .data⟩ (by simp) rfl _ rfl
      replace r45 : u45 = _ := r45
      subst r45
      obtain ⟨u50, s50, r50⟩ := hD ⟨14, .data⟩ (by simp) rfl _ rfl
      replace r50 : u50 = _ := r50
      subst r50
      clear hA hD
      refine stepOk_plain rfl ?_
      intro K hK
      gi_wp2
      exact hK _ _ rfl ((fun _ => Below.refl _ _) _)
  case hend =>
    intro w3 hC
    simp only [EndFrom, eqv, forall_eq, Act.put, List.length_cons, List.length_nil, List.drop_succ_cons, List.drop_zero, Nat.reduceAdd, List.setIfInBounds_toArray, List.set_cons_succ, List.set_cons_zero]
    have K0 := Lib.hid ((hC.block _ (block_lt G0.out)).trans G0.out)
    have k1 := (hC.block _ (block_lt G1.out)).trans G1.out
    have K1 := Lib.hid k1
    have KB := Lib.hid (show But H w.heap.size w w3 from ⟨GB.out.1.trans (hC.mono (Nat.zero_le _)), fun k hk hkp => (hC.block k (by have := GB.out.1.size; omega)).trans (GB.out.2 k hk hkp)⟩)
    have d0 := cell_of_block (k := 0) (v := .int .u64 0) k1 rfl
    have d1 := cell_of_block (k := 1) (v := .int .i64 0) k1 rfl
    have d2 := cell_of_block (k := 2) (v := .int .u64 0) k1 rfl
    have fz := free_of_block k1
    clear hC k1
    gi_wp2
    go_wp2_with fail
    refine bodyPost_ret (v := (clkId (clkOn ⟨c1, c2, c3⟩)).val) (by simp [clkId, clkOn, IdT.val, results, Tryd.results42, go_sem, d0, d1, d2]) rfl ⟨rfl, ?_, ?_⟩
    · exact heap_set3_other K0.out (by omega)
    · exact ⟨below_set3 KB.out.1 (Nat.zero_le _), fun k hk hkp => (heap_set3_eq (by omega)).trans (KB.out.2 k hk hkp)⟩
end Go.Proofs.YtppaheekpmgifaaDoor
