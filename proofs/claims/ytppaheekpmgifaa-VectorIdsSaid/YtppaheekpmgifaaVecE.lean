/- Package vector: what the numbers of vectors come to. -/
import Derived.Test.YtppaheekpmgifaaVecD
namespace Go.Proofs.Ytppaheekpmgifaa
set_option linter.unusedSimpArgs false
set_option linter.unusedVariables false
open Go.RowKit Go.Shelf

/-- What the first i vectors of a row come to with v, site by site. -/
def mergeN (f : Int → Int → Int) (v : Nat → Int) (x : Nat → Nat → Int) : Nat → Nat → Int
  | 0, s => v s
  | i + 1, s => f (mergeN f v x i s) (x i s)

/-- .. and of vector i the first j sites. -/
def mergeTo (f : Int → Int → Int) (v : Nat → Int) (x : Nat → Nat → Int) (i j : Nat) (s : Nat) : Int := if s < j then mergeN f v x (i + 1) s else mergeN f v x i s
theorem mergeTo_zero (f : Int → Int → Int) (v : Nat → Int) (x : Nat → Nat → Int) (i : Nat) : mergeTo f v x i 0 = mergeN f v x i := by funext s; simp [mergeTo]
theorem mergeTo_last (f : Int → Int → Int) (v : Nat → Int) (x : Nat → Nat → Int) (i : Nat) : lit9 (mergeTo f v x i 9) = lit9 (mergeN f v x (i + 1)) := lit9_ext fun s hs => by simp [mergeTo, hs]
theorem mergeTo_here (f : Int → Int → Int) (v : Nat → Int) (x : Nat → Nat → Int) (i j : Nat) : mergeTo f v x i j j = mergeN f v x i j := by simp [mergeTo]
theorem mergeTo_succ (f : Int → Int → Int) (v : Nat → Int) (x : Nat → Nat → Int) (i j : Nat) : upd (mergeTo f v x i j) j (f (mergeN f v x i j) (x i j)) = mergeTo f v x i (j + 1) := by
  funext s
  unfold upd mergeTo
  by_cases h : s = j
  · subst h; simp [mergeN]
  · by_cases h2 : s < j
    · simp [h, h2, Nat.lt_succ_of_lt h2]
    · have : ¬ s < j + 1 := by omega
      simp [h, h2, this]

set_option maxRecDepth 100000 in
set_option maxHeartbeats 4000000 in
theorem merged_yes (ft : Nat) (f : Int → Int → Int) (hft : ∀ args w, (callFunc ft args).run Try.prog w = .ok (.enter ft args) w) (hf : ∀ (a b : Int) (w : World), Calls Try.prog ft #[.int .u64 a, .int .u64 b] w fun e w' => e = .returned (.int .u64 (f a b)) ∧ w = w')
    (v : Nat → Int) (sv : Value) (n : Nat) (x : Nat → Nat → Int) (w : World) (hn : n ≤ 1000000) (he : Elems w sv n 9 (vecCells x))
    (hv : vecOk v = true) (hx : ∀ i, i < n → vecOk (x i) = true) :
    Calls Try.prog 35 #[vecV v, sv, .func (.func ft) #[] #[], .func (.func 37) #[] #[]] w (Gives (vecV (mergeN f v x n)) w) := by
  have Hf := Lib.hid hf
  have Hx := Lib.hid hx
  clear hf hx
  rcases he with ⟨rfl, rfl⟩ | ⟨b, off, cap, rfl, hlt, hc⟩
  · go_enter Try.func35, Try.ntmps35
    simp only [vecV, lit9]
    go_wp2_with (first | (go_at_call 12; refine (vecCheck_any v _).mono ?_; rintro e w1 ⟨rfl, hb⟩; simp only [errOf, hv]) | (go_at_call 43; refine (need_ok _ _).mono ?_; rintro e w' ⟨rfl, rfl⟩))
    have hB : Below w.heap.size w w1 := ((((Below.refl w.heap.size w).alloc (Nat.le_refl _) _).alloc (by simp) _).trans (hb.mono (by simp; omega)))
    have hbv : w1.heap[w.heap.size]? = some (.cells (lit9 v) 24 (0, 0)) := (hb.block _ (by simp; omega)).trans (heap_alloc_keeps (World.alloc_heap_new w _) _)
    have hbr : w1.heap[w.heap.size + 1]? = some (.cells (lit9 fun _ => 0) 24 (0, 0)) := by
      refine (hb.block _ (by simp)).trans ?_
      have := World.alloc_heap_new (w.alloc (.cells (lit9 v) 24)) (.cells (lit9 fun _ => 0) 24)
      rw [World.size_alloc] at this
      exact this
    clear hb hv
    have c0 := cell_of_block hbv (lit9_get _ 0 (by omega))
    have c1 := cell_of_block hbv (lit9_get _ 1 (by omega))
    have c2 := cell_of_block hbv (lit9_get _ 2 (by omega))
    have c3 := cell_of_block hbv (lit9_get _ 3 (by omega))
    have c4 := cell_of_block hbv (lit9_get _ 4 (by omega))
    have c5 := cell_of_block hbv (lit9_get _ 5 (by omega))
    have c6 := cell_of_block hbv (lit9_get _ 6 (by omega))
    have c7 := cell_of_block hbv (lit9_get _ 7 (by omega))
    have c8 := cell_of_block hbv (lit9_get _ 8 (by omega))
    have d0 := cell_of_block hbr (lit9_get _ 0 (by omega))
    have d1 := cell_of_block hbr (lit9_get _ 1 (by omega))
    have d2 := cell_of_block hbr (lit9_get _ 2 (by omega))
    have d3 := cell_of_block hbr (lit9_get _ 3 (by omega))
    have d4 := cell_of_block hbr (lit9_get _ 4 (by omega))
    have d5 := cell_of_block hbr (lit9_get _ 5 (by omega))
    have d6 := cell_of_block hbr (lit9_get _ 6 (by omega))
    have d7 := cell_of_block hbr (lit9_get _ 7 (by omega))
    have d8 := cell_of_block hbr (lit9_get _ 8 (by omega))
    have fr := free_of_block hbr
    clear hbv hbr
    have HB := Lib.hid hB
    clear hB
    go_loopw [20] (fun i wr => i = .int .i64 0 ∧ w1 = wr) (fun _ _ => 0)
    case atStart => exact ⟨rfl, rfl⟩
    case round =>
      obtain ⟨rfl, rfl⟩ := hrel
      go_wp2_with fail
      go_loopw [31] (fun i wr => i = .int .i64 0 ∧ w1 = wr) (fun _ _ => 0)
      case atStart => exact ⟨rfl, rfl⟩
      case round =>
        obtain ⟨rfl, rfl⟩ := hrel
        go_wp2_with fail
        refine bodyPost_ret (v := vecV v) (by simp [vecV, lit9, results, Try.results35, go_sem, d0, d1, d2, d3, d4, d5, d6, d7, d8]) rfl ⟨rfl, ?_⟩
        exact below_set9 _ HB.out (by omega)
  · go_enter Try.func35, Try.ntmps35
    simp only [vecV, lit9]
    go_wp2_with (first | (go_at_call 12; refine (vecCheck_any v _).mono ?_; rintro e w1 ⟨rfl, hb⟩; simp only [errOf, hv]) | (go_at_call 43; refine (need_ok _ _).mono ?_; rintro e w' ⟨rfl, rfl⟩))
    have hB : Below w.heap.size w w1 := ((((Below.refl w.heap.size w).alloc (Nat.le_refl _) _).alloc (by simp) _).trans (hb.mono (by simp; omega)))
    have hbv : w1.heap[w.heap.size]? = some (.cells (lit9 v) 24 (0, 0)) := (hb.block _ (by simp; omega)).trans (heap_alloc_keeps (World.alloc_heap_new w _) _)
    have hbr : w1.heap[w.heap.size + 1]? = some (.cells (lit9 fun _ => 0) 24 (0, 0)) := by
      refine (hb.block _ (by simp)).trans ?_
      have := World.alloc_heap_new (w.alloc (.cells (lit9 v) 24)) (.cells (lit9 fun _ => 0) 24)
      rw [World.size_alloc] at this
      exact this
    have HB := Lib.hid hB
    have HC := Lib.hid hc
    have Hbv := Lib.hid hbv
    have Hbr := Lib.hid hbr
    have Hv := Lib.hid hv
    clear hB hb hc hbv hbr hv
    go_loopw [20] (fun i wr => ∃ k : Nat, k ≤ n ∧ i = .int .i64 k ∧ Below w1.heap.size w1 wr) (fun i _ => n - (intOf i).toNat)
    case atStart => exact ⟨0, Nat.zero_le _, rfl, Below.refl _ _⟩
    case round =>
      obtain ⟨k, hk, rfl, hbr⟩ := hrel
      have Hb1 := Lib.hid hbr
      clear hbr
      by_cases hkn : k < n
      · obtain ⟨e0, e1, e2, e3, e4, e5, e6, e7, e8⟩ := vecElem (fun j hj => ((HB.out.trans (Hb1.out.mono HB.out.size)).cell (p := ⟨b, off + j, none⟩) hlt).trans (HC.out j hj)) hkn
        go_wp2_with fail
        refine (vecCheck_any (x k) _).mono ?_
        rintro e w2 ⟨rfl, hb2⟩
        have hw2 := (Hb1.out.alloc Hb1.out.size _).trans (hb2.mono (by have := Hb1.out.size; simp; omega))
        have Hw2 := Lib.hid hw2
        clear hw2 hb2
        rw [Hx.out k hkn]
        simp only [errOf]
        go_wp2_with (go_at_call 43; refine (need_ok _ _).mono ?_; rintro e w' ⟨rfl, rfl⟩)
        go_roundw
        case rel => exact ⟨k + 1, by omega, by go_num, Hw2.out⟩
        case measure => simp [intOf]; omega
      · obtain rfl : n = k := by omega
        have hA := HB.out.trans (Hb1.out.mono HB.out.size)
        have hbv : wr.heap[w.heap.size]? = some (.cells (lit9 (mergeN f v x 0)) 24 (0, 0)) := (Hb1.out.block _ (block_lt Hbv.out)).trans Hbv.out
        have hbr : wr.heap[w.heap.size + 1]? = some (.cells (lit9 fun _ => 0) 24 (0, 0)) := (Hb1.out.block _ (block_lt Hbr.out)).trans Hbr.out
        clear HB Hb1 Hbv Hbr
        have HA := Lib.hid hA
        have Hbv := Lib.hid hbv
        have Hbr := Lib.hid hbr
        clear hA hbv hbr
        clear hk hkn
        obtain ⟨wa, hwa⟩ : ∃ wa : World, wa = wr := ⟨_, rfl⟩
        rw [← hwa] at HA Hbv Hbr ⊢
        clear hwa
        go_wp2_with fail
        go_loopw [31] (fun i wr => ∃ k : Nat, k ≤ n ∧ i = .int .i64 k ∧ Below w.heap.size w wr ∧ wr.heap[w.heap.size]? = some (.cells (lit9 (mergeN f v x k)) 24 (0, 0)) ∧ wr.heap[w.heap.size + 1]? = some (.cells (lit9 fun _ => 0) 24 (0, 0))) (fun i _ => n - (intOf i).toNat)
        case atStart => exact ⟨0, Nat.zero_le _, rfl, HA.out, Hbv.out, Hbr.out⟩
        case round =>
          obtain ⟨k, hk, rfl, hA, hbv, hbr⟩ := hrel
          clear HA Hbv Hbr
          have HA := Lib.hid hA
          have Hbv := Lib.hid hbv
          have Hbr := Lib.hid hbr
          clear hA hbv hbr
          by_cases hkn : k < n
          · obtain ⟨e0, e1, e2, e3, e4, e5, e6, e7, e8⟩ := vecElem (fun j hj => (HA.out.cell (p := ⟨b, off + j, none⟩) hlt).trans (HC.out j hj)) hkn
            go_wp2_with fail
            clear e0 e1 e2 e3 e4 e5 e6 e7 e8
            obtain ⟨wo, hwo⟩ : ∃ wo : World, wo = wr := ⟨_, rfl⟩
            rw [← hwo] at HA Hbv Hbr ⊢
            clear hwo
            go_loopw [35] (fun j wr => ∃ m : Nat, m ≤ 9 ∧ j = .int .i64 m ∧ Below w.heap.size w wr ∧ wr.heap[w.heap.size]? = some (.cells (lit9 (mergeTo f v x k m)) 24 (0, 0)) ∧ wr.heap[w.heap.size + 1]? = some (.cells (lit9 fun _ => 0) 24 (0, 0)) ∧ wr.heap[wo.heap.size]? = some (.cells (lit9 (x k)) 24 (0, 0))) (fun i _ => 9 - (intOf i).toNat)
            case atStart =>
              refine ⟨0, Nat.zero_le _, rfl, HA.out.alloc HA.out.size _, ?_, heap_alloc_keeps Hbr.out _, World.alloc_heap_new _ _⟩
              rw [mergeTo_zero]
              exact heap_alloc_keeps Hbv.out _
            case round =>
              obtain ⟨m, hm, rfl, hA, hbv, hbr, hbw⟩ := hrel
              have Hoa := Lib.hid (block_lt Hbv.out)
              clear HA Hbv Hbr
              have HA := Lib.hid hA
              have Hbv := Lib.hid hbv
              have Hbr := Lib.hid hbr
              have Hbw := Lib.hid hbw
              clear hA hbv hbr hbw
              by_cases hm9 : m < 9
              · have cv := cell_of_block Hbv.out (lit9_get _ m hm9)
                have cw := cell_of_block Hbw.out (lit9_get _ m hm9)
                rw [mergeTo_here] at cv
                have Cv := Lib.hid cv
                have Cw := Lib.hid cw
                clear cv cw
                go_wp2_with fail
                refine (wpIn_wide (n := 0)).1 ?_
                refine wp_region_facts (by kernel_rfl) [(fun v_ _ => v_ = (.int .i64 (m : Int) : Value)), (fun v_ _ => v_ = (.func (.func 37) #[] #[] : Value)), (fun v_ _ => v_ = (.func (.func ft) #[] #[] : Value)), (fun v_ _ => v_ = (.int .i64 (m : Int) : Value)), (fun v_ _ => v_ = (.pointer (some ⟨w.heap.size, m, none⟩) : Value)), (fun v_ _ => v_ = (.int .u64 (mergeN f v x k m) : Value)), (fun v_ _ => v_ = (.int .i64 (m : Int) : Value)), (fun v_ _ => v_ = (.pointer (some ⟨wo.heap.size, m, none⟩) : Value)), (fun v_ _ => v_ = (.int .u64 (x k m) : Value)), (fun v_ _ => v_ = (.int .u64 (f (mergeN f v x k m) (x k m)) : Value)), (fun v_ _ => v_ = (.int .u64 (f (mergeN f v x k m) (x k m)) : Value))] (fun x y => Below x.heap.size x y) (fun _ => Below.refl _ _) (fun h k => grows_trans h k) ⟨fun _ _ _ _ h => h, fun _ _ _ _ h => h, fun _ _ _ _ h => h, fun _ _ _ _ h => h, fun _ _ _ _ h => h, fun _ _ _ _ h => h, fun _ _ _ _ h => h, fun _ _ _ _ h => h, fun _ _ _ _ h => h, fun _ _ _ _ h => h, fun _ _ _ _ h => h, trivial⟩ (by kernel_rfl) (by kernel_rfl) (grows_drew _)  ?steps ?fin
                case steps =>
                  refine ⟨?_, ?_, ?_, ?_, ?_, ?_, ?_, ?_, ?_, ?_, ?_, trivial⟩
                  · -- 0
                    intro a' w' hA hC hD
                    have s13 : a'.tmps[13]? = some (.int .i64 (m : Int)) := (hA.at 13 (by kernel_rfl)).trans rfl
                    clear hA hD
                    refine stepOk_plain rfl ?_
                    intro K hK
                    gi_wp2
                    exact hK (.int .i64 (m : Int)) _ rfl ((fun _ => Below.refl _ _) _)
                  · -- 1
                    intro a' w' hA hC hD
                    have s3 : a'.tmps[3]? = some (.func (.func 37) #[] #[]) := (hA.at 3 (by kernel_rfl)).trans rfl
                    clear hA hD
                    refine stepOk_plain rfl ?_
                    intro K hK
                    gi_wp2
                    exact hK (.func (.func 37) #[] #[]) _ rfl ((fun _ => Below.refl _ _) _)
                  · -- 2
                    intro a' w' hA hC hD
                    have s2 : a'.tmps[2]? = some (.func (.func ft) #[] #[]) := (hA.at 2 (by kernel_rfl)).trans rfl
                    clear hA hD
                    refine stepOk_plain rfl ?_
                    intro K hK
                    gi_wp2
                    exact hK (.func (.func ft) #[] #[]) _ rfl ((fun _ => Below.refl _ _) _)
                  · -- 3
                    intro a' w' hA hC hD
                    have s13 : a'.tmps[13]? = some (.int .i64 (m : Int)) := (hA.at 13 (by kernel_rfl)).trans rfl
                    clear hA hD
                    refine stepOk_plain rfl ?_
                    intro K hK
                    gi_wp2
                    exact hK (.int .i64 (m : Int)) _ rfl ((fun _ => Below.refl _ _) _)
                  · -- 4
                    intro a' w' hA hC hD
                    have s4 : a'.tmps[4]? = some (.pointer (some ⟨w.heap.size, 0, none⟩)) := (hA.at 4 (by kernel_rfl)).trans rfl
                    obtain ⟨u41, s41, r41⟩ := hD ⟨3, .data⟩ (by simp) rfl _ rfl
                    replace r41 : u41 = .int .i64 (m : Int) := r41
                    subst r41
                    clear hA hD
                    refine stepOk_plain rfl ?_
                    intro K hK
                    gi_wp2
                    exact hK (.pointer (some ⟨w.heap.size, m, none⟩)) _ rfl ((fun _ => Below.refl _ _) _)
                  · -- 5
                    intro a' w' hA hC hD
                    obtain ⟨u42, s42, r42⟩ := hD ⟨4, .data⟩ (by simp) rfl _ rfl
                    replace r42 : u42 = .pointer (some ⟨w.heap.size, m, none⟩) := r42
                    subst r42
                    have c1 := (hC.cell (p := ⟨w.heap.size, m, none⟩) (block_lt Hbv.out)).trans Cv.out
                    clear hA hD
                    refine stepOk_plain rfl ?_
                    intro K hK
                    gi_wp2
                    exact hK (.int .u64 (mergeN f v x k m)) _ rfl ((fun _ => Below.refl _ _) _)
                  · -- 6
                    intro a' w' hA hC hD
                    have s13 : a'.tmps[13]? = some (.int .i64 (m : Int)) := (hA.at 13 (by kernel_rfl)).trans rfl
                    clear hA hD
                    refine stepOk_plain rfl ?_
                    intro K hK
                    gi_wp2
                    exact hK (.int .i64 (m : Int)) _ rfl ((fun _ => Below.refl _ _) _)
                  · -- 7
                    intro a' w' hA hC hD
                    have s12 : a'.tmps[12]? = some (.pointer (some ⟨wo.heap.size, 0, none⟩)) := (hA.at 12 (by kernel_rfl)).trans rfl
                    obtain ⟨u44, s44, r44⟩ := hD ⟨6, .data⟩ (by simp) rfl _ rfl
                    replace r44 : u44 = .int .i64 (m : Int) := r44
                    subst r44
                    clear hA hD
                    refine stepOk_plain rfl ?_
                    intro K hK
                    gi_wp2
                    exact hK (.pointer (some ⟨wo.heap.size, m, none⟩)) _ rfl ((fun _ => Below.refl _ _) _)
                  · -- 8
                    intro a' w' hA hC hD
                    obtain ⟨u45, s45, r45⟩ := hD ⟨7, .data⟩ (by simp) rfl _ rfl
                    replace r45 : u45 = .pointer (some ⟨wo.heap.size, m, none⟩) := r45
                    subst r45
                    have c1 := (hC.cell (p := ⟨wo.heap.size, m, none⟩) (block_lt Hbw.out)).trans Cw.out
                    clear hA hD
                    refine stepOk_plain rfl ?_
                    intro K hK
                    gi_wp2
                    exact hK (.int .u64 (x k m)) _ rfl ((fun _ => Below.refl _ _) _)
                  · -- 9
                    intro a' w' hA hC hD
                    obtain ⟨u40, s40, r40⟩ := hD ⟨2, .data⟩ (by simp) rfl _ rfl
                    replace r40 : u40 = .func (.func ft) #[] #[] := r40
                    subst r40
                    obtain ⟨u43, s43, r43⟩ := hD ⟨5, .data⟩ (by simp) rfl _ rfl
                    replace r43 : u43 = .int .u64 (mergeN f v x k m) := r43
                    subst r43
                    obtain ⟨u46, s46, r46⟩ := hD ⟨8, .data⟩ (by simp) rfl _ rfl
                    replace r46 : u46 = .int .u64 (x k m) := r46
                    subst r46
                    clear hA hD
                    refine stepOk_plain rfl ?_
                    intro K hK
                    gi_wp2_with fail; refine (callsIn_wide.2 (Hf.out _ _ _)).mono ?_; rintro e w'' ⟨rfl, rfl⟩
                    exact hK (.int .u64 (f (mergeN f v x k m) (x k m))) _ rfl ((fun _ => Below.refl _ _) _)
                  · -- 10
                    intro a' w' hA hC hD
                    obtain ⟨u39, s39, r39⟩ := hD ⟨1, .data⟩ (by simp) rfl _ rfl
                    replace r39 : u39 = .func (.func 37) #[] #[] := r39
                    subst r39
                    obtain ⟨u47, s47, r47⟩ := hD ⟨9, .data⟩ (by simp) rfl _ rfl
                    replace r47 : u47 = .int .u64 (f (mergeN f v x k m) (x k m)) := r47
                    subst r47
                    clear hA hD
                    refine stepOk_plain rfl ?_
                    intro K hK
                    gi_wp2_with fail; refine (callsIn_wide.2 (same_fn _ _)).mono ?_; rintro e w'' ⟨rfl, rfl⟩
                    exact hK (.int .u64 (f (mergeN f v x k m) (x k m))) _ rfl ((fun _ => Below.refl _ _) _)
                case fin =>
                  intro w3 hC
                  simp only [EndFrom, forall_eq, Act.put, List.length_cons, List.length_nil, List.drop_succ_cons, List.drop_zero, Nat.reduceAdd]
                  have b3 := (hC.block _ (block_lt Hbv.out)).trans Hbv.out
                  have r3 := (hC.block _ (block_lt Hbr.out)).trans Hbr.out
                  have v3 := (hC.block _ (block_lt Hbw.out)).trans Hbw.out
                  have HA3 := Lib.hid (HA.out.trans (hC.mono HA.out.size))
                  have c3 := (hC.cell (p := ⟨w.heap.size, m, none⟩) (block_lt Hbv.out)).trans Cv.out
                  have f3 := free_of_block b3 m
                  have B3 := Lib.hid b3
                  have R3 := Lib.hid r3
                  have V3 := Lib.hid v3
                  clear hC b3 r3 v3 HA Hbv Hbr Hbw Cv Cw
                  gi_wp2
                  go_wp2
                  go_roundw
                  case rel =>
                    refine ⟨m + 1, by omega, by go_num, HA3.out.setCell (p := ⟨w.heap.size, m, none⟩) (Nat.le_refl _) _, ?_, heap_set_other R3.out (by omega) _, heap_set_other V3.out (by have := Hoa.out; omega) _⟩
                    rw [heap_set_same B3.out, lit9_set _ _ _ hm9, mergeTo_succ]
                  case measure => simp [intOf]; omega
              · obtain rfl : m = 9 := by omega
                go_wp2
                go_roundw
                case rel =>
                  refine ⟨k + 1, by omega, by go_num, HA.out, ?_, Hbr.out⟩
                  rw [← mergeTo_last]
                  exact Hbv.out
                case measure => simp [intOf]; omega
          · obtain rfl : n = k := by omega
            have c0 := cell_of_block Hbv.out (lit9_get _ 0 (by omega))
            have c1 := cell_of_block Hbv.out (lit9_get _ 1 (by omega))
            have c2 := cell_of_block Hbv.out (lit9_get _ 2 (by omega))
            have c3 := cell_of_block Hbv.out (lit9_get _ 3 (by omega))
            have c4 := cell_of_block Hbv.out (lit9_get _ 4 (by omega))
            have c5 := cell_of_block Hbv.out (lit9_get _ 5 (by omega))
            have c6 := cell_of_block Hbv.out (lit9_get _ 6 (by omega))
            have c7 := cell_of_block Hbv.out (lit9_get _ 7 (by omega))
            have c8 := cell_of_block Hbv.out (lit9_get _ 8 (by omega))
            have d0 := cell_of_block Hbr.out (lit9_get _ 0 (by omega))
            have d1 := cell_of_block Hbr.out (lit9_get _ 1 (by omega))
            have d2 := cell_of_block Hbr.out (lit9_get _ 2 (by omega))
            have d3 := cell_of_block Hbr.out (lit9_get _ 3 (by omega))
            have d4 := cell_of_block Hbr.out (lit9_get _ 4 (by omega))
            have d5 := cell_of_block Hbr.out (lit9_get _ 5 (by omega))
            have d6 := cell_of_block Hbr.out (lit9_get _ 6 (by omega))
            have d7 := cell_of_block Hbr.out (lit9_get _ 7 (by omega))
            have d8 := cell_of_block Hbr.out (lit9_get _ 8 (by omega))
            have fr := free_of_block Hbr.out
            go_wp2
            refine bodyPost_ret (v := vecV (mergeN f v x n)) (by simp [vecV, lit9, results, Try.results35, go_sem, d0, d1, d2, d3, d4, d5, d6, d7, d8]) rfl ⟨rfl, ?_⟩
            exact below_set9 _ HA.out (by omega)
end Go.Proofs.Ytppaheekpmgifaa
