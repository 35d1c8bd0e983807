/- The document's answer for vectors: With. -/
import Derived.Test.YtppaheekpmgifaaRefA
import Derived.Test.YtppaheekpmgifaaIdC
import Derived.Test.YtppaheekpmgifaaVecK
namespace Go.Proofs.Ytppaheekpmgifaa
set_option linter.unusedSimpArgs false
set_option linter.unusedVariables false
open Go.RowKit Go.Shelf

theorem takeB_ok {u u' : Nat → Int} {i : IdT} (h : takeB u i = .ok u') : vecOk u' = true := by
  unfold takeB at h
  split at h
  · cases h
  · split at h
    · cases h
    · split at h
      · cases h
      · rename_i h1 h2 h3
        cases h
        have h3' : nextB u i = true := by simpa using h3
        unfold nextB bothOk at h3'
        simp only [Bool.and_eq_true, beq_iff_eq] at h3'
        obtain ⟨⟨hv, hi⟩, hs⟩ := h3'
        obtain ⟨_, ⟨s1, s2⟩, q1, q2⟩ := (idOk_iff i).1 hi
        rw [vecOk_iff] at hv ⊢
        refine ⟨?_, fun k k1 k9 => ?_⟩
        · unfold upd; rw [if_neg (by omega)]; exact hv.1
        · unfold upd
          split
          · omega
          · exact hv.2 k k1 k9
theorem withTo_ok {v : Nat → Int} (hv : vecOk v = true) {x : Nat → IdT} : ∀ {k : Nat} {u : Nat → Int}, withTo v x k = .ok u → vecOk u = true
  | 0, u, h => by cases h; exact hv
  | k + 1, u, h => by
    unfold withTo at h
    split at h
    · cases h
    · exact takeB_ok h
/-- What taking an id comes to, where it is a vector. -/
theorem takeB_is {u : Nat → Int} (hu : vecOk u = true) (i : IdT) : takeB u i = if idOk i = false then .error 210 else if i.seq ≤ u i.site.toNat then .error 5 else if i.seq ≠ u i.site.toNat + 1 then .error 231 else .ok (upd u i.site.toNat i.seq) := by
  unfold takeB hasB nextB bothOk
  rw [hu]
  cases hi : idOk i
  · simp
  · simp only [Bool.true_and, Bool.false_eq_true, reduceCtorEq, if_false, decide_eq_true_eq]
    by_cases h1 : i.seq ≤ u i.site.toNat
    · rw [if_pos h1, if_pos h1]
    · rw [if_neg h1, if_neg h1]
      by_cases h2 : i.seq = u i.site.toNat + 1
      · rw [if_neg (by simp [h2]), if_neg (by simp [h2]), h2]
      · rw [if_pos (by simp [h2]), if_pos h2]
theorem heap9_get {w : World} {p : Nat} {v : Nat → Int} {t : TypeId} (h : w.heap[p]? = some (.cells (lit9 v) t (0, 0))) {k : Nat} (hk : k < 9) : w.cell? ⟨p, k, none⟩ = some (.int .u64 (v k)) := cell_of_block h (lit9_get v k hk)

set_option maxRecDepth 100000 in
set_option maxHeartbeats 2000000 in
theorem refWith_any (v : Nat → Int) (h0 : ∀ j, 0 ≤ v j) (sv : Value) (n : Nat) (x : Nat → IdT) (w : World) (hn : n ≤ 1000000) (he : Elems w sv n 3 (idCells x)) :
    Calls Try.prog 29 #[vecV v, sv] w (Gives (resV (withB v x n)) w) := by
  obtain ⟨sa, cap, rfl, hs⟩ := he.shape
  have Hs := Lib.hid hs
  have H0 := Lib.hid h0
  obtain ⟨res, hres⟩ : ∃ res, withB v x n = res := ⟨_, rfl⟩
  rw [hres]
  have Hres := Lib.hid hres
  clear hs he h0 hres
  go_enter Try.func29, Try.ntmps29
  simp only [vecV, lit9]
  go_wp2_with fail
  have hbv := heap_alloc_keeps (World.alloc_heap_new w (.cells (lit9 v) 24)) (.cells (lit9 fun _ => 0) 24)
  have hbr := newBlock (w.alloc (.cells (lit9 v) 24)) (.cells (lit9 fun _ => 0) 24) (w.heap.size + 1) (by simp)
  have Hbv := Lib.hid hbv
  have Hbr := Lib.hid hbr
  clear hbv hbr
  refine (right_any v _).mono ?_
  rintro e w1 ⟨rfl, hb⟩
  have hB : Below w.heap.size w w1 := (((Below.refl w.heap.size w).alloc (Nat.le_refl _) _).alloc (by simp) _).trans (hb.mono (by simp; omega))
  have hbv : w1.heap[w.heap.size]? = some (.cells (lit9 v) 24 (0, 0)) := (hb.block _ (block_lt Hbv.out)).trans Hbv.out
  have hbr : w1.heap[w.heap.size + 1]? = some (.cells (lit9 fun _ => 0) 24 (0, 0)) := (hb.block _ (block_lt Hbr.out)).trans Hbr.out
  clear hb Hbv Hbr
  have HB := Lib.hid hB
  have Hbv := Lib.hid hbv
  have Hbr := Lib.hid hbr
  clear hB hbv hbr
  cases hv : vecOk v
  · have Hr := Lib.hid (show res = .error 230 by rw [← Hres.out]; unfold withB; rw [if_neg (by rw [hv]; simp)])
    have hbr := Hbr.out
    obtain ⟨d0, d1, d2, d3, d4, d5, d6, d7, d8⟩ := vec9 hbr
    have fr := free_of_block hbr
    clear hbr
    go_wp2_with fail
    refine bodyPost_ret (v := resV (.error 230)) (by simp [resV, vecV, lit9, results, Try.results29, go_sem, d0, d1, d2, d3, d4, d5, d6, d7, d8]) rfl ⟨by rw [Hr.out], ?_⟩
    exact below_set9 (fun _ => 0) HB.out (by omega)
  · have Hr := Lib.hid (show res = withTo v x n by rw [← Hres.out]; unfold withB; rw [if_pos hv])
    have Hv := Lib.hid hv
    clear hv
    go_wp2_with fail
    go_loopw [14] (fun i wr => ∃ (k : Nat) (u : Nat → Int), k ≤ n ∧ i = .int .i64 k ∧ withTo v x k = .ok u ∧ Below w.heap.size w wr ∧ wr.heap[w.heap.size]? = some (.cells (lit9 u) 24 (0, 0)) ∧ wr.heap[w.heap.size + 1]? = some (.cells (lit9 fun _ => 0) 24 (0, 0))) (fun i _ => n - (intOf i).toNat)
    case atStart => exact ⟨0, v, Nat.zero_le _, rfl, rfl, HB.out, Hbv.out, Hbr.out⟩
    case round =>
      obtain ⟨k, u, hk, rfl, hwt, hB, hbv, hbr⟩ := hrel
      clear HB Hbv Hbr
      have HB := Lib.hid hB
      have Hbv := Lib.hid hbv
      have Hbr := Lib.hid hbr
      have Hwt := Lib.hid hwt
      clear hB hbv hbr hwt
      have Hu := Lib.hid (withTo_ok Hv.out Hwt.out)
      have Hu0 := Lib.hid (withTo_nonneg H0.out Hwt.out)
      by_cases hkn : k < n
      · obtain ⟨b, off, rfl, hlt, hc⟩ := Hs.out.resolve_left (by omega)
        obtain ⟨e0, e1, e2⟩ := idElem (fun j hj => (HB.out.cell (p := ⟨b, off + j, none⟩) hlt).trans (hc j hj)) hkn
        have hnext : withTo v x (k + 1) = takeB u (x k) := by rw [withTo, Hwt.out]
        rw [takeB_is Hu.out] at hnext
        have Hnext := Lib.hid hnext
        clear hc hnext
        obtain ⟨i, hi⟩ : ∃ i, x k = i := ⟨_, rfl⟩
        rw [hi] at e0 e1 e2 Hnext
        clear hi
        obtain ⟨t, s, q⟩ := i
        dsimp only at e0 e1 e2 Hnext
        have herr : ∀ e, withTo v x (k + 1) = .error e → withTo v x n = .error e := fun e h => withTo_error h n (by omega)
        have Herr := Lib.hid herr
        clear herr
        obtain ⟨wo, hwo⟩ : ∃ wo : World, wo = wr := ⟨_, rfl⟩
        rw [← hwo] at HB Hbv Hbr e0 e1 e2 ⊢
        clear hwo
        have gB := Lib.hid (HB.out.alloc HB.out.size (.cells #[.int .u64 t, .int .i64 s, .int .u64 q] 38))
        have gv := Lib.hid (heap_alloc_keeps Hbv.out (.cells #[.int .u64 t, .int .i64 s, .int .u64 q] 38))
        have gr := Lib.hid (heap_alloc_keeps Hbr.out (.cells #[.int .u64 t, .int .i64 s, .int .u64 q] 38))
        clear HB Hbv Hbr
        have HB := gB
        have Hbv := gv
        have Hbr := gr
        clear gB gv gr
        have Hbi := Lib.hid (World.alloc_heap_new wo (.cells #[.int .u64 t, .int .i64 s, .int .u64 q] 38))
        have Hwr := Lib.hid (block_lt Hbr.out)
        go_wp2_with fail
        refine (refIdRight_any ⟨t, s, q⟩ _).mono ?_
        rintro e w2 ⟨rfl, hb⟩
        have hs := World.size_alloc wo (.cells #[.int .u64 t, .int .i64 s, .int .u64 q] 38)
        have gB := Lib.hid (HB.out.trans (hb.mono HB.out.size))
        have Hne := Lib.hid (show w.heap.size + 1 < wo.heap.size + 1 ∧ w.heap.size + 1 ≠ wo.heap.size + 1 from ⟨by have := block_lt Hbr.out; rw [hs] at this; omega, by have := block_lt Hbr.out; rw [hs] at this; omega⟩)
        have gv := Lib.hid ((hb.block _ (block_lt Hbv.out)).trans Hbv.out)
        have gr := Lib.hid ((hb.block _ (block_lt Hbr.out)).trans Hbr.out)
        have gi := Lib.hid ((hb.block _ (block_lt Hbi.out)).trans Hbi.out)
        clear hb e0 e1 e2 hs Hwr HB Hbv Hbr Hbi
        have HB := gB
        have Hbv := gv
        have Hbr := gr
        have Hbi := gi
        clear gB gv gr gi
        cases hid : idOk ⟨t, s, q⟩
        · rw [hid] at Hnext
          simp only [if_true] at Hnext
          have hbr := Hbr.out
          obtain ⟨d0, d1, d2, d3, d4, d5, d6, d7, d8⟩ := vec9 hbr
          have fr := free_of_block hbr
          clear hbr
          go_wp2_with fail
          refine bodyPost_ret (v := resV (.error 210)) (by simp [resV, vecV, lit9, results, Try.results29, go_sem, d0, d1, d2, d3, d4, d5, d6, d7, d8]) rfl ⟨by rw [Hr.out, Herr.out _ Hnext.out], ?_⟩
          exact below_set9 (fun _ => 0) HB.out (by omega)
        · rw [hid] at Hnext
          simp only [reduceCtorEq, if_false, Bool.true_eq_false] at Hnext
          obtain ⟨_, ⟨hs1, hs2⟩, hq1, hq2⟩ := (idOk_iff _).1 hid
          dsimp only at hs1 hs2 hq1 hq2
          clear hid
          obtain ⟨m, rfl⟩ := Int.eq_ofNat_of_zero_le (show 0 ≤ s by omega)
          have hm9 : m < 9 := by omega
          have hm1 : 1 ≤ m := by omega
          clear hs1 hs2
          rw [Int.toNat_natCast] at Hnext
          have hum := ((vecOk_iff u).1 Hu.out).2 m hm1 hm9
          have hu0 := Hu0.out m
          unfold MaxT at hq2 hum
          by_cases hle : q ≤ u m
          · rw [if_pos hle] at Hnext
            go_wp2_with fail
            refine (wpIn_wide (n := 0)).1 ?_
            apply wp_region_vals 8 (Rl := [(eqv _), (eqv _), (eqv _), (eqv _), (eqv _), (eqv _), (eqv _), (eqv _)]) (C := (fun x y => Below x.heap.size x y))
            case hm => kernel_rfl
            case hk => rfl
            case hCr => exact (fun _ => Below.refl _ _)
            case hCt => intro _ _ _; exact (fun h k => grows_trans h k)
            case hst => exact ⟨fun _ _ _ _ h => h, fun _ _ _ _ h => h, fun _ _ _ _ h => h, fun _ _ _ _ h => h, fun _ _ _ _ h => h, fun _ _ _ _ h => h, fun _ _ _ _ h => h, fun _ _ _ _ h => h, trivial⟩
            case hfo => kernel_rfl
            case ht => kernel_rfl
            case hC0 => exact (grows_drew _)
            case hsteps =>
              refine ⟨?_, ?_, ?_, ?_, ?_, ?_, ?_, ?_, trivial⟩
              · -- 0
                intro a' w' hA hC hD
                have s7 : a'.tmps[7]? = some _ := (hA.at 7 (by kernel_rfl)).trans rfl
                have hi_ := (hC.block _ (block_lt Hbi.out)).trans Hbi.out; have c1 := cell_of_block (k := 1) (v := .int .i64 m) hi_ rfl; have c2 := cell_of_block (k := 2) (v := .int .u64 q) hi_ rfl; have c9 := heap9_get ((hC.block _ (block_lt Hbv.out)).trans Hbv.out) hm9; clear hi_
                clear hA hD
                refine stepOk_plain rfl ?_
                intro K hK
                gi_wp2
                exact hK _ _ rfl ((fun _ => Below.refl _ _) _)
              · -- 1
                intro a' w' hA hC hD
                obtain ⟨u24, s24, r24⟩ := hD ⟨0, .data⟩ (by simp) rfl _ rfl
                replace r24 : u24 = _ := r24
                subst r24
                have hi_ := (hC.block _ (block_lt Hbi.out)).trans Hbi.out; have c1 := cell_of_block (k := 1) (v := .int .i64 m) hi_ rfl; have c2 := cell_of_block (k := 2) (v := .int .u64 q) hi_ rfl; have c9 := heap9_get ((hC.block _ (block_lt Hbv.out)).trans Hbv.out) hm9; clear hi_
                clear hA hD
                refine stepOk_plain rfl ?_
                intro K hK
                gi_wp2
                exact hK _ _ rfl ((fun _ => Below.refl _ _) _)
              · -- 2
                intro a' w' hA hC hD
                have s7 : a'.tmps[7]? = some _ := (hA.at 7 (by kernel_rfl)).trans rfl
                have hi_ := (hC.block _ (block_lt Hbi.out)).trans Hbi.out; have c1 := cell_of_block (k := 1) (v := .int .i64 m) hi_ rfl; have c2 := cell_of_block (k := 2) (v := .int .u64 q) hi_ rfl; have c9 := heap9_get ((hC.block _ (block_lt Hbv.out)).trans Hbv.out) hm9; clear hi_
                clear hA hD
                refine stepOk_plain rfl ?_
                intro K hK
                gi_wp2
                exact hK _ _ rfl ((fun _ => Below.refl _ _) _)
              · -- 3
                intro a' w' hA hC hD
                obtain ⟨u26, s26, r26⟩ := hD ⟨2, .data⟩ (by simp) rfl _ rfl
                replace r26 : u26 = _ := r26
                subst r26
                have hi_ := (hC.block _ (block_lt Hbi.out)).trans Hbi.out; have c1 := cell_of_block (k := 1) (v := .int .i64 m) hi_ rfl; have c2 := cell_of_block (k := 2) (v := .int .u64 q) hi_ rfl; have c9 := heap9_get ((hC.block _ (block_lt Hbv.out)).trans Hbv.out) hm9; clear hi_
                clear hA hD
                refine stepOk_plain rfl ?_
                intro K hK
                gi_wp2
                exact hK _ _ rfl ((fun _ => Below.refl _ _) _)
              · -- 4
                intro a' w' hA hC hD
                have s2 : a'.tmps[2]? = some _ := (hA.at 2 (by kernel_rfl)).trans rfl
                obtain ⟨u27, s27, r27⟩ := hD ⟨3, .data⟩ (by simp) rfl _ rfl
                replace r27 : u27 = _ := r27
                subst r27
                have hi_ := (hC.block _ (block_lt Hbi.out)).trans Hbi.out; have c1 := cell_of_block (k := 1) (v := .int .i64 m) hi_ rfl; have c2 := cell_of_block (k := 2) (v := .int .u64 q) hi_ rfl; have c9 := heap9_get ((hC.block _ (block_lt Hbv.out)).trans Hbv.out) hm9; clear hi_
                clear hA hD
                refine stepOk_plain rfl ?_
                intro K hK
                gi_wp2
                exact hK _ _ rfl ((fun _ => Below.refl _ _) _)
              · -- 5
                intro a' w' hA hC hD
                obtain ⟨u28, s28, r28⟩ := hD ⟨4, .data⟩ (by simp) rfl _ rfl
                replace r28 : u28 = _ := r28
                subst r28
                have hi_ := (hC.block _ (block_lt Hbi.out)).trans Hbi.out; have c1 := cell_of_block (k := 1) (v := .int .i64 m) hi_ rfl; have c2 := cell_of_block (k := 2) (v := .int .u64 q) hi_ rfl; have c9 := heap9_get ((hC.block _ (block_lt Hbv.out)).trans Hbv.out) hm9; clear hi_
                clear hA hD
                refine stepOk_plain rfl ?_
                intro K hK
                gi_wp2
                exact hK _ _ rfl ((fun _ => Below.refl _ _) _)
              · -- 6
                intro a' w' hA hC hD
                obtain ⟨u25, s25, r25⟩ := hD ⟨1, .data⟩ (by simp) rfl _ rfl
                replace r25 : u25 = _ := r25
                subst r25
                obtain ⟨u29, s29, r29⟩ := hD ⟨5, .data⟩ (by simp) rfl _ rfl
                replace r29 : u29 = _ := r29
                subst r29
                have hi_ := (hC.block _ (block_lt Hbi.out)).trans Hbi.out; have c1 := cell_of_block (k := 1) (v := .int .i64 m) hi_ rfl; have c2 := cell_of_block (k := 2) (v := .int .u64 q) hi_ rfl; have c9 := heap9_get ((hC.block _ (block_lt Hbv.out)).trans Hbv.out) hm9; clear hi_
                clear hA hD
                refine stepOk_plain rfl ?_
                intro K hK
                gi_wp2
                exact hK _ _ rfl ((fun _ => Below.refl _ _) _)
              · -- 7
                intro a' w' hA hC hD
                obtain ⟨u30, s30, r30⟩ := hD ⟨6, .data⟩ (by simp) rfl _ rfl
                replace r30 : u30 = _ := r30
                subst r30
                have hi_ := (hC.block _ (block_lt Hbi.out)).trans Hbi.out; have c1 := cell_of_block (k := 1) (v := .int .i64 m) hi_ rfl; have c2 := cell_of_block (k := 2) (v := .int .u64 q) hi_ rfl; have c9 := heap9_get ((hC.block _ (block_lt Hbv.out)).trans Hbv.out) hm9; clear hi_
                clear hA hD
                refine stepOk_plain rfl ?_
                intro K hK
                gi_wp2
                exact hK _ _ rfl ((fun _ => Below.refl _ _) _)
            case hend =>
              intro w3 hC
              simp only [EndFrom, eqv, forall_eq, Act.put, List.length_cons, List.length_nil, List.drop_succ_cons, List.drop_zero, Nat.reduceAdd, List.setIfInBounds_toArray, List.set_cons_succ, List.set_cons_zero]
              have HB := Lib.hid (HB.out.trans (hC.mono HB.out.size))
              have Hbv := Lib.hid ((hC.block _ (block_lt Hbv.out)).trans Hbv.out)
              have Hbr := Lib.hid ((hC.block _ (block_lt Hbr.out)).trans Hbr.out)
              have Hbi := Lib.hid ((hC.block _ (block_lt Hbi.out)).trans Hbi.out)
              clear hC
              gi_wp2
              have hbr := Hbr.out
              obtain ⟨d0, d1, d2, d3, d4, d5, d6, d7, d8⟩ := vec9 hbr
              have fr := free_of_block hbr
              clear hbr
              go_wp2_with fail
              refine bodyPost_ret (v := resV (.error 5)) (by simp [resV, vecV, lit9, results, Try.results29, go_sem, d0, d1, d2, d3, d4, d5, d6, d7, d8]) rfl ⟨by rw [Hr.out, Herr.out _ Hnext.out], ?_⟩
              exact below_set9 (fun _ => 0) HB.out (by omega)
          · rw [if_neg hle] at Hnext
            go_wp2_with fail
            refine (wpIn_wide (n := 0)).1 ?_
            apply wp_region_vals 8 (Rl := [(eqv _), (eqv _), (eqv _), (eqv _), (eqv _), (eqv _), (eqv _), (eqv _)]) (C := (fun x y => Below x.heap.size x y))
            case hm => kernel_rfl
            case hk => rfl
            case hCr => exact (fun _ => Below.refl _ _)
            case hCt => intro _ _ _; exact (fun h k => grows_trans h k)
            case hst => exact ⟨fun _ _ _ _ h => h, fun _ _ _ _ h => h, fun _ _ _ _ h => h, fun _ _ _ _ h => h, fun _ _ _ _ h => h, fun _ _ _ _ h => h, fun _ _ _ _ h => h, fun _ _ _ _ h => h, trivial⟩
            case hfo => kernel_rfl
            case ht => kernel_rfl
            case hC0 => exact (grows_drew _)
            case hsteps =>
              refine ⟨?_, ?_, ?_, ?_, ?_, ?_, ?_, ?_, trivial⟩
              · -- 0
                intro a' w' hA hC hD
                have s7 : a'.tmps[7]? = some _ := (hA.at 7 (by kernel_rfl)).trans rfl
                have hi_ := (hC.block _ (block_lt Hbi.out)).trans Hbi.out; have c1 := cell_of_block (k := 1) (v := .int .i64 m) hi_ rfl; have c2 := cell_of_block (k := 2) (v := .int .u64 q) hi_ rfl; have c9 := heap9_get ((hC.block _ (block_lt Hbv.out)).trans Hbv.out) hm9; clear hi_
                clear hA hD
                refine stepOk_plain rfl ?_
                intro K hK
                gi_wp2
                exact hK _ _ rfl ((fun _ => Below.refl _ _) _)
              · -- 1
                intro a' w' hA hC hD
                obtain ⟨u24, s24, r24⟩ := hD ⟨0, .data⟩ (by simp) rfl _ rfl
                replace r24 : u24 = _ := r24
                subst r24
                have hi_ := (hC.block _ (block_lt Hbi.out)).trans Hbi.out; have c1 := cell_of_block (k := 1) (v := .int .i64 m) hi_ rfl; have c2 := cell_of_block (k := 2) (v := .int .u64 q) hi_ rfl; have c9 := heap9_get ((hC.block _ (block_lt Hbv.out)).trans Hbv.out) hm9; clear hi_
                clear hA hD
                refine stepOk_plain rfl ?_
                intro K hK
                gi_wp2
                exact hK _ _ rfl ((fun _ => Below.refl _ _) _)
              · -- 2
                intro a' w' hA hC hD
                have s7 : a'.tmps[7]? = some _ := (hA.at 7 (by kernel_rfl)).trans rfl
                have hi_ := (hC.block _ (block_lt Hbi.out)).trans Hbi.out; have c1 := cell_of_block (k := 1) (v := .int .i64 m) hi_ rfl; have c2 := cell_of_block (k := 2) (v := .int .u64 q) hi_ rfl; have c9 := heap9_get ((hC.block _ (block_lt Hbv.out)).trans Hbv.out) hm9; clear hi_
                clear hA hD
                refine stepOk_plain rfl ?_
                intro K hK
                gi_wp2
                exact hK _ _ rfl ((fun _ => Below.refl _ _) _)
              · -- 3
                intro a' w' hA hC hD
                obtain ⟨u26, s26, r26⟩ := hD ⟨2, .data⟩ (by simp) rfl _ rfl
                replace r26 : u26 = _ := r26
                subst r26
                have hi_ := (hC.block _ (block_lt Hbi.out)).trans Hbi.out; have c1 := cell_of_block (k := 1) (v := .int .i64 m) hi_ rfl; have c2 := cell_of_block (k := 2) (v := .int .u64 q) hi_ rfl; have c9 := heap9_get ((hC.block _ (block_lt Hbv.out)).trans Hbv.out) hm9; clear hi_
                clear hA hD
                refine stepOk_plain rfl ?_
                intro K hK
                gi_wp2
                exact hK _ _ rfl ((fun _ => Below.refl _ _) _)
              · -- 4
                intro a' w' hA hC hD
                have s2 : a'.tmps[2]? = some _ := (hA.at 2 (by kernel_rfl)).trans rfl
                obtain ⟨u27, s27, r27⟩ := hD ⟨3, .data⟩ (by simp) rfl _ rfl
                replace r27 : u27 = _ := r27
                subst r27
                have hi_ := (hC.block _ (block_lt Hbi.out)).trans Hbi.out; have c1 := cell_of_block (k := 1) (v := .int .i64 m) hi_ rfl; have c2 := cell_of_block (k := 2) (v := .int .u64 q) hi_ rfl; have c9 := heap9_get ((hC.block _ (block_lt Hbv.out)).trans Hbv.out) hm9; clear hi_
                clear hA hD
                refine stepOk_plain rfl ?_
                intro K hK
                gi_wp2
                exact hK _ _ rfl ((fun _ => Below.refl _ _) _)
              · -- 5
                intro a' w' hA hC hD
                obtain ⟨u28, s28, r28⟩ := hD ⟨4, .data⟩ (by simp) rfl _ rfl
                replace r28 : u28 = _ := r28
                subst r28
                have hi_ := (hC.block _ (block_lt Hbi.out)).trans Hbi.out; have c1 := cell_of_block (k := 1) (v := .int .i64 m) hi_ rfl; have c2 := cell_of_block (k := 2) (v := .int .u64 q) hi_ rfl; have c9 := heap9_get ((hC.block _ (block_lt Hbv.out)).trans Hbv.out) hm9; clear hi_
                clear hA hD
                refine stepOk_plain rfl ?_
                intro K hK
                gi_wp2
                exact hK _ _ rfl ((fun _ => Below.refl _ _) _)
              · -- 6
                intro a' w' hA hC hD
                obtain ⟨u25, s25, r25⟩ := hD ⟨1, .data⟩ (by simp) rfl _ rfl
                replace r25 : u25 = _ := r25
                subst r25
                obtain ⟨u29, s29, r29⟩ := hD ⟨5, .data⟩ (by simp) rfl _ rfl
                replace r29 : u29 = _ := r29
                subst r29
                have hi_ := (hC.block _ (block_lt Hbi.out)).trans Hbi.out; have c1 := cell_of_block (k := 1) (v := .int .i64 m) hi_ rfl; have c2 := cell_of_block (k := 2) (v := .int .u64 q) hi_ rfl; have c9 := heap9_get ((hC.block _ (block_lt Hbv.out)).trans Hbv.out) hm9; clear hi_
                clear hA hD
                refine stepOk_plain rfl ?_
                intro K hK
                gi_wp2
                exact hK _ _ rfl ((fun _ => Below.refl _ _) _)
              · -- 7
                intro a' w' hA hC hD
                obtain ⟨u30, s30, r30⟩ := hD ⟨6, .data⟩ (by simp) rfl _ rfl
                replace r30 : u30 = _ := r30
                subst r30
                have hi_ := (hC.block _ (block_lt Hbi.out)).trans Hbi.out; have c1 := cell_of_block (k := 1) (v := .int .i64 m) hi_ rfl; have c2 := cell_of_block (k := 2) (v := .int .u64 q) hi_ rfl; have c9 := heap9_get ((hC.block _ (block_lt Hbv.out)).trans Hbv.out) hm9; clear hi_
                clear hA hD
                refine stepOk_plain rfl ?_
                intro K hK
                gi_wp2
                exact hK _ _ rfl ((fun _ => Below.refl _ _) _)
            case' hend =>
              intro w3 hC
              simp only [EndFrom, eqv, forall_eq, Act.put, List.length_cons, List.length_nil, List.drop_succ_cons, List.drop_zero, Nat.reduceAdd, List.setIfInBounds_toArray, List.set_cons_succ, List.set_cons_zero]
              have HB := Lib.hid (HB.out.trans (hC.mono HB.out.size))
              have Hbv := Lib.hid ((hC.block _ (block_lt Hbv.out)).trans Hbv.out)
              have Hbr := Lib.hid ((hC.block _ (block_lt Hbr.out)).trans Hbr.out)
              have Hbi := Lib.hid ((hC.block _ (block_lt Hbi.out)).trans Hbi.out)
              clear hC
              gi_wp2
              go_wp2_with fail
            by_cases heq : q = u m + 1
            · rw [if_neg (by simp [heq])] at Hnext
              have Hgt := Lib.hid (show decide (u m + 1 < q) = false from by simp; omega)
              have Heq := Lib.hid heq
              clear heq
              refine (wpIn_wide (n := 0)).1 ?_
              apply wp_region_vals 9 (Rl := [(eqv _), (eqv _), (eqv _), (eqv _), (eqv _), (eqv _), (eqv _), (eqv _), (eqv _)]) (C := (fun x y => Below x.heap.size x y))
              case hm => kernel_rfl
              case hk => rfl
              case hCr => exact (fun _ => Below.refl _ _)
              case hCt => intro _ _ _; exact (fun h k => grows_trans h k)
              case hst => exact ⟨fun _ _ _ _ h => h, fun _ _ _ _ h => h, fun _ _ _ _ h => h, fun _ _ _ _ h => h, fun _ _ _ _ h => h, fun _ _ _ _ h => h, fun _ _ _ _ h => h, fun _ _ _ _ h => h, fun _ _ _ _ h => h, trivial⟩
              case hfo => kernel_rfl
              case ht => kernel_rfl
              case hC0 => exact (grows_drew _)
              case hsteps =>
                refine ⟨?_, ?_, ?_, ?_, ?_, ?_, ?_, ?_, ?_, trivial⟩
                · -- 0
                  intro a' w' hA hC hD
                  have s7 : a'.tmps[7]? = some _ := (hA.at 7 (by kernel_rfl)).trans rfl
                  have hi_ := (hC.block _ (block_lt Hbi.out)).trans Hbi.out; have c1 := cell_of_block (k := 1) (v := .int .i64 m) hi_ rfl; have c2 := cell_of_block (k := 2) (v := .int .u64 q) hi_ rfl; have c9 := heap9_get ((hC.block _ (block_lt Hbv.out)).trans Hbv.out) hm9; clear hi_
                  clear hA hD
                  refine stepOk_plain rfl ?_
                  intro K hK
                  gi_wp2
                  exact hK _ _ rfl ((fun _ => Below.refl _ _) _)
                · -- 1
                  intro a' w' hA hC hD
                  obtain ⟨u33, s33, r33⟩ := hD ⟨0, .data⟩ (by simp) rfl _ rfl
                  replace r33 : u33 = _ := r33
                  subst r33
                  have hi_ := (hC.block _ (block_lt Hbi.out)).trans Hbi.out; have c1 := cell_of_block (k := 1) (v := .int .i64 m) hi_ rfl; have c2 := cell_of_block (k := 2) (v := .int .u64 q) hi_ rfl; have c9 := heap9_get ((hC.block _ (block_lt Hbv.out)).trans Hbv.out) hm9; clear hi_
                  clear hA hD
                  refine stepOk_plain rfl ?_
                  intro K hK
                  gi_wp2
                  exact hK _ _ rfl ((fun _ => Below.refl _ _) _)
                · -- 2
                  intro a' w' hA hC hD
                  have s7 : a'.tmps[7]? = some _ := (hA.at 7 (by kernel_rfl)).trans rfl
                  have hi_ := (hC.block _ (block_lt Hbi.out)).trans Hbi.out; have c1 := cell_of_block (k := 1) (v := .int .i64 m) hi_ rfl; have c2 := cell_of_block (k := 2) (v := .int .u64 q) hi_ rfl; have c9 := heap9_get ((hC.block _ (block_lt Hbv.out)).trans Hbv.out) hm9; clear hi_
                  clear hA hD
                  refine stepOk_plain rfl ?_
                  intro K hK
                  gi_wp2
                  exact hK _ _ rfl ((fun _ => Below.refl _ _) _)
                · -- 3
                  intro a' w' hA hC hD
                  obtain ⟨u35, s35, r35⟩ := hD ⟨2, .data⟩ (by simp) rfl _ rfl
                  replace r35 : u35 = _ := r35
                  subst r35
                  have hi_ := (hC.block _ (block_lt Hbi.out)).trans Hbi.out; have c1 := cell_of_block (k := 1) (v := .int .i64 m) hi_ rfl; have c2 := cell_of_block (k := 2) (v := .int .u64 q) hi_ rfl; have c9 := heap9_get ((hC.block _ (block_lt Hbv.out)).trans Hbv.out) hm9; clear hi_
                  clear hA hD
                  refine stepOk_plain rfl ?_
                  intro K hK
                  gi_wp2
                  exact hK _ _ rfl ((fun _ => Below.refl _ _) _)
                · -- 4
                  intro a' w' hA hC hD
                  have s2 : a'.tmps[2]? = some _ := (hA.at 2 (by kernel_rfl)).trans rfl
                  obtain ⟨u36, s36, r36⟩ := hD ⟨3, .data⟩ (by simp) rfl _ rfl
                  replace r36 : u36 = _ := r36
                  subst r36
                  have hi_ := (hC.block _ (block_lt Hbi.out)).trans Hbi.out; have c1 := cell_of_block (k := 1) (v := .int .i64 m) hi_ rfl; have c2 := cell_of_block (k := 2) (v := .int .u64 q) hi_ rfl; have c9 := heap9_get ((hC.block _ (block_lt Hbv.out)).trans Hbv.out) hm9; clear hi_
                  clear hA hD
                  refine stepOk_plain rfl ?_
                  intro K hK
                  gi_wp2
                  exact hK _ _ rfl ((fun _ => Below.refl _ _) _)
                · -- 5
                  intro a' w' hA hC hD
                  obtain ⟨u37, s37, r37⟩ := hD ⟨4, .data⟩ (by simp) rfl _ rfl
                  replace r37 : u37 = _ := r37
                  subst r37
                  have hi_ := (hC.block _ (block_lt Hbi.out)).trans Hbi.out; have c1 := cell_of_block (k := 1) (v := .int .i64 m) hi_ rfl; have c2 := cell_of_block (k := 2) (v := .int .u64 q) hi_ rfl; have c9 := heap9_get ((hC.block _ (block_lt Hbv.out)).trans Hbv.out) hm9; clear hi_
                  clear hA hD
                  refine stepOk_plain rfl ?_
                  intro K hK
                  gi_wp2
                  exact hK _ _ rfl ((fun _ => Below.refl _ _) _)
                · -- 6
                  intro a' w' hA hC hD
                  obtain ⟨u38, s38, r38⟩ := hD ⟨5, .data⟩ (by simp) rfl _ rfl
                  replace r38 : u38 = _ := r38
                  subst r38
                  have hi_ := (hC.block _ (block_lt Hbi.out)).trans Hbi.out; have c1 := cell_of_block (k := 1) (v := .int .i64 m) hi_ rfl; have c2 := cell_of_block (k := 2) (v := .int .u64 q) hi_ rfl; have c9 := heap9_get ((hC.block _ (block_lt Hbv.out)).trans Hbv.out) hm9; clear hi_
                  clear hA hD
                  refine stepOk_plain rfl ?_
                  intro K hK
                  gi_wp2
                  exact hK _ _ rfl ((fun _ => Below.refl _ _) _)
                · -- 7
                  intro a' w' hA hC hD
                  obtain ⟨u34, s34, r34⟩ := hD ⟨1, .data⟩ (by simp) rfl _ rfl
                  replace r34 : u34 = _ := r34
                  subst r34
                  obtain ⟨u39, s39, r39⟩ := hD ⟨6, .data⟩ (by simp) rfl _ rfl
                  replace r39 : u39 = _ := r39
                  subst r39
                  have hi_ := (hC.block _ (block_lt Hbi.out)).trans Hbi.out; have c1 := cell_of_block (k := 1) (v := .int .i64 m) hi_ rfl; have c2 := cell_of_block (k := 2) (v := .int .u64 q) hi_ rfl; have c9 := heap9_get ((hC.block _ (block_lt Hbv.out)).trans Hbv.out) hm9; clear hi_
                  clear hA hD
                  refine stepOk_plain rfl ?_
                  intro K hK
                  gi_wp2
                  rw [Hgt.out]
                  exact hK _ _ rfl ((fun _ => Below.refl _ _) _)
                · -- 8
                  intro a' w' hA hC hD
                  obtain ⟨u40, s40, r40⟩ := hD ⟨7, .data⟩ (by simp) rfl _ rfl
                  replace r40 : u40 = _ := r40
                  subst r40
                  have hi_ := (hC.block _ (block_lt Hbi.out)).trans Hbi.out; have c1 := cell_of_block (k := 1) (v := .int .i64 m) hi_ rfl; have c2 := cell_of_block (k := 2) (v := .int .u64 q) hi_ rfl; have c9 := heap9_get ((hC.block _ (block_lt Hbv.out)).trans Hbv.out) hm9; clear hi_
                  clear hA hD
                  refine stepOk_plain rfl ?_
                  intro K hK
                  gi_wp2
                  exact hK _ _ rfl ((fun _ => Below.refl _ _) _)
              case hend =>
                intro w3 hC
                simp only [EndFrom, eqv, forall_eq, Act.put, List.length_cons, List.length_nil, List.drop_succ_cons, List.drop_zero, Nat.reduceAdd, List.setIfInBounds_toArray, List.set_cons_succ, List.set_cons_zero]
                have HB := Lib.hid (HB.out.trans (hC.mono HB.out.size))
                have Hbv := Lib.hid ((hC.block _ (block_lt Hbv.out)).trans Hbv.out)
                have Hbr := Lib.hid ((hC.block _ (block_lt Hbr.out)).trans Hbr.out)
                have Hbi := Lib.hid ((hC.block _ (block_lt Hbi.out)).trans Hbi.out)
                clear hC
                gi_wp2
                have hi_ := Hbi.out
                have c1 := cell_of_block (k := 1) (v := .int .i64 m) hi_ rfl
                have c2 := cell_of_block (k := 2) (v := .int .u64 q) hi_ rfl
                have c9 := heap9_get Hbv.out hm9
                have fv := free_of_block Hbv.out m
                clear hi_
                go_wp2_with fail
                go_roundw
                case rel => exact ⟨k + 1, upd u m q, by omega, by go_num, Hnext.out, HB.out.setCell (p := ⟨w.heap.size, m, none⟩) (Nat.le_refl _) _, by rw [heap_set_same Hbv.out, lit9_set _ _ _ hm9], heap_set_other Hbr.out (by omega) _⟩
                case measure => simp [intOf]; omega
            · rw [if_pos heq] at Hnext
              have Hgt := Lib.hid (show decide (u m + 1 < q) = true from by simp; omega)
              have Heq := Lib.hid heq
              clear heq
              refine (wpIn_wide (n := 0)).1 ?_
              apply wp_region_vals 9 (Rl := [(eqv _), (eqv _), (eqv _), (eqv _), (eqv _), (eqv _), (eqv _), (eqv _), (eqv _)]) (C := (fun x y => Below x.heap.size x y))
              case hm => kernel_rfl
              case hk => rfl
              case hCr => exact (fun _ => Below.refl _ _)
              case hCt => intro _ _ _; exact (fun h k => grows_trans h k)
              case hst => exact ⟨fun _ _ _ _ h => h, fun _ _ _ _ h => h, fun _ _ _ _ h => h, fun _ _ _ _ h => h, fun _ _ _ _ h => h, fun _ _ _ _ h => h, fun _ _ _ _ h => h, fun _ _ _ _ h => h, fun _ _ _ _ h => h, trivial⟩
              case hfo => kernel_rfl
              case ht => kernel_rfl
              case hC0 => exact (grows_drew _)
              case hsteps =>
                refine ⟨?_, ?_, ?_, ?_, ?_, ?_, ?_, ?_, ?_, trivial⟩
                · -- 0
                  intro a' w' hA hC hD
                  have s7 : a'.tmps[7]? = some _ := (hA.at 7 (by kernel_rfl)).trans rfl
                  have hi_ := (hC.block _ (block_lt Hbi.out)).trans Hbi.out; have c1 := cell_of_block (k := 1) (v := .int .i64 m) hi_ rfl; have c2 := cell_of_block (k := 2) (v := .int .u64 q) hi_ rfl; have c9 := heap9_get ((hC.block _ (block_lt Hbv.out)).trans Hbv.out) hm9; clear hi_
                  clear hA hD
                  refine stepOk_plain rfl ?_
                  intro K hK
                  gi_wp2
                  exact hK _ _ rfl ((fun _ => Below.refl _ _) _)
                · -- 1
                  intro a' w' hA hC hD
                  obtain ⟨u33, s33, r33⟩ := hD ⟨0, .data⟩ (by simp) rfl _ rfl
                  replace r33 : u33 = _ := r33
                  subst r33
                  have hi_ := (hC.block _ (block_lt Hbi.out)).trans Hbi.out; have c1 := cell_of_block (k := 1) (v := .int .i64 m) hi_ rfl; have c2 := cell_of_block (k := 2) (v := .int .u64 q) hi_ rfl; have c9 := heap9_get ((hC.block _ (block_lt Hbv.out)).trans Hbv.out) hm9; clear hi_
                  clear hA hD
                  refine stepOk_plain rfl ?_
                  intro K hK
                  gi_wp2
                  exact hK _ _ rfl ((fun _ => Below.refl _ _) _)
                · -- 2
                  intro a' w' hA hC hD
                  have s7 : a'.tmps[7]? = some _ := (hA.at 7 (by kernel_rfl)).trans rfl
                  have hi_ := (hC.block _ (block_lt Hbi.out)).trans Hbi.out; have c1 := cell_of_block (k := 1) (v := .int .i64 m) hi_ rfl; have c2 := cell_of_block (k := 2) (v := .int .u64 q) hi_ rfl; have c9 := heap9_get ((hC.block _ (block_lt Hbv.out)).trans Hbv.out) hm9; clear hi_
                  clear hA hD
                  refine stepOk_plain rfl ?_
                  intro K hK
                  gi_wp2
                  exact hK _ _ rfl ((fun _ => Below.refl _ _) _)
                · -- 3
                  intro a' w' hA hC hD
                  obtain ⟨u35, s35, r35⟩ := hD ⟨2, .data⟩ (by simp) rfl _ rfl
                  replace r35 : u35 = _ := r35
                  subst r35
                  have hi_ := (hC.block _ (block_lt Hbi.out)).trans Hbi.out; have c1 := cell_of_block (k := 1) (v := .int .i64 m) hi_ rfl; have c2 := cell_of_block (k := 2) (v := .int .u64 q) hi_ rfl; have c9 := heap9_get ((hC.block _ (block_lt Hbv.out)).trans Hbv.out) hm9; clear hi_
                  clear hA hD
                  refine stepOk_plain rfl ?_
                  intro K hK
                  gi_wp2
                  exact hK _ _ rfl ((fun _ => Below.refl _ _) _)
                · -- 4
                  intro a' w' hA hC hD
                  have s2 : a'.tmps[2]? = some _ := (hA.at 2 (by kernel_rfl)).trans rfl
                  obtain ⟨u36, s36, r36⟩ := hD ⟨3, .data⟩ (by simp) rfl _ rfl
                  replace r36 : u36 = _ := r36
                  subst r36
                  have hi_ := (hC.block _ (block_lt Hbi.out)).trans Hbi.out; have c1 := cell_of_block (k := 1) (v := .int .i64 m) hi_ rfl; have c2 := cell_of_block (k := 2) (v := .int .u64 q) hi_ rfl; have c9 := heap9_get ((hC.block _ (block_lt Hbv.out)).trans Hbv.out) hm9; clear hi_
                  clear hA hD
                  refine stepOk_plain rfl ?_
                  intro K hK
                  gi_wp2
                  exact hK _ _ rfl ((fun _ => Below.refl _ _) _)
                · -- 5
                  intro a' w' hA hC hD
                  obtain ⟨u37, s37, r37⟩ := hD ⟨4, .data⟩ (by simp) rfl _ rfl
                  replace r37 : u37 = _ := r37
                  subst r37
                  have hi_ := (hC.block _ (block_lt Hbi.out)).trans Hbi.out; have c1 := cell_of_block (k := 1) (v := .int .i64 m) hi_ rfl; have c2 := cell_of_block (k := 2) (v := .int .u64 q) hi_ rfl; have c9 := heap9_get ((hC.block _ (block_lt Hbv.out)).trans Hbv.out) hm9; clear hi_
                  clear hA hD
                  refine stepOk_plain rfl ?_
                  intro K hK
                  gi_wp2
                  exact hK _ _ rfl ((fun _ => Below.refl _ _) _)
                · -- 6
                  intro a' w' hA hC hD
                  obtain ⟨u38, s38, r38⟩ := hD ⟨5, .data⟩ (by simp) rfl _ rfl
                  replace r38 : u38 = _ := r38
                  subst r38
                  have hi_ := (hC.block _ (block_lt Hbi.out)).trans Hbi.out; have c1 := cell_of_block (k := 1) (v := .int .i64 m) hi_ rfl; have c2 := cell_of_block (k := 2) (v := .int .u64 q) hi_ rfl; have c9 := heap9_get ((hC.block _ (block_lt Hbv.out)).trans Hbv.out) hm9; clear hi_
                  clear hA hD
                  refine stepOk_plain rfl ?_
                  intro K hK
                  gi_wp2
                  exact hK _ _ rfl ((fun _ => Below.refl _ _) _)
                · -- 7
                  intro a' w' hA hC hD
                  obtain ⟨u34, s34, r34⟩ := hD ⟨1, .data⟩ (by simp) rfl _ rfl
                  replace r34 : u34 = _ := r34
                  subst r34
                  obtain ⟨u39, s39, r39⟩ := hD ⟨6, .data⟩ (by simp) rfl _ rfl
                  replace r39 : u39 = _ := r39
                  subst r39
                  have hi_ := (hC.block _ (block_lt Hbi.out)).trans Hbi.out; have c1 := cell_of_block (k := 1) (v := .int .i64 m) hi_ rfl; have c2 := cell_of_block (k := 2) (v := .int .u64 q) hi_ rfl; have c9 := heap9_get ((hC.block _ (block_lt Hbv.out)).trans Hbv.out) hm9; clear hi_
                  clear hA hD
                  refine stepOk_plain rfl ?_
                  intro K hK
                  gi_wp2
                  rw [Hgt.out]
                  exact hK _ _ rfl ((fun _ => Below.refl _ _) _)
                · -- 8
                  intro a' w' hA hC hD
                  obtain ⟨u40, s40, r40⟩ := hD ⟨7, .data⟩ (by simp) rfl _ rfl
                  replace r40 : u40 = _ := r40
                  subst r40
                  have hi_ := (hC.block _ (block_lt Hbi.out)).trans Hbi.out; have c1 := cell_of_block (k := 1) (v := .int .i64 m) hi_ rfl; have c2 := cell_of_block (k := 2) (v := .int .u64 q) hi_ rfl; have c9 := heap9_get ((hC.block _ (block_lt Hbv.out)).trans Hbv.out) hm9; clear hi_
                  clear hA hD
                  refine stepOk_plain rfl ?_
                  intro K hK
                  gi_wp2
                  exact hK _ _ rfl ((fun _ => Below.refl _ _) _)
              case hend =>
                intro w3 hC
                simp only [EndFrom, eqv, forall_eq, Act.put, List.length_cons, List.length_nil, List.drop_succ_cons, List.drop_zero, Nat.reduceAdd, List.setIfInBounds_toArray, List.set_cons_succ, List.set_cons_zero]
                have HB := Lib.hid (HB.out.trans (hC.mono HB.out.size))
                have Hbv := Lib.hid ((hC.block _ (block_lt Hbv.out)).trans Hbv.out)
                have Hbr := Lib.hid ((hC.block _ (block_lt Hbr.out)).trans Hbr.out)
                have Hbi := Lib.hid ((hC.block _ (block_lt Hbi.out)).trans Hbi.out)
                clear hC
                gi_wp2
                have hbr := Hbr.out
                obtain ⟨d0, d1, d2, d3, d4, d5, d6, d7, d8⟩ := vec9 hbr
                have fr := free_of_block hbr
                clear hbr
                go_wp2_with fail
                refine bodyPost_ret (v := resV (.error 231)) (by simp [resV, vecV, lit9, results, Try.results29, go_sem, d0, d1, d2, d3, d4, d5, d6, d7, d8]) rfl ⟨by rw [Hr.out, Herr.out _ Hnext.out], ?_⟩
                exact below_set9 (fun _ => 0) HB.out (by omega)
      · obtain rfl : n = k := by omega
        have hbv := Hbv.out
        have hbr := Hbr.out
        obtain ⟨c0, c1, c2, c3, c4, c5, c6, c7, c8⟩ := vec9 hbv
        obtain ⟨d0, d1, d2, d3, d4, d5, d6, d7, d8⟩ := vec9 hbr
        have fr := free_of_block hbr
        clear hbv hbr
        go_wp2_with fail
        refine bodyPost_ret (v := resV (.ok u)) (by simp [resV, vecV, lit9, results, Try.results29, go_sem, d0, d1, d2, d3, d4, d5, d6, d7, d8]) rfl ⟨by rw [Hr.out, Hwt.out], ?_⟩
        exact below_set9 _ HB.out (by omega)
end Go.Proofs.Ytppaheekpmgifaa
