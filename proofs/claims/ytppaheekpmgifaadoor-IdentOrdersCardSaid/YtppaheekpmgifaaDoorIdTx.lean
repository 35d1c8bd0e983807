/- gessolaw11.IdentTexts: the texts of ids, and the ids of texts. -/
import Derived.Test.YtppaheekpmgifaaDoorIdRd
import Derived.Test.YtppaheekpmgifaaDoorIdWk
namespace Go.Proofs.YtppaheekpmgifaaDoor
set_option linter.unusedSimpArgs false
set_option linter.unusedVariables false
open Go.RowKit Go.Shelf Go.Lib

def encS (s : ByteArray) : List Value := [.string s]
theorem encS_len (s : ByteArray) : (encS s).length = 1 := rfl
theorem idCellsE {w : World} {a : Option Addr} {cap : Nat} {l : List IdT} (h : Elems w (.slice a l.length cap) l.length 3 (rowC encId l)) (k : Nat) (hk : k < l.length) :
    ∃ b off, a = some ⟨b, off, none⟩ ∧ w.cell? ⟨b, off + k * 3, none⟩ = some (.int .u64 l[k].time) ∧ w.cell? ⟨b, off + k * 3 + 1, none⟩ = some (.int .i64 l[k].site) ∧ w.cell? ⟨b, off + k * 3 + 2, none⟩ = some (.int .u64 l[k].seq) := by
  rcases h with ⟨e, h0⟩ | ⟨b, off, cap', e, hlt, hc⟩
  · omega
  · cases e
    have h := rowElem encId_len hc (List.getElem?_eq_getElem hk)
    exact ⟨b, off, rfl, by simpa using h 0 _ rfl, h 1 _ rfl, h 2 _ rfl⟩
theorem strCellE {w : World} {a : Option Addr} {cap : Nat} {l : List ByteArray} (h : Elems w (.slice a l.length cap) l.length 1 (rowC encS l)) (k : Nat) (hk : k < l.length) :
    ∃ b off, a = some ⟨b, off, none⟩ ∧ w.cell? ⟨b, off + k, none⟩ = some (.string l[k]) := by
  rcases h with ⟨e, h0⟩ | ⟨b, off, cap', e, hlt, hc⟩
  · omega
  · cases e
    have h := rowElem encS_len hc (List.getElem?_eq_getElem hk)
    exact ⟨b, off, rfl, by simpa using h 0 _ rfl⟩

set_option maxRecDepth 100000 in
set_option maxHeartbeats 4000000 in
theorem identTexts_any (l : List IdT) (hl : ∀ x ∈ l, x.Fits) (a : Option Addr) (cap : Nat) (T : List ByteArray) (b : Option Addr) (cap2 : Nat) (hT : ∀ s ∈ T, s.size ≤ maxLen) (hn : l.length ≤ maxLen) (hm : T.length ≤ maxLen) (w : World) (ht : Tab w)
    (he : Elems w (.slice a l.length cap) l.length 3 (rowC encId l)) (he2 : Elems w (.slice b T.length cap2) T.length 1 (rowC encS T)) :
    Calls Tryd.prog 3 #[.slice a l.length cap, .slice b T.length cap2] w (Gives (.bool true) w) := by
  have HT := Lib.hid ht
  have HL := Lib.hid hl
  have HST := Lib.hid hT
  have HE := Lib.hid he
  have HE2 := Lib.hid he2
  unfold maxLen at hn hm
  clear ht hl he he2 hT
  go_enter Tryd.func3, Tryd.ntmps3
  go_wp2_with fail
  refine (wakes_any _ HT.out).mono ?_
  rintro e w1 ⟨rfl, hb⟩
  have HB1 := Lib.hid hb
  clear hb
  go_wp2_with fail
  go_loopw [17] (fun i wr => ∃ k : Nat, k ≤ l.length ∧ i = .int .i64 (k : Int) ∧ Below w.heap.size w wr) (fun i _ => l.length - (intOf i).toNat)
  case atStart => exact ⟨0, by omega, rfl, HB1.out⟩
  case round =>
    obtain ⟨k, hk, rfl, hb⟩ := hrel
    have HB := Lib.hid hb
    clear hb
    by_cases hlt : k < l.length
    · have wk : wrap64 ((k : Int) + 1) = ((k + 1 : Nat) : Int) := by unfold wrap64; omega
      obtain ⟨bb, off, rfl, c0, c1, c2⟩ := idCellsE (HE.out.below HB.out) k hlt
      obtain ⟨x, hx⟩ : ∃ x, l[k] = x := ⟨_, rfl⟩
      have HF := Lib.hid (HL.out _ (List.getElem_mem hlt))
      rw [hx] at c0 c1 c2 HF
      clear hx
      obtain ⟨x1, x2, x3⟩ := x
      simp only at c0 c1 c2
      have HS := Lib.hid (St.start wr)
      repeat ((fail_if_success (with_reducible refine stop_at (id := 6) ?_)); (first | go_values | go_skip | go_guarded | go_step | go_upon | go_back | (simp only [Int.not_lt, Int.not_le] at *; go_simp) | (go_values <;> (try go_simp)) | (go_ite <;> go_prune <;> (try go_simp)) | (split <;> (first | (rename_i hx; exact (hx _ rfl).elim) | go_prune))))
      clear c0 c1 c2
      have hs_ := (HS.out.alloc (.cells #[.int .u64 x1, .int .i64 x2, .int .u64 x3] 27))
      obtain ⟨w2, hw_⟩ : ∃ w2 : World, (wr.alloc (.cells #[.int .u64 x1, .int .i64 x2, .int .u64 x3] 27)) = w2 := ⟨_, rfl⟩
      rw [hw_] at hs_
      try simp only [World.size_alloc] at hs_
      have HS := Lib.hid hs_
      rw [hw_]
      clear hw_ hs_
      by_cases h10 : k < 10
      · have g1 : decide ((k : Int) < 10) = true := by simp; omega
        clear h10
        go_wp2_with fail
        refine (wpIn_wide (n := 0)).1 ?_
        apply wp_region_vals 9 (Rl := [(eqv _), (eqv _), (eqv _), (eqv _), (eqv _), (eqv _), (eqv _), (eqv _), (eqv _)]) (C := (fun x y => Below x.heap.size x y))
        case hm => kernel_rfl
        case hk => rfl
        case hCr => exact (fun _ => Below.refl _ _)
        case hCt => intro _ _ _; exact (fun h k => grows_trans h k)
        case hst => exact ⟨fun _ _ _ _ h => h, fun _ _ _ _ h => h, fun _ _ _ _ h => h, fun _ _ _ _ h => h, fun _ _ _ _ h => h, fun _ _ _ _ h => h, fun _ _ _ _ h => h, fun _ _ _ _ h => h, fun _ _ _ _ h => h, trivial⟩
        case hfo => kernel_rfl
        case ht => kernel_rfl
        case hC0 => exact (grows_drew _)
        case hsteps =>
          refine ⟨?_, ?_, ?_, ?_, ?_, ?_, ?_, ?_, ?_, trivial⟩
          · -- 0
            intro a' w' hA hC hD
            have s5 : a'.tmps[5]? = some _ := (hA.at 5 (by kernel_rfl)).trans rfl
            clear hA hD
            refine stepOk_plain rfl ?_
            intro K hK
            gi_wp2
            exact hK _ _ rfl ((fun _ => Below.refl _ _) _)
          · -- 1
            intro a' w' hA hC hD
            obtain ⟨u22, s22, r22⟩ := hD ⟨0, .data⟩ (by simp) rfl _ rfl
            replace r22 : u22 = _ := r22
            subst r22
            clear hA hD
            refine stepOk_plain rfl ?_
            intro K hK
            gi_wp2
            exact hK _ _ rfl ((fun _ => Below.refl _ _) _)
          · -- 2
            intro a' w' hA hC hD
            obtain ⟨u23, s23, r23⟩ := hD ⟨1, .data⟩ (by simp) rfl _ rfl
            replace r23 : u23 = _ := r23
            subst r23
            clear hA hD
            refine stepOk_plain rfl ?_
            intro K hK
            gi_wp2
            exact hK _ _ rfl ((fun _ => Below.refl _ _) _)
          · -- 3
            intro a' w' hA hC hD
            have s6 : a'.tmps[6]? = some _ := (hA.at 6 (by kernel_rfl)).trans rfl
            obtain ⟨u24, s24, r24⟩ := hD ⟨2, .guard⟩ (by simp) rfl _ rfl
            replace r24 : u24 = _ := r24
            subst r24
            have h1_ := (HS.out.below hC).blockAt 0 rfl; have c1_0 := cell_of_block (k := 0) h1_ rfl; have c1_1 := cell_of_block (k := 1) h1_ rfl; have c1_2 := cell_of_block (k := 2) h1_ rfl; clear h1_
            clear hA hD
            refine stepOk_want rfl rfl s24 ?_
            intro K hK
            gi_wp2
            exact hK _ _ rfl ((fun _ => Below.refl _ _) _)
          · -- 4
            intro a' w' hA hC hD
            obtain ⟨u25, s25, r25⟩ := hD ⟨3, .data⟩ (by simp) rfl _ rfl
            replace r25 : u25 = _ := r25
            subst r25
            obtain ⟨u24, s24, r24⟩ := hD ⟨2, .chain⟩ (by simp) rfl _ rfl
            replace r24 : u24 = _ := r24
            subst r24
            clear hA hD
            refine stepOk_want rfl rfl s24 ?_
            intro K hK
            gi_wp2_with fail; refine (callsIn_wide.2 (text_any ⟨x1, x2, x3⟩ HF.out _ (HT.out.below (HB.out.trans ((HS.out.below hC).low.mono HB.out.size))))).mono ?_; rintro e w2 ⟨rfl, hb⟩
            exact hK _ _ rfl hb
          · -- 5
            intro a' w' hA hC hD
            have s6 : a'.tmps[6]? = some _ := (hA.at 6 (by kernel_rfl)).trans rfl
            obtain ⟨u24, s24, r24⟩ := hD ⟨2, .guard⟩ (by simp) rfl _ rfl
            replace r24 : u24 = _ := r24
            subst r24
            have h1_ := (HS.out.below hC).blockAt 0 rfl; have c1_0 := cell_of_block (k := 0) h1_ rfl; have c1_1 := cell_of_block (k := 1) h1_ rfl; have c1_2 := cell_of_block (k := 2) h1_ rfl; clear h1_
            clear hA hD
            refine stepOk_want rfl rfl s24 ?_
            intro K hK
            gi_wp2
            exact hK _ _ rfl ((fun _ => Below.refl _ _) _)
          · -- 6
            intro a' w' hA hC hD
            obtain ⟨u27, s27, r27⟩ := hD ⟨5, .data⟩ (by simp) rfl _ rfl
            replace r27 : u27 = _ := r27
            subst r27
            obtain ⟨u24, s24, r24⟩ := hD ⟨2, .guard⟩ (by simp) rfl _ rfl
            replace r24 : u24 = _ := r24
            subst r24
            clear hA hD
            refine stepOk_want rfl rfl s24 ?_
            intro K hK
            gi_wp2_with fail; refine (callsIn_wide.2 (refText_any ⟨x1, x2, x3⟩ HF.out _)).mono ?_; rintro e w2 ⟨rfl, hb⟩
            exact hK _ _ rfl hb
          · -- 7
            intro a' w' hA hC hD
            obtain ⟨u26, s26, r26⟩ := hD ⟨4, .data⟩ (by simp) rfl _ rfl
            replace r26 : u26 = _ := r26
            subst r26
            obtain ⟨u28, s28, r28⟩ := hD ⟨6, .data⟩ (by simp) rfl _ rfl
            replace r28 : u28 = _ := r28
            subst r28
            obtain ⟨u24, s24, r24⟩ := hD ⟨2, .guard⟩ (by simp) rfl _ rfl
            replace r24 : u24 = _ := r24
            subst r24
            clear hA hD
            refine stepOk_want rfl rfl s24 ?_
            intro K hK
            gi_wp2
            exact hK _ _ rfl ((fun _ => Below.refl _ _) _)
          · -- 8
            intro a' w' hA hC hD
            obtain ⟨u24, s24, r24⟩ := hD ⟨2, .data⟩ (by simp) rfl _ rfl
            replace r24 : u24 = _ := r24
            subst r24
            obtain ⟨u29, s29, r29⟩ := hD ⟨7, .data⟩ (by simp) rfl _ rfl
            replace r29 : u29 = _ := r29
            subst r29
            clear hA hD
            refine stepOk_plain rfl ?_
            intro K hK
            gi_wp2
            exact hK _ _ rfl ((fun _ => Below.refl _ _) _)
        case hend =>
          intro w3 hC
          simp only [EndFrom, eqv, forall_eq, Act.put, List.length_cons, List.length_nil, List.drop_succ_cons, List.drop_zero, Nat.reduceAdd, List.setIfInBounds_toArray, List.set_cons_succ, List.set_cons_zero]
          have HB3 := Lib.hid (HB.out.trans ((HS.out.below hC).low.mono HB.out.size))
          clear hC
          gi_wp2
          go_wp2_with fail
          go_roundw
          case rel => exact ⟨k + 1, hlt, by simp, HB3.out⟩
          case measure => simp [intOf]; omega
      · have g1 : decide ((k : Int) < 10) = false := by simp; omega
        clear h10
        go_wp2_with fail
        refine (wpIn_wide (n := 0)).1 ?_
        apply wp_region_vals 9 (Rl := [(eqv _), (eqv _), (eqv _), (fun v_ _ => v_ = (undef : Value)), (fun v_ _ => v_ = (undef : Value)), (fun v_ _ => v_ = (undef : Value)), (fun v_ _ => v_ = (undef : Value)), (fun v_ _ => v_ = (undef : Value)), (eqv _)]) (C := (fun x y => Below x.heap.size x y))
        case hm => kernel_rfl
        case hk => rfl
        case hCr => exact (fun _ => Below.refl _ _)
        case hCt => intro _ _ _; exact (fun h k => grows_trans h k)
        case hst => exact ⟨fun _ _ _ _ h => h, fun _ _ _ _ h => h, fun _ _ _ _ h => h, fun _ _ _ _ h => h, fun _ _ _ _ h => h, fun _ _ _ _ h => h, fun _ _ _ _ h => h, fun _ _ _ _ h => h, fun _ _ _ _ h => h, trivial⟩
        case hfo => kernel_rfl
        case ht => kernel_rfl
        case hC0 => exact (grows_drew _)
        case hsteps =>
          refine ⟨?_, ?_, ?_, ?_, ?_, ?_, ?_, ?_, ?_, trivial⟩
          · -- 0
            intro a' w' hA hC hD
            have s5 : a'.tmps[5]? = some _ := (hA.at 5 (by kernel_rfl)).trans rfl
            clear hA hD
            refine stepOk_plain rfl ?_
            intro K hK
            gi_wp2
            exact hK _ _ rfl ((fun _ => Below.refl _ _) _)
          · -- 1
            intro a' w' hA hC hD
            obtain ⟨u22, s22, r22⟩ := hD ⟨0, .data⟩ (by simp) rfl _ rfl
            replace r22 : u22 = _ := r22
            subst r22
            clear hA hD
            refine stepOk_plain rfl ?_
            intro K hK
            gi_wp2
            exact hK _ _ rfl ((fun _ => Below.refl _ _) _)
          · -- 2
            intro a' w' hA hC hD
            obtain ⟨u23, s23, r23⟩ := hD ⟨1, .data⟩ (by simp) rfl _ rfl
            replace r23 : u23 = _ := r23
            subst r23
            clear hA hD
            refine stepOk_plain rfl ?_
            intro K hK
            gi_wp2
            exact hK _ _ rfl ((fun _ => Below.refl _ _) _)
          · -- 3
            intro a' w' hA hC hD
            have s6 : a'.tmps[6]? = some _ := (hA.at 6 (by kernel_rfl)).trans rfl
            obtain ⟨u24, s24, r24⟩ := hD ⟨2, .guard⟩ (by simp) rfl _ rfl
            replace r24 : u24 = _ := r24
            subst r24
            clear hA hD
            exact stepOk_skip rfl rfl s24 rfl
          · -- 4
            intro a' w' hA hC hD
            obtain ⟨u25, s25, r25⟩ := hD ⟨3, .data⟩ (by simp) rfl _ rfl
            replace r25 : u25 = undef := r25
            subst r25
            obtain ⟨u24, s24, r24⟩ := hD ⟨2, .chain⟩ (by simp) rfl _ rfl
            replace r24 : u24 = _ := r24
            subst r24
            clear hA hD
            exact stepOk_skip rfl rfl s24 rfl
          · -- 5
            intro a' w' hA hC hD
            have s6 : a'.tmps[6]? = some _ := (hA.at 6 (by kernel_rfl)).trans rfl
            obtain ⟨u24, s24, r24⟩ := hD ⟨2, .guard⟩ (by simp) rfl _ rfl
            replace r24 : u24 = _ := r24
            subst r24
            clear hA hD
            exact stepOk_skip rfl rfl s24 rfl
          · -- 6
            intro a' w' hA hC hD
            obtain ⟨u27, s27, r27⟩ := hD ⟨5, .data⟩ (by simp) rfl _ rfl
            replace r27 : u27 = undef := r27
            subst r27
            obtain ⟨u24, s24, r24⟩ := hD ⟨2, .guard⟩ (by simp) rfl _ rfl
            replace r24 : u24 = _ := r24
            subst r24
            clear hA hD
            exact stepOk_skip rfl rfl s24 rfl
          · -- 7
            intro a' w' hA hC hD
            obtain ⟨u26, s26, r26⟩ := hD ⟨4, .data⟩ (by simp) rfl _ rfl
            replace r26 : u26 = undef := r26
            subst r26
            obtain ⟨u28, s28, r28⟩ := hD ⟨6, .data⟩ (by simp) rfl _ rfl
            replace r28 : u28 = undef := r28
            subst r28
            obtain ⟨u24, s24, r24⟩ := hD ⟨2, .guard⟩ (by simp) rfl _ rfl
            replace r24 : u24 = _ := r24
            subst r24
            clear hA hD
            exact stepOk_skip rfl rfl s24 rfl
          · -- 8
            intro a' w' hA hC hD
            obtain ⟨u24, s24, r24⟩ := hD ⟨2, .data⟩ (by simp) rfl _ rfl
            replace r24 : u24 = _ := r24
            subst r24
            obtain ⟨u29, s29, r29⟩ := hD ⟨7, .data⟩ (by simp) rfl _ rfl
            replace r29 : u29 = undef := r29
            subst r29
            clear hA hD
            refine stepOk_plain rfl ?_
            intro K hK
            gi_wp2
            exact hK _ _ rfl ((fun _ => Below.refl _ _) _)
        case hend =>
          intro w3 hC
          simp only [EndFrom, eqv, forall_eq, Act.put, List.length_cons, List.length_nil, List.drop_succ_cons, List.drop_zero, Nat.reduceAdd, List.setIfInBounds_toArray, List.set_cons_succ, List.set_cons_zero]
          have HB3 := Lib.hid (HB.out.trans ((HS.out.below hC).low.mono HB.out.size))
          clear hC
          gi_wp2
          go_wp2_with fail
          go_roundw
          case rel => exact ⟨k + 1, hlt, by simp, HB3.out⟩
          case measure => simp [intOf]; omega
    · obtain rfl : k = l.length := by omega
      clear hk hlt
      go_wp2_with fail
      go_loopw [34] (fun i wr => ∃ k : Nat, k ≤ T.length ∧ i = .int .i64 (k : Int) ∧ Below w.heap.size w wr) (fun i _ => T.length - (intOf i).toNat)
      case atStart => exact ⟨0, by omega, rfl, HB.out⟩
      case round =>
        obtain ⟨k, hk, rfl, hb⟩ := hrel
        have HB := Lib.hid hb
        clear hb
        by_cases hlt : k < T.length
        · have wk : wrap64 ((k : Int) + 1) = ((k + 1 : Nat) : Int) := by unfold wrap64; omega
          obtain ⟨bb, off, rfl, c0⟩ := strCellE (HE2.out.below HB.out) k hlt
          by_cases h10 : k = 10
          · have hq : ((k : Int) == 10) = true := by simp [h10]
            clear h10
            go_wp2_with fail
            go_ret
            exact ⟨rfl, HB.out⟩
          · have hq : ((k : Int) == 10) = false := by simp; omega
            clear h10
            obtain ⟨x, hx⟩ : ∃ x, T[k] = x := ⟨_, rfl⟩
            rw [hx] at c0
            obtain ⟨q, hqe⟩ : ∃ q, x.extract 0 (min x.size 70) = q := ⟨_, rfl⟩
            have hqs : q.size ≤ 1000 := by rw [← hqe]; simp; omega
            have HQ := Lib.hid hqs
            have hsl : ∀ w, (Instr.slice 9 (.string x) none (some (.int .i64 (min (x.size : Int) 70))) none).run Tryd.prog w = .ok (.string q) w := by
              intro w
              rw [run_slice_string_to_if (P := Tryd.prog) (w := w) 9 x .i64 _ Tryd.underlying9, if_pos (by omega), ← hqe]
              congr 3
              omega
            clear hx hqe hqs
            have HS := Lib.hid (St.start wr)
            repeat ((fail_if_success (with_reducible refine stop_at (id := 14) ?_)); (first | go_values | go_skip | go_guarded | go_step | go_upon | go_back | (simp only [Int.not_lt, Int.not_le] at *; go_simp) | (go_values <;> (try go_simp)) | (go_ite <;> go_prune <;> (try go_simp)) | (split <;> (first | (rename_i hx; exact (hx _ rfl).elim) | go_prune))))
            clear c0 hsl
            go_wp2_with fail
            refine (identRead_any q _ (HT.out.below HB.out)).mono ?_
            rintro e w2 ⟨⟨o, ho, rfl⟩, hb_⟩
            have HS := Lib.hid (HS.out.below hb_)
            have HO := Lib.hid ho
            clear hb_ ho
            cases o with
            | none =>
              simp only [readVal, Option.getD_none, Option.isSome_none, errOf, zeroId, IdT.val, Bool.false_eq_true, if_false]
              repeat ((fail_if_success (with_reducible refine stop_at (id := 15) ?_)); (first | go_values | go_skip | go_guarded | go_step | go_upon | go_back | (simp only [Int.not_lt, Int.not_le] at *; go_simp) | (go_values <;> (try go_simp)) | (go_ite <;> go_prune <;> (try go_simp)) | (split <;> (first | (rename_i hx; exact (hx _ rfl).elim) | go_prune))))
              have hs_ := (HS.out.alloc (.cells #[.int .u64 0, .int .i64 0, .int .u64 0] 27))
              obtain ⟨w3, hw_⟩ : ∃ w3 : World, (w2.alloc (.cells #[.int .u64 0, .int .i64 0, .int .u64 0] 27)) = w3 := ⟨_, rfl⟩
              rw [hw_] at hs_
              try simp only [World.size_alloc] at hs_
              have HS := Lib.hid hs_
              rw [hw_]
              clear hw_ hs_
              go_wp2_with fail
              refine (refRead_any q HQ.out _).mono ?_
              rintro e w4 ⟨⟨i, o2, ho2, rfl, _⟩, hb_⟩
              obtain rfl := HO.out.unique ho2
              have HS := Lib.hid (HS.out.below hb_)
              clear hb_ ho2
              obtain ⟨i1, i2, i3⟩ := i
              simp only [Option.isSome_none, IdT.val]
              repeat ((fail_if_success (with_reducible refine stop_at (id := 16) ?_)); (first | go_values | go_skip | go_guarded | go_step | go_upon | go_back | (simp only [Int.not_lt, Int.not_le] at *; go_simp) | (go_values <;> (try go_simp)) | (go_ite <;> go_prune <;> (try go_simp)) | (split <;> (first | (rename_i hx; exact (hx _ rfl).elim) | go_prune))))
              have hs_ := (HS.out.alloc (.cells #[.int .u64 i1, .int .i64 i2, .int .u64 i3] 27))
              obtain ⟨w5, hw_⟩ : ∃ w5 : World, (w4.alloc (.cells #[.int .u64 i1, .int .i64 i2, .int .u64 i3] 27)) = w5 := ⟨_, rfl⟩
              rw [hw_] at hs_
              try simp only [World.size_alloc] at hs_
              have HS := Lib.hid hs_
              rw [hw_]
              clear hw_ hs_
              have k0 := cell_of_block (k := 0) (HS.out.blockAt 0 rfl) rfl
              have k1 := cell_of_block (k := 1) (HS.out.blockAt 0 rfl) rfl
              have k2 := cell_of_block (k := 2) (HS.out.blockAt 0 rfl) rfl
              have kf := free_of_block (HS.out.blockAt 0 rfl)
              repeat ((fail_if_success (with_reducible refine stop_at (id := 18) ?_)); (first | go_values | go_skip | go_guarded | go_step | go_upon | go_back | (simp only [Int.not_lt, Int.not_le] at *; go_simp) | (go_values <;> (try go_simp)) | (go_ite <;> go_prune <;> (try go_simp)) | (split <;> (first | (rename_i hx; exact (hx _ rfl).elim) | go_prune))))
              clear k0 k1 k2 kf
              have hs_ := St.set3 (a' := .int .u64 0) (b' := .int .i64 0) (c' := .int .u64 0) (pre := []) HS.out (by simp)
              generalize (World.setCell (World.setCell (World.setCell w5 _ _) _ _) _ _) = w6 at hs_ ⊢
              have HS := Lib.hid hs_
              clear hs_
              try simp only [List.nil_append] at HS
              have k0 := cell_of_block (k := 0) (HS.out.blockAt 0 rfl) rfl
              have k1 := cell_of_block (k := 1) (HS.out.blockAt 0 rfl) rfl
              have k2 := cell_of_block (k := 2) (HS.out.blockAt 0 rfl) rfl
              have m0 := cell_of_block (k := 0) (HS.out.blockAt 1 rfl) rfl
              have m1 := cell_of_block (k := 1) (HS.out.blockAt 1 rfl) rfl
              have m2 := cell_of_block (k := 2) (HS.out.blockAt 1 rfl) rfl
              have hr := fun w => run_neq_id w 0 0 0 0 0 0
              rw [show idEqB ⟨0, 0, 0⟩ ⟨0, 0, 0⟩ = true from rfl] at hr
              go_wp2_with fail
              go_roundw
              case rel => exact ⟨k + 1, hlt, by simp, HB.out.trans (HS.out.low.mono HB.out.size)⟩
              case measure => simp [intOf]; omega
            | some j =>
              obtain ⟨j1, j2, j3⟩ := j
              simp only [readVal, Option.getD_some, Option.isSome_some, errOf, IdT.val, if_true]
              repeat ((fail_if_success (with_reducible refine stop_at (id := 15) ?_)); (first | go_values | go_skip | go_guarded | go_step | go_upon | go_back | (simp only [Int.not_lt, Int.not_le] at *; go_simp) | (go_values <;> (try go_simp)) | (go_ite <;> go_prune <;> (try go_simp)) | (split <;> (first | (rename_i hx; exact (hx _ rfl).elim) | go_prune))))
              have hs_ := (HS.out.alloc (.cells #[.int .u64 j1, .int .i64 j2, .int .u64 j3] 27))
              obtain ⟨w3, hw_⟩ : ∃ w3 : World, (w2.alloc (.cells #[.int .u64 j1, .int .i64 j2, .int .u64 j3] 27)) = w3 := ⟨_, rfl⟩
              rw [hw_] at hs_
              try simp only [World.size_alloc] at hs_
              have HS := Lib.hid hs_
              rw [hw_]
              clear hw_ hs_
              go_wp2_with fail
              refine (refRead_any q HQ.out _).mono ?_
              rintro e w4 ⟨⟨i, o2, ho2, rfl, hi⟩, hb_⟩
              obtain rfl := HO.out.unique ho2
              obtain rfl := hi _ rfl
              have HS := Lib.hid (HS.out.below hb_)
              clear hb_ ho2 hi
              simp only [Option.isSome_some, IdT.val]
              repeat ((fail_if_success (with_reducible refine stop_at (id := 16) ?_)); (first | go_values | go_skip | go_guarded | go_step | go_upon | go_back | (simp only [Int.not_lt, Int.not_le] at *; go_simp) | (go_values <;> (try go_simp)) | (go_ite <;> go_prune <;> (try go_simp)) | (split <;> (first | (rename_i hx; exact (hx _ rfl).elim) | go_prune))))
              have hs_ := (HS.out.alloc (.cells #[.int .u64 j1, .int .i64 j2, .int .u64 j3] 27))
              obtain ⟨w5, hw_⟩ : ∃ w5 : World, (w4.alloc (.cells #[.int .u64 j1, .int .i64 j2, .int .u64 j3] 27)) = w5 := ⟨_, rfl⟩
              rw [hw_] at hs_
              try simp only [World.size_alloc] at hs_
              have HS := Lib.hid hs_
              rw [hw_]
              clear hw_ hs_
              have k0 := cell_of_block (k := 0) (HS.out.blockAt 0 rfl) rfl
              have k1 := cell_of_block (k := 1) (HS.out.blockAt 0 rfl) rfl
              have k2 := cell_of_block (k := 2) (HS.out.blockAt 0 rfl) rfl
              have m0 := cell_of_block (k := 0) (HS.out.blockAt 1 rfl) rfl
              have m1 := cell_of_block (k := 1) (HS.out.blockAt 1 rfl) rfl
              have m2 := cell_of_block (k := 2) (HS.out.blockAt 1 rfl) rfl
              have hr := fun w => run_neq_id w j1 j2 j3 j1 j2 j3
              rw [show idEqB ⟨j1, j2, j3⟩ ⟨j1, j2, j3⟩ = true from (idEqB_iff _ _).2 rfl] at hr
              go_wp2_with fail
              go_roundw
              case rel => exact ⟨k + 1, hlt, by simp, HB.out.trans (HS.out.low.mono HB.out.size)⟩
              case measure => simp [intOf]; omega
        · obtain rfl : k = T.length := by omega
          clear hk hlt
          go_wp2_with fail
          go_ret
          exact ⟨rfl, HB.out⟩
end Go.Proofs.YtppaheekpmgifaaDoor
