/- Layer 6: the document's Row. -/
import Derived.Test.YtflbcabjefpojaaShQ
import Derived.Test.YtflbcabjefpojaaFld
import Derived.Test.YtflbcabjefpojaaShE
namespace Go.Proofs.Ytflbcabjefpojaa
set_option linter.unusedSimpArgs false
set_option linter.unusedVariables false
open Go.RowKit Go.Shelf

/-- A field that is read. -/
def FldR (w : World) (g n m : Nat) (F : Nat → Nat → Bool) : Prop := g < w.heap.size ∧ ∀ j, j < n → ∃ b, b < w.heap.size ∧ w.cell? ⟨g, j, none⟩ = some (.slice (some ⟨b, 0, none⟩) m m) ∧ ∀ i, i < m → w.cell? ⟨b, i, none⟩ = some (.bool (F j i))
theorem Fld.read {w0 w : World} {its : List It} {base g cap n m : Nat} {F : Nat → Nat → Bool} (h : Fld w0 its base g cap n m F w) : FldR w g n m F := by
  obtain ⟨B, h1, h2⟩ := h
  subst h1
  refine ⟨(ownsRow_block h2.o.row).2.1, fun j hj => ?_⟩
  obtain ⟨b, hb⟩ : ∃ b, B[j]? = some b := ⟨_, List.getElem?_eq_getElem hj⟩
  have hr := h2.row j b hb
  refine ⟨b, (ownsRow_block hr).2.1, ?_, fun i hi => ownsRow_cell hr (rowV_get m _ i hi)⟩
  have := h2.o.cell (encB_len m) j b 0 _ hb rfl
  simpa using this
theorem FldR.below {w w' : World} {g n m : Nat} {F : Nat → Nat → Bool} (h : FldR w g n m F) (hb : Below w.heap.size w w') : FldR w' g n m F := by
  refine ⟨Nat.lt_of_lt_of_le h.1 hb.size, fun j hj => ?_⟩
  obtain ⟨b, h1, h2, h3⟩ := h.2 j hj
  exact ⟨b, Nat.lt_of_lt_of_le h1 hb.size, (hb.cell (p := ⟨g, j, none⟩) h.1).trans h2, fun i hi => (hb.cell (p := ⟨b, i, none⟩) h1).trans (h3 i hi)⟩

set_option maxRecDepth 100000 in
set_option maxHeartbeats 1000000 in
theorem refRow_any (x1 y1 : Int) (n m : Nat) (hn2 : n ≤ 1000) (hm2 : m ≤ 1000) (hx : -1000 ≤ x1 ∧ x1 ≤ 1000) (hy : -1000 ≤ y1 ∧ y1 ≤ 1000) (x2 y2 : Int) (hx2 : x2 = x1 + (m : Int) - 1) (hy2 : y2 = y1 + (n : Int) - 1) (g cap : Nat) (F : Nat → Nat → Bool) (w : World) (hf : FldR w g n m F) :
    Calls Try.prog 47 #[.agg #[.int .i64 x1, .int .i64 y1, .int .i64 x2, .int .i64 y2], .slice (some ⟨g, 0, none⟩) n cap] w fun e w' => ∃ L, RowOf x1 y1 n m F L ∧ GivesRow 39 3 L.length (L.flatMap encS) w e w' := by
  have HS := Lib.hid (St.start w)
  have HF := Lib.hid hf
  have HX := Lib.hid (And.intro hx hy)
  have HX2 := Lib.hid (And.intro hx2 hy2)
  clear hf hx hy hx2 hy2
  go_enter Try.func47, Try.ntmps47
  repeat ((fail_if_success (with_reducible refine stop_at (id := 1) ?_)); (first | go_values | go_skip | go_guarded | go_step | go_upon | go_back | (simp only [Int.not_lt, Int.not_le] at *; go_simp) | (go_values <;> (try go_simp)) | (go_ite <;> go_prune <;> (try go_simp)) | (split <;> (first | (rename_i hx; exact (hx _ rfl).elim) | go_prune))))
  have hs_ := (HS.out.alloc (.cells #[.int .i64 x1, .int .i64 y1, .int .i64 x2, .int .i64 y2] 43))
  obtain ⟨w1, hw_⟩ : ∃ w1 : World, (w.alloc (.cells #[.int .i64 x1, .int .i64 y1, .int .i64 x2, .int .i64 y2] 43)) = w1 := ⟨_, rfl⟩
  rw [hw_] at hs_
  try simp only [World.size_alloc] at hs_
  have HS := Lib.hid hs_
  rw [hw_]
  clear hw_ hs_
  have HO := Lib.hid (StO.start HS.out 39 3 encS)
  obtain ⟨N1, hN1⟩ : ∃ N1, w1.heap.size = N1 := ⟨_, rfl⟩
  rw [hN1] at HO
  have k1 := cell_of_block (k := 1) (HS.out.blockAt 0 rfl) rfl
  go_wp2_with fail
  clear k1 HS
  go_loopw [5, 6] (fun v y wr => ∃ (j : Nat) (L : List SpT), j ≤ n ∧ y = .int .i64 (y1 + (j : Int)) ∧ StO w [.blk w.heap.size (.cells #[.int .i64 x1, .int .i64 y1, .int .i64 x2, .int .i64 y2] 43 (0, 0))] N1 39 3 encS v L wr ∧ RowTo x1 y1 m F L j 0 ∧ L.length ≤ j * m) (fun _ y _ => (y2 + 1 - intOf y).toNat)
  case atStart => exact ⟨0, [], by omega, by simp, HO.out, rowTo_start _ _ _ _, by simp⟩
  case round =>
    obtain ⟨j, L, hj, rfl, ho, ht, hlen⟩ := hrel
    clear HO hN1
    have HO := Lib.hid ho
    have HT := Lib.hid ht
    have HLEN := Lib.hid hlen
    clear ho ht hlen
    have k0 := cell_of_block (k := 0) (HO.out.st.blockAt 0 rfl) rfl
    have k3 := cell_of_block (k := 3) (HO.out.st.blockAt 0 rfl) rfl
    by_cases hlt : y1 + (j : Int) ≤ y2
    · have hjn : j < n := by have := HX2.out; omega
      have HOP := Lib.hid (show OpenTo x1 y1 L j 0 false from fun s hs e => by have := (HT.out.box s hs).2.2.2.2 e; have := (HT.out.box s hs).2.2.1; have := HT.out.row.sp s hs; omega)
      have HJ := Lib.hid hjn
      go_wp2_with fail
      clear k0 k3
      go_loopw [5, 7, 8] (fun v o x wr => ∃ (i : Nat) (L : List SpT) (ob : Bool), i ≤ m ∧ x = .int .i64 (x1 + (i : Int)) ∧ o = .bool ob ∧ StO w [.blk w.heap.size (.cells #[.int .i64 x1, .int .i64 y1, .int .i64 x2, .int .i64 y2] 43 (0, 0))] N1 39 3 encS v L wr ∧ RowTo x1 y1 m F L j i ∧ OpenTo x1 y1 L j i ob ∧ L.length ≤ j * m + i) (fun _ _ x _ => (x2 + 1 - intOf x).toNat)
      case atStart => exact ⟨0, L, false, by omega, by simp, rfl, HO.out, HT.out, HOP.out, by simpa using HLEN.out⟩
      case round =>
        obtain ⟨i, L, ob, hi, rfl, rfl, ho, ht, hop, hlen⟩ := hrel
        clear HO HT HLEN HOP
        have HO := Lib.hid ho
        have HT := Lib.hid ht
        have HOP := Lib.hid hop
        have HLEN := Lib.hid hlen
        clear ho ht hop hlen
        have k2 := cell_of_block (k := 2) (HO.out.st.blockAt 0 rfl) rfl
        by_cases hlt2 : x1 + (i : Int) ≤ x2
        · have him : i < m := by have := HX2.out; omega
          have HI := Lib.hid him
          have e3 : wrap64 (x1 + (i : Int) + 1) = x1 + ((i + 1 : Nat) : Int) := by have := HX.out; unfold wrap64; omega
          obtain ⟨b, hb0, hb1, hb2⟩ := (HF.out.below HO.out.st.low).2 j HJ.out
          have HC := Lib.hid (fun w' (hC : Below wr.heap.size wr w') => And.intro ((hC.cell (p := ⟨g, j, none⟩) (Nat.lt_of_lt_of_le HF.out.1 HO.out.st.low.size)).trans hb1) ((hC.cell (p := ⟨b, i, none⟩) hb0).trans (hb2 i him)))
          clear hb0 hb1 hb2
          obtain ⟨fv, hfv⟩ : ∃ fv, F j i = fv := ⟨_, rfl⟩
          rw [hfv] at HC
          have HFV := Lib.hid hfv
          clear hfv
          go_wp2_with fail
          clear k2
          refine (wpIn_wide (n := 0)).1 ?_
          apply wp_region_vals 14 (Rl := [(eqv _), (eqv _), (eqv _), (eqv _), (eqv _), (eqv _), (eqv _), (eqv _), (eqv _), (eqv _), (eqv _), (eqv _), (eqv _), (eqv _)]) (C := (fun x y => Below wr.heap.size x y))
          case hm => kernel_rfl
          case hk => rfl
          case hCr => exact (fun x => Below.refl _ x)
          case hCt => intro _ _ _; exact (fun h k => h.trans k)
          case hst => exact ⟨fun _ _ _ _ h => h, fun _ _ _ _ h => h, fun _ _ _ _ h => h, fun _ _ _ _ h => h, fun _ _ _ _ h => h, fun _ _ _ _ h => h, fun _ _ _ _ h => h, fun _ _ _ _ h => h, fun _ _ _ _ h => h, fun _ _ _ _ h => h, fun _ _ _ _ h => h, fun _ _ _ _ h => h, fun _ _ _ _ h => h, fun _ _ _ _ h => h, trivial⟩
          case hfo => kernel_rfl
          case ht => kernel_rfl
          case hC0 => exact ((Below.refl _ _).drew)
          case hsteps =>
            refine ⟨?_, ?_, ?_, ?_, ?_, ?_, ?_, ?_, ?_, ?_, ?_, ?_, ?_, ?_, trivial⟩
            · -- 0
              intro a' w' hA hC hD
              have s1 : a'.tmps[1]? = some _ := (hA.at 1 (by kernel_rfl)).trans rfl
              clear hA hD
              refine stepOk_plain rfl ?_
              intro K hK
              gi_wp2
              exact hK _ _ rfl ((fun x => Below.refl _ x) _)
            · -- 1
              intro a' w' hA hC hD
              have s6 : a'.tmps[6]? = some _ := (hA.at 6 (by kernel_rfl)).trans rfl
              clear hA hD
              refine stepOk_plain rfl ?_
              intro K hK
              gi_wp2
              exact hK _ _ rfl ((fun x => Below.refl _ x) _)
            · -- 2
              intro a' w' hA hC hD
              have s2 : a'.tmps[2]? = some _ := (hA.at 2 (by kernel_rfl)).trans rfl
              clear hA hD
              refine stepOk_plain rfl ?_
              intro K hK
              gi_wp2
              exact hK _ _ rfl ((fun x => Below.refl _ x) _)
            · -- 3
              intro a' w' hA hC hD
              obtain ⟨u27, s27, r27⟩ := hD ⟨2, .data⟩ (by simp) rfl _ rfl
              replace r27 : u27 = _ := r27
              subst r27
              have b1 := cell_of_block (k := 1) ((HO.out.st.below hC).blockAt 0 rfl) rfl
              clear hA hD
              refine stepOk_plain rfl ?_
              intro K hK
              gi_wp2
              exact hK _ _ rfl ((fun x => Below.refl _ x) _)
            · -- 4
              intro a' w' hA hC hD
              obtain ⟨u26, s26, r26⟩ := hD ⟨1, .data⟩ (by simp) rfl _ rfl
              replace r26 : u26 = _ := r26
              subst r26
              obtain ⟨u28, s28, r28⟩ := hD ⟨3, .data⟩ (by simp) rfl _ rfl
              replace r28 : u28 = _ := r28
              subst r28
              clear hA hD
              refine stepOk_plain rfl ?_
              intro K hK
              gi_wp2
              rw [(show y1 + (j : Int) - y1 = (j : Int) by omega)]
              exact hK _ _ rfl ((fun x => Below.refl _ x) _)
            · -- 5
              intro a' w' hA hC hD
              obtain ⟨u25, s25, r25⟩ := hD ⟨0, .data⟩ (by simp) rfl _ rfl
              replace r25 : u25 = _ := r25
              subst r25
              obtain ⟨u29, s29, r29⟩ := hD ⟨4, .data⟩ (by simp) rfl _ rfl
              replace r29 : u29 = _ := r29
              subst r29
              clear hA hD
              refine stepOk_plain rfl ?_
              intro K hK
              gi_wp2
              exact hK _ _ rfl ((fun x => Below.refl _ x) _)
            · -- 6
              intro a' w' hA hC hD
              obtain ⟨u30, s30, r30⟩ := hD ⟨5, .data⟩ (by simp) rfl _ rfl
              replace r30 : u30 = _ := r30
              subst r30
              have c1 := (HC.out w' hC).1
              clear hA hD
              refine stepOk_plain rfl ?_
              intro K hK
              gi_wp2
              exact hK _ _ rfl ((fun x => Below.refl _ x) _)
            · -- 7
              intro a' w' hA hC hD
              have s8 : a'.tmps[8]? = some _ := (hA.at 8 (by kernel_rfl)).trans rfl
              clear hA hD
              refine stepOk_plain rfl ?_
              intro K hK
              gi_wp2
              exact hK _ _ rfl ((fun x => Below.refl _ x) _)
            · -- 8
              intro a' w' hA hC hD
              have s2 : a'.tmps[2]? = some _ := (hA.at 2 (by kernel_rfl)).trans rfl
              clear hA hD
              refine stepOk_plain rfl ?_
              intro K hK
              gi_wp2
              exact hK _ _ rfl ((fun x => Below.refl _ x) _)
            · -- 9
              intro a' w' hA hC hD
              obtain ⟨u33, s33, r33⟩ := hD ⟨8, .data⟩ (by simp) rfl _ rfl
              replace r33 : u33 = _ := r33
              subst r33
              have b0 := cell_of_block (k := 0) ((HO.out.st.below hC).blockAt 0 rfl) rfl
              clear hA hD
              refine stepOk_plain rfl ?_
              intro K hK
              gi_wp2
              exact hK _ _ rfl ((fun x => Below.refl _ x) _)
            · -- 10
              intro a' w' hA hC hD
              obtain ⟨u32, s32, r32⟩ := hD ⟨7, .data⟩ (by simp) rfl _ rfl
              replace r32 : u32 = _ := r32
              subst r32
              obtain ⟨u34, s34, r34⟩ := hD ⟨9, .data⟩ (by simp) rfl _ rfl
              replace r34 : u34 = _ := r34
              subst r34
              clear hA hD
              refine stepOk_plain rfl ?_
              intro K hK
              gi_wp2
              rw [(show x1 + (i : Int) - x1 = (i : Int) by omega)]
              exact hK _ _ rfl ((fun x => Below.refl _ x) _)
            · -- 11
              intro a' w' hA hC hD
              obtain ⟨u31, s31, r31⟩ := hD ⟨6, .data⟩ (by simp) rfl _ rfl
              replace r31 : u31 = _ := r31
              subst r31
              obtain ⟨u35, s35, r35⟩ := hD ⟨10, .data⟩ (by simp) rfl _ rfl
              replace r35 : u35 = _ := r35
              subst r35
              clear hA hD
              refine stepOk_plain rfl ?_
              intro K hK
              gi_wp2
              exact hK _ _ rfl ((fun x => Below.refl _ x) _)
            · -- 12
              intro a' w' hA hC hD
              obtain ⟨u36, s36, r36⟩ := hD ⟨11, .data⟩ (by simp) rfl _ rfl
              replace r36 : u36 = _ := r36
              subst r36
              have c2 := (HC.out w' hC).2
              clear hA hD
              refine stepOk_plain rfl ?_
              intro K hK
              gi_wp2
              exact hK _ _ rfl ((fun x => Below.refl _ x) _)
            · -- 13
              intro a' w' hA hC hD
              obtain ⟨u37, s37, r37⟩ := hD ⟨12, .data⟩ (by simp) rfl _ rfl
              replace r37 : u37 = _ := r37
              subst r37
              clear hA hD
              refine stepOk_plain rfl ?_
              intro K hK
              gi_wp2
              exact hK _ _ rfl ((fun x => Below.refl _ x) _)
          case hend =>
            intro w3 hC
            simp only [EndFrom, eqv, forall_eq, Act.put, List.length_cons, List.length_nil, List.drop_succ_cons, List.drop_zero, Nat.reduceAdd, List.setIfInBounds_toArray, List.set_cons_succ, List.set_cons_zero]
            have HW := Lib.hid (HO.out.below hC)
            clear hC HO HC
            gi_wp2
            cases fv
            · have HR := Lib.hid (HT.out.skip HI.out HFV.out)
              go_wp2_with fail
              go_roundw
              case rel => exact ⟨i + 1, L, false, by omega, by simp; omega, rfl, HW.out, HR.out.1, HR.out.2, by have := HLEN.out; omega⟩
              case measure => simp [intOf]; omega
            · cases ob
              · have HR := Lib.hid (HT.out.new HI.out HFV.out HOP.out)
                have HLB := Lib.hid (show L.length < 1000000000 by
                  have := HLEN.out
                  have h1 := HJ.out
                  have h2 : j * m ≤ 1000 * 1000 := Nat.mul_le_mul (by omega) hm2
                  omega)
                have wl : wrap64 (L.length : Int) = (L.length : Int) := by have := HLB.out; unfold wrap64; omega
                go_wp2_with (at_builtin; refine wpList_app1 rowS encS_len encS_one HW.out (Below.refl _ _) ⟨y1 + (j : Int), x1 + (i : Int), x1 + (i : Int)⟩ _ rfl HLB.out (by decide) _ _ rfl rfl rfl _ rfl rfl ?_; rintro v' w5 ho5 ⟨ad5, cp5, rfl⟩; obtain ⟨g5, rfl, -⟩ := ho5.head; have c5 := ho5.cell encS_len L.length ⟨y1 + (j : Int), x1 + (i : Int), x1 + (i : Int)⟩ 2 (.int .i64 (x1 + (i : Int))) (by simp) rfl; have f5 := ho5.free (L.length * 3 + 2); have HO5 := Lib.hid ho5; clear ho5)
                go_roundw
                case rel => exact ⟨i + 1, _, true, by omega, by simp; omega, rfl, HO5.out.setLast encS_len ⟨y1 + (j : Int), x1 + (i : Int), x1 + (i : Int)⟩ 2 _ (by omega) rfl, HR.out.1, HR.out.2, by have := HLEN.out; simp; omega⟩
                case measure => simp [intOf]; omega
              · obtain ⟨L0, s, rfl, hsy, hst⟩ := HOP.out
                have HR := Lib.hid (HT.out.open HI.out HFV.out rfl hsy hst)
                have hl0 : (L0 ++ [s]).length = L0.length + 1 := by simp
                have HLB := Lib.hid (show L0.length < 1000000000 by
                  have := HLEN.out
                  rw [hl0] at this
                  have h1 := HJ.out
                  have h2 : j * m ≤ 1000 * 1000 := Nat.mul_le_mul (by omega) hm2
                  omega)
                have HL := Lib.hid hl0
                obtain ⟨ad, cp, hv, hg⟩ := HW.out.shape
                rw [hl0] at hv hg
                obtain ⟨g5, rfl⟩ := hg.resolve_left (by omega)
                subst hv
                have wl : wrap64 (L0.length : Int) = (L0.length : Int) := by have := HLB.out; unfold wrap64; omega
                have c5 := HW.out.cell encS_len L0.length s 2 (.int .i64 s.t) (by simp) rfl
                have f5 := HW.out.free (L0.length * 3 + 2)
                clear hsy hst hl0 hg
                go_wp2_with fail
                go_roundw
                case rel => exact ⟨i + 1, _, true, by omega, by simp; omega, rfl, HW.out.setLast encS_len ⟨s.y, s.f, x1 + (i : Int)⟩ 2 _ (by omega) rfl, HR.out.1, HR.out.2, by have := HLEN.out; rw [HL.out] at this; simp; omega⟩
                case measure => simp [intOf]; omega
        · have him : i = m := by have := HX2.out; omega
          subst him
          have HD := Lib.hid HT.out.down
          clear hi
          have e4 : wrap64 (y1 + (j : Int) + 1) = y1 + ((j + 1 : Nat) : Int) := by have := HX.out; have := HJ.out; unfold wrap64; omega
          go_wp2_with fail
          go_roundw
          case rel => exact ⟨j + 1, L, HJ.out, by simp; omega, HO.out, HD.out.1, by have := HLEN.out; rw [Nat.add_one_mul]; exact this⟩
          case measure => simp [intOf]; omega
    · have hjn : j = n := by have := HX2.out; omega
      subst hjn
      clear hj
      go_wp2_with fail
      go_ret
      exact ⟨L, HT.out.rowOf, _, rfl, ownsRow_mono HO.out.row HO.out.low, HO.out.st.low⟩
end Go.Proofs.Ytflbcabjefpojaa
