/- The document's Rising. -/
import Derived.Test.YtppaheekpmgifaaDoorIdTx
namespace Go.Proofs.YtppaheekpmgifaaDoor
set_option linter.unusedSimpArgs false
set_option linter.unusedVariables false
open Go.RowKit Go.Shelf Go.Lib

theorem idCellsX {w : World} {a : Option Addr} {cap : Nat} {l : List IdT} (h : Elems w (.slice a l.length cap) l.length 3 (rowC encId l)) (k : Nat) (x : IdT) (hx : l[k]? = some x) :
    ∃ b off, a = some ⟨b, off, none⟩ ∧ w.cell? ⟨b, off + k * 3, none⟩ = some (.int .u64 x.time) ∧ w.cell? ⟨b, off + k * 3 + 1, none⟩ = some (.int .i64 x.site) ∧ w.cell? ⟨b, off + k * 3 + 2, none⟩ = some (.int .u64 x.seq) := by
  obtain ⟨hk, rfl⟩ := List.getElem?_eq_some_iff.1 hx
  exact idCellsE h k hk
theorem risesB_true {ids : List IdT} (h : ∀ j (hj : j + 1 < ids.length), idLess ids[j] ids[j + 1] = true) : risesB ids = true := by
  unfold risesB
  rw [List.all_eq_true]
  exact fun k _ => h k.1 (by omega)
theorem risesB_false {ids : List IdT} {j : Nat} (hj : j + 1 < ids.length) (h : idLess ids[j] ids[j + 1] = false) : risesB ids = false := by
  unfold risesB
  rw [List.all_eq_false]
  exact ⟨⟨j, by omega⟩, List.mem_finRange _, by simp [h]⟩

set_option maxRecDepth 100000 in
set_option maxHeartbeats 2000000 in
theorem refRising_any (a : Option Addr) (cap : Nat) (ids : List IdT) (hlen : ids.length ≤ 1000000000) (w : World) (h : Elems w (.slice a ids.length cap) ids.length 3 (rowC encId ids)) :
    Calls Tryd.prog 34 #[.slice a ids.length cap] w (Gives (.bool (risesB ids)) w) := by
  have HE := Lib.hid h
  clear h
  go_enter Tryd.func34, Tryd.ntmps34
  go_wp2_with fail
  go_loopw [6] (fun i wr => ∃ k : Nat, k ≤ ids.length ∧ i = .int .i64 (k : Int) ∧ Below w.heap.size w wr ∧ ∀ j (hj : j + 1 < ids.length), j + 1 < k → idLess ids[j] ids[j + 1] = true) (fun i _ => ids.length - (intOf i).toNat)
  case atStart => exact ⟨0, by omega, rfl, Below.refl _ _, fun j _ h => by omega⟩
  case round =>
    obtain ⟨k, hk, rfl, hb, hall⟩ := hrel
    have HB := Lib.hid hb
    have HA := Lib.hid hall
    clear hb hall
    by_cases hlt : k < ids.length
    · have HLT := Lib.hid hlt
      have wk : wrap64 ((k : Int) + 1) = ((k + 1 : Nat) : Int) := by unfold wrap64; omega
      cases k with
      | zero =>
        go_wp2_with fail
        refine (wpIn_wide (n := 0)).1 ?_
        apply wp_region_vals 15 (Rl := [(eqv _), (eqv _), (eqv _), (fun v_ _ => v_ = (undef : Value)), (fun v_ _ => v_ = (undef : Value)), (fun v_ _ => v_ = (undef : Value)), (fun v_ _ => v_ = (undef : Value)), (fun v_ _ => v_ = (undef : Value)), (fun v_ _ => v_ = (undef : Value)), (fun v_ _ => v_ = (undef : Value)), (fun v_ _ => v_ = (undef : Value)), (fun v_ _ => v_ = (undef : Value)), (fun v_ _ => v_ = (undef : Value)), (fun v_ _ => v_ = (undef : Value)), (eqv _)]) (C := (fun x y => Below x.heap.size x y))
        case hm => kernel_rfl
        case hk => rfl
        case hCr => exact (fun _ => Below.refl _ _)
        case hCt => intro _ _ _; exact (fun h k => grows_trans h k)
        case hst => exact ⟨fun _ _ _ _ h => h, fun _ _ _ _ h => h, fun _ _ _ _ h => h, fun _ _ _ _ h => h, fun _ _ _ _ h => h, fun _ _ _ _ h => h, fun _ _ _ _ h => h, fun _ _ _ _ h => h, fun _ _ _ _ h => h, fun _ _ _ _ h => h, fun _ _ _ _ h => h, fun _ _ _ _ h => h, fun _ _ _ _ h => h, fun _ _ _ _ h => h, fun _ _ _ _ h => h, trivial⟩
        case hfo => kernel_rfl
        case ht => kernel_rfl
        case hC0 => exact (grows_drew _)
        case hsteps =>
          refine ⟨?_, ?_, ?_, ?_, ?_, ?_, ?_, ?_, ?_, ?_, ?_, ?_, ?_, ?_, ?_, trivial⟩
          · -- 0
            intro a' w' hA hC hD
            have s3 : a'.tmps[3]? = some _ := (hA.at 3 (by kernel_rfl)).trans rfl
            clear hA hD
            refine stepOk_plain rfl ?_
            intro K hK
            gi_wp2
            exact hK _ _ rfl ((fun _ => Below.refl _ _) _)
          · -- 1
            intro a' w' hA hC hD
            obtain ⟨u9, s9, r9⟩ := hD ⟨0, .data⟩ (by simp) rfl _ rfl
            replace r9 : u9 = _ := r9
            subst r9
            clear hA hD
            refine stepOk_plain rfl ?_
            intro K hK
            gi_wp2
            exact hK _ _ rfl ((fun _ => Below.refl _ _) _)
          · -- 2
            intro a' w' hA hC hD
            obtain ⟨u10, s10, r10⟩ := hD ⟨1, .data⟩ (by simp) rfl _ rfl
            replace r10 : u10 = _ := r10
            subst r10
            clear hA hD
            refine stepOk_plain rfl ?_
            intro K hK
            gi_wp2
            exact hK _ _ rfl ((fun _ => Below.refl _ _) _)
          · -- 3
            intro a' w' hA hC hD
            have s0 : a'.tmps[0]? = some _ := (hA.at 0 (by kernel_rfl)).trans rfl
            obtain ⟨u11, s11, r11⟩ := hD ⟨2, .guard⟩ (by simp) rfl _ rfl
            replace r11 : u11 = _ := r11
            subst r11
            clear hA hD
            exact stepOk_skip rfl rfl s11 rfl
          · -- 4
            intro a' w' hA hC hD
            have s3 : a'.tmps[3]? = some _ := (hA.at 3 (by kernel_rfl)).trans rfl
            obtain ⟨u11, s11, r11⟩ := hD ⟨2, .guard⟩ (by simp) rfl _ rfl
            replace r11 : u11 = _ := r11
            subst r11
            clear hA hD
            exact stepOk_skip rfl rfl s11 rfl
          · -- 5
            intro a' w' hA hC hD
            obtain ⟨u13, s13, r13⟩ := hD ⟨4, .data⟩ (by simp) rfl _ rfl
            replace r13 : u13 = undef := r13
            subst r13
            obtain ⟨u11, s11, r11⟩ := hD ⟨2, .guard⟩ (by simp) rfl _ rfl
            replace r11 : u11 = _ := r11
            subst r11
            clear hA hD
            exact stepOk_skip rfl rfl s11 rfl
          · -- 6
            intro a' w' hA hC hD
            obtain ⟨u12, s12, r12⟩ := hD ⟨3, .data⟩ (by simp) rfl _ rfl
            replace r12 : u12 = undef := r12
            subst r12
            obtain ⟨u14, s14, r14⟩ := hD ⟨5, .data⟩ (by simp) rfl _ rfl
            replace r14 : u14 = undef := r14
            subst r14
            obtain ⟨u11, s11, r11⟩ := hD ⟨2, .guard⟩ (by simp) rfl _ rfl
            replace r11 : u11 = _ := r11
            subst r11
            clear hA hD
            exact stepOk_skip rfl rfl s11 rfl
          · -- 7
            intro a' w' hA hC hD
            obtain ⟨u15, s15, r15⟩ := hD ⟨6, .data⟩ (by simp) rfl _ rfl
            replace r15 : u15 = undef := r15
            subst r15
            obtain ⟨u11, s11, r11⟩ := hD ⟨2, .guard⟩ (by simp) rfl _ rfl
            replace r11 : u11 = _ := r11
            subst r11
            clear hA hD
            exact stepOk_skip rfl rfl s11 rfl
          · -- 8
            intro a' w' hA hC hD
            have s0 : a'.tmps[0]? = some _ := (hA.at 0 (by kernel_rfl)).trans rfl
            obtain ⟨u11, s11, r11⟩ := hD ⟨2, .guard⟩ (by simp) rfl _ rfl
            replace r11 : u11 = _ := r11
            subst r11
            clear hA hD
            exact stepOk_skip rfl rfl s11 rfl
          · -- 9
            intro a' w' hA hC hD
            have s3 : a'.tmps[3]? = some _ := (hA.at 3 (by kernel_rfl)).trans rfl
            obtain ⟨u11, s11, r11⟩ := hD ⟨2, .guard⟩ (by simp) rfl _ rfl
            replace r11 : u11 = _ := r11
            subst r11
            clear hA hD
            exact stepOk_skip rfl rfl s11 rfl
          · -- 10
            intro a' w' hA hC hD
            obtain ⟨u17, s17, r17⟩ := hD ⟨8, .data⟩ (by simp) rfl _ rfl
            replace r17 : u17 = undef := r17
            subst r17
            obtain ⟨u18, s18, r18⟩ := hD ⟨9, .data⟩ (by simp) rfl _ rfl
            replace r18 : u18 = undef := r18
            subst r18
            obtain ⟨u11, s11, r11⟩ := hD ⟨2, .guard⟩ (by simp) rfl _ rfl
            replace r11 : u11 = _ := r11
            subst r11
            clear hA hD
            exact stepOk_skip rfl rfl s11 rfl
          · -- 11
            intro a' w' hA hC hD
            obtain ⟨u19, s19, r19⟩ := hD ⟨10, .data⟩ (by simp) rfl _ rfl
            replace r19 : u19 = undef := r19
            subst r19
            obtain ⟨u11, s11, r11⟩ := hD ⟨2, .guard⟩ (by simp) rfl _ rfl
            replace r11 : u11 = _ := r11
            subst r11
            clear hA hD
            exact stepOk_skip rfl rfl s11 rfl
          · -- 12
            intro a' w' hA hC hD
            obtain ⟨u16, s16, r16⟩ := hD ⟨7, .data⟩ (by simp) rfl _ rfl
            replace r16 : u16 = undef := r16
            subst r16
            obtain ⟨u20, s20, r20⟩ := hD ⟨11, .data⟩ (by simp) rfl _ rfl
            replace r20 : u20 = undef := r20
            subst r20
            obtain ⟨u11, s11, r11⟩ := hD ⟨2, .chain⟩ (by simp) rfl _ rfl
            replace r11 : u11 = _ := r11
            subst r11
            clear hA hD
            exact stepOk_skip rfl rfl s11 rfl
          · -- 13
            intro a' w' hA hC hD
            obtain ⟨u21, s21, r21⟩ := hD ⟨12, .data⟩ (by simp) rfl _ rfl
            replace r21 : u21 = undef := r21
            subst r21
            obtain ⟨u11, s11, r11⟩ := hD ⟨2, .guard⟩ (by simp) rfl _ rfl
            replace r11 : u11 = _ := r11
            subst r11
            clear hA hD
            exact stepOk_skip rfl rfl s11 rfl
          · -- 14
            intro a' w' hA hC hD
            obtain ⟨u11, s11, r11⟩ := hD ⟨2, .data⟩ (by simp) rfl _ rfl
            replace r11 : u11 = _ := r11
            subst r11
            obtain ⟨u22, s22, r22⟩ := hD ⟨13, .data⟩ (by simp) rfl _ rfl
            replace r22 : u22 = undef := r22
            subst r22
            clear hA hD
            refine stepOk_plain rfl ?_
            intro K hK
            gi_wp2
            exact hK _ _ rfl ((fun _ => Below.refl _ _) _)
        case hend =>
          intro w3 hC
          simp only [EndFrom, eqv, forall_eq, Act.put, List.length_cons, List.length_nil, List.drop_succ_cons, List.drop_zero, Nat.reduceAdd, List.setIfInBounds_toArray, List.set_cons_succ, List.set_cons_zero]
          have HB3 := Lib.hid (HB.out.trans (hC.mono HB.out.size))
          clear hC
          gi_wp2
          go_wp2_with fail
          go_roundw
          case rel => exact ⟨1, HLT.out, rfl, HB3.out, fun j _ h => by omega⟩
          case measure => have := HLT.out; simp [intOf]; omega
      | succ j =>
        have e15 : wrap64 (j : Int) = (j : Int) := by unfold wrap64; omega
        obtain ⟨x, hx⟩ : ∃ x, ids[j]? = some x := ⟨_, List.getElem?_eq_getElem (by omega)⟩
        obtain ⟨y, hy⟩ : ∃ y, ids[j + 1]? = some y := ⟨_, List.getElem?_eq_getElem hlt⟩
        obtain ⟨bb, off, rfl, d0, d1, d2⟩ := idCellsX (HE.out.below HB.out) j x hx
        obtain ⟨bb2, off2, e2, c0, c1, c2⟩ := idCellsX (HE.out.below HB.out) (j + 1) y hy
        cases e2
        obtain ⟨ls, hls⟩ : ∃ ls, idLess x y = ls := ⟨_, rfl⟩
        have HLS := Lib.hid (show idLess (ids[j]'(by omega)) (ids[j + 1]'hlt) = ls by rw [(List.getElem?_eq_some_iff.1 hx).2, (List.getElem?_eq_some_iff.1 hy).2]; exact hls)
        have HL2 := Lib.hid hls
        clear hx hy hls
        obtain ⟨x1, x2, x3⟩ := x
        obtain ⟨y1, y2, y3⟩ := y
        have D := Lib.hid (And.intro d0 (And.intro d1 d2))
        have E := Lib.hid (And.intro c0 (And.intro c1 c2))
        have db := cellLt d0
        have eb := cellLt c0
        clear d0 d1 d2 c0 c1 c2
        simp only at db eb
        cases ls
        · go_wp2_with fail
          refine (wpIn_wide (n := 0)).1 ?_
          apply wp_region_vals 15 (Rl := [(eqv _), (eqv _), (eqv _), (eqv _), (eqv _), (eqv _), (eqv _), (eqv _), (eqv _), (eqv _), (eqv _), (eqv _), (eqv _), (eqv _), (eqv _)]) (C := (fun x y => Below x.heap.size x y))
          case hm => kernel_rfl
          case hk => rfl
          case hCr => exact (fun _ => Below.refl _ _)
          case hCt => intro _ _ _; exact (fun h k => grows_trans h k)
          case hst => exact ⟨fun _ _ _ _ h => h, fun _ _ _ _ h => h, fun _ _ _ _ h => h, fun _ _ _ _ h => h, fun _ _ _ _ h => h, fun _ _ _ _ h => h, fun _ _ _ _ h => h, fun _ _ _ _ h => h, fun _ _ _ _ h => h, fun _ _ _ _ h => h, fun _ _ _ _ h => h, fun _ _ _ _ h => h, fun _ _ _ _ h => h, fun _ _ _ _ h => h, fun _ _ _ _ h => h, trivial⟩
          case hfo => kernel_rfl
          case ht => kernel_rfl
          case hC0 => exact (grows_drew _)
          case hsteps =>
            refine ⟨?_, ?_, ?_, ?_, ?_, ?_, ?_, ?_, ?_, ?_, ?_, ?_, ?_, ?_, ?_, trivial⟩
            · -- 0
              intro a' w' hA hC hD
              have s3 : a'.tmps[3]? = some _ := (hA.at 3 (by kernel_rfl)).trans rfl
              clear hA hD
              refine stepOk_plain rfl ?_
              intro K hK
              gi_wp2
              exact hK _ _ rfl ((fun _ => Below.refl _ _) _)
            · -- 1
              intro a' w' hA hC hD
              obtain ⟨u9, s9, r9⟩ := hD ⟨0, .data⟩ (by simp) rfl _ rfl
              replace r9 : u9 = _ := r9
              subst r9
              clear hA hD
              refine stepOk_plain rfl ?_
              intro K hK
              gi_wp2
              exact hK _ _ rfl ((fun _ => Below.refl _ _) _)
            · -- 2
              intro a' w' hA hC hD
              obtain ⟨u10, s10, r10⟩ := hD ⟨1, .data⟩ (by simp) rfl _ rfl
              replace r10 : u10 = _ := r10
              subst r10
              clear hA hD
              refine stepOk_plain rfl ?_
              intro K hK
              gi_wp2
              exact hK _ _ rfl ((fun _ => Below.refl _ _) _)
            · -- 3
              intro a' w' hA hC hD
              have s0 : a'.tmps[0]? = some _ := (hA.at 0 (by kernel_rfl)).trans rfl
              obtain ⟨u11, s11, r11⟩ := hD ⟨2, .guard⟩ (by simp) rfl _ rfl
              replace r11 : u11 = _ := r11
              subst r11
              clear hA hD
              refine stepOk_want rfl rfl s11 ?_
              intro K hK
              gi_wp2
              exact hK _ _ rfl ((fun _ => Below.refl _ _) _)
            · -- 4
              intro a' w' hA hC hD
              have s3 : a'.tmps[3]? = some _ := (hA.at 3 (by kernel_rfl)).trans rfl
              obtain ⟨u11, s11, r11⟩ := hD ⟨2, .guard⟩ (by simp) rfl _ rfl
              replace r11 : u11 = _ := r11
              subst r11
              clear hA hD
              refine stepOk_want rfl rfl s11 ?_
              intro K hK
              gi_wp2
              exact hK _ _ rfl ((fun _ => Below.refl _ _) _)
            · -- 5
              intro a' w' hA hC hD
              obtain ⟨u13, s13, r13⟩ := hD ⟨4, .data⟩ (by simp) rfl _ rfl
              replace r13 : u13 = _ := r13
              subst r13
              obtain ⟨u11, s11, r11⟩ := hD ⟨2, .guard⟩ (by simp) rfl _ rfl
              replace r11 : u11 = _ := r11
              subst r11
              clear hA hD
              refine stepOk_want rfl rfl s11 ?_
              intro K hK
              gi_wp2
              exact hK _ _ rfl ((fun _ => Below.refl _ _) _)
            · -- 6
              intro a' w' hA hC hD
              obtain ⟨u12, s12, r12⟩ := hD ⟨3, .data⟩ (by simp) rfl _ rfl
              replace r12 : u12 = _ := r12
              subst r12
              obtain ⟨u14, s14, r14⟩ := hD ⟨5, .data⟩ (by simp) rfl _ rfl
              replace r14 : u14 = _ := r14
              subst r14
              obtain ⟨u11, s11, r11⟩ := hD ⟨2, .guard⟩ (by simp) rfl _ rfl
              replace r11 : u11 = _ := r11
              subst r11
              clear hA hD
              refine stepOk_want rfl rfl s11 ?_
              intro K hK
              gi_wp2
              exact hK _ _ rfl ((fun _ => Below.refl _ _) _)
            · -- 7
              intro a' w' hA hC hD
              obtain ⟨u15, s15, r15⟩ := hD ⟨6, .data⟩ (by simp) rfl _ rfl
              replace r15 : u15 = _ := r15
              subst r15
              obtain ⟨u11, s11, r11⟩ := hD ⟨2, .guard⟩ (by simp) rfl _ rfl
              replace r11 : u11 = _ := r11
              subst r11
              have d0 := (hC.cell (p := ⟨bb, off + j * 3, none⟩) db).trans D.out.1; have d1 := (hC.cell (p := ⟨bb, off + j * 3 + 1, none⟩) db).trans D.out.2.1; have d2 := (hC.cell (p := ⟨bb, off + j * 3 + 2, none⟩) db).trans D.out.2.2
              clear hA hD
              refine stepOk_want rfl rfl s11 ?_
              intro K hK
              gi_wp2
              exact hK _ _ rfl ((fun _ => Below.refl _ _) _)
            · -- 8
              intro a' w' hA hC hD
              have s0 : a'.tmps[0]? = some _ := (hA.at 0 (by kernel_rfl)).trans rfl
              obtain ⟨u11, s11, r11⟩ := hD ⟨2, .guard⟩ (by simp) rfl _ rfl
              replace r11 : u11 = _ := r11
              subst r11
              clear hA hD
              refine stepOk_want rfl rfl s11 ?_
              intro K hK
              gi_wp2
              exact hK _ _ rfl ((fun _ => Below.refl _ _) _)
            · -- 9
              intro a' w' hA hC hD
              have s3 : a'.tmps[3]? = some _ := (hA.at 3 (by kernel_rfl)).trans rfl
              obtain ⟨u11, s11, r11⟩ := hD ⟨2, .guard⟩ (by simp) rfl _ rfl
              replace r11 : u11 = _ := r11
              subst r11
              clear hA hD
              refine stepOk_want rfl rfl s11 ?_
              intro K hK
              gi_wp2
              exact hK _ _ rfl ((fun _ => Below.refl _ _) _)
            · -- 10
              intro a' w' hA hC hD
              obtain ⟨u17, s17, r17⟩ := hD ⟨8, .data⟩ (by simp) rfl _ rfl
              replace r17 : u17 = _ := r17
              subst r17
              obtain ⟨u18, s18, r18⟩ := hD ⟨9, .data⟩ (by simp) rfl _ rfl
              replace r18 : u18 = _ := r18
              subst r18
              obtain ⟨u11, s11, r11⟩ := hD ⟨2, .guard⟩ (by simp) rfl _ rfl
              replace r11 : u11 = _ := r11
              subst r11
              clear hA hD
              refine stepOk_want rfl rfl s11 ?_
              intro K hK
              gi_wp2
              exact hK _ _ rfl ((fun _ => Below.refl _ _) _)
            · -- 11
              intro a' w' hA hC hD
              obtain ⟨u19, s19, r19⟩ := hD ⟨10, .data⟩ (by simp) rfl _ rfl
              replace r19 : u19 = _ := r19
              subst r19
              obtain ⟨u11, s11, r11⟩ := hD ⟨2, .guard⟩ (by simp) rfl _ rfl
              replace r11 : u11 = _ := r11
              subst r11
              have c0 := (hC.cell (p := ⟨bb, off + (j + 1) * 3, none⟩) db).trans E.out.1; have c1 := (hC.cell (p := ⟨bb, off + (j + 1) * 3 + 1, none⟩) db).trans E.out.2.1; have c2 := (hC.cell (p := ⟨bb, off + (j + 1) * 3 + 2, none⟩) db).trans E.out.2.2
              clear hA hD
              refine stepOk_want rfl rfl s11 ?_
              intro K hK
              gi_wp2
              exact hK _ _ rfl ((fun _ => Below.refl _ _) _)
            · -- 12
              intro a' w' hA hC hD
              obtain ⟨u16, s16, r16⟩ := hD ⟨7, .data⟩ (by simp) rfl _ rfl
              replace r16 : u16 = _ := r16
              subst r16
              obtain ⟨u20, s20, r20⟩ := hD ⟨11, .data⟩ (by simp) rfl _ rfl
              replace r20 : u20 = _ := r20
              subst r20
              obtain ⟨u11, s11, r11⟩ := hD ⟨2, .chain⟩ (by simp) rfl _ rfl
              replace r11 : u11 = _ := r11
              subst r11
              clear hA hD
              refine stepOk_want rfl rfl s11 ?_
              intro K hK
              gi_wp2_with fail; refine (callsIn_wide.2 (refLess_any ⟨x1, x2, x3⟩ ⟨y1, y2, y3⟩ _)).mono ?_; rintro e w2 ⟨rfl, hb⟩; rw [HL2.out]
              exact hK _ _ rfl hb
            · -- 13
              intro a' w' hA hC hD
              obtain ⟨u21, s21, r21⟩ := hD ⟨12, .data⟩ (by simp) rfl _ rfl
              replace r21 : u21 = _ := r21
              subst r21
              obtain ⟨u11, s11, r11⟩ := hD ⟨2, .guard⟩ (by simp) rfl _ rfl
              replace r11 : u11 = _ := r11
              subst r11
              clear hA hD
              refine stepOk_want rfl rfl s11 ?_
              intro K hK
              gi_wp2
              exact hK _ _ rfl ((fun _ => Below.refl _ _) _)
            · -- 14
              intro a' w' hA hC hD
              obtain ⟨u11, s11, r11⟩ := hD ⟨2, .data⟩ (by simp) rfl _ rfl
              replace r11 : u11 = _ := r11
              subst r11
              obtain ⟨u22, s22, r22⟩ := hD ⟨13, .data⟩ (by simp) rfl _ rfl
              replace r22 : u22 = _ := r22
              subst r22
              clear hA hD
              refine stepOk_plain rfl ?_
              intro K hK
              gi_wp2
              exact hK _ _ rfl ((fun _ => Below.refl _ _) _)
          case hend =>
            intro w3 hC
            simp only [EndFrom, eqv, forall_eq, Act.put, List.length_cons, List.length_nil, List.drop_succ_cons, List.drop_zero, Nat.reduceAdd, List.setIfInBounds_toArray, List.set_cons_succ, List.set_cons_zero]
            have HB3 := Lib.hid (HB.out.trans (hC.mono HB.out.size))
            clear hC
            gi_wp2
            go_wp2_with fail
            go_ret
            exact ⟨by rw [risesB_false HLT.out HLS.out]; rfl, HB3.out⟩
        · go_wp2_with fail
          refine (wpIn_wide (n := 0)).1 ?_
          apply wp_region_vals 15 (Rl := [(eqv _), (eqv _), (eqv _), (eqv _), (eqv _), (eqv _), (eqv _), (eqv _), (eqv _), (eqv _), (eqv _), (eqv _), (eqv _), (eqv _), (eqv _)]) (C := (fun x y => Below x.heap.size x y))
          case hm => kernel_rfl
          case hk => rfl
          case hCr => exact (fun _ => Below.refl _ _)
          case hCt => intro _ _ _; exact (fun h k => grows_trans h k)
          case hst => exact ⟨fun _ _ _ _ h => h, fun _ _ _ _ h => h, fun _ _ _ _ h => h, fun _ _ _ _ h => h, fun _ _ _ _ h => h, fun _ _ _ _ h => h, fun _ _ _ _ h => h, fun _ _ _ _ h => h, fun _ _ _ _ h => h, fun _ _ _ _ h => h, fun _ _ _ _ h => h, fun _ _ _ _ h => h, fun _ _ _ _ h => h, fun _ _ _ _ h => h, fun _ _ _ _ h => h, trivial⟩
          case hfo => kernel_rfl
          case ht => kernel_rfl
          case hC0 => exact (grows_drew _)
          case hsteps =>
            refine ⟨?_, ?_, ?_, ?_, ?_, ?_, ?_, ?_, ?_, ?_, ?_, ?_, ?_, ?_, ?_, trivial⟩
            · -- 0
              intro a' w' hA hC hD
              have s3 : a'.tmps[3]? = some _ := (hA.at 3 (by kernel_rfl)).trans rfl
              clear hA hD
              refine stepOk_plain rfl ?_
              intro K hK
              gi_wp2
              exact hK _ _ rfl ((fun _ => Below.refl _ _) _)
            · -- 1
              intro a' w' hA hC hD
              obtain ⟨u9, s9, r9⟩ := hD ⟨0, .data⟩ (by simp) rfl _ rfl
              replace r9 : u9 = _ := r9
              subst r9
              clear hA hD
              refine stepOk_plain rfl ?_
              intro K hK
              gi_wp2
              exact hK _ _ rfl ((fun _ => Below.refl _ _) _)
            · -- 2
              intro a' w' hA hC hD
              obtain ⟨u10, s10, r10⟩ := hD ⟨1, .data⟩ (by simp) rfl _ rfl
              replace r10 : u10 = _ := r10
              subst r10
              clear hA hD
              refine stepOk_plain rfl ?_
              intro K hK
              gi_wp2
              exact hK _ _ rfl ((fun _ => Below.refl _ _) _)
            · -- 3
              intro a' w' hA hC hD
              have s0 : a'.tmps[0]? = some _ := (hA.at 0 (by kernel_rfl)).trans rfl
              obtain ⟨u11, s11, r11⟩ := hD ⟨2, .guard⟩ (by simp) rfl _ rfl
              replace r11 : u11 = _ := r11
              subst r11
              clear hA hD
              refine stepOk_want rfl rfl s11 ?_
              intro K hK
              gi_wp2
              exact hK _ _ rfl ((fun _ => Below.refl _ _) _)
            · -- 4
              intro a' w' hA hC hD
              have s3 : a'.tmps[3]? = some _ := (hA.at 3 (by kernel_rfl)).trans rfl
              obtain ⟨u11, s11, r11⟩ := hD ⟨2, .guard⟩ (by simp) rfl _ rfl
              replace r11 : u11 = _ := r11
              subst r11
              clear hA hD
              refine stepOk_want rfl rfl s11 ?_
              intro K hK
              gi_wp2
              exact hK _ _ rfl ((fun _ => Below.refl _ _) _)
            · -- 5
              intro a' w' hA hC hD
              obtain ⟨u13, s13, r13⟩ := hD ⟨4, .data⟩ (by simp) rfl _ rfl
              replace r13 : u13 = _ := r13
              subst r13
              obtain ⟨u11, s11, r11⟩ := hD ⟨2, .guard⟩ (by simp) rfl _ rfl
              replace r11 : u11 = _ := r11
              subst r11
              clear hA hD
              refine stepOk_want rfl rfl s11 ?_
              intro K hK
              gi_wp2
              exact hK _ _ rfl ((fun _ => Below.refl _ _) _)
            · -- 6
              intro a' w' hA hC hD
              obtain ⟨u12, s12, r12⟩ := hD ⟨3, .data⟩ (by simp) rfl _ rfl
              replace r12 : u12 = _ := r12
              subst r12
              obtain ⟨u14, s14, r14⟩ := hD ⟨5, .data⟩ (by simp) rfl _ rfl
              replace r14 : u14 = _ := r14
              subst r14
              obtain ⟨u11, s11, r11⟩ := hD ⟨2, .guard⟩ (by simp) rfl _ rfl
              replace r11 : u11 = _ := r11
              subst r11
              clear hA hD
              refine stepOk_want rfl rfl s11 ?_
              intro K hK
              gi_wp2
              exact hK _ _ rfl ((fun _ => Below.refl _ _) _)
            · -- 7
              intro a' w' hA hC hD
              obtain ⟨u15, s15, r15⟩ := hD ⟨6, .data⟩ (by simp) rfl _ rfl
              replace r15 : u15 = _ := r15
              subst r15
              obtain ⟨u11, s11, r11⟩ := hD ⟨2, .guard⟩ (by simp) rfl _ rfl
              replace r11 : u11 = _ := r11
              subst r11
              have d0 := (hC.cell (p := ⟨bb, off + j * 3, none⟩) db).trans D.out.1; have d1 := (hC.cell (p := ⟨bb, off + j * 3 + 1, none⟩) db).trans D.out.2.1; have d2 := (hC.cell (p := ⟨bb, off + j * 3 + 2, none⟩) db).trans D.out.2.2
              clear hA hD
              refine stepOk_want rfl rfl s11 ?_
              intro K hK
              gi_wp2
              exact hK _ _ rfl ((fun _ => Below.refl _ _) _)
            · -- 8
              intro a' w' hA hC hD
              have s0 : a'.tmps[0]? = some _ := (hA.at 0 (by kernel_rfl)).trans rfl
              obtain ⟨u11, s11, r11⟩ := hD ⟨2, .guard⟩ (by simp) rfl _ rfl
              replace r11 : u11 = _ := r11
              subst r11
              clear hA hD
              refine stepOk_want rfl rfl s11 ?_
              intro K hK
              gi_wp2
              exact hK _ _ rfl ((fun _ => Below.refl _ _) _)
            · -- 9
              intro a' w' hA hC hD
              have s3 : a'.tmps[3]? = some _ := (hA.at 3 (by kernel_rfl)).trans rfl
              obtain ⟨u11, s11, r11⟩ := hD ⟨2, .guard⟩ (by simp) rfl _ rfl
              replace r11 : u11 = _ := r11
              subst r11
              clear hA hD
              refine stepOk_want rfl rfl s11 ?_
              intro K hK
              gi_wp2
              exact hK _ _ rfl ((fun _ => Below.refl _ _) _)
            · -- 10
              intro a' w' hA hC hD
              obtain ⟨u17, s17, r17⟩ := hD ⟨8, .data⟩ (by simp) rfl _ rfl
              replace r17 : u17 = _ := r17
              subst r17
              obtain ⟨u18, s18, r18⟩ := hD ⟨9, .data⟩ (by simp) rfl _ rfl
              replace r18 : u18 = _ := r18
              subst r18
              obtain ⟨u11, s11, r11⟩ := hD ⟨2, .guard⟩ (by simp) rfl _ rfl
              replace r11 : u11 = _ := r11
              subst r11
              clear hA hD
              refine stepOk_want rfl rfl s11 ?_
              intro K hK
              gi_wp2
              exact hK _ _ rfl ((fun _ => Below.refl _ _) _)
            · -- 11
              intro a' w' hA hC hD
              obtain ⟨u19, s19, r19⟩ := hD ⟨10, .data⟩ (by simp) rfl _ rfl
              replace r19 : u19 = _ := r19
              subst r19
              obtain ⟨u11, s11, r11⟩ := hD ⟨2, .guard⟩ (by simp) rfl _ rfl
              replace r11 : u11 = _ := r11
              subst r11
              have c0 := (hC.cell (p := ⟨bb, off + (j + 1) * 3, none⟩) db).trans E.out.1; have c1 := (hC.cell (p := ⟨bb, off + (j + 1) * 3 + 1, none⟩) db).trans E.out.2.1; have c2 := (hC.cell (p := ⟨bb, off + (j + 1) * 3 + 2, none⟩) db).trans E.out.2.2
              clear hA hD
              refine stepOk_want rfl rfl s11 ?_
              intro K hK
              gi_wp2
              exact hK _ _ rfl ((fun _ => Below.refl _ _) _)
            · -- 12
              intro a' w' hA hC hD
              obtain ⟨u16, s16, r16⟩ := hD ⟨7, .data⟩ (by simp) rfl _ rfl
              replace r16 : u16 = _ := r16
              subst r16
              obtain ⟨u20, s20, r20⟩ := hD ⟨11, .data⟩ (by simp) rfl _ rfl
              replace r20 : u20 = _ := r20
              subst r20
              obtain ⟨u11, s11, r11⟩ := hD ⟨2, .chain⟩ (by simp) rfl _ rfl
              replace r11 : u11 = _ := r11
              subst r11
              clear hA hD
              refine stepOk_want rfl rfl s11 ?_
              intro K hK
              gi_wp2_with fail; refine (callsIn_wide.2 (refLess_any ⟨x1, x2, x3⟩ ⟨y1, y2, y3⟩ _)).mono ?_; rintro e w2 ⟨rfl, hb⟩; rw [HL2.out]
              exact hK _ _ rfl hb
            · -- 13
              intro a' w' hA hC hD
              obtain ⟨u21, s21, r21⟩ := hD ⟨12, .data⟩ (by simp) rfl _ rfl
              replace r21 : u21 = _ := r21
              subst r21
              obtain ⟨u11, s11, r11⟩ := hD ⟨2, .guard⟩ (by simp) rfl _ rfl
              replace r11 : u11 = _ := r11
              subst r11
              clear hA hD
              refine stepOk_want rfl rfl s11 ?_
              intro K hK
              gi_wp2
              exact hK _ _ rfl ((fun _ => Below.refl _ _) _)
            · -- 14
              intro a' w' hA hC hD
              obtain ⟨u11, s11, r11⟩ := hD ⟨2, .data⟩ (by simp) rfl _ rfl
              replace r11 : u11 = _ := r11
              subst r11
              obtain ⟨u22, s22, r22⟩ := hD ⟨13, .data⟩ (by simp) rfl _ rfl
              replace r22 : u22 = _ := r22
              subst r22
              clear hA hD
              refine stepOk_plain rfl ?_
              intro K hK
              gi_wp2
              exact hK _ _ rfl ((fun _ => Below.refl _ _) _)
          case hend =>
            intro w3 hC
            simp only [EndFrom, eqv, forall_eq, Act.put, List.length_cons, List.length_nil, List.drop_succ_cons, List.drop_zero, Nat.reduceAdd, List.setIfInBounds_toArray, List.set_cons_succ, List.set_cons_zero]
            have HB3 := Lib.hid (HB.out.trans (hC.mono HB.out.size))
            clear hC
            gi_wp2
            go_wp2_with fail
            go_roundw
            case rel =>
              refine ⟨j + 1 + 1, HLT.out, by simp, HB3.out, fun i hi h => ?_⟩
              rcases Nat.lt_or_ge (i + 1) (j + 1) with h1 | h1
              · exact HA.out i hi h1
              · obtain rfl : i = j := by omega
                exact HLS.out
            case measure => have := HLT.out; simp [intOf]; omega
    · obtain rfl : k = ids.length := by omega
      clear hk hlt
      go_wp2_with fail
      go_ret
      exact ⟨by rw [risesB_true fun j hj => HA.out j hj hj]; rfl, HB.out⟩
end Go.Proofs.YtppaheekpmgifaaDoor
