/- ShapeRows: the walk (printed by gen_rows06.py). -/
import Derived.Test.YtflbcabjefpojaaRowsA
namespace Go.Proofs.Ytflbcabjefpojaa
set_option linter.unusedSimpArgs false
set_option linter.unusedVariables false
open Go.RowKit Go.Shelf
attribute [local go_sem] Oper.semAt_some

set_option maxRecDepth 100000 in
set_option maxHeartbeats 8000000 in
theorem rows_any (a : Option Addr) (n cap : Nat) (lls : List (List SpT)) (hl : lls.length = n) (hn : n ≤ 9223372036854775807) (b : BxT) (ap : Option Addr) (np cp : Nat) (ps : List PtT) (hlp : ps.length = np) (hcp : np ≤ cp) (w : World) (h : RowsW w a lls) (hp : Elems w (.slice ap np cp) np 2 (rowC encP ps)) :
    Calls Try.prog 6 #[.slice a n cap, b.val, .slice ap np cp] w (Gives (.bool true) w) := by
  have HL := Lib.hid hl
  have HRO := Lib.hid h
  have HPL := Lib.hid (And.intro hlp hcp)
  have HN := Lib.hid hn
  have HS := Lib.hid ((St.start w).addRow hp)
  clear hl h hlp hcp hn hp
  obtain ⟨x1, y1, x2, y2⟩ := b
  unfold BxT.val
  refine (callsIn_wide (n := 10)).1 ?_
  refine callsIn_of_wp_marks Try.func6 rfl trivial ?_ rfl
  simp only [Try.ntmps6, List.size_toArray, List.length_cons, List.length_nil, Nat.reduceAdd, Nat.reduceSub, Array.replicate_succ, Array.replicate_zero, List.push_toArray, List.append_toArray, List.nil_append, List.cons_append]
  gi_wp2_with fail
  have hs_ := ((HS.out.alloc (.cells #[.int .i64 x1, .int .i64 y1, .int .i64 x2, .int .i64 y2] 43)).alloc (.cells #[.bool false] 4))
  obtain ⟨w1, hw_⟩ : ∃ w1 : World, ((w.alloc (.cells #[.int .i64 x1, .int .i64 y1, .int .i64 x2, .int .i64 y2] 43)).alloc (.cells #[.bool false] 4)) = w1 := ⟨_, rfl⟩
  rw [hw_] at hs_
  try simp only [World.size_alloc] at hs_
  have HS := Lib.hid hs_
  rw [hw_]
  clear hw_ hs_
  refine (callsIn_wide.2 (wakes_any _)).mono ?_
  rintro e w2 ⟨rfl, hb_⟩
  have HS := Lib.hid (HS.out.below hb_)
  clear hb_
  have hz2 : w.heap.size + 1 < w2.heap.size := HS.out.lt 0 rfl
  gi_wp2_with fail
  obtain ⟨B0, hB0⟩ : ∃ B0, w2.heap.size = B0 := ⟨_, rfl⟩
  have hB1 : B0 ≤ w2.heap.size := by omega
  rw [hB0] at hz2
  have HS := Lib.hid (show Rnd w B0 [.blk (w.heap.size + 1) (.cells #[.bool false] 4 (0, 0)), .blk w.heap.size (.cells #[.int .i64 x1, .int .i64 y1, .int .i64 x2, .int .i64 y2] 43 (0, 0)), .row (.slice ap np cp) np 2 (rowC encP ps) w.heap.size] nilS [] [] w2 from ⟨by omega, by omega, HS.out, ⟨World.ownsRow_nil _ _ _ _, by simp⟩, marks_nil _ _⟩)
  have HZ := Lib.hid hz2
  clear hB0 hB1 hz2
  apply wpIn_loopS [7, 8, 9, 10, 11, 12, 13, 14, 15, 16, 17, 18, 19, 20, 21, 22, 23, 24, 35, 36, 37, 38, 39, 40, 41, 42, 43, 44, 45, 46, 47, 48, 49, 50, 51, 52, 53, 54, 55, 56, 57, 58, 59, 60, 61, 62, 63, 64, 65, 66, 67, 68, 69, 70, 71, 72, 73, 74, 75, 76, 77, 78, 79, 80, 81, 82, 83, 84, 85, 86, 87, 88, 89, 90, 91, 92, 93, 94, 95, 96, 97, 98, 99, 100, 101, 102, 103, 104, 105, 106, 107, 108, 109, 110, 111, 112, 113, 114, 115, 116, 117, 118, 119, 120, 121, 122, 123, 124, 125, 126, 127, 128, 129, 130, 131, 132, 133, 134, 135, 136, 137, 138, 139, 140, 141, 142, 143, 144, 145, 146] 35 (by decide) (by exact Nat.lt_of_lt_of_le (show 35 < 180 by decide) (Nat.le_refl _)) (fun u ds wr => ∃ k : Nat, k ≤ n ∧ u 35 = .int .i64 (k : Int) ∧ ∃ (v : Value) (Rs : List RowD) (Ds : List Nat), u 7 = v ∧ u 8 = .bool ((Rs.map (·.l)).all rightB) ∧ ds = marksOf Ds ∧ Rs.map (·.l) = (lls.take k).map (fun l => l.take 40) ∧ k ≤ 4 ∧ Rnd w B0 [.blk (w.heap.size + 1) (.cells #[.bool false] 4 (0, 0)), .blk w.heap.size (.cells #[.int .i64 x1, .int .i64 y1, .int .i64 x2, .int .i64 y2] 43 (0, 0)), .row (.slice ap np cp) np 2 (rowC encP ps) w.heap.size] v Rs Ds wr) (fun v => n - (intOf v).toNat)
  · exact ⟨0, by omega, rfl, nilS, [], [], rfl, rfl, rfl, by simp, by omega, HS.out⟩
  rintro u ds wr ⟨k, hk, hu, v, Rs, Ds, rfl, hall, rfl, hRs, hk4, hR⟩
  simp only [setS, List.foldl, List.setIfInBounds_toArray, List.set_cons_succ, List.set_cons_zero]
  rw [hu, hall]
  obtain ⟨al, hal⟩ : ∃ al, (Rs.map (·.l)).all rightB = al := ⟨_, rfl⟩
  rw [hal]
  clear HS hu hall
  have HAL := Lib.hid hal
  have HRS := Lib.hid hRs
  have HK := Lib.hid (And.intro hk hk4)
  have HS := Lib.hid hR
  clear hal hRs hR
  by_cases hlt : k < n ∧ k ≠ 4
  · have HE3 := Lib.hid (show wrap64 ((k : Int) + 1) = ((k + 1 : Nat) : Int) by have := HN.out; unfold wrap64; omega)
    obtain ⟨l, hx⟩ : ∃ l, lls[k]? = some l := ⟨_, List.getElem?_eq_getElem (by rw [HL.out]; exact hlt.1)⟩
    obtain ⟨bb, off, a', cap', rfl, hbb, c00, hlc, hcm, hel⟩ := HRO.out k l hx
    have c0 := (HS.out.low.cell (p := ⟨bb, off + k, none⟩) hbb).trans c00
    have HFW := Lib.hid (few_got a' l.length cap' l rfl hlc hcm wr (hel.imp id (fun h => h.below HS.out.low)))
    have HX := Lib.hid hx
    have hk4' : ¬ ((k : Int) = 4) := by omega
    have hkn : k < n := hlt.1
    have HKK := Lib.hid (show k < n ∧ k + 1 ≤ 4 by have := HK.out; omega)
    obtain ⟨n', hn'⟩ : ∃ n', l.length = n' := ⟨_, rfl⟩
    obtain ⟨l1, hl1⟩ : ∃ l1, l.take 40 = l1 := ⟨_, rfl⟩
    obtain ⟨m1, hm1⟩ : ∃ m1, l1.length = m1 := ⟨_, rfl⟩
    have hm40 : m1 ≤ 40 := by rw [← hm1, ← hl1, List.length_take]; omega
    rw [hn', hl1, hm1] at HFW
    rw [hn'] at c0
    have HL1 := Lib.hid (And.intro hl1 (And.intro hm1 hm40))
    clear hx c00 hel hbb hn' hl1 hm1 hm40 hlc hcm hlt
    gi_wp2_with fail
    refine (callsIn_wide.2 HFW.out).mono ?_
    rintro e w3 ⟨a1, c1, rfl, he_, hb_, hfr_⟩
    have HG := Lib.hid (show ∀ g, (u 7).ownBlock = some g → B0 ≤ g ∧ g < w3.heap.size ∧ g ∉ aBlk a1 from fun g hg => by
      have h1 := HS.out.own.row.lt g hg
      exact ⟨h1.1, Nat.lt_of_lt_of_le h1.2 hb_.size, fun hm => by have := hfr_ g hm; omega⟩)
    have HS := Lib.hid ((HS.out.below hb_).addRow he_)
    clear he_ hb_ hfr_ c0 hk4' hkn HFW
    gi_wp2_with fail
    have hs_ := (HS.out.alloc (.cells #[.slice a1 m1 c1] 29))
    obtain ⟨w4, hw_⟩ : ∃ w4 : World, (w3.alloc (.cells #[.slice a1 m1 c1] 29)) = w4 := ⟨_, rfl⟩
    rw [hw_] at hs_
    try simp only [World.size_alloc] at hs_
    have HS := Lib.hid hs_
    rw [hw_]
    clear hw_ hs_
    refine (callsIn_wide.2 (refRight_any a1 m1 c1 l1 HL1.out.2.1 (by have := HL1.out.2.2; omega) w4 (HS.out.elems 1 rfl))).mono ?_
    rintro e w5 ⟨rfl, hb_⟩
    have HS := Lib.hid (HS.out.below hb_)
    clear hb_
    cases al
    · cases hr : rightB l1
      · have HR := Lib.hid hr
        clear hr
        gi_wp2_with fail
        have hs_ := (HS.out.alloc (.cells #[.bool false] 4))
        obtain ⟨w6, hw_⟩ : ∃ w6 : World, (w5.alloc (.cells #[.bool false] 4)) = w6 := ⟨_, rfl⟩
        rw [hw_] at hs_
        try simp only [World.size_alloc] at hs_
        have HS := Lib.hid hs_
        rw [hw_]
        clear hw_ hs_
        have hz35 : w3.heap.size < w6.heap.size := HS.out.lt 1 rfl
        have hz56 : w5.heap.size < w6.heap.size := HS.out.lt 0 rfl
        have hz45 : w3.heap.size < w5.heap.size := by have h_ := HS.out.st.ord; simp [ItOrd, It.top] at h_; omega
        have HC11 := Lib.hid (fun (w' : World) (hC : w6.grownBy w' (u 7).ownBlock) => (hC.block w3.heap.size hz35 (fun e => by have h_ := HG.out _ e.symm; omega)).trans (HS.out.blockAt 1 rfl))
        have HC12 := Lib.hid (fun (w' : World) (hC : w6.grownBy w' (u 7).ownBlock) => (hC.block w5.heap.size hz56 (fun e => by have h_ := HG.out _ e.symm; omega)).trans (HS.out.blockAt 0 rfl))
        have HZ6 := Lib.hid (And.intro hz35 (And.intro hz56 (And.intro hz45 HS.out.hW)))
        have hqn : Rs.length + 1 ≤ 4 := by
          have h_ := congrArg List.length HRS.out
          simp only [List.length_map, List.length_take] at h_
          have := HKK.out
          omega
        have HQN := Lib.hid hqn
        obtain ⟨i0, hi, hz0, hz1, hz2⟩ := info_parts infoR
        have HI := Lib.hid (And.intro hi (And.intro hz0 (And.intro hz1 hz2)))
        have HRW := Lib.hid HS.out.own.row
        clear hi hz0 hz1 hz2 hz35 hz56 hz45 hqn
        apply wp_region_storeU (fun i => Nat.beq i 8) 9 3 (fun b_ w_ => KeepsIf b_ (w_.ownsRow B0 29 1 (u 7) Rs.length (Rs.flatMap encR))) (Rl := [(eqv _), (eqv _), (fun v_ w_ => ∃ b, v_ = .slice (some ⟨b, 0, none⟩) 1 1 ∧ (u 7).ownBlock ≠ some b ∧ w_.heap[b]? = some (.cells #[.slice a1 m1 c1] 29 (0, 0))), (fun v_ w_ => w_.ownsRow B0 29 1 v_ (Rs ++ [(RowD.mk a1 c1 l1)]).length ((Rs ++ [(RowD.mk a1 c1 l1)]).flatMap encR) ∧ Loc (u 7) v_ w6.heap.size), (eqv _), (eqv _), (fun v_ _ => v_ = (undef : Value)), (eqv _), (fun v_ w_ => w_.ownsRow B0 29 1 v_ (Rs ++ [(RowD.mk a1 c1 l1)]).length ((Rs ++ [(RowD.mk a1 c1 l1)]).flatMap encR) ∧ Loc (u 7) v_ w6.heap.size)]) (C := (fun x y => x.grownBy y (u 7).ownBlock)) (C0 := (fun x y => Below x.heap.size x y))
        case haf => kernel_rfl
        case hm => kernel_rfl
        case hk => rfl
        case hCr => exact (fun x => World.grownBy.refl x _)
        case hCt => intro _ _ _; exact (fun h k => grownTrans h k)
        case h00 => exact (fun x => Below.refl _ x)
        case h0C => intro _ _; exact fun h => ⟨h.os, h.tape, h.output, h.size, fun k hk _ => h.block k hk⟩
        case hst => exact ⟨fun _ _ _ _ h => h, fun _ _ _ _ h => h, fun v x y hC ⟨b, h1, h2, h3⟩ => ⟨b, h1, h2, (hC.block b (block_lt h3) h2.symm).trans h3⟩, fun v x y hC ⟨h1, h2⟩ => ⟨ownsRow_below h1 hC, h2⟩, fun _ _ _ _ h => h, fun _ _ _ _ h => h, fun _ _ _ _ h => h, fun _ _ _ _ h => h, fun v x y hC ⟨h1, h2⟩ => ⟨ownsRow_below h1 hC, h2⟩, trivial⟩
        case hfo => kernel_rfl
        case ht => kernel_rfl
        case hC0 => exact (⟨rfl, rfl, rfl, Nat.le_refl _, fun _ _ _ => rfl⟩)
        case hsk => decide
        case hso => decide
        case hsg => rfl
        case hsteps =>
          refine ⟨?_, ?_, ?_, ?_, ?_, ?_, ?_, ?_, ?_, trivial⟩
          · -- 0
            intro a' w' b_ hA hC hJ hB1 hB2 hU hD
            obtain rfl := hB1 (by kernel_rfl)
            clear hB1 hB2
            have s7 : a'.tmps[7]? = some _ := (hU 8 _ 7 (Nat.lt_of_lt_of_le (show 8 < 9 by decide) (Nat.le_refl _)) rfl rfl (.inl (by kernel_rfl))).trans rfl
            clear hA hD hU
            refine stepOk_plain rfl ?_
            intro K hK
            gi_wp2
            exact hK _ _ rfl ⟨(fun x => Below.refl _ x) _, hJ⟩
          · -- 1
            intro a' w' b_ hA hC hJ hB1 hB2 hU hD
            obtain rfl := hB1 (by kernel_rfl)
            clear hB1 hB2
            have s11 : a'.tmps[11]? = some _ := (hA.at 11 (by kernel_rfl)).trans rfl
            have b1 := cell_of_block (k := 0) (HC11.out w' hC) rfl
            clear hA hD hU
            refine stepOk_plain rfl ?_
            intro K hK
            gi_wp2
            exact hK _ _ rfl ⟨(fun x => Below.refl _ x) _, hJ⟩
          · -- 2
            intro a' w' b_ hA hC hJ hB1 hB2 hU hD
            obtain rfl := hB1 (by kernel_rfl)
            clear hB1 hB2
            obtain ⟨u47, s47, r47⟩ := hD ⟨1, .data⟩ (by simp) rfl _ rfl
            replace r47 : u47 = _ := r47
            subst r47
            clear hA hD hU
            refine stepOk_plain rfl ?_
            intro K hK
            gi_wp2
            exact hK _ _ ⟨w'.heap.size, rfl, fun e => by have := HG.out _ e; have := HZ6.out; have := hC.size; omega, newBlock _ _ _ rfl⟩ ⟨(Below.refl _ _).alloc (Nat.le_refl _) _, fun hb => (hJ hb).alloc _⟩
          · -- 3
            intro a' w' b_ hA hC hJ hB1 hB2 hU hD
            obtain rfl := hB2 rfl
            clear hB1 hB2
            obtain ⟨u46, s46, r46⟩ := hD ⟨0, .data⟩ (by simp) rfl _ rfl
            replace r46 : u46 = _ := r46
            subst r46
            obtain ⟨u48, s48, r48⟩ := hD ⟨2, .data⟩ (by simp) rfl _ rfl
            replace r48 : (fun v_ w_ => ∃ b, v_ = .slice (some ⟨b, 0, none⟩) 1 1 ∧ (u 7).ownBlock ≠ some b ∧ w_.heap[b]? = some (.cells #[.slice a1 m1 c1] 29 (0, 0))) u48 w' := r48
            obtain ⟨g, hg48, hbn, hbk⟩ := r48; subst hg48
            clear hA hD hU
            refine stepOk_plain rfl ?_
            intro K hK
            have H := HI.out; obtain ⟨v', w'', hrun, hr1, hr2, _, hr4⟩ := run_append_own_at (P := Try.prog) w' B0 58 58 29 i0 (.slice none 0 0) 1 24 Try.underlying58 H.1 H.2.1 H.2.2.1 H.2.2.2 rfl (by decide) (u 7) Rs.length (Rs.flatMap encR) (hJ rfl) ⟨g, 0, none⟩ 1 1 (encR (RowD.mk a1 c1 l1)) rfl (fun j x hx => cells_of_block hbk j x (by simpa [encR, HL1.out.2.1] using hx)) (encR_one _) (by have := HQN.out; unfold maxLen; omega) (by have := HQN.out; omega) (by have h_ := hC.size; have h2_ := HZ6.out; omega); refine opIn_append _ _ _ rfl (by simp [Act.eval, s46]) (by simp [Act.eval, s48]) hrun (hK v' w'' ⟨?_, ?_⟩ ⟨hr2, fun h => by cases h⟩); (rw [List.length_append, List.flatMap_append]; simpa using hr1); (rcases hr4 with h | h; exact .inl h; exact .inr ⟨_, h, hC.size⟩)
            skip
          · -- 4
            intro a' w' b_ hA hC hJ hB1 hB2 hU hD
            skip
            clear hB1 hB2
            have s8 : a'.tmps[8]? = some _ := (hA.at 8 (by kernel_rfl)).trans rfl
            clear hA hD hU
            refine stepOk_plain rfl ?_
            intro K hK
            gi_wp2
            exact hK _ _ rfl ⟨(fun x => Below.refl _ x) _, hJ⟩
          · -- 5
            intro a' w' b_ hA hC hJ hB1 hB2 hU hD
            skip
            clear hB1 hB2
            obtain ⟨u50, s50, r50⟩ := hD ⟨4, .data⟩ (by simp) rfl _ rfl
            replace r50 : u50 = _ := r50
            subst r50
            clear hA hD hU
            refine stepOk_plain rfl ?_
            intro K hK
            gi_wp2
            exact hK _ _ rfl ⟨(fun x => Below.refl _ x) _, hJ⟩
          · -- 6
            intro a' w' b_ hA hC hJ hB1 hB2 hU hD
            skip
            clear hB1 hB2
            have s12 : a'.tmps[12]? = some _ := (hA.at 12 (by kernel_rfl)).trans rfl
            obtain ⟨u51, s51, r51⟩ := hD ⟨5, .guard⟩ (by simp) rfl _ rfl
            replace r51 : u51 = _ := r51
            subst r51
            clear hA hD hU
            exact stepOk_skip rfl rfl s51 (by first | rfl | (show (undef : Value) = undef; rfl) | simp [factsAt])
          · -- 7
            intro a' w' b_ hA hC hJ hB1 hB2 hU hD
            skip
            clear hB1 hB2
            obtain ⟨u51, s51, r51⟩ := hD ⟨5, .data⟩ (by simp) rfl _ rfl
            replace r51 : u51 = _ := r51
            subst r51
            obtain ⟨u52, s52, r52⟩ := hD ⟨6, .data⟩ (by simp) rfl _ rfl
            replace r52 : u52 = undef := r52
            subst r52
            clear hA hD hU
            refine stepOk_plain rfl ?_
            intro K hK
            gi_wp2
            exact hK _ _ rfl ⟨(fun x => Below.refl _ x) _, hJ⟩
          · -- 8
            intro a' w' b_ hA hC hJ hB1 hB2 hU hD
            skip
            clear hB1 hB2
            obtain ⟨u49, s49, r49⟩ := hD ⟨3, .data⟩ (by simp) rfl _ rfl
            replace r49 : (fun v_ w_ => w_.ownsRow B0 29 1 v_ (Rs ++ [(RowD.mk a1 c1 l1)]).length ((Rs ++ [(RowD.mk a1 c1 l1)]).flatMap encR) ∧ Loc (u 7) v_ w6.heap.size) u49 w' := r49
            clear hA hD hU
            refine stepOk_plain rfl ?_
            intro K hK
            gi_wp2
            exact hK _ _ r49 ⟨Below.refl _ _, hJ⟩
        case hJ0 => exact fun _ => HRW.out.drew
        case hend =>
          intro w7 hC hJ
          simp only [EndFrom, eqv, forall_eq, Act.put, List.length_cons, List.length_nil, List.drop_succ_cons, List.drop_zero, Nat.reduceAdd, List.setIfInBounds_toArray, List.set_cons_succ, List.set_cons_zero]
          rintro v2 - v3 - v' ⟨hr1, hr2⟩
          have hpush := (HS.out.sub (its' := [.blk w5.heap.size (.cells #[.bool false] 4 (0, 0)), .blk w3.heap.size (.cells #[.slice a1 m1 c1] 29 (0, 0)), .blk (w.heap.size + 1) (.cells #[.bool false] 4 (0, 0)), .blk w.heap.size (.cells #[.int .i64 x1, .int .i64 y1, .int .i64 x2, .int .i64 y2] 43 (0, 0)), .row (.slice ap np cp) np 2 (rowC encP ps) w.heap.size]) (.cons_cons _ (.cons_cons _ (.cons _ (List.Sublist.refl _))))).push (r := (RowD.mk a1 c1 l1)) (fun i hi g hg => by
            have h_ := HG.out g hg
            have h2_ := HZ6.out
            have h3_ := HZ.out
            simp at hi
            rcases hi with rfl | rfl | rfl | rfl | rfl <;> simp only [It.free] <;> omega) (by rw [HL1.out.2.1]; exact HS.out.elems 2 rfl) (fun g hg => (HG.out g hg).2.2) hC hr1 hr2
          have hel := (hpush.own.each (RowD.mk a1 c1 l1) (by simp)).1
          rw [HL1.out.2.1] at hel
          have HS := Lib.hid (hpush.addRow hel)
          have HRS2 := Lib.hid (show (Rs ++ [(RowD.mk a1 c1 l1)]).map (·.l) = (lls.take (k + 1)).map (fun l => l.take 40) by
            rw [List.map_append, HRS.out, List.take_add_one, HX.out]
            simp [HL1.out.1])
          have HAL2 := Lib.hid (show ((Rs ++ [(RowD.mk a1 c1 l1)]).map (·.l)).all rightB = false by
            rw [List.map_append, List.all_append, HAL.out]
            simp [HR.out])
          clear hpush hel hr1 hr2 hC hJ
          have t11 := cell_of_block (k := 0) (HS.out.blockAt 2 rfl) rfl
          gi_wp2_with fail
          clear t11
          have HCK := Lib.hid (check_any a1 m1 c1 l1 HL1.out.2.1 (by have := HL1.out.2.2; omega) w7 (HS.out.elems 0 rfl))
          rw [HR.out, errOf_false] at HCK
          refine (callsIn_wide.2 (HCK.out)).mono ?_
          rintro e w8 ⟨rfl, hb_⟩
          have HS := Lib.hid (HS.out.below hb_)
          clear hb_
          clear HCK
          have t11 := cell_of_block (k := 0) (HS.out.blockAt 2 rfl) rfl
          have t12 := cell_of_block (k := 0) (HS.out.blockAt 1 rfl) rfl
          have b0 := cell_of_block (k := 0) (HS.out.blockAt 4 rfl) rfl
          have b1 := cell_of_block (k := 1) (HS.out.blockAt 4 rfl) rfl
          have b2 := cell_of_block (k := 2) (HS.out.blockAt 4 rfl) rfl
          have b3 := cell_of_block (k := 3) (HS.out.blockAt 4 rfl) rfl
          gi_wp2_with fail
          clear t11 t12
          clear b0 b1 b2 b3
          refine (callsIn_wide.2 (clipBad a1 m1 c1 l1 HL1.out.2.1 (by have := HL1.out.2.2; omega) HR.out ⟨x1, y1, x2, y2⟩ w8 (HS.out.elems 0 rfl))).mono ?_
          rintro e w9 ⟨-, a9, c9, rfl, he_, hb_⟩
          have HS := Lib.hid ((HS.out.below hb_).addRow he_)
          clear hb_ he_
          have t12 := cell_of_block (k := 0) (HS.out.blockAt 2 rfl) rfl
          gi_wp2_with fail
          clear t12
          refine (callsIn_wide.2 (eqS_same _ _ [] 0 rfl _ (HS.out.elems 0 rfl) (elems_nil _))).mono ?_
          rintro e w11 ⟨rfl, hb_⟩
          have HS := Lib.hid (HS.out.below hb_)
          clear hb_
          have t11 := cell_of_block (k := 0) ((HS.out.alloc (.cells #[.int .i64 0] 3)).blockAt 4 rfl) rfl
          have HLT := Lib.hid (fun g (hg : v'.ownBlock = some g ∨ ∃ r ∈ Rs ++ [(RowD.mk a1 c1 l1)], g ∈ aBlk r.a) => HS.out.own.lt g hg)
          have HA1 := Lib.hid (aBlk_lt (HS.out.elems 1 rfl))
          have hw11 : w.heap.size + 1 < w11.heap.size := HS.out.lt 4 rfl
          gi_wp2_with fail
          clear t11
          have hs_ := (HS.out.alloc (.cells #[.int .i64 0] 3))
          obtain ⟨w12, hw_⟩ : ∃ w12 : World, (w11.alloc (.cells #[.int .i64 0] 3)) = w12 := ⟨_, rfl⟩
          rw [hw_] at hs_
          try simp only [World.size_alloc] at hs_
          have HS := Lib.hid hs_
          rw [hw_]
          clear hw_ hs_
          have hz12 : w11.heap.size < w12.heap.size := HS.out.lt 0 rfl
          refine (callsIn_wide.2 (all_any _ _ _ _)).mono ?_
          rintro e w' ⟨rfl, rfl⟩
          have hs_ := (HS.out.alloc (.cells #[.slice a1 m1 c1] 29))
          obtain ⟨w13, hw_⟩ : ∃ w13 : World, (w12.alloc (.cells #[.slice a1 m1 c1] 29)) = w13 := ⟨_, rfl⟩
          rw [hw_] at hs_
          try simp only [World.size_alloc] at hs_
          have HS := Lib.hid hs_
          rw [hw_]
          clear hw_ hs_
          have hz13 : w12.heap.size < w13.heap.size := HS.out.lt 0 rfl
          gi_wp2_with fail
          have hbs : ∀ c ∈ w12.heap.size :: aBlk a1, c < w13.heap.size := by
            intro c hc
            rcases List.mem_cons.1 hc with rfl | hc
            · exact hz13
            · have := HA1.out c hc; omega
          have hnb : w11.heap.size ∉ w12.heap.size :: aBlk a1 := by
            intro hc
            rcases List.mem_cons.1 hc with e | hc
            · omega
            · have := HA1.out _ hc; omega
          obtain ⟨A, hA⟩ : ∃ A, allL l1 = A := ⟨_, rfl⟩
          have hAle : A.length ≤ 20480 := by
            rw [← hA]
            unfold allL
            cases hq : rightB l1
            · simp
            · have h_ := ptsL_le hq
              have := HL1.out
              simp only [cond_true]
              omega
          have hit := all_iter (fun _ _ => False) w13 (ownSt_none _) (fun _ h => h.elim) w12.heap.size (w12.heap.size :: aBlk a1) a1 m1 c1 l1 HL1.out.2.1 (by have := HL1.out.2.2; omega) A hA hbs (by simp) (fun b off e => List.mem_cons_of_mem _ (aBlk_mem e)) (cell_of_block (HS.out.blockAt 0 rfl) rfl) (HS.out.elems 3 rfl)
          have HA2 := Lib.hid (And.intro hA hAle)
          have hst := HS.out.sub (its' := [.blk w12.heap.size (.cells #[.slice a1 m1 c1] 29 (0, 0)), .blk w11.heap.size (.cells #[.int .i64 (0 : Int)] 3 (0, 0)), .row (.slice a1 m1 c1) m1 3 (rowC encS l1) w7.heap.size, .blk w5.heap.size (.cells #[.bool false] 4 (0, 0)), .blk w3.heap.size (.cells #[.slice a1 m1 c1] 29 (0, 0)), .blk (w.heap.size + 1) (.cells #[.bool false] 4 (0, 0)), .blk w.heap.size (.cells #[.int .i64 x1, .int .i64 y1, .int .i64 x2, .int .i64 y2] 43 (0, 0)), .row (.slice ap np cp) np 2 (rowC encP ps) w.heap.size]) (.cons_cons _ (.cons_cons _ (.cons _ (.cons_cons _ (.cons_cons _ (.cons_cons _ (.cons_cons _ (.cons_cons _ (.cons_cons _ (List.nil_sublist _))))))))))
          have hDs : ∀ D ∈ Ds, D < w13.heap.size := HS.out.markLt
          clear HS hA hAle
          apply with_actIn
          intro a0 ha0
          refine range_iterO hit (by omega) (ownSt_none _) (by rw [ha0]; rfl) (enters_of Try.func54 (by kernel_rfl) rfl) hbs (fun _ => rfl) (fun x => [(89, (A[x.1]).val)]) (fun _ => by simp)
            (fun pre W => Rnd w B0 [.blk w12.heap.size (.cells #[.slice a1 m1 c1] 29 (0, 0)), .blk w11.heap.size (.cells #[.int .i64 (pre.length : Int)] 3 (0, 0)), .row (.slice a1 m1 c1) m1 3 (rowC encS l1) w7.heap.size, .blk w5.heap.size (.cells #[.bool false] 4 (0, 0)), .blk w3.heap.size (.cells #[.slice a1 m1 c1] 29 (0, 0)), .blk (w.heap.size + 1) (.cells #[.bool false] 4 (0, 0)), .blk w.heap.size (.cells #[.int .i64 x1, .int .i64 y1, .int .i64 x2, .int .i64 y2] 43 (0, 0)), .row (.slice ap np cp) np 2 (rowC encP ps) w.heap.size] v' (Rs ++ [(RowD.mk a1 c1 l1)]) Ds W ∧ w13.heap.size ≤ W.heap.size)
            (fun _ _ _ => False) (OwnFrom.and (ownFrom_Rnd (w0 := w) (fun (pre : List (Fin A.length)) => [.blk w12.heap.size (.cells #[.slice a1 m1 c1] 29 (0, 0)), .blk w11.heap.size (.cells #[.int .i64 (pre.length : Int)] 3 (0, 0)), .row (.slice a1 m1 c1) m1 3 (rowC encS l1) w7.heap.size, .blk w5.heap.size (.cells #[.bool false] 4 (0, 0)), .blk w3.heap.size (.cells #[.slice a1 m1 c1] 29 (0, 0)), .blk (w.heap.size + 1) (.cells #[.bool false] 4 (0, 0)), .blk w.heap.size (.cells #[.int .i64 x1, .int .i64 y1, .int .i64 x2, .int .i64 y2] 43 (0, 0)), .row (.slice ap np cp) np 2 (rowC encP ps) w.heap.size]) hst.hB (by omega) (by intro s b o hb; simp at hb; rcases hb with ⟨_, rfl⟩ | ⟨_, rfl⟩ | ⟨_, rfl⟩ | ⟨_, rfl⟩ | ⟨_, rfl⟩ | ⟨_, rfl⟩ <;> rfl) hDs) (ownFrom_size _)) (fun _ => ownFrom_pure _ _) ⟨hst, Nat.le_refl _⟩
            (fun x a' W => ∃ p, a' = loopAct a0 [(89, (A[x.1]).val), (19, .pointer (some ⟨p, 0, none⟩))] ∧ W.heap[p]? = some (.cells #[.int .i64 (A[x.1]).x, .int .i64 (A[x.1]).y] 28 (0, 0))) ?hAx ?assign ?body ?done ?stop
          case hAx =>
            rintro x a' s X Y row ⟨p, e, hp⟩ hg hr
            exact ⟨p, e, (grownBy_keeps_cells hg (fun r e => (hr r e).2) hp rfl).trans hp⟩
          case assign =>
            rintro ly pre x W K ⟨hI, hlt5⟩ hK
            have HK := Lib.hid hK
            have HI := Lib.hid hI
            clear hK hI
            rw [ha0] at HK ⊢
            unfold loopAct at HK ⊢
            simp only [PtT.val, List.foldl, List.setIfInBounds_toArray, List.set_cons_succ, List.set_cons_zero] at HK ⊢
            gi_wp2
            have hb := (Below.refl W.heap.size W).alloc (Nat.le_refl _) (.cells #[.int .i64 (A[x.1]).x, .int .i64 (A[x.1]).y] 28)
            exact HK.out _ _ (keepsFrom_below hb) (KO.of_below (ownSt_none _) hb hlt5 (fun c hc => Nat.lt_of_lt_of_le (hbs c hc) hlt5)) ⟨HI.out.below hb, Nat.le_trans hlt5 hb.size⟩ ⟨W.heap.size, rfl, World.alloc_heap_new W _⟩
          case body =>
            rintro ly pre x a' W ⟨hI, hlt5⟩ ⟨p, rfl, hp⟩ hlen
            exfalso
            have h0 : A = [] := by rw [← HA2.out.1]; unfold allL; rw [HR.out]; rfl
            have h1 : A.length = 0 := by rw [h0]; rfl
            omega
          case stop =>
            intro D c pre W _ _ h
            exact h.elim
          case done =>
            rintro D W hD ⟨hI, -⟩ hK
            rw [List.length_finRange] at hI
            have hm := hI.mark (by omega) hDs hD hK
            rw [ha0]
            dsimp only
            have HS := Lib.hid hm
            clear hm hI hK ha0 hit hbs hnb hst
            have t11 := cell_of_block (k := 0) (HS.out.blockAt 4 rfl) rfl
            gi_wp2
            clear t11
            obtain ⟨NA, hNA⟩ : ∃ NA, A.length = NA := ⟨_, rfl⟩
            rw [hNA] at HS
            apply wpIn_loopS [20, 22, 102, 103, 104, 105, 106, 107, 108, 109, 110, 111, 112, 113, 114, 115] 102 (by decide) (by exact Nat.lt_of_lt_of_le (show 102 < 180 by decide) (Nat.le_refl _)) (fun u ds wx => ds = marksOf (D :: Ds) ∧ ∃ j : Nat, j ≤ m1 ∧ u 102 = .int .i64 (j : Int) ∧ u 20 = .int .i64 0 ∧ Rnd w B0 [.blk w12.heap.size (.cells #[.slice a1 m1 c1] 29 (0, 0)), .blk w11.heap.size (.cells #[.int .i64 (NA : Int)] 3 (0, 0)), .row (.slice a1 m1 c1) m1 3 (rowC encS l1) w7.heap.size, .blk w5.heap.size (.cells #[.bool false] 4 (0, 0)), .blk w3.heap.size (.cells #[.slice a1 m1 c1] 29 (0, 0)), .blk (w.heap.size + 1) (.cells #[.bool false] 4 (0, 0)), .blk w.heap.size (.cells #[.int .i64 x1, .int .i64 y1, .int .i64 x2, .int .i64 y2] 43 (0, 0)), .row (.slice ap np cp) np 2 (rowC encP ps) w.heap.size] v' (Rs ++ [(RowD.mk a1 c1 l1)]) (D :: Ds) wx) (fun v => m1 - (intOf v).toNat)
            · exact ⟨rfl, 0, by omega, rfl, rfl, HS.out⟩
            rintro u2 ds2 wx ⟨rfl, j, hj, hu1, hu2, hR⟩
            simp only [setS, List.foldl, List.setIfInBounds_toArray, List.set_cons_succ, List.set_cons_zero]
            rw [hu1, hu2]
            clear HS hu1 hu2
            have HS := Lib.hid hR
            clear hR
            by_cases hjm : j < m1
            · have HE4 := Lib.hid (show wrap64 ((j : Int) + 1) = ((j + 1 : Nat) : Int) by have := HL1.out.2.2; unfold wrap64; omega)
              obtain ⟨s, hs⟩ : ∃ s, l1[j]? = some s := ⟨_, List.getElem?_eq_getElem (by rw [HL1.out.2.1]; exact hjm)⟩
              obtain ⟨bb', off', ha1, -, c0, c1', c2⟩ := spCells HL1.out.2.1 (HS.out.elems 2 rfl) j s hs
              have HJ := Lib.hid hjm
              obtain ⟨sy, sf, st⟩ := s
              simp only at c0 c1' c2
              subst ha1
              clear hs
              repeat ((fail_if_success (with_reducible refine stop_atI (id := 32) ?_)); (first | go_values | gi_guarded | gi_step | gi_upon | gi_back | (simp only [Int.not_lt, Int.not_le] at *; go_simp) | (go_values <;> (try go_simp)) | (go_ite <;> go_prune <;> (try go_simp)) | (split <;> (first | (rename_i hx; exact (hx _ rfl).elim) | go_prune))))
              clear c0 c1' c2
              have hs_ := (HS.out.alloc (.cells #[.int .i64 sy, .int .i64 sf, .int .i64 st] 39))
              obtain ⟨wy, hw_⟩ : ∃ wy : World, (wx.alloc (.cells #[.int .i64 sy, .int .i64 sf, .int .i64 st] 39)) = wy := ⟨_, rfl⟩
              rw [hw_] at hs_
              try simp only [World.size_alloc] at hs_
              have HS := Lib.hid hs_
              rw [hw_]
              clear hw_ hs_
              have t12 := cell_of_block (k := 0) (HS.out.blockAt 4 rfl) rfl
              have e4 := HE4.out
              gi_wp2
              clear t12
              refine roundS_mix (.int .i64 ((j + 1 : Nat) : Int)) (by kernel_rfl) (by kernel_rfl) ⟨rfl, j + 1, HJ.out, ?_, rfl, HS.out.sub (.cons _ (List.Sublist.refl _))⟩ ?_ ?_
              · first | exact congrArg (Value.int .i64) e4 | rfl
              · first | exact congrArg (Value.int .i64) e4 | rfl
              · exact meas_step HJ.out
            · obtain rfl : m1 = j := by omega
              have hna : NA = 0 := by rw [← hNA, ← HA2.out.1]; unfold allL; rw [HR.out]; rfl
              have hcount := count_any a1 m1 c1 l1 HL1.out.2.1 (by have := HL1.out.2.2; omega) wx (HS.out.elems 2 rfl) (by rw [HA2.out.1]; have := HA2.out.2; omega)
              rw [HA2.out.1, hNA] at hcount
              have HCT := Lib.hid hcount
              subst hna
              clear hcount hj hjm
              have t11 := cell_of_block (k := 0) (HS.out.blockAt 4 rfl) rfl
              gi_wp2_with fail
              clear t11
              refine (callsIn_wide.2 (HCT.out)).mono ?_
              rintro e wc ⟨rfl, hb_⟩
              have HS := Lib.hid (HS.out.below hb_)
              clear hb_
              clear HCT
              have c18 := cell_of_block (k := 0) (HS.out.blockAt 1 rfl) rfl
              obtain ⟨m8, hm8⟩ : ∃ m8, min np 8 = m8 := ⟨_, rfl⟩
              have e8 : min (np : Int) 8 = (m8 : Int) := by omega
              have hm8c : m8 ≤ cp := by have := HPL.out; omega
              have HM8 := Lib.hid (show m8 ≤ np ∧ m8 ≤ 8 by omega)
              gi_wp2
              clear c18 e8 hm8c hm8
              apply wpIn_loopS [24, 131, 132, 133, 134, 135, 136, 137, 138, 139, 140, 141, 142, 143, 144, 145] 131 (by decide) (by exact Nat.lt_of_lt_of_le (show 131 < 180 by decide) (Nat.le_refl _)) (fun u ds wx => ds = marksOf (D :: Ds) ∧ ∃ i : Nat, i ≤ m8 ∧ u 131 = .int .i64 (i : Int) ∧ Rnd w B0 [.blk w12.heap.size (.cells #[.slice a1 m1 c1] 29 (0, 0)), .blk w11.heap.size (.cells #[.int .i64 (((0 : Nat)) : Int)] 3 (0, 0)), .row (.slice a1 m1 c1) m1 3 (rowC encS l1) w7.heap.size, .blk w5.heap.size (.cells #[.bool false] 4 (0, 0)), .blk w3.heap.size (.cells #[.slice a1 m1 c1] 29 (0, 0)), .blk (w.heap.size + 1) (.cells #[.bool false] 4 (0, 0)), .blk w.heap.size (.cells #[.int .i64 x1, .int .i64 y1, .int .i64 x2, .int .i64 y2] 43 (0, 0)), .row (.slice ap np cp) np 2 (rowC encP ps) w.heap.size] v' (Rs ++ [(RowD.mk a1 c1 l1)]) (D :: Ds) wx) (fun v => m8 - (intOf v).toNat)
              · exact ⟨rfl, 0, by omega, rfl, HS.out⟩
              rintro u3 ds3 wp ⟨rfl, i, hi, hu1, hR⟩
              simp only [setS, List.foldl, List.setIfInBounds_toArray, List.set_cons_succ, List.set_cons_zero]
              rw [hu1]
              clear HS hu1
              have HS := Lib.hid hR
              clear hR
              by_cases him : i < m8
              · have HE4 := Lib.hid (show wrap64 ((i : Int) + 1) = ((i + 1 : Nat) : Int) by have := HM8.out; unfold wrap64; omega)
                obtain ⟨s, hs⟩ : ∃ s, ps[i]? = some s := ⟨_, List.getElem?_eq_getElem (by rw [HPL.out.1]; have := HM8.out; omega)⟩
                obtain ⟨bb', off', hap, -, c0, c1'⟩ := ptCells HPL.out.1 (HS.out.elems 7 rfl) i s hs
                have HJ := Lib.hid him
                obtain ⟨sx, sy⟩ := s
                simp only at c0 c1'
                subst hap
                clear hs
                gi_wp2_with fail
                clear c0 c1'
                have hs_ := (HS.out.alloc (.cells #[.int .i64 sx, .int .i64 sy] 28))
                obtain ⟨wq, hw_⟩ : ∃ wq : World, (wp.alloc (.cells #[.int .i64 sx, .int .i64 sy] 28)) = wq := ⟨_, rfl⟩
                rw [hw_] at hs_
                try simp only [World.size_alloc] at hs_
                have HS := Lib.hid hs_
                rw [hw_]
                clear hw_ hs_
                obtain ⟨hv, hhv⟩ : ∃ hv, hasB l1 ⟨sx, sy⟩ = hv := ⟨_, rfl⟩
                have HH1 := Lib.hid (fun w' h => shHas_any a1 m1 c1 l1 HL1.out.2.1 (by have := HL1.out.2.2; omega) ⟨sx, sy⟩ w' h)
                have HH2 := Lib.hid (fun w' h => refHas_any a1 m1 c1 l1 HL1.out.2.1 (by have := HL1.out.2.2; omega) ⟨sx, sy⟩ w' h)
                simp only [HR.out, hhv, Bool.true_and, Bool.false_and] at HH1 HH2
                clear hhv
                apply wp_region_vals 10 (Rl := [(eqv _), (eqv _), (eqv _), (eqv _), (eqv _), (fun v_ _ => v_ = (undef : Value)), (fun v_ _ => v_ = (undef : Value)), (fun v_ _ => v_ = (undef : Value)), (eqv _), (eqv _)]) (C := (fun x y => Below x.heap.size x y))
                case hm => kernel_rfl
                case hk => rfl
                case hCr => exact (fun _ => Below.refl _ _)
                case hCt => intro _ _ _; exact (fun h k => grows_trans h k)
                case hst => exact ⟨fun _ _ _ _ h => h, fun _ _ _ _ h => h, fun _ _ _ _ h => h, fun _ _ _ _ h => h, fun _ _ _ _ h => h, fun _ _ _ _ h => h, fun _ _ _ _ h => h, fun _ _ _ _ h => h, fun _ _ _ _ h => h, fun _ _ _ _ h => h, trivial⟩
                case hfo => kernel_rfl
                case ht => kernel_rfl
                case hC0 => exact (grows_drew _)
                case hsteps =>
                  refine ⟨?_, ?_, ?_, ?_, ?_, ?_, ?_, ?_, ?_, ?_, trivial⟩
                  · -- 0
                    intro a' w' hA hC hD
                    have s11 : a'.tmps[11]? = some _ := (hA.at 11 (by kernel_rfl)).trans rfl
                    have h1_ := (HS.out.below hC).blockAt 5 rfl; have c1_0 := cell_of_block (k := 0) h1_ rfl; clear h1_
                    clear hA hD
                    refine stepOk_plain rfl ?_
                    intro K hK
                    gi_wp2
                    exact hK _ _ rfl ((fun _ => Below.refl _ _) _)
                  · -- 1
                    intro a' w' hA hC hD
                    have s24 : a'.tmps[24]? = some _ := (hA.at 24 (by kernel_rfl)).trans rfl
                    have h1_ := (HS.out.below hC).blockAt 0 rfl; have c1_0 := cell_of_block (k := 0) h1_ rfl; have c1_1 := cell_of_block (k := 1) h1_ rfl; clear h1_
                    clear hA hD
                    refine stepOk_plain rfl ?_
                    intro K hK
                    gi_wp2
                    exact hK _ _ rfl ((fun _ => Below.refl _ _) _)
                  · -- 2
                    intro a' w' hA hC hD
                    obtain ⟨u135, s135, r135⟩ := hD ⟨0, .data⟩ (by simp) rfl _ rfl
                    replace r135 : u135 = _ := r135
                    subst r135
                    obtain ⟨u136, s136, r136⟩ := hD ⟨1, .data⟩ (by simp) rfl _ rfl
                    replace r136 : u136 = _ := r136
                    subst r136
                    clear hA hD
                    refine stepOk_plain rfl ?_
                    intro K hK
                    gi_wp2_with fail; refine (callsIn_wide.2 (HH1.out _ ((HS.out.elems 3 rfl).below hC))).mono ?_; rintro e w2 ⟨rfl, hb⟩
                    exact hK _ _ rfl hb
                  · -- 3
                    intro a' w' hA hC hD
                    have s12 : a'.tmps[12]? = some _ := (hA.at 12 (by kernel_rfl)).trans rfl
                    have h1_ := (HS.out.below hC).blockAt 4 rfl; have c1_0 := cell_of_block (k := 0) h1_ rfl; clear h1_
                    clear hA hD
                    refine stepOk_plain rfl ?_
                    intro K hK
                    gi_wp2
                    exact hK _ _ rfl ((fun _ => Below.refl _ _) _)
                  · -- 4
                    intro a' w' hA hC hD
                    obtain ⟨u138, s138, r138⟩ := hD ⟨3, .data⟩ (by simp) rfl _ rfl
                    replace r138 : u138 = _ := r138
                    subst r138
                    clear hA hD
                    refine stepOk_plain rfl ?_
                    intro K hK
                    gi_wp2
                    exact hK _ _ rfl ((fun _ => Below.refl _ _) _)
                  · -- 5
                    intro a' w' hA hC hD
                    have s11 : a'.tmps[11]? = some _ := (hA.at 11 (by kernel_rfl)).trans rfl
                    obtain ⟨u139, s139, r139⟩ := hD ⟨4, .guard⟩ (by simp) rfl _ rfl
                    replace r139 : u139 = _ := r139
                    subst r139
                    clear hA hD
                    exact stepOk_skip rfl rfl s139 rfl
                  · -- 6
                    intro a' w' hA hC hD
                    have s24 : a'.tmps[24]? = some _ := (hA.at 24 (by kernel_rfl)).trans rfl
                    obtain ⟨u139, s139, r139⟩ := hD ⟨4, .guard⟩ (by simp) rfl _ rfl
                    replace r139 : u139 = _ := r139
                    subst r139
                    clear hA hD
                    exact stepOk_skip rfl rfl s139 rfl
                  · -- 7
                    intro a' w' hA hC hD
                    obtain ⟨u140, s140, r140⟩ := hD ⟨5, .data⟩ (by simp) rfl _ rfl
                    replace r140 : u140 = undef := r140
                    subst r140
                    obtain ⟨u141, s141, r141⟩ := hD ⟨6, .data⟩ (by simp) rfl _ rfl
                    replace r141 : u141 = undef := r141
                    subst r141
                    obtain ⟨u139, s139, r139⟩ := hD ⟨4, .chain⟩ (by simp) rfl _ rfl
                    replace r139 : u139 = _ := r139
                    subst r139
                    clear hA hD
                    exact stepOk_skip rfl rfl s139 rfl
                  · -- 8
                    intro a' w' hA hC hD
                    obtain ⟨u139, s139, r139⟩ := hD ⟨4, .data⟩ (by simp) rfl _ rfl
                    replace r139 : u139 = _ := r139
                    subst r139
                    obtain ⟨u142, s142, r142⟩ := hD ⟨7, .data⟩ (by simp) rfl _ rfl
                    replace r142 : u142 = undef := r142
                    subst r142
                    clear hA hD
                    refine stepOk_plain rfl ?_
                    intro K hK
                    gi_wp2
                    exact hK _ _ rfl ((fun _ => Below.refl _ _) _)
                  · -- 9
                    intro a' w' hA hC hD
                    obtain ⟨u137, s137, r137⟩ := hD ⟨2, .data⟩ (by simp) rfl _ rfl
                    replace r137 : u137 = _ := r137
                    subst r137
                    obtain ⟨u143, s143, r143⟩ := hD ⟨8, .data⟩ (by simp) rfl _ rfl
                    replace r143 : u143 = _ := r143
                    subst r143
                    clear hA hD
                    refine stepOk_plain rfl ?_
                    intro K hK
                    gi_wp2
                    exact hK _ _ rfl ((fun _ => Below.refl _ _) _)
                case hend =>
                  intro wz hC
                  simp only [EndFrom, eqv, forall_eq, Act.put, List.length_cons, List.length_nil, List.drop_succ_cons, List.drop_zero, Nat.reduceAdd, List.setIfInBounds_toArray, List.set_cons_succ, List.set_cons_zero]
                  have HS := Lib.hid (HS.out.below hC)
                  clear hC
                  have e4 := HE4.out
                  gi_wp2
                  refine roundS_mix (.int .i64 ((i + 1 : Nat) : Int)) (by kernel_rfl) (by kernel_rfl) ⟨rfl, i + 1, HJ.out, ?_, HS.out.sub (.cons _ (List.Sublist.refl _))⟩ ?_ ?_
                  · first | exact congrArg (Value.int .i64) e4 | rfl
                  · first | exact congrArg (Value.int .i64) e4 | rfl
                  · exact meas_step HJ.out
              · obtain rfl : i = m8 := by omega
                clear hi him
                have e3 := HE3.out
                gi_wp2
                refine roundS_mix (.int .i64 ((k + 1 : Nat) : Int)) (by kernel_rfl) (by kernel_rfl) ⟨k + 1, HKK.out.1, ?_, v', Rs ++ [(RowD.mk a1 c1 l1)], D :: Ds, rfl, ?_, rfl, HRS2.out, HKK.out.2, HS.out.sub (.cons _ (.cons _ (.cons _ (.cons _ (.cons _ (.cons_cons _ (.cons_cons _ (.cons_cons _ (List.nil_sublist _)))))))))⟩ ?_ ?_
                · first | exact congrArg (Value.int .i64) e3 | rfl
                · rw [HAL2.out]; rfl
                · first | exact congrArg (Value.int .i64) e3 | rfl
                · exact meas_step HKK.out.1
      · have HR := Lib.hid hr
        clear hr
        gi_wp2_with fail
        have hs_ := (HS.out.alloc (.cells #[.bool true] 4))
        obtain ⟨w6, hw_⟩ : ∃ w6 : World, (w5.alloc (.cells #[.bool true] 4)) = w6 := ⟨_, rfl⟩
        rw [hw_] at hs_
        try simp only [World.size_alloc] at hs_
        have HS := Lib.hid hs_
        rw [hw_]
        clear hw_ hs_
        have hz35 : w3.heap.size < w6.heap.size := HS.out.lt 1 rfl
        have hz56 : w5.heap.size < w6.heap.size := HS.out.lt 0 rfl
        have hz45 : w3.heap.size < w5.heap.size := by have h_ := HS.out.st.ord; simp [ItOrd, It.top] at h_; omega
        have HC11 := Lib.hid (fun (w' : World) (hC : w6.grownBy w' (u 7).ownBlock) => (hC.block w3.heap.size hz35 (fun e => by have h_ := HG.out _ e.symm; omega)).trans (HS.out.blockAt 1 rfl))
        have HC12 := Lib.hid (fun (w' : World) (hC : w6.grownBy w' (u 7).ownBlock) => (hC.block w5.heap.size hz56 (fun e => by have h_ := HG.out _ e.symm; omega)).trans (HS.out.blockAt 0 rfl))
        have HZ6 := Lib.hid (And.intro hz35 (And.intro hz56 (And.intro hz45 HS.out.hW)))
        have hqn : Rs.length + 1 ≤ 4 := by
          have h_ := congrArg List.length HRS.out
          simp only [List.length_map, List.length_take] at h_
          have := HKK.out
          omega
        have HQN := Lib.hid hqn
        obtain ⟨i0, hi, hz0, hz1, hz2⟩ := info_parts infoR
        have HI := Lib.hid (And.intro hi (And.intro hz0 (And.intro hz1 hz2)))
        have HRW := Lib.hid HS.out.own.row
        clear hi hz0 hz1 hz2 hz35 hz56 hz45 hqn
        apply wp_region_storeU (fun i => Nat.beq i 8) 9 3 (fun b_ w_ => KeepsIf b_ (w_.ownsRow B0 29 1 (u 7) Rs.length (Rs.flatMap encR))) (Rl := [(eqv _), (eqv _), (fun v_ w_ => ∃ b, v_ = .slice (some ⟨b, 0, none⟩) 1 1 ∧ (u 7).ownBlock ≠ some b ∧ w_.heap[b]? = some (.cells #[.slice a1 m1 c1] 29 (0, 0))), (fun v_ w_ => w_.ownsRow B0 29 1 v_ (Rs ++ [(RowD.mk a1 c1 l1)]).length ((Rs ++ [(RowD.mk a1 c1 l1)]).flatMap encR) ∧ Loc (u 7) v_ w6.heap.size), (eqv _), (eqv _), (fun v_ _ => v_ = (undef : Value)), (eqv _), (fun v_ w_ => w_.ownsRow B0 29 1 v_ (Rs ++ [(RowD.mk a1 c1 l1)]).length ((Rs ++ [(RowD.mk a1 c1 l1)]).flatMap encR) ∧ Loc (u 7) v_ w6.heap.size)]) (C := (fun x y => x.grownBy y (u 7).ownBlock)) (C0 := (fun x y => Below x.heap.size x y))
        case haf => kernel_rfl
        case hm => kernel_rfl
        case hk => rfl
        case hCr => exact (fun x => World.grownBy.refl x _)
        case hCt => intro _ _ _; exact (fun h k => grownTrans h k)
        case h00 => exact (fun x => Below.refl _ x)
        case h0C => intro _ _; exact fun h => ⟨h.os, h.tape, h.output, h.size, fun k hk _ => h.block k hk⟩
        case hst => exact ⟨fun _ _ _ _ h => h, fun _ _ _ _ h => h, fun v x y hC ⟨b, h1, h2, h3⟩ => ⟨b, h1, h2, (hC.block b (block_lt h3) h2.symm).trans h3⟩, fun v x y hC ⟨h1, h2⟩ => ⟨ownsRow_below h1 hC, h2⟩, fun _ _ _ _ h => h, fun _ _ _ _ h => h, fun _ _ _ _ h => h, fun _ _ _ _ h => h, fun v x y hC ⟨h1, h2⟩ => ⟨ownsRow_below h1 hC, h2⟩, trivial⟩
        case hfo => kernel_rfl
        case ht => kernel_rfl
        case hC0 => exact (⟨rfl, rfl, rfl, Nat.le_refl _, fun _ _ _ => rfl⟩)
        case hsk => decide
        case hso => decide
        case hsg => rfl
        case hsteps =>
          refine ⟨?_, ?_, ?_, ?_, ?_, ?_, ?_, ?_, ?_, trivial⟩
          · -- 0
            intro a' w' b_ hA hC hJ hB1 hB2 hU hD
            obtain rfl := hB1 (by kernel_rfl)
            clear hB1 hB2
            have s7 : a'.tmps[7]? = some _ := (hU 8 _ 7 (Nat.lt_of_lt_of_le (show 8 < 9 by decide) (Nat.le_refl _)) rfl rfl (.inl (by kernel_rfl))).trans rfl
            clear hA hD hU
            refine stepOk_plain rfl ?_
            intro K hK
            gi_wp2
            exact hK _ _ rfl ⟨(fun x => Below.refl _ x) _, hJ⟩
          · -- 1
            intro a' w' b_ hA hC hJ hB1 hB2 hU hD
            obtain rfl := hB1 (by kernel_rfl)
            clear hB1 hB2
            have s11 : a'.tmps[11]? = some _ := (hA.at 11 (by kernel_rfl)).trans rfl
            have b1 := cell_of_block (k := 0) (HC11.out w' hC) rfl
            clear hA hD hU
            refine stepOk_plain rfl ?_
            intro K hK
            gi_wp2
            exact hK _ _ rfl ⟨(fun x => Below.refl _ x) _, hJ⟩
          · -- 2
            intro a' w' b_ hA hC hJ hB1 hB2 hU hD
            obtain rfl := hB1 (by kernel_rfl)
            clear hB1 hB2
            obtain ⟨u47, s47, r47⟩ := hD ⟨1, .data⟩ (by simp) rfl _ rfl
            replace r47 : u47 = _ := r47
            subst r47
            clear hA hD hU
            refine stepOk_plain rfl ?_
            intro K hK
            gi_wp2
            exact hK _ _ ⟨w'.heap.size, rfl, fun e => by have := HG.out _ e; have := HZ6.out; have := hC.size; omega, newBlock _ _ _ rfl⟩ ⟨(Below.refl _ _).alloc (Nat.le_refl _) _, fun hb => (hJ hb).alloc _⟩
          · -- 3
            intro a' w' b_ hA hC hJ hB1 hB2 hU hD
            obtain rfl := hB2 rfl
            clear hB1 hB2
            obtain ⟨u46, s46, r46⟩ := hD ⟨0, .data⟩ (by simp) rfl _ rfl
            replace r46 : u46 = _ := r46
            subst r46
            obtain ⟨u48, s48, r48⟩ := hD ⟨2, .data⟩ (by simp) rfl _ rfl
            replace r48 : (fun v_ w_ => ∃ b, v_ = .slice (some ⟨b, 0, none⟩) 1 1 ∧ (u 7).ownBlock ≠ some b ∧ w_.heap[b]? = some (.cells #[.slice a1 m1 c1] 29 (0, 0))) u48 w' := r48
            obtain ⟨g, hg48, hbn, hbk⟩ := r48; subst hg48
            clear hA hD hU
            refine stepOk_plain rfl ?_
            intro K hK
            have H := HI.out; obtain ⟨v', w'', hrun, hr1, hr2, _, hr4⟩ := run_append_own_at (P := Try.prog) w' B0 58 58 29 i0 (.slice none 0 0) 1 24 Try.underlying58 H.1 H.2.1 H.2.2.1 H.2.2.2 rfl (by decide) (u 7) Rs.length (Rs.flatMap encR) (hJ rfl) ⟨g, 0, none⟩ 1 1 (encR (RowD.mk a1 c1 l1)) rfl (fun j x hx => cells_of_block hbk j x (by simpa [encR, HL1.out.2.1] using hx)) (encR_one _) (by have := HQN.out; unfold maxLen; omega) (by have := HQN.out; omega) (by have h_ := hC.size; have h2_ := HZ6.out; omega); refine opIn_append _ _ _ rfl (by simp [Act.eval, s46]) (by simp [Act.eval, s48]) hrun (hK v' w'' ⟨?_, ?_⟩ ⟨hr2, fun h => by cases h⟩); (rw [List.length_append, List.flatMap_append]; simpa using hr1); (rcases hr4 with h | h; exact .inl h; exact .inr ⟨_, h, hC.size⟩)
            skip
          · -- 4
            intro a' w' b_ hA hC hJ hB1 hB2 hU hD
            skip
            clear hB1 hB2
            have s8 : a'.tmps[8]? = some _ := (hA.at 8 (by kernel_rfl)).trans rfl
            clear hA hD hU
            refine stepOk_plain rfl ?_
            intro K hK
            gi_wp2
            exact hK _ _ rfl ⟨(fun x => Below.refl _ x) _, hJ⟩
          · -- 5
            intro a' w' b_ hA hC hJ hB1 hB2 hU hD
            skip
            clear hB1 hB2
            obtain ⟨u50, s50, r50⟩ := hD ⟨4, .data⟩ (by simp) rfl _ rfl
            replace r50 : u50 = _ := r50
            subst r50
            clear hA hD hU
            refine stepOk_plain rfl ?_
            intro K hK
            gi_wp2
            exact hK _ _ rfl ⟨(fun x => Below.refl _ x) _, hJ⟩
          · -- 6
            intro a' w' b_ hA hC hJ hB1 hB2 hU hD
            skip
            clear hB1 hB2
            have s12 : a'.tmps[12]? = some _ := (hA.at 12 (by kernel_rfl)).trans rfl
            obtain ⟨u51, s51, r51⟩ := hD ⟨5, .guard⟩ (by simp) rfl _ rfl
            replace r51 : u51 = _ := r51
            subst r51
            clear hA hD hU
            exact stepOk_skip rfl rfl s51 (by first | rfl | (show (undef : Value) = undef; rfl) | simp [factsAt])
          · -- 7
            intro a' w' b_ hA hC hJ hB1 hB2 hU hD
            skip
            clear hB1 hB2
            obtain ⟨u51, s51, r51⟩ := hD ⟨5, .data⟩ (by simp) rfl _ rfl
            replace r51 : u51 = _ := r51
            subst r51
            obtain ⟨u52, s52, r52⟩ := hD ⟨6, .data⟩ (by simp) rfl _ rfl
            replace r52 : u52 = undef := r52
            subst r52
            clear hA hD hU
            refine stepOk_plain rfl ?_
            intro K hK
            gi_wp2
            exact hK _ _ rfl ⟨(fun x => Below.refl _ x) _, hJ⟩
          · -- 8
            intro a' w' b_ hA hC hJ hB1 hB2 hU hD
            skip
            clear hB1 hB2
            obtain ⟨u49, s49, r49⟩ := hD ⟨3, .data⟩ (by simp) rfl _ rfl
            replace r49 : (fun v_ w_ => w_.ownsRow B0 29 1 v_ (Rs ++ [(RowD.mk a1 c1 l1)]).length ((Rs ++ [(RowD.mk a1 c1 l1)]).flatMap encR) ∧ Loc (u 7) v_ w6.heap.size) u49 w' := r49
            clear hA hD hU
            refine stepOk_plain rfl ?_
            intro K hK
            gi_wp2
            exact hK _ _ r49 ⟨Below.refl _ _, hJ⟩
        case hJ0 => exact fun _ => HRW.out.drew
        case hend =>
          intro w7 hC hJ
          simp only [EndFrom, eqv, forall_eq, Act.put, List.length_cons, List.length_nil, List.drop_succ_cons, List.drop_zero, Nat.reduceAdd, List.setIfInBounds_toArray, List.set_cons_succ, List.set_cons_zero]
          rintro v2 - v3 - v' ⟨hr1, hr2⟩
          have hpush := (HS.out.sub (its' := [.blk w5.heap.size (.cells #[.bool true] 4 (0, 0)), .blk w3.heap.size (.cells #[.slice a1 m1 c1] 29 (0, 0)), .blk (w.heap.size + 1) (.cells #[.bool false] 4 (0, 0)), .blk w.heap.size (.cells #[.int .i64 x1, .int .i64 y1, .int .i64 x2, .int .i64 y2] 43 (0, 0)), .row (.slice ap np cp) np 2 (rowC encP ps) w.heap.size]) (.cons_cons _ (.cons_cons _ (.cons _ (List.Sublist.refl _))))).push (r := (RowD.mk a1 c1 l1)) (fun i hi g hg => by
            have h_ := HG.out g hg
            have h2_ := HZ6.out
            have h3_ := HZ.out
            simp at hi
            rcases hi with rfl | rfl | rfl | rfl | rfl <;> simp only [It.free] <;> omega) (by rw [HL1.out.2.1]; exact HS.out.elems 2 rfl) (fun g hg => (HG.out g hg).2.2) hC hr1 hr2
          have hel := (hpush.own.each (RowD.mk a1 c1 l1) (by simp)).1
          rw [HL1.out.2.1] at hel
          have HS := Lib.hid (hpush.addRow hel)
          have HRS2 := Lib.hid (show (Rs ++ [(RowD.mk a1 c1 l1)]).map (·.l) = (lls.take (k + 1)).map (fun l => l.take 40) by
            rw [List.map_append, HRS.out, List.take_add_one, HX.out]
            simp [HL1.out.1])
          have HAL2 := Lib.hid (show ((Rs ++ [(RowD.mk a1 c1 l1)]).map (·.l)).all rightB = false by
            rw [List.map_append, List.all_append, HAL.out]
            simp [HR.out])
          clear hpush hel hr1 hr2 hC hJ
          have t11 := cell_of_block (k := 0) (HS.out.blockAt 2 rfl) rfl
          gi_wp2_with fail
          clear t11
          have HCK := Lib.hid (check_any a1 m1 c1 l1 HL1.out.2.1 (by have := HL1.out.2.2; omega) w7 (HS.out.elems 0 rfl))
          rw [HR.out, errOf_true] at HCK
          refine (callsIn_wide.2 (HCK.out)).mono ?_
          rintro e w8 ⟨rfl, hb_⟩
          have HS := Lib.hid (HS.out.below hb_)
          clear hb_
          clear HCK
          have t11 := cell_of_block (k := 0) (HS.out.blockAt 2 rfl) rfl
          have t12 := cell_of_block (k := 0) (HS.out.blockAt 1 rfl) rfl
          have b0 := cell_of_block (k := 0) (HS.out.blockAt 4 rfl) rfl
          have b1 := cell_of_block (k := 1) (HS.out.blockAt 4 rfl) rfl
          have b2 := cell_of_block (k := 2) (HS.out.blockAt 4 rfl) rfl
          have b3 := cell_of_block (k := 3) (HS.out.blockAt 4 rfl) rfl
          gi_wp2_with fail
          clear t11 t12
          clear b0 b1 b2 b3
          obtain ⟨cl, hcl⟩ : ∃ cl, clipL ⟨x1, y1, x2, y2⟩ l1 = cl := ⟨_, rfl⟩
          obtain ⟨nc, hnc⟩ : ∃ nc, cl.length = nc := ⟨_, rfl⟩
          have HCL := Lib.hid (show cl.length = nc ∧ nc ≤ 40 by
            refine ⟨hnc, ?_⟩
            have h_ := clipL_len ⟨x1, y1, x2, y2⟩ l1 l1.length
            rw [List.take_length, hcl, hnc] at h_
            have := HL1.out
            omega)
          have HC1 := Lib.hid (clipGot a1 m1 c1 l1 HL1.out.2.1 (by have := HL1.out.2.2; omega) HR.out ⟨x1, y1, x2, y2⟩ w8 (HS.out.elems 0 rfl))
          rw [hcl, hnc] at HC1
          refine (callsIn_wide.2 (HC1.out)).mono ?_
          rintro e w9 ⟨-, a9, c9, rfl, he_, hb_⟩
          have HS := Lib.hid ((HS.out.below hb_).addRow he_)
          clear hb_ he_
          have t11 := cell_of_block (k := 0) (HS.out.blockAt 3 rfl) rfl
          have t12 := cell_of_block (k := 0) (HS.out.blockAt 2 rfl) rfl
          have b0 := cell_of_block (k := 0) (HS.out.blockAt 5 rfl) rfl
          have b1 := cell_of_block (k := 1) (HS.out.blockAt 5 rfl) rfl
          have b2 := cell_of_block (k := 2) (HS.out.blockAt 5 rfl) rfl
          have b3 := cell_of_block (k := 3) (HS.out.blockAt 5 rfl) rfl
          gi_wp2_with fail
          clear t11 t12
          clear b0 b1 b2 b3
          have HC2 := Lib.hid (fun w' h => (refClip_any a1 m1 c1 l1 HL1.out.2.1 (by have := HL1.out.2.2; omega) ⟨x1, y1, x2, y2⟩ w' h).mono fun _ _ q => q.gotV encS_len)
          simp only [hcl, hnc] at HC2
          refine (callsIn_wide.2 (HC2.out _ (HS.out.elems 1 rfl))).mono ?_
          rintro e w10 ⟨v10, rfl, he_, hb_⟩
          have HS := Lib.hid ((HS.out.below hb_).addRow he_)
          clear he_ hb_ hcl hnc HC1 HC2
          gi_wp2_with fail
          refine (callsIn_wide.2 (eqS_same _ _ cl nc HCL.out.1 _ (HS.out.elems 1 rfl) (HS.out.elems 0 rfl) (by have := HCL.out.2; omega))).mono ?_
          rintro e w11 ⟨rfl, hb_⟩
          have HS := Lib.hid (HS.out.below hb_)
          clear hb_
          have t11 := cell_of_block (k := 0) ((HS.out.alloc (.cells #[.int .i64 0] 3)).blockAt 5 rfl) rfl
          have HLT := Lib.hid (fun g (hg : v'.ownBlock = some g ∨ ∃ r ∈ Rs ++ [(RowD.mk a1 c1 l1)], g ∈ aBlk r.a) => HS.out.own.lt g hg)
          have HA1 := Lib.hid (aBlk_lt (HS.out.elems 2 rfl))
          have hw11 : w.heap.size + 1 < w11.heap.size := HS.out.lt 5 rfl
          gi_wp2_with fail
          clear t11
          have hs_ := (HS.out.alloc (.cells #[.int .i64 0] 3))
          obtain ⟨w12, hw_⟩ : ∃ w12 : World, (w11.alloc (.cells #[.int .i64 0] 3)) = w12 := ⟨_, rfl⟩
          rw [hw_] at hs_
          try simp only [World.size_alloc] at hs_
          have HS := Lib.hid hs_
          rw [hw_]
          clear hw_ hs_
          have hz12 : w11.heap.size < w12.heap.size := HS.out.lt 0 rfl
          refine (callsIn_wide.2 (all_any _ _ _ _)).mono ?_
          rintro e w' ⟨rfl, rfl⟩
          have hs_ := (HS.out.alloc (.cells #[.slice a1 m1 c1] 29))
          obtain ⟨w13, hw_⟩ : ∃ w13 : World, (w12.alloc (.cells #[.slice a1 m1 c1] 29)) = w13 := ⟨_, rfl⟩
          rw [hw_] at hs_
          try simp only [World.size_alloc] at hs_
          have HS := Lib.hid hs_
          rw [hw_]
          clear hw_ hs_
          have hz13 : w12.heap.size < w13.heap.size := HS.out.lt 0 rfl
          gi_wp2_with fail
          have hbs : ∀ c ∈ w12.heap.size :: aBlk a1, c < w13.heap.size := by
            intro c hc
            rcases List.mem_cons.1 hc with rfl | hc
            · exact hz13
            · have := HA1.out c hc; omega
          have hnb : w11.heap.size ∉ w12.heap.size :: aBlk a1 := by
            intro hc
            rcases List.mem_cons.1 hc with e | hc
            · omega
            · have := HA1.out _ hc; omega
          obtain ⟨A, hA⟩ : ∃ A, allL l1 = A := ⟨_, rfl⟩
          have hAle : A.length ≤ 20480 := by
            rw [← hA]
            unfold allL
            cases hq : rightB l1
            · simp
            · have h_ := ptsL_le hq
              have := HL1.out
              simp only [cond_true]
              omega
          have hit := all_iter (fun _ _ => False) w13 (ownSt_none _) (fun _ h => h.elim) w12.heap.size (w12.heap.size :: aBlk a1) a1 m1 c1 l1 HL1.out.2.1 (by have := HL1.out.2.2; omega) A hA hbs (by simp) (fun b off e => List.mem_cons_of_mem _ (aBlk_mem e)) (cell_of_block (HS.out.blockAt 0 rfl) rfl) (HS.out.elems 4 rfl)
          have HA2 := Lib.hid (And.intro hA hAle)
          have hst := HS.out.sub (its' := [.blk w12.heap.size (.cells #[.slice a1 m1 c1] 29 (0, 0)), .blk w11.heap.size (.cells #[.int .i64 (0 : Int)] 3 (0, 0)), .row (.slice a1 m1 c1) m1 3 (rowC encS l1) w7.heap.size, .blk w5.heap.size (.cells #[.bool true] 4 (0, 0)), .blk w3.heap.size (.cells #[.slice a1 m1 c1] 29 (0, 0)), .blk (w.heap.size + 1) (.cells #[.bool false] 4 (0, 0)), .blk w.heap.size (.cells #[.int .i64 x1, .int .i64 y1, .int .i64 x2, .int .i64 y2] 43 (0, 0)), .row (.slice ap np cp) np 2 (rowC encP ps) w.heap.size]) (.cons_cons _ (.cons_cons _ (.cons _ (.cons _ (.cons_cons _ (.cons_cons _ (.cons_cons _ (.cons_cons _ (.cons_cons _ (.cons_cons _ (List.nil_sublist _)))))))))))
          have hDs : ∀ D ∈ Ds, D < w13.heap.size := HS.out.markLt
          clear HS hA hAle
          apply with_actIn
          intro a0 ha0
          refine range_iterO hit (by omega) (ownSt_none _) (by rw [ha0]; rfl) (enters_of Try.func54 (by kernel_rfl) rfl) hbs (fun _ => rfl) (fun x => [(89, (A[x.1]).val)]) (fun _ => by simp)
            (fun pre W => Rnd w B0 [.blk w12.heap.size (.cells #[.slice a1 m1 c1] 29 (0, 0)), .blk w11.heap.size (.cells #[.int .i64 (pre.length : Int)] 3 (0, 0)), .row (.slice a1 m1 c1) m1 3 (rowC encS l1) w7.heap.size, .blk w5.heap.size (.cells #[.bool true] 4 (0, 0)), .blk w3.heap.size (.cells #[.slice a1 m1 c1] 29 (0, 0)), .blk (w.heap.size + 1) (.cells #[.bool false] 4 (0, 0)), .blk w.heap.size (.cells #[.int .i64 x1, .int .i64 y1, .int .i64 x2, .int .i64 y2] 43 (0, 0)), .row (.slice ap np cp) np 2 (rowC encP ps) w.heap.size] v' (Rs ++ [(RowD.mk a1 c1 l1)]) Ds W ∧ w13.heap.size ≤ W.heap.size)
            (fun _ _ _ => False) (OwnFrom.and (ownFrom_Rnd (w0 := w) (fun (pre : List (Fin A.length)) => [.blk w12.heap.size (.cells #[.slice a1 m1 c1] 29 (0, 0)), .blk w11.heap.size (.cells #[.int .i64 (pre.length : Int)] 3 (0, 0)), .row (.slice a1 m1 c1) m1 3 (rowC encS l1) w7.heap.size, .blk w5.heap.size (.cells #[.bool true] 4 (0, 0)), .blk w3.heap.size (.cells #[.slice a1 m1 c1] 29 (0, 0)), .blk (w.heap.size + 1) (.cells #[.bool false] 4 (0, 0)), .blk w.heap.size (.cells #[.int .i64 x1, .int .i64 y1, .int .i64 x2, .int .i64 y2] 43 (0, 0)), .row (.slice ap np cp) np 2 (rowC encP ps) w.heap.size]) hst.hB (by omega) (by intro s b o hb; simp at hb; rcases hb with ⟨_, rfl⟩ | ⟨_, rfl⟩ | ⟨_, rfl⟩ | ⟨_, rfl⟩ | ⟨_, rfl⟩ | ⟨_, rfl⟩ <;> rfl) hDs) (ownFrom_size _)) (fun _ => ownFrom_pure _ _) ⟨hst, Nat.le_refl _⟩
            (fun x a' W => ∃ p, a' = loopAct a0 [(89, (A[x.1]).val), (19, .pointer (some ⟨p, 0, none⟩))] ∧ W.heap[p]? = some (.cells #[.int .i64 (A[x.1]).x, .int .i64 (A[x.1]).y] 28 (0, 0))) ?hAx ?assign ?body ?done ?stop
          case hAx =>
            rintro x a' s X Y row ⟨p, e, hp⟩ hg hr
            exact ⟨p, e, (grownBy_keeps_cells hg (fun r e => (hr r e).2) hp rfl).trans hp⟩
          case assign =>
            rintro ly pre x W K ⟨hI, hlt5⟩ hK
            have HK := Lib.hid hK
            have HI := Lib.hid hI
            clear hK hI
            rw [ha0] at HK ⊢
            unfold loopAct at HK ⊢
            simp only [PtT.val, List.foldl, List.setIfInBounds_toArray, List.set_cons_succ, List.set_cons_zero] at HK ⊢
            gi_wp2
            have hb := (Below.refl W.heap.size W).alloc (Nat.le_refl _) (.cells #[.int .i64 (A[x.1]).x, .int .i64 (A[x.1]).y] 28)
            exact HK.out _ _ (keepsFrom_below hb) (KO.of_below (ownSt_none _) hb hlt5 (fun c hc => Nat.lt_of_lt_of_le (hbs c hc) hlt5)) ⟨HI.out.below hb, Nat.le_trans hlt5 hb.size⟩ ⟨W.heap.size, rfl, World.alloc_heap_new W _⟩
          case body =>
            rintro ly pre x a' W ⟨hI, hlt5⟩ ⟨p, rfl, hp⟩ hlen
            rw [ha0]
            unfold loopAct
            have hqa : hasB l1 A[x.1] = true := mem_ptsL.1 (by rw [← allL_right HR.out, HA2.out.1]; exact List.getElem_mem _)
            have hcle : pre.length ≤ 20480 := by have := HA2.out.2; omega
            obtain ⟨q, hq⟩ : ∃ q, A[x.1] = q := ⟨_, rfl⟩
            obtain ⟨cn, hcn⟩ : ∃ cn, pre.length = cn := ⟨_, rfl⟩
            have hcn2 : (pre ++ [x]).length = cn + 1 := by rw [List.length_append, hcn]; rfl
            rw [hq] at hp hqa ⊢
            rw [hcn] at hI hcle
            have HCN := Lib.hid (And.intro hcn2 hcle)
            have HQA := Lib.hid hqa
            clear hq hcn hcn2 hcle hqa hlen
            obtain ⟨qx, qy⟩ := q
            simp only [PtT.val, List.foldl, List.setIfInBounds_toArray, List.set_cons_succ, List.set_cons_zero] at hp ⊢
            have c18 := cell_of_block (k := 0) (hI.blockAt 1 rfl) rfl
            have f18 := free_of_block (hI.blockAt 1 rfl) 0
            have wk : wrap64 ((cn : Int) + 1) = ((cn + 1 : Nat) : Int) := by have := HCN.out; unfold wrap64; omega
            have HI := Lib.hid hI
            have HP := Lib.hid hp
            clear hI hp
            repeat ((fail_if_success (with_reducible refine stop_atI (id := 26) ?_)); (first | go_values | gi_guarded | gi_step | gi_upon | gi_back | (simp only [Int.not_lt, Int.not_le] at *; go_simp) | (go_values <;> (try go_simp)) | (go_ite <;> go_prune <;> (try go_simp)) | (split <;> (first | (rename_i hx; exact (hx _ rfl).elim) | go_prune))))
            clear c18 f18
            change Code.wpIn _ _ _ _ _ _ (W.setCell ⟨w11.heap.size, 0, none⟩ (.int .i64 ((cn + 1 : Nat) : Int)))
            have hp2 := HI.out.putAt (pre := [_]) (by intro i hi; simp at hi; exact ⟨_, _, hi⟩) 0 (.int .i64 ((cn + 1 : Nat) : Int)) rfl (fun g hg => HLT.out g hg)
            have hko : KO (fun _ _ => False) (w12.heap.size :: aBlk a1) w13.heap.size W (W.setCell ⟨w11.heap.size, 0, none⟩ (.int .i64 ((cn + 1 : Nat) : Int))) := KO.setCell W _ _ _ (by omega) hnb
            have hkf : KeepsFrom w13.heap.size W (W.setCell ⟨w11.heap.size, 0, none⟩ (.int .i64 ((cn + 1 : Nat) : Int))) := (KeepsOthers.setCell W _ _).from _
            have hpp : (W.setCell ⟨w11.heap.size, 0, none⟩ (.int .i64 ((cn + 1 : Nat) : Int))).heap[p]? = some (.cells #[.int .i64 qx, .int .i64 qy] 28 (0, 0)) := by
              by_cases e : p = w11.heap.size
              · subst e
                have h_ := HI.out.blockAt 1 rfl
                rw [HP.out] at h_
                simp at h_
              · exact (Below.heap_setCell W ⟨w11.heap.size, 0, none⟩ _ p e).trans HP.out
            have hsz : W.heap.size ≤ (W.setCell ⟨w11.heap.size, 0, none⟩ (.int .i64 ((cn + 1 : Nat) : Int))).heap.size := by rw [World.size_setCell]; exact Nat.le_refl _
            obtain ⟨W2, hW2⟩ : ∃ W2 : World, W.setCell ⟨w11.heap.size, 0, none⟩ (.int .i64 ((cn + 1 : Nat) : Int)) = W2 := ⟨_, rfl⟩
            rw [hW2] at hp2 hko hkf hpp hsz ⊢
            have HI2 := Lib.hid hp2
            have HP2 := Lib.hid hpp
            have HKO := Lib.hid (And.intro hko (And.intro hkf (Nat.le_trans hlt5 hsz)))
            clear hp2 hko hkf hpp hsz hW2 wk
            have HUQ := Lib.hid (refHas_any a1 m1 c1 l1 HL1.out.2.1 (by have := HL1.out.2.2; omega) ⟨qx, qy⟩ W2 (HI2.out.elems 2 rfl))
            rw [HQA.out] at HUQ
            simp only [PtT.val] at HUQ
            have t12 := cell_of_block (k := 0) (HI2.out.blockAt 3 rfl) rfl
            have t11 := cell_of_block (k := 0) (HI2.out.blockAt 4 rfl) rfl
            have k0 := cell_of_block (k := 0) HP2.out rfl
            have k1 := cell_of_block (k := 1) HP2.out rfl
            gi_wp2_with fail
            refine ((callsIn_wide.2 HUQ.out).inRound ly).mono ?_
            rintro e W3 ⟨rfl, hb3⟩
            clear t12 t11 k0 k1 HUQ
            have HI3 := Lib.hid (HI2.out.below hb3)
            have HB3 := Lib.hid hb3
            clear hb3
            gi_wp2
            refine ⟨HKO.out.2.1.trans (keepsFrom_below HB3.out), HKO.out.1.trans (KO.of_below (ownSt_none _) HB3.out HKO.out.2.2 (fun c hc => Nat.lt_of_lt_of_le (hbs c hc) HKO.out.2.2)), ?_, Nat.le_trans HKO.out.2.2 HB3.out.size⟩
            rw [HCN.out.1]
            exact HI3.out
          case stop =>
            intro D c pre W _ _ h
            exact h.elim
          case done =>
            rintro D W hD ⟨hI, -⟩ hK
            rw [List.length_finRange] at hI
            have hm := hI.mark (by omega) hDs hD hK
            rw [ha0]
            dsimp only
            have HS := Lib.hid hm
            clear hm hI hK ha0 hit hbs hnb hst
            have t11 := cell_of_block (k := 0) (HS.out.blockAt 4 rfl) rfl
            gi_wp2
            clear t11
            obtain ⟨NA, hNA⟩ : ∃ NA, A.length = NA := ⟨_, rfl⟩
            rw [hNA] at HS
            apply wpIn_loopS [20, 22, 102, 103, 104, 105, 106, 107, 108, 109, 110, 111, 112, 113, 114, 115] 102 (by decide) (by exact Nat.lt_of_lt_of_le (show 102 < 180 by decide) (Nat.le_refl _)) (fun u ds wx => ds = marksOf (D :: Ds) ∧ ∃ j : Nat, j ≤ m1 ∧ u 102 = .int .i64 (j : Int) ∧ u 20 = .int .i64 ((posL l1 j : Nat) : Int) ∧ Rnd w B0 [.blk w12.heap.size (.cells #[.slice a1 m1 c1] 29 (0, 0)), .blk w11.heap.size (.cells #[.int .i64 (NA : Int)] 3 (0, 0)), .row (.slice a1 m1 c1) m1 3 (rowC encS l1) w7.heap.size, .blk w5.heap.size (.cells #[.bool true] 4 (0, 0)), .blk w3.heap.size (.cells #[.slice a1 m1 c1] 29 (0, 0)), .blk (w.heap.size + 1) (.cells #[.bool false] 4 (0, 0)), .blk w.heap.size (.cells #[.int .i64 x1, .int .i64 y1, .int .i64 x2, .int .i64 y2] 43 (0, 0)), .row (.slice ap np cp) np 2 (rowC encP ps) w.heap.size] v' (Rs ++ [(RowD.mk a1 c1 l1)]) (D :: Ds) wx) (fun v => m1 - (intOf v).toNat)
            · exact ⟨rfl, 0, by omega, rfl, rfl, HS.out⟩
            rintro u2 ds2 wx ⟨rfl, j, hj, hu1, hu2, hR⟩
            simp only [setS, List.foldl, List.setIfInBounds_toArray, List.set_cons_succ, List.set_cons_zero]
            rw [hu1, hu2]
            clear HS hu1 hu2
            have HS := Lib.hid hR
            clear hR
            by_cases hjm : j < m1
            · have HE4 := Lib.hid (show wrap64 ((j : Int) + 1) = ((j + 1 : Nat) : Int) by have := HL1.out.2.2; unfold wrap64; omega)
              obtain ⟨s, hs⟩ : ∃ s, l1[j]? = some s := ⟨_, List.getElem?_eq_getElem (by rw [HL1.out.2.1]; exact hjm)⟩
              obtain ⟨bb', off', ha1, -, c0, c1', c2⟩ := spCells HL1.out.2.1 (HS.out.elems 2 rfl) j s hs
              have HJ := Lib.hid hjm
              have hsp := (spB_iff s).1 (((rightB_iff l1).1 HR.out).mem (List.mem_of_getElem? hs))
              have hps := posL_succ hs
              have hpl : posL l1 (j + 1) ≤ 20480 := by
                have h_ := posL_le (l := l1) (k := j) hs (s.t - s.f + 1).toNat (Nat.le_refl _)
                have h2_ := ptsL_le HR.out
                have := HL1.out
                rw [hps]
                omega
              obtain ⟨sy, sf, st⟩ := s
              simp only at c0 c1' c2 hsp hps
              obtain ⟨p0, hp0⟩ : ∃ p0, posL l1 j = p0 := ⟨_, rfl⟩
              obtain ⟨p1, hp1⟩ : ∃ p1, posL l1 (j + 1) = p1 := ⟨_, rfl⟩
              rw [hp0, hp1] at hps
              rw [hp1] at hpl
              rw [hp0]
              have HP1 := Lib.hid hp1
              have w1_ : wrap64 (st - sf) = st - sf := by unfold wrap64; omega
              have w2_ : wrap64 (st - sf + 1) = st - sf + 1 := by unfold wrap64; omega
              have w3_ : wrap64 ((p0 : Int) + (st - sf + 1)) = (p1 : Int) := by unfold wrap64; omega
              subst ha1
              clear hs hsp hps hpl hp0 hp1
              repeat ((fail_if_success (with_reducible refine stop_atI (id := 32) ?_)); (first | go_values | gi_guarded | gi_step | gi_upon | gi_back | (simp only [Int.not_lt, Int.not_le] at *; go_simp) | (go_values <;> (try go_simp)) | (go_ite <;> go_prune <;> (try go_simp)) | (split <;> (first | (rename_i hx; exact (hx _ rfl).elim) | go_prune))))
              clear c0 c1' c2
              have hs_ := (HS.out.alloc (.cells #[.int .i64 sy, .int .i64 sf, .int .i64 st] 39))
              obtain ⟨wy, hw_⟩ : ∃ wy : World, (wx.alloc (.cells #[.int .i64 sy, .int .i64 sf, .int .i64 st] 39)) = wy := ⟨_, rfl⟩
              rw [hw_] at hs_
              try simp only [World.size_alloc] at hs_
              have HS := Lib.hid hs_
              rw [hw_]
              clear hw_ hs_
              have q1 := cell_of_block (k := 1) (HS.out.blockAt 0 rfl) rfl
              have q2 := cell_of_block (k := 2) (HS.out.blockAt 0 rfl) rfl
              have t12 := cell_of_block (k := 0) (HS.out.blockAt 4 rfl) rfl
              have e4 := HE4.out
              gi_wp2
              clear q1 q2 t12
              refine roundS_mix (.int .i64 ((j + 1 : Nat) : Int)) (by kernel_rfl) (by kernel_rfl) ⟨rfl, j + 1, HJ.out, ?_, ?_, HS.out.sub (.cons _ (List.Sublist.refl _))⟩ ?_ ?_
              · first | exact congrArg (Value.int .i64) e4 | rfl
              · rw [HP1.out]; first | exact congrArg (Value.int .i64) w3_ | rfl
              · first | exact congrArg (Value.int .i64) e4 | rfl
              · exact meas_step HJ.out
            · obtain rfl : m1 = j := by omega
              have hna : posL l1 m1 = NA := by
                rw [← hNA, ← HA2.out.1, allL_right HR.out, ← posL_all, HL1.out.2.1]
              rw [hna]
              have hcount := count_any a1 m1 c1 l1 HL1.out.2.1 (by have := HL1.out.2.2; omega) wx (HS.out.elems 2 rfl) (by rw [HA2.out.1]; have := HA2.out.2; omega)
              rw [HA2.out.1, hNA] at hcount
              have HCT := Lib.hid hcount
              clear hcount hj hjm hna hNA
              have t11 := cell_of_block (k := 0) (HS.out.blockAt 4 rfl) rfl
              gi_wp2_with fail
              clear t11
              refine (callsIn_wide.2 (HCT.out)).mono ?_
              rintro e wc ⟨rfl, hb_⟩
              have HS := Lib.hid (HS.out.below hb_)
              clear hb_
              clear HCT
              have c18 := cell_of_block (k := 0) (HS.out.blockAt 1 rfl) rfl
              obtain ⟨m8, hm8⟩ : ∃ m8, min np 8 = m8 := ⟨_, rfl⟩
              have e8 : min (np : Int) 8 = (m8 : Int) := by omega
              have hm8c : m8 ≤ cp := by have := HPL.out; omega
              have HM8 := Lib.hid (show m8 ≤ np ∧ m8 ≤ 8 by omega)
              gi_wp2
              clear c18 e8 hm8c hm8
              apply wpIn_loopS [24, 131, 132, 133, 134, 135, 136, 137, 138, 139, 140, 141, 142, 143, 144, 145] 131 (by decide) (by exact Nat.lt_of_lt_of_le (show 131 < 180 by decide) (Nat.le_refl _)) (fun u ds wx => ds = marksOf (D :: Ds) ∧ ∃ i : Nat, i ≤ m8 ∧ u 131 = .int .i64 (i : Int) ∧ Rnd w B0 [.blk w12.heap.size (.cells #[.slice a1 m1 c1] 29 (0, 0)), .blk w11.heap.size (.cells #[.int .i64 (NA : Int)] 3 (0, 0)), .row (.slice a1 m1 c1) m1 3 (rowC encS l1) w7.heap.size, .blk w5.heap.size (.cells #[.bool true] 4 (0, 0)), .blk w3.heap.size (.cells #[.slice a1 m1 c1] 29 (0, 0)), .blk (w.heap.size + 1) (.cells #[.bool false] 4 (0, 0)), .blk w.heap.size (.cells #[.int .i64 x1, .int .i64 y1, .int .i64 x2, .int .i64 y2] 43 (0, 0)), .row (.slice ap np cp) np 2 (rowC encP ps) w.heap.size] v' (Rs ++ [(RowD.mk a1 c1 l1)]) (D :: Ds) wx) (fun v => m8 - (intOf v).toNat)
              · exact ⟨rfl, 0, by omega, rfl, HS.out⟩
              rintro u3 ds3 wp ⟨rfl, i, hi, hu1, hR⟩
              simp only [setS, List.foldl, List.setIfInBounds_toArray, List.set_cons_succ, List.set_cons_zero]
              rw [hu1]
              clear HS hu1
              have HS := Lib.hid hR
              clear hR
              by_cases him : i < m8
              · have HE4 := Lib.hid (show wrap64 ((i : Int) + 1) = ((i + 1 : Nat) : Int) by have := HM8.out; unfold wrap64; omega)
                obtain ⟨s, hs⟩ : ∃ s, ps[i]? = some s := ⟨_, List.getElem?_eq_getElem (by rw [HPL.out.1]; have := HM8.out; omega)⟩
                obtain ⟨bb', off', hap, -, c0, c1'⟩ := ptCells HPL.out.1 (HS.out.elems 7 rfl) i s hs
                have HJ := Lib.hid him
                obtain ⟨sx, sy⟩ := s
                simp only at c0 c1'
                subst hap
                clear hs
                gi_wp2_with fail
                clear c0 c1'
                have hs_ := (HS.out.alloc (.cells #[.int .i64 sx, .int .i64 sy] 28))
                obtain ⟨wq, hw_⟩ : ∃ wq : World, (wp.alloc (.cells #[.int .i64 sx, .int .i64 sy] 28)) = wq := ⟨_, rfl⟩
                rw [hw_] at hs_
                try simp only [World.size_alloc] at hs_
                have HS := Lib.hid hs_
                rw [hw_]
                clear hw_ hs_
                obtain ⟨hv, hhv⟩ : ∃ hv, hasB l1 ⟨sx, sy⟩ = hv := ⟨_, rfl⟩
                have HH1 := Lib.hid (fun w' h => shHas_any a1 m1 c1 l1 HL1.out.2.1 (by have := HL1.out.2.2; omega) ⟨sx, sy⟩ w' h)
                have HH2 := Lib.hid (fun w' h => refHas_any a1 m1 c1 l1 HL1.out.2.1 (by have := HL1.out.2.2; omega) ⟨sx, sy⟩ w' h)
                simp only [HR.out, hhv, Bool.true_and, Bool.false_and] at HH1 HH2
                clear hhv
                apply wp_region_vals 10 (Rl := [(eqv _), (eqv _), (eqv _), (eqv _), (eqv _), (eqv _), (eqv _), (eqv _), (eqv _), (eqv _)]) (C := (fun x y => Below x.heap.size x y))
                case hm => kernel_rfl
                case hk => rfl
                case hCr => exact (fun _ => Below.refl _ _)
                case hCt => intro _ _ _; exact (fun h k => grows_trans h k)
                case hst => exact ⟨fun _ _ _ _ h => h, fun _ _ _ _ h => h, fun _ _ _ _ h => h, fun _ _ _ _ h => h, fun _ _ _ _ h => h, fun _ _ _ _ h => h, fun _ _ _ _ h => h, fun _ _ _ _ h => h, fun _ _ _ _ h => h, fun _ _ _ _ h => h, trivial⟩
                case hfo => kernel_rfl
                case ht => kernel_rfl
                case hC0 => exact (grows_drew _)
                case hsteps =>
                  refine ⟨?_, ?_, ?_, ?_, ?_, ?_, ?_, ?_, ?_, ?_, trivial⟩
                  · -- 0
                    intro a' w' hA hC hD
                    have s11 : a'.tmps[11]? = some _ := (hA.at 11 (by kernel_rfl)).trans rfl
                    have h1_ := (HS.out.below hC).blockAt 5 rfl; have c1_0 := cell_of_block (k := 0) h1_ rfl; clear h1_
                    clear hA hD
                    refine stepOk_plain rfl ?_
                    intro K hK
                    gi_wp2
                    exact hK _ _ rfl ((fun _ => Below.refl _ _) _)
                  · -- 1
                    intro a' w' hA hC hD
                    have s24 : a'.tmps[24]? = some _ := (hA.at 24 (by kernel_rfl)).trans rfl
                    have h1_ := (HS.out.below hC).blockAt 0 rfl; have c1_0 := cell_of_block (k := 0) h1_ rfl; have c1_1 := cell_of_block (k := 1) h1_ rfl; clear h1_
                    clear hA hD
                    refine stepOk_plain rfl ?_
                    intro K hK
                    gi_wp2
                    exact hK _ _ rfl ((fun _ => Below.refl _ _) _)
                  · -- 2
                    intro a' w' hA hC hD
                    obtain ⟨u135, s135, r135⟩ := hD ⟨0, .data⟩ (by simp) rfl _ rfl
                    replace r135 : u135 = _ := r135
                    subst r135
                    obtain ⟨u136, s136, r136⟩ := hD ⟨1, .data⟩ (by simp) rfl _ rfl
                    replace r136 : u136 = _ := r136
                    subst r136
                    clear hA hD
                    refine stepOk_plain rfl ?_
                    intro K hK
                    gi_wp2_with fail; refine (callsIn_wide.2 (HH1.out _ ((HS.out.elems 3 rfl).below hC))).mono ?_; rintro e w2 ⟨rfl, hb⟩
                    exact hK _ _ rfl hb
                  · -- 3
                    intro a' w' hA hC hD
                    have s12 : a'.tmps[12]? = some _ := (hA.at 12 (by kernel_rfl)).trans rfl
                    have h1_ := (HS.out.below hC).blockAt 4 rfl; have c1_0 := cell_of_block (k := 0) h1_ rfl; clear h1_
                    clear hA hD
                    refine stepOk_plain rfl ?_
                    intro K hK
                    gi_wp2
                    exact hK _ _ rfl ((fun _ => Below.refl _ _) _)
                  · -- 4
                    intro a' w' hA hC hD
                    obtain ⟨u138, s138, r138⟩ := hD ⟨3, .data⟩ (by simp) rfl _ rfl
                    replace r138 : u138 = _ := r138
                    subst r138
                    clear hA hD
                    refine stepOk_plain rfl ?_
                    intro K hK
                    gi_wp2
                    exact hK _ _ rfl ((fun _ => Below.refl _ _) _)
                  · -- 5
                    intro a' w' hA hC hD
                    have s11 : a'.tmps[11]? = some _ := (hA.at 11 (by kernel_rfl)).trans rfl
                    obtain ⟨u139, s139, r139⟩ := hD ⟨4, .guard⟩ (by simp) rfl _ rfl
                    replace r139 : u139 = _ := r139
                    subst r139
                    have h1_ := (HS.out.below hC).blockAt 5 rfl; have c1_0 := cell_of_block (k := 0) h1_ rfl; clear h1_
                    clear hA hD
                    refine stepOk_want rfl rfl s139 ?_
                    intro K hK
                    gi_wp2
                    exact hK _ _ rfl ((fun _ => Below.refl _ _) _)
                  · -- 6
                    intro a' w' hA hC hD
                    have s24 : a'.tmps[24]? = some _ := (hA.at 24 (by kernel_rfl)).trans rfl
                    obtain ⟨u139, s139, r139⟩ := hD ⟨4, .guard⟩ (by simp) rfl _ rfl
                    replace r139 : u139 = _ := r139
                    subst r139
                    have h1_ := (HS.out.below hC).blockAt 0 rfl; have c1_0 := cell_of_block (k := 0) h1_ rfl; have c1_1 := cell_of_block (k := 1) h1_ rfl; clear h1_
                    clear hA hD
                    refine stepOk_want rfl rfl s139 ?_
                    intro K hK
                    gi_wp2
                    exact hK _ _ rfl ((fun _ => Below.refl _ _) _)
                  · -- 7
                    intro a' w' hA hC hD
                    obtain ⟨u140, s140, r140⟩ := hD ⟨5, .data⟩ (by simp) rfl _ rfl
                    replace r140 : u140 = _ := r140
                    subst r140
                    obtain ⟨u141, s141, r141⟩ := hD ⟨6, .data⟩ (by simp) rfl _ rfl
                    replace r141 : u141 = _ := r141
                    subst r141
                    obtain ⟨u139, s139, r139⟩ := hD ⟨4, .chain⟩ (by simp) rfl _ rfl
                    replace r139 : u139 = _ := r139
                    subst r139
                    clear hA hD
                    refine stepOk_want rfl rfl s139 ?_
                    intro K hK
                    gi_wp2_with fail; refine (callsIn_wide.2 (HH2.out _ ((HS.out.elems 3 rfl).below hC))).mono ?_; rintro e w2 ⟨rfl, hb⟩
                    exact hK _ _ rfl hb
                  · -- 8
                    intro a' w' hA hC hD
                    obtain ⟨u139, s139, r139⟩ := hD ⟨4, .data⟩ (by simp) rfl _ rfl
                    replace r139 : u139 = _ := r139
                    subst r139
                    obtain ⟨u142, s142, r142⟩ := hD ⟨7, .data⟩ (by simp) rfl _ rfl
                    replace r142 : u142 = _ := r142
                    subst r142
                    clear hA hD
                    refine stepOk_plain rfl ?_
                    intro K hK
                    gi_wp2
                    exact hK _ _ rfl ((fun _ => Below.refl _ _) _)
                  · -- 9
                    intro a' w' hA hC hD
                    obtain ⟨u137, s137, r137⟩ := hD ⟨2, .data⟩ (by simp) rfl _ rfl
                    replace r137 : u137 = _ := r137
                    subst r137
                    obtain ⟨u143, s143, r143⟩ := hD ⟨8, .data⟩ (by simp) rfl _ rfl
                    replace r143 : u143 = _ := r143
                    subst r143
                    clear hA hD
                    refine stepOk_plain rfl ?_
                    intro K hK
                    gi_wp2
                    try simp only [bne_self_eq_false]
                    exact hK _ _ rfl ((fun _ => Below.refl _ _) _)
                case hend =>
                  intro wz hC
                  simp only [EndFrom, eqv, forall_eq, Act.put, List.length_cons, List.length_nil, List.drop_succ_cons, List.drop_zero, Nat.reduceAdd, List.setIfInBounds_toArray, List.set_cons_succ, List.set_cons_zero]
                  have HS := Lib.hid (HS.out.below hC)
                  clear hC
                  have e4 := HE4.out
                  gi_wp2
                  refine roundS_mix (.int .i64 ((i + 1 : Nat) : Int)) (by kernel_rfl) (by kernel_rfl) ⟨rfl, i + 1, HJ.out, ?_, HS.out.sub (.cons _ (List.Sublist.refl _))⟩ ?_ ?_
                  · first | exact congrArg (Value.int .i64) e4 | rfl
                  · first | exact congrArg (Value.int .i64) e4 | rfl
                  · exact meas_step HJ.out
              · obtain rfl : i = m8 := by omega
                clear hi him
                have e3 := HE3.out
                gi_wp2
                refine roundS_mix (.int .i64 ((k + 1 : Nat) : Int)) (by kernel_rfl) (by kernel_rfl) ⟨k + 1, HKK.out.1, ?_, v', Rs ++ [(RowD.mk a1 c1 l1)], D :: Ds, rfl, ?_, rfl, HRS2.out, HKK.out.2, HS.out.sub (.cons _ (.cons _ (.cons _ (.cons _ (.cons _ (.cons_cons _ (.cons_cons _ (.cons_cons _ (List.nil_sublist _)))))))))⟩ ?_ ?_
                · first | exact congrArg (Value.int .i64) e3 | rfl
                · rw [HAL2.out]; rfl
                · first | exact congrArg (Value.int .i64) e3 | rfl
                · exact meas_step HKK.out.1
    · cases hr : rightB l1
      · have HR := Lib.hid hr
        clear hr
        gi_wp2_with fail
        have hs_ := (HS.out.alloc (.cells #[.bool false] 4))
        obtain ⟨w6, hw_⟩ : ∃ w6 : World, (w5.alloc (.cells #[.bool false] 4)) = w6 := ⟨_, rfl⟩
        rw [hw_] at hs_
        try simp only [World.size_alloc] at hs_
        have HS := Lib.hid hs_
        rw [hw_]
        clear hw_ hs_
        have hz35 : w3.heap.size < w6.heap.size := HS.out.lt 1 rfl
        have hz56 : w5.heap.size < w6.heap.size := HS.out.lt 0 rfl
        have hz45 : w3.heap.size < w5.heap.size := by have h_ := HS.out.st.ord; simp [ItOrd, It.top] at h_; omega
        have HC11 := Lib.hid (fun (w' : World) (hC : w6.grownBy w' (u 7).ownBlock) => (hC.block w3.heap.size hz35 (fun e => by have h_ := HG.out _ e.symm; omega)).trans (HS.out.blockAt 1 rfl))
        have HC12 := Lib.hid (fun (w' : World) (hC : w6.grownBy w' (u 7).ownBlock) => (hC.block w5.heap.size hz56 (fun e => by have h_ := HG.out _ e.symm; omega)).trans (HS.out.blockAt 0 rfl))
        have HZ6 := Lib.hid (And.intro hz35 (And.intro hz56 (And.intro hz45 HS.out.hW)))
        have hqn : Rs.length + 1 ≤ 4 := by
          have h_ := congrArg List.length HRS.out
          simp only [List.length_map, List.length_take] at h_
          have := HKK.out
          omega
        have HQN := Lib.hid hqn
        obtain ⟨i0, hi, hz0, hz1, hz2⟩ := info_parts infoR
        have HI := Lib.hid (And.intro hi (And.intro hz0 (And.intro hz1 hz2)))
        have HRW := Lib.hid HS.out.own.row
        clear hi hz0 hz1 hz2 hz35 hz56 hz45 hqn
        apply wp_region_storeU (fun i => Nat.beq i 8) 9 3 (fun b_ w_ => KeepsIf b_ (w_.ownsRow B0 29 1 (u 7) Rs.length (Rs.flatMap encR))) (Rl := [(eqv _), (eqv _), (fun v_ w_ => ∃ b, v_ = .slice (some ⟨b, 0, none⟩) 1 1 ∧ (u 7).ownBlock ≠ some b ∧ w_.heap[b]? = some (.cells #[.slice a1 m1 c1] 29 (0, 0))), (fun v_ w_ => w_.ownsRow B0 29 1 v_ (Rs ++ [(RowD.mk a1 c1 l1)]).length ((Rs ++ [(RowD.mk a1 c1 l1)]).flatMap encR) ∧ Loc (u 7) v_ w6.heap.size), (eqv _), (eqv _), (eqv _), (eqv _), (fun v_ w_ => w_.ownsRow B0 29 1 v_ (Rs ++ [(RowD.mk a1 c1 l1)]).length ((Rs ++ [(RowD.mk a1 c1 l1)]).flatMap encR) ∧ Loc (u 7) v_ w6.heap.size)]) (C := (fun x y => x.grownBy y (u 7).ownBlock)) (C0 := (fun x y => Below x.heap.size x y))
        case haf => kernel_rfl
        case hm => kernel_rfl
        case hk => rfl
        case hCr => exact (fun x => World.grownBy.refl x _)
        case hCt => intro _ _ _; exact (fun h k => grownTrans h k)
        case h00 => exact (fun x => Below.refl _ x)
        case h0C => intro _ _; exact fun h => ⟨h.os, h.tape, h.output, h.size, fun k hk _ => h.block k hk⟩
        case hst => exact ⟨fun _ _ _ _ h => h, fun _ _ _ _ h => h, fun v x y hC ⟨b, h1, h2, h3⟩ => ⟨b, h1, h2, (hC.block b (block_lt h3) h2.symm).trans h3⟩, fun v x y hC ⟨h1, h2⟩ => ⟨ownsRow_below h1 hC, h2⟩, fun _ _ _ _ h => h, fun _ _ _ _ h => h, fun _ _ _ _ h => h, fun _ _ _ _ h => h, fun v x y hC ⟨h1, h2⟩ => ⟨ownsRow_below h1 hC, h2⟩, trivial⟩
        case hfo => kernel_rfl
        case ht => kernel_rfl
        case hC0 => exact (⟨rfl, rfl, rfl, Nat.le_refl _, fun _ _ _ => rfl⟩)
        case hsk => decide
        case hso => decide
        case hsg => rfl
        case hsteps =>
          refine ⟨?_, ?_, ?_, ?_, ?_, ?_, ?_, ?_, ?_, trivial⟩
          · -- 0
            intro a' w' b_ hA hC hJ hB1 hB2 hU hD
            obtain rfl := hB1 (by kernel_rfl)
            clear hB1 hB2
            have s7 : a'.tmps[7]? = some _ := (hU 8 _ 7 (Nat.lt_of_lt_of_le (show 8 < 9 by decide) (Nat.le_refl _)) rfl rfl (.inl (by kernel_rfl))).trans rfl
            clear hA hD hU
            refine stepOk_plain rfl ?_
            intro K hK
            gi_wp2
            exact hK _ _ rfl ⟨(fun x => Below.refl _ x) _, hJ⟩
          · -- 1
            intro a' w' b_ hA hC hJ hB1 hB2 hU hD
            obtain rfl := hB1 (by kernel_rfl)
            clear hB1 hB2
            have s11 : a'.tmps[11]? = some _ := (hA.at 11 (by kernel_rfl)).trans rfl
            have b1 := cell_of_block (k := 0) (HC11.out w' hC) rfl
            clear hA hD hU
            refine stepOk_plain rfl ?_
            intro K hK
            gi_wp2
            exact hK _ _ rfl ⟨(fun x => Below.refl _ x) _, hJ⟩
          · -- 2
            intro a' w' b_ hA hC hJ hB1 hB2 hU hD
            obtain rfl := hB1 (by kernel_rfl)
            clear hB1 hB2
            obtain ⟨u47, s47, r47⟩ := hD ⟨1, .data⟩ (by simp) rfl _ rfl
            replace r47 : u47 = _ := r47
            subst r47
            clear hA hD hU
            refine stepOk_plain rfl ?_
            intro K hK
            gi_wp2
            exact hK _ _ ⟨w'.heap.size, rfl, fun e => by have := HG.out _ e; have := HZ6.out; have := hC.size; omega, newBlock _ _ _ rfl⟩ ⟨(Below.refl _ _).alloc (Nat.le_refl _) _, fun hb => (hJ hb).alloc _⟩
          · -- 3
            intro a' w' b_ hA hC hJ hB1 hB2 hU hD
            obtain rfl := hB2 rfl
            clear hB1 hB2
            obtain ⟨u46, s46, r46⟩ := hD ⟨0, .data⟩ (by simp) rfl _ rfl
            replace r46 : u46 = _ := r46
            subst r46
            obtain ⟨u48, s48, r48⟩ := hD ⟨2, .data⟩ (by simp) rfl _ rfl
            replace r48 : (fun v_ w_ => ∃ b, v_ = .slice (some ⟨b, 0, none⟩) 1 1 ∧ (u 7).ownBlock ≠ some b ∧ w_.heap[b]? = some (.cells #[.slice a1 m1 c1] 29 (0, 0))) u48 w' := r48
            obtain ⟨g, hg48, hbn, hbk⟩ := r48; subst hg48
            clear hA hD hU
            refine stepOk_plain rfl ?_
            intro K hK
            have H := HI.out; obtain ⟨v', w'', hrun, hr1, hr2, _, hr4⟩ := run_append_own_at (P := Try.prog) w' B0 58 58 29 i0 (.slice none 0 0) 1 24 Try.underlying58 H.1 H.2.1 H.2.2.1 H.2.2.2 rfl (by decide) (u 7) Rs.length (Rs.flatMap encR) (hJ rfl) ⟨g, 0, none⟩ 1 1 (encR (RowD.mk a1 c1 l1)) rfl (fun j x hx => cells_of_block hbk j x (by simpa [encR, HL1.out.2.1] using hx)) (encR_one _) (by have := HQN.out; unfold maxLen; omega) (by have := HQN.out; omega) (by have h_ := hC.size; have h2_ := HZ6.out; omega); refine opIn_append _ _ _ rfl (by simp [Act.eval, s46]) (by simp [Act.eval, s48]) hrun (hK v' w'' ⟨?_, ?_⟩ ⟨hr2, fun h => by cases h⟩); (rw [List.length_append, List.flatMap_append]; simpa using hr1); (rcases hr4 with h | h; exact .inl h; exact .inr ⟨_, h, hC.size⟩)
            skip
          · -- 4
            intro a' w' b_ hA hC hJ hB1 hB2 hU hD
            skip
            clear hB1 hB2
            have s8 : a'.tmps[8]? = some _ := (hA.at 8 (by kernel_rfl)).trans rfl
            clear hA hD hU
            refine stepOk_plain rfl ?_
            intro K hK
            gi_wp2
            exact hK _ _ rfl ⟨(fun x => Below.refl _ x) _, hJ⟩
          · -- 5
            intro a' w' b_ hA hC hJ hB1 hB2 hU hD
            skip
            clear hB1 hB2
            obtain ⟨u50, s50, r50⟩ := hD ⟨4, .data⟩ (by simp) rfl _ rfl
            replace r50 : u50 = _ := r50
            subst r50
            clear hA hD hU
            refine stepOk_plain rfl ?_
            intro K hK
            gi_wp2
            exact hK _ _ rfl ⟨(fun x => Below.refl _ x) _, hJ⟩
          · -- 6
            intro a' w' b_ hA hC hJ hB1 hB2 hU hD
            skip
            clear hB1 hB2
            have s12 : a'.tmps[12]? = some _ := (hA.at 12 (by kernel_rfl)).trans rfl
            obtain ⟨u51, s51, r51⟩ := hD ⟨5, .guard⟩ (by simp) rfl _ rfl
            replace r51 : u51 = _ := r51
            subst r51
            have b1 := cell_of_block (k := 0) (HC12.out w' hC) rfl
            clear hA hD hU
            refine stepOk_want rfl rfl s51 ?_
            intro K hK
            gi_wp2
            exact hK _ _ rfl ⟨(fun x => Below.refl _ x) _, hJ⟩
          · -- 7
            intro a' w' b_ hA hC hJ hB1 hB2 hU hD
            skip
            clear hB1 hB2
            obtain ⟨u51, s51, r51⟩ := hD ⟨5, .data⟩ (by simp) rfl _ rfl
            replace r51 : u51 = _ := r51
            subst r51
            obtain ⟨u52, s52, r52⟩ := hD ⟨6, .data⟩ (by simp) rfl _ rfl
            replace r52 : u52 = _ := r52
            subst r52
            clear hA hD hU
            refine stepOk_plain rfl ?_
            intro K hK
            gi_wp2
            exact hK _ _ rfl ⟨(fun x => Below.refl _ x) _, hJ⟩
          · -- 8
            intro a' w' b_ hA hC hJ hB1 hB2 hU hD
            skip
            clear hB1 hB2
            obtain ⟨u49, s49, r49⟩ := hD ⟨3, .data⟩ (by simp) rfl _ rfl
            replace r49 : (fun v_ w_ => w_.ownsRow B0 29 1 v_ (Rs ++ [(RowD.mk a1 c1 l1)]).length ((Rs ++ [(RowD.mk a1 c1 l1)]).flatMap encR) ∧ Loc (u 7) v_ w6.heap.size) u49 w' := r49
            clear hA hD hU
            refine stepOk_plain rfl ?_
            intro K hK
            gi_wp2
            exact hK _ _ r49 ⟨Below.refl _ _, hJ⟩
        case hJ0 => exact fun _ => HRW.out.drew
        case hend =>
          intro w7 hC hJ
          simp only [EndFrom, eqv, forall_eq, Act.put, List.length_cons, List.length_nil, List.drop_succ_cons, List.drop_zero, Nat.reduceAdd, List.setIfInBounds_toArray, List.set_cons_succ, List.set_cons_zero]
          rintro v2 - v3 - v' ⟨hr1, hr2⟩
          have hpush := (HS.out.sub (its' := [.blk w5.heap.size (.cells #[.bool false] 4 (0, 0)), .blk w3.heap.size (.cells #[.slice a1 m1 c1] 29 (0, 0)), .blk (w.heap.size + 1) (.cells #[.bool false] 4 (0, 0)), .blk w.heap.size (.cells #[.int .i64 x1, .int .i64 y1, .int .i64 x2, .int .i64 y2] 43 (0, 0)), .row (.slice ap np cp) np 2 (rowC encP ps) w.heap.size]) (.cons_cons _ (.cons_cons _ (.cons _ (List.Sublist.refl _))))).push (r := (RowD.mk a1 c1 l1)) (fun i hi g hg => by
            have h_ := HG.out g hg
            have h2_ := HZ6.out
            have h3_ := HZ.out
            simp at hi
            rcases hi with rfl | rfl | rfl | rfl | rfl <;> simp only [It.free] <;> omega) (by rw [HL1.out.2.1]; exact HS.out.elems 2 rfl) (fun g hg => (HG.out g hg).2.2) hC hr1 hr2
          have hel := (hpush.own.each (RowD.mk a1 c1 l1) (by simp)).1
          rw [HL1.out.2.1] at hel
          have HS := Lib.hid (hpush.addRow hel)
          have HRS2 := Lib.hid (show (Rs ++ [(RowD.mk a1 c1 l1)]).map (·.l) = (lls.take (k + 1)).map (fun l => l.take 40) by
            rw [List.map_append, HRS.out, List.take_add_one, HX.out]
            simp [HL1.out.1])
          have HAL2 := Lib.hid (show ((Rs ++ [(RowD.mk a1 c1 l1)]).map (·.l)).all rightB = false by
            rw [List.map_append, List.all_append, HAL.out]
            simp [HR.out])
          clear hpush hel hr1 hr2 hC hJ
          have t11 := cell_of_block (k := 0) (HS.out.blockAt 2 rfl) rfl
          gi_wp2_with fail
          clear t11
          have HCK := Lib.hid (check_any a1 m1 c1 l1 HL1.out.2.1 (by have := HL1.out.2.2; omega) w7 (HS.out.elems 0 rfl))
          rw [HR.out, errOf_false] at HCK
          refine (callsIn_wide.2 (HCK.out)).mono ?_
          rintro e w8 ⟨rfl, hb_⟩
          have HS := Lib.hid (HS.out.below hb_)
          clear hb_
          clear HCK
          have t11 := cell_of_block (k := 0) (HS.out.blockAt 2 rfl) rfl
          have t12 := cell_of_block (k := 0) (HS.out.blockAt 1 rfl) rfl
          have b0 := cell_of_block (k := 0) (HS.out.blockAt 4 rfl) rfl
          have b1 := cell_of_block (k := 1) (HS.out.blockAt 4 rfl) rfl
          have b2 := cell_of_block (k := 2) (HS.out.blockAt 4 rfl) rfl
          have b3 := cell_of_block (k := 3) (HS.out.blockAt 4 rfl) rfl
          gi_wp2_with fail
          clear t11 t12
          clear b0 b1 b2 b3
          refine (callsIn_wide.2 (clipBad a1 m1 c1 l1 HL1.out.2.1 (by have := HL1.out.2.2; omega) HR.out ⟨x1, y1, x2, y2⟩ w8 (HS.out.elems 0 rfl))).mono ?_
          rintro e w9 ⟨-, a9, c9, rfl, he_, hb_⟩
          have HS := Lib.hid ((HS.out.below hb_).addRow he_)
          clear hb_ he_
          have t12 := cell_of_block (k := 0) (HS.out.blockAt 2 rfl) rfl
          gi_wp2_with fail
          clear t12
          refine (callsIn_wide.2 (eqS_same _ _ [] 0 rfl _ (HS.out.elems 0 rfl) (elems_nil _))).mono ?_
          rintro e w11 ⟨rfl, hb_⟩
          have HS := Lib.hid (HS.out.below hb_)
          clear hb_
          have t11 := cell_of_block (k := 0) ((HS.out.alloc (.cells #[.int .i64 0] 3)).blockAt 4 rfl) rfl
          have HLT := Lib.hid (fun g (hg : v'.ownBlock = some g ∨ ∃ r ∈ Rs ++ [(RowD.mk a1 c1 l1)], g ∈ aBlk r.a) => HS.out.own.lt g hg)
          have HA1 := Lib.hid (aBlk_lt (HS.out.elems 1 rfl))
          have hw11 : w.heap.size + 1 < w11.heap.size := HS.out.lt 4 rfl
          gi_wp2_with fail
          clear t11
          have hs_ := (HS.out.alloc (.cells #[.int .i64 0] 3))
          obtain ⟨w12, hw_⟩ : ∃ w12 : World, (w11.alloc (.cells #[.int .i64 0] 3)) = w12 := ⟨_, rfl⟩
          rw [hw_] at hs_
          try simp only [World.size_alloc] at hs_
          have HS := Lib.hid hs_
          rw [hw_]
          clear hw_ hs_
          have hz12 : w11.heap.size < w12.heap.size := HS.out.lt 0 rfl
          refine (callsIn_wide.2 (all_any _ _ _ _)).mono ?_
          rintro e w' ⟨rfl, rfl⟩
          have hs_ := (HS.out.alloc (.cells #[.slice a1 m1 c1] 29))
          obtain ⟨w13, hw_⟩ : ∃ w13 : World, (w12.alloc (.cells #[.slice a1 m1 c1] 29)) = w13 := ⟨_, rfl⟩
          rw [hw_] at hs_
          try simp only [World.size_alloc] at hs_
          have HS := Lib.hid hs_
          rw [hw_]
          clear hw_ hs_
          have hz13 : w12.heap.size < w13.heap.size := HS.out.lt 0 rfl
          gi_wp2_with fail
          have hbs : ∀ c ∈ w12.heap.size :: aBlk a1, c < w13.heap.size := by
            intro c hc
            rcases List.mem_cons.1 hc with rfl | hc
            · exact hz13
            · have := HA1.out c hc; omega
          have hnb : w11.heap.size ∉ w12.heap.size :: aBlk a1 := by
            intro hc
            rcases List.mem_cons.1 hc with e | hc
            · omega
            · have := HA1.out _ hc; omega
          obtain ⟨A, hA⟩ : ∃ A, allL l1 = A := ⟨_, rfl⟩
          have hAle : A.length ≤ 20480 := by
            rw [← hA]
            unfold allL
            cases hq : rightB l1
            · simp
            · have h_ := ptsL_le hq
              have := HL1.out
              simp only [cond_true]
              omega
          have hit := all_iter (fun _ _ => False) w13 (ownSt_none _) (fun _ h => h.elim) w12.heap.size (w12.heap.size :: aBlk a1) a1 m1 c1 l1 HL1.out.2.1 (by have := HL1.out.2.2; omega) A hA hbs (by simp) (fun b off e => List.mem_cons_of_mem _ (aBlk_mem e)) (cell_of_block (HS.out.blockAt 0 rfl) rfl) (HS.out.elems 3 rfl)
          have HA2 := Lib.hid (And.intro hA hAle)
          have hst := HS.out.sub (its' := [.blk w12.heap.size (.cells #[.slice a1 m1 c1] 29 (0, 0)), .blk w11.heap.size (.cells #[.int .i64 (0 : Int)] 3 (0, 0)), .row (.slice a1 m1 c1) m1 3 (rowC encS l1) w7.heap.size, .blk w5.heap.size (.cells #[.bool false] 4 (0, 0)), .blk w3.heap.size (.cells #[.slice a1 m1 c1] 29 (0, 0)), .blk (w.heap.size + 1) (.cells #[.bool false] 4 (0, 0)), .blk w.heap.size (.cells #[.int .i64 x1, .int .i64 y1, .int .i64 x2, .int .i64 y2] 43 (0, 0)), .row (.slice ap np cp) np 2 (rowC encP ps) w.heap.size]) (.cons_cons _ (.cons_cons _ (.cons _ (.cons_cons _ (.cons_cons _ (.cons_cons _ (.cons_cons _ (.cons_cons _ (.cons_cons _ (List.nil_sublist _))))))))))
          have hDs : ∀ D ∈ Ds, D < w13.heap.size := HS.out.markLt
          clear HS hA hAle
          apply with_actIn
          intro a0 ha0
          refine range_iterO hit (by omega) (ownSt_none _) (by rw [ha0]; rfl) (enters_of Try.func54 (by kernel_rfl) rfl) hbs (fun _ => rfl) (fun x => [(89, (A[x.1]).val)]) (fun _ => by simp)
            (fun pre W => Rnd w B0 [.blk w12.heap.size (.cells #[.slice a1 m1 c1] 29 (0, 0)), .blk w11.heap.size (.cells #[.int .i64 (pre.length : Int)] 3 (0, 0)), .row (.slice a1 m1 c1) m1 3 (rowC encS l1) w7.heap.size, .blk w5.heap.size (.cells #[.bool false] 4 (0, 0)), .blk w3.heap.size (.cells #[.slice a1 m1 c1] 29 (0, 0)), .blk (w.heap.size + 1) (.cells #[.bool false] 4 (0, 0)), .blk w.heap.size (.cells #[.int .i64 x1, .int .i64 y1, .int .i64 x2, .int .i64 y2] 43 (0, 0)), .row (.slice ap np cp) np 2 (rowC encP ps) w.heap.size] v' (Rs ++ [(RowD.mk a1 c1 l1)]) Ds W ∧ w13.heap.size ≤ W.heap.size)
            (fun _ _ _ => False) (OwnFrom.and (ownFrom_Rnd (w0 := w) (fun (pre : List (Fin A.length)) => [.blk w12.heap.size (.cells #[.slice a1 m1 c1] 29 (0, 0)), .blk w11.heap.size (.cells #[.int .i64 (pre.length : Int)] 3 (0, 0)), .row (.slice a1 m1 c1) m1 3 (rowC encS l1) w7.heap.size, .blk w5.heap.size (.cells #[.bool false] 4 (0, 0)), .blk w3.heap.size (.cells #[.slice a1 m1 c1] 29 (0, 0)), .blk (w.heap.size + 1) (.cells #[.bool false] 4 (0, 0)), .blk w.heap.size (.cells #[.int .i64 x1, .int .i64 y1, .int .i64 x2, .int .i64 y2] 43 (0, 0)), .row (.slice ap np cp) np 2 (rowC encP ps) w.heap.size]) hst.hB (by omega) (by intro s b o hb; simp at hb; rcases hb with ⟨_, rfl⟩ | ⟨_, rfl⟩ | ⟨_, rfl⟩ | ⟨_, rfl⟩ | ⟨_, rfl⟩ | ⟨_, rfl⟩ <;> rfl) hDs) (ownFrom_size _)) (fun _ => ownFrom_pure _ _) ⟨hst, Nat.le_refl _⟩
            (fun x a' W => ∃ p, a' = loopAct a0 [(89, (A[x.1]).val), (19, .pointer (some ⟨p, 0, none⟩))] ∧ W.heap[p]? = some (.cells #[.int .i64 (A[x.1]).x, .int .i64 (A[x.1]).y] 28 (0, 0))) ?hAx ?assign ?body ?done ?stop
          case hAx =>
            rintro x a' s X Y row ⟨p, e, hp⟩ hg hr
            exact ⟨p, e, (grownBy_keeps_cells hg (fun r e => (hr r e).2) hp rfl).trans hp⟩
          case assign =>
            rintro ly pre x W K ⟨hI, hlt5⟩ hK
            have HK := Lib.hid hK
            have HI := Lib.hid hI
            clear hK hI
            rw [ha0] at HK ⊢
            unfold loopAct at HK ⊢
            simp only [PtT.val, List.foldl, List.setIfInBounds_toArray, List.set_cons_succ, List.set_cons_zero] at HK ⊢
            gi_wp2
            have hb := (Below.refl W.heap.size W).alloc (Nat.le_refl _) (.cells #[.int .i64 (A[x.1]).x, .int .i64 (A[x.1]).y] 28)
            exact HK.out _ _ (keepsFrom_below hb) (KO.of_below (ownSt_none _) hb hlt5 (fun c hc => Nat.lt_of_lt_of_le (hbs c hc) hlt5)) ⟨HI.out.below hb, Nat.le_trans hlt5 hb.size⟩ ⟨W.heap.size, rfl, World.alloc_heap_new W _⟩
          case body =>
            rintro ly pre x a' W ⟨hI, hlt5⟩ ⟨p, rfl, hp⟩ hlen
            exfalso
            have h0 : A = [] := by rw [← HA2.out.1]; unfold allL; rw [HR.out]; rfl
            have h1 : A.length = 0 := by rw [h0]; rfl
            omega
          case stop =>
            intro D c pre W _ _ h
            exact h.elim
          case done =>
            rintro D W hD ⟨hI, -⟩ hK
            rw [List.length_finRange] at hI
            have hm := hI.mark (by omega) hDs hD hK
            rw [ha0]
            dsimp only
            have HS := Lib.hid hm
            clear hm hI hK ha0 hit hbs hnb hst
            have t11 := cell_of_block (k := 0) (HS.out.blockAt 4 rfl) rfl
            gi_wp2
            clear t11
            obtain ⟨NA, hNA⟩ : ∃ NA, A.length = NA := ⟨_, rfl⟩
            rw [hNA] at HS
            apply wpIn_loopS [20, 22, 102, 103, 104, 105, 106, 107, 108, 109, 110, 111, 112, 113, 114, 115] 102 (by decide) (by exact Nat.lt_of_lt_of_le (show 102 < 180 by decide) (Nat.le_refl _)) (fun u ds wx => ds = marksOf (D :: Ds) ∧ ∃ j : Nat, j ≤ m1 ∧ u 102 = .int .i64 (j : Int) ∧ u 20 = .int .i64 0 ∧ Rnd w B0 [.blk w12.heap.size (.cells #[.slice a1 m1 c1] 29 (0, 0)), .blk w11.heap.size (.cells #[.int .i64 (NA : Int)] 3 (0, 0)), .row (.slice a1 m1 c1) m1 3 (rowC encS l1) w7.heap.size, .blk w5.heap.size (.cells #[.bool false] 4 (0, 0)), .blk w3.heap.size (.cells #[.slice a1 m1 c1] 29 (0, 0)), .blk (w.heap.size + 1) (.cells #[.bool false] 4 (0, 0)), .blk w.heap.size (.cells #[.int .i64 x1, .int .i64 y1, .int .i64 x2, .int .i64 y2] 43 (0, 0)), .row (.slice ap np cp) np 2 (rowC encP ps) w.heap.size] v' (Rs ++ [(RowD.mk a1 c1 l1)]) (D :: Ds) wx) (fun v => m1 - (intOf v).toNat)
            · exact ⟨rfl, 0, by omega, rfl, rfl, HS.out⟩
            rintro u2 ds2 wx ⟨rfl, j, hj, hu1, hu2, hR⟩
            simp only [setS, List.foldl, List.setIfInBounds_toArray, List.set_cons_succ, List.set_cons_zero]
            rw [hu1, hu2]
            clear HS hu1 hu2
            have HS := Lib.hid hR
            clear hR
            by_cases hjm : j < m1
            · have HE4 := Lib.hid (show wrap64 ((j : Int) + 1) = ((j + 1 : Nat) : Int) by have := HL1.out.2.2; unfold wrap64; omega)
              obtain ⟨s, hs⟩ : ∃ s, l1[j]? = some s := ⟨_, List.getElem?_eq_getElem (by rw [HL1.out.2.1]; exact hjm)⟩
              obtain ⟨bb', off', ha1, -, c0, c1', c2⟩ := spCells HL1.out.2.1 (HS.out.elems 2 rfl) j s hs
              have HJ := Lib.hid hjm
              obtain ⟨sy, sf, st⟩ := s
              simp only at c0 c1' c2
              subst ha1
              clear hs
              repeat ((fail_if_success (with_reducible refine stop_atI (id := 32) ?_)); (first | go_values | gi_guarded | gi_step | gi_upon | gi_back | (simp only [Int.not_lt, Int.not_le] at *; go_simp) | (go_values <;> (try go_simp)) | (go_ite <;> go_prune <;> (try go_simp)) | (split <;> (first | (rename_i hx; exact (hx _ rfl).elim) | go_prune))))
              clear c0 c1' c2
              have hs_ := (HS.out.alloc (.cells #[.int .i64 sy, .int .i64 sf, .int .i64 st] 39))
              obtain ⟨wy, hw_⟩ : ∃ wy : World, (wx.alloc (.cells #[.int .i64 sy, .int .i64 sf, .int .i64 st] 39)) = wy := ⟨_, rfl⟩
              rw [hw_] at hs_
              try simp only [World.size_alloc] at hs_
              have HS := Lib.hid hs_
              rw [hw_]
              clear hw_ hs_
              have t12 := cell_of_block (k := 0) (HS.out.blockAt 4 rfl) rfl
              have e4 := HE4.out
              gi_wp2
              clear t12
              refine roundS_mix (.int .i64 ((j + 1 : Nat) : Int)) (by kernel_rfl) (by kernel_rfl) ⟨rfl, j + 1, HJ.out, ?_, rfl, HS.out.sub (.cons _ (List.Sublist.refl _))⟩ ?_ ?_
              · first | exact congrArg (Value.int .i64) e4 | rfl
              · first | exact congrArg (Value.int .i64) e4 | rfl
              · exact meas_step HJ.out
            · obtain rfl : m1 = j := by omega
              have hna : NA = 0 := by rw [← hNA, ← HA2.out.1]; unfold allL; rw [HR.out]; rfl
              have hcount := count_any a1 m1 c1 l1 HL1.out.2.1 (by have := HL1.out.2.2; omega) wx (HS.out.elems 2 rfl) (by rw [HA2.out.1]; have := HA2.out.2; omega)
              rw [HA2.out.1, hNA] at hcount
              have HCT := Lib.hid hcount
              subst hna
              clear hcount hj hjm
              have t11 := cell_of_block (k := 0) (HS.out.blockAt 4 rfl) rfl
              gi_wp2_with fail
              clear t11
              refine (callsIn_wide.2 (HCT.out)).mono ?_
              rintro e wc ⟨rfl, hb_⟩
              have HS := Lib.hid (HS.out.below hb_)
              clear hb_
              clear HCT
              have c18 := cell_of_block (k := 0) (HS.out.blockAt 1 rfl) rfl
              obtain ⟨m8, hm8⟩ : ∃ m8, min np 8 = m8 := ⟨_, rfl⟩
              have e8 : min (np : Int) 8 = (m8 : Int) := by omega
              have hm8c : m8 ≤ cp := by have := HPL.out; omega
              have HM8 := Lib.hid (show m8 ≤ np ∧ m8 ≤ 8 by omega)
              gi_wp2
              clear c18 e8 hm8c hm8
              apply wpIn_loopS [24, 131, 132, 133, 134, 135, 136, 137, 138, 139, 140, 141, 142, 143, 144, 145] 131 (by decide) (by exact Nat.lt_of_lt_of_le (show 131 < 180 by decide) (Nat.le_refl _)) (fun u ds wx => ds = marksOf (D :: Ds) ∧ ∃ i : Nat, i ≤ m8 ∧ u 131 = .int .i64 (i : Int) ∧ Rnd w B0 [.blk w12.heap.size (.cells #[.slice a1 m1 c1] 29 (0, 0)), .blk w11.heap.size (.cells #[.int .i64 (((0 : Nat)) : Int)] 3 (0, 0)), .row (.slice a1 m1 c1) m1 3 (rowC encS l1) w7.heap.size, .blk w5.heap.size (.cells #[.bool false] 4 (0, 0)), .blk w3.heap.size (.cells #[.slice a1 m1 c1] 29 (0, 0)), .blk (w.heap.size + 1) (.cells #[.bool false] 4 (0, 0)), .blk w.heap.size (.cells #[.int .i64 x1, .int .i64 y1, .int .i64 x2, .int .i64 y2] 43 (0, 0)), .row (.slice ap np cp) np 2 (rowC encP ps) w.heap.size] v' (Rs ++ [(RowD.mk a1 c1 l1)]) (D :: Ds) wx) (fun v => m8 - (intOf v).toNat)
              · exact ⟨rfl, 0, by omega, rfl, HS.out⟩
              rintro u3 ds3 wp ⟨rfl, i, hi, hu1, hR⟩
              simp only [setS, List.foldl, List.setIfInBounds_toArray, List.set_cons_succ, List.set_cons_zero]
              rw [hu1]
              clear HS hu1
              have HS := Lib.hid hR
              clear hR
              by_cases him : i < m8
              · have HE4 := Lib.hid (show wrap64 ((i : Int) + 1) = ((i + 1 : Nat) : Int) by have := HM8.out; unfold wrap64; omega)
                obtain ⟨s, hs⟩ : ∃ s, ps[i]? = some s := ⟨_, List.getElem?_eq_getElem (by rw [HPL.out.1]; have := HM8.out; omega)⟩
                obtain ⟨bb', off', hap, -, c0, c1'⟩ := ptCells HPL.out.1 (HS.out.elems 7 rfl) i s hs
                have HJ := Lib.hid him
                obtain ⟨sx, sy⟩ := s
                simp only at c0 c1'
                subst hap
                clear hs
                gi_wp2_with fail
                clear c0 c1'
                have hs_ := (HS.out.alloc (.cells #[.int .i64 sx, .int .i64 sy] 28))
                obtain ⟨wq, hw_⟩ : ∃ wq : World, (wp.alloc (.cells #[.int .i64 sx, .int .i64 sy] 28)) = wq := ⟨_, rfl⟩
                rw [hw_] at hs_
                try simp only [World.size_alloc] at hs_
                have HS := Lib.hid hs_
                rw [hw_]
                clear hw_ hs_
                obtain ⟨hv, hhv⟩ : ∃ hv, hasB l1 ⟨sx, sy⟩ = hv := ⟨_, rfl⟩
                have HH1 := Lib.hid (fun w' h => shHas_any a1 m1 c1 l1 HL1.out.2.1 (by have := HL1.out.2.2; omega) ⟨sx, sy⟩ w' h)
                have HH2 := Lib.hid (fun w' h => refHas_any a1 m1 c1 l1 HL1.out.2.1 (by have := HL1.out.2.2; omega) ⟨sx, sy⟩ w' h)
                simp only [HR.out, hhv, Bool.true_and, Bool.false_and] at HH1 HH2
                clear hhv
                apply wp_region_vals 10 (Rl := [(eqv _), (eqv _), (eqv _), (eqv _), (eqv _), (fun v_ _ => v_ = (undef : Value)), (fun v_ _ => v_ = (undef : Value)), (fun v_ _ => v_ = (undef : Value)), (eqv _), (eqv _)]) (C := (fun x y => Below x.heap.size x y))
                case hm => kernel_rfl
                case hk => rfl
                case hCr => exact (fun _ => Below.refl _ _)
                case hCt => intro _ _ _; exact (fun h k => grows_trans h k)
                case hst => exact ⟨fun _ _ _ _ h => h, fun _ _ _ _ h => h, fun _ _ _ _ h => h, fun _ _ _ _ h => h, fun _ _ _ _ h => h, fun _ _ _ _ h => h, fun _ _ _ _ h => h, fun _ _ _ _ h => h, fun _ _ _ _ h => h, fun _ _ _ _ h => h, trivial⟩
                case hfo => kernel_rfl
                case ht => kernel_rfl
                case hC0 => exact (grows_drew _)
                case hsteps =>
                  refine ⟨?_, ?_, ?_, ?_, ?_, ?_, ?_, ?_, ?_, ?_, trivial⟩
                  · -- 0
                    intro a' w' hA hC hD
                    have s11 : a'.tmps[11]? = some _ := (hA.at 11 (by kernel_rfl)).trans rfl
                    have h1_ := (HS.out.below hC).blockAt 5 rfl; have c1_0 := cell_of_block (k := 0) h1_ rfl; clear h1_
                    clear hA hD
                    refine stepOk_plain rfl ?_
                    intro K hK
                    gi_wp2
                    exact hK _ _ rfl ((fun _ => Below.refl _ _) _)
                  · -- 1
                    intro a' w' hA hC hD
                    have s24 : a'.tmps[24]? = some _ := (hA.at 24 (by kernel_rfl)).trans rfl
                    have h1_ := (HS.out.below hC).blockAt 0 rfl; have c1_0 := cell_of_block (k := 0) h1_ rfl; have c1_1 := cell_of_block (k := 1) h1_ rfl; clear h1_
                    clear hA hD
                    refine stepOk_plain rfl ?_
                    intro K hK
                    gi_wp2
                    exact hK _ _ rfl ((fun _ => Below.refl _ _) _)
                  · -- 2
                    intro a' w' hA hC hD
                    obtain ⟨u135, s135, r135⟩ := hD ⟨0, .data⟩ (by simp) rfl _ rfl
                    replace r135 : u135 = _ := r135
                    subst r135
                    obtain ⟨u136, s136, r136⟩ := hD ⟨1, .data⟩ (by simp) rfl _ rfl
                    replace r136 : u136 = _ := r136
                    subst r136
                    clear hA hD
                    refine stepOk_plain rfl ?_
                    intro K hK
                    gi_wp2_with fail; refine (callsIn_wide.2 (HH1.out _ ((HS.out.elems 3 rfl).below hC))).mono ?_; rintro e w2 ⟨rfl, hb⟩
                    exact hK _ _ rfl hb
                  · -- 3
                    intro a' w' hA hC hD
                    have s12 : a'.tmps[12]? = some _ := (hA.at 12 (by kernel_rfl)).trans rfl
                    have h1_ := (HS.out.below hC).blockAt 4 rfl; have c1_0 := cell_of_block (k := 0) h1_ rfl; clear h1_
                    clear hA hD
                    refine stepOk_plain rfl ?_
                    intro K hK
                    gi_wp2
                    exact hK _ _ rfl ((fun _ => Below.refl _ _) _)
                  · -- 4
                    intro a' w' hA hC hD
                    obtain ⟨u138, s138, r138⟩ := hD ⟨3, .data⟩ (by simp) rfl _ rfl
                    replace r138 : u138 = _ := r138
                    subst r138
                    clear hA hD
                    refine stepOk_plain rfl ?_
                    intro K hK
                    gi_wp2
                    exact hK _ _ rfl ((fun _ => Below.refl _ _) _)
                  · -- 5
                    intro a' w' hA hC hD
                    have s11 : a'.tmps[11]? = some _ := (hA.at 11 (by kernel_rfl)).trans rfl
                    obtain ⟨u139, s139, r139⟩ := hD ⟨4, .guard⟩ (by simp) rfl _ rfl
                    replace r139 : u139 = _ := r139
                    subst r139
                    clear hA hD
                    exact stepOk_skip rfl rfl s139 rfl
                  · -- 6
                    intro a' w' hA hC hD
                    have s24 : a'.tmps[24]? = some _ := (hA.at 24 (by kernel_rfl)).trans rfl
                    obtain ⟨u139, s139, r139⟩ := hD ⟨4, .guard⟩ (by simp) rfl _ rfl
                    replace r139 : u139 = _ := r139
                    subst r139
                    clear hA hD
                    exact stepOk_skip rfl rfl s139 rfl
                  · -- 7
                    intro a' w' hA hC hD
                    obtain ⟨u140, s140, r140⟩ := hD ⟨5, .data⟩ (by simp) rfl _ rfl
                    replace r140 : u140 = undef := r140
                    subst r140
                    obtain ⟨u141, s141, r141⟩ := hD ⟨6, .data⟩ (by simp) rfl _ rfl
                    replace r141 : u141 = undef := r141
                    subst r141
                    obtain ⟨u139, s139, r139⟩ := hD ⟨4, .chain⟩ (by simp) rfl _ rfl
                    replace r139 : u139 = _ := r139
                    subst r139
                    clear hA hD
                    exact stepOk_skip rfl rfl s139 rfl
                  · -- 8
                    intro a' w' hA hC hD
                    obtain ⟨u139, s139, r139⟩ := hD ⟨4, .data⟩ (by simp) rfl _ rfl
                    replace r139 : u139 = _ := r139
                    subst r139
                    obtain ⟨u142, s142, r142⟩ := hD ⟨7, .data⟩ (by simp) rfl _ rfl
                    replace r142 : u142 = undef := r142
                    subst r142
                    clear hA hD
                    refine stepOk_plain rfl ?_
                    intro K hK
                    gi_wp2
                    exact hK _ _ rfl ((fun _ => Below.refl _ _) _)
                  · -- 9
                    intro a' w' hA hC hD
                    obtain ⟨u137, s137, r137⟩ := hD ⟨2, .data⟩ (by simp) rfl _ rfl
                    replace r137 : u137 = _ := r137
                    subst r137
                    obtain ⟨u143, s143, r143⟩ := hD ⟨8, .data⟩ (by simp) rfl _ rfl
                    replace r143 : u143 = _ := r143
                    subst r143
                    clear hA hD
                    refine stepOk_plain rfl ?_
                    intro K hK
                    gi_wp2
                    exact hK _ _ rfl ((fun _ => Below.refl _ _) _)
                case hend =>
                  intro wz hC
                  simp only [EndFrom, eqv, forall_eq, Act.put, List.length_cons, List.length_nil, List.drop_succ_cons, List.drop_zero, Nat.reduceAdd, List.setIfInBounds_toArray, List.set_cons_succ, List.set_cons_zero]
                  have HS := Lib.hid (HS.out.below hC)
                  clear hC
                  have e4 := HE4.out
                  gi_wp2
                  refine roundS_mix (.int .i64 ((i + 1 : Nat) : Int)) (by kernel_rfl) (by kernel_rfl) ⟨rfl, i + 1, HJ.out, ?_, HS.out.sub (.cons _ (List.Sublist.refl _))⟩ ?_ ?_
                  · first | exact congrArg (Value.int .i64) e4 | rfl
                  · first | exact congrArg (Value.int .i64) e4 | rfl
                  · exact meas_step HJ.out
              · obtain rfl : i = m8 := by omega
                clear hi him
                have e3 := HE3.out
                gi_wp2
                refine roundS_mix (.int .i64 ((k + 1 : Nat) : Int)) (by kernel_rfl) (by kernel_rfl) ⟨k + 1, HKK.out.1, ?_, v', Rs ++ [(RowD.mk a1 c1 l1)], D :: Ds, rfl, ?_, rfl, HRS2.out, HKK.out.2, HS.out.sub (.cons _ (.cons _ (.cons _ (.cons _ (.cons _ (.cons_cons _ (.cons_cons _ (.cons_cons _ (List.nil_sublist _)))))))))⟩ ?_ ?_
                · first | exact congrArg (Value.int .i64) e3 | rfl
                · rw [HAL2.out]; rfl
                · first | exact congrArg (Value.int .i64) e3 | rfl
                · exact meas_step HKK.out.1
      · have HR := Lib.hid hr
        clear hr
        gi_wp2_with fail
        have hs_ := (HS.out.alloc (.cells #[.bool true] 4))
        obtain ⟨w6, hw_⟩ : ∃ w6 : World, (w5.alloc (.cells #[.bool true] 4)) = w6 := ⟨_, rfl⟩
        rw [hw_] at hs_
        try simp only [World.size_alloc] at hs_
        have HS := Lib.hid hs_
        rw [hw_]
        clear hw_ hs_
        have hz35 : w3.heap.size < w6.heap.size := HS.out.lt 1 rfl
        have hz56 : w5.heap.size < w6.heap.size := HS.out.lt 0 rfl
        have hz45 : w3.heap.size < w5.heap.size := by have h_ := HS.out.st.ord; simp [ItOrd, It.top] at h_; omega
        have HC11 := Lib.hid (fun (w' : World) (hC : w6.grownBy w' (u 7).ownBlock) => (hC.block w3.heap.size hz35 (fun e => by have h_ := HG.out _ e.symm; omega)).trans (HS.out.blockAt 1 rfl))
        have HC12 := Lib.hid (fun (w' : World) (hC : w6.grownBy w' (u 7).ownBlock) => (hC.block w5.heap.size hz56 (fun e => by have h_ := HG.out _ e.symm; omega)).trans (HS.out.blockAt 0 rfl))
        have HZ6 := Lib.hid (And.intro hz35 (And.intro hz56 (And.intro hz45 HS.out.hW)))
        have hqn : Rs.length + 1 ≤ 4 := by
          have h_ := congrArg List.length HRS.out
          simp only [List.length_map, List.length_take] at h_
          have := HKK.out
          omega
        have HQN := Lib.hid hqn
        obtain ⟨i0, hi, hz0, hz1, hz2⟩ := info_parts infoR
        have HI := Lib.hid (And.intro hi (And.intro hz0 (And.intro hz1 hz2)))
        have HRW := Lib.hid HS.out.own.row
        clear hi hz0 hz1 hz2 hz35 hz56 hz45 hqn
        apply wp_region_storeU (fun i => Nat.beq i 8) 9 3 (fun b_ w_ => KeepsIf b_ (w_.ownsRow B0 29 1 (u 7) Rs.length (Rs.flatMap encR))) (Rl := [(eqv _), (eqv _), (fun v_ w_ => ∃ b, v_ = .slice (some ⟨b, 0, none⟩) 1 1 ∧ (u 7).ownBlock ≠ some b ∧ w_.heap[b]? = some (.cells #[.slice a1 m1 c1] 29 (0, 0))), (fun v_ w_ => w_.ownsRow B0 29 1 v_ (Rs ++ [(RowD.mk a1 c1 l1)]).length ((Rs ++ [(RowD.mk a1 c1 l1)]).flatMap encR) ∧ Loc (u 7) v_ w6.heap.size), (eqv _), (eqv _), (eqv _), (eqv _), (fun v_ w_ => w_.ownsRow B0 29 1 v_ (Rs ++ [(RowD.mk a1 c1 l1)]).length ((Rs ++ [(RowD.mk a1 c1 l1)]).flatMap encR) ∧ Loc (u 7) v_ w6.heap.size)]) (C := (fun x y => x.grownBy y (u 7).ownBlock)) (C0 := (fun x y => Below x.heap.size x y))
        case haf => kernel_rfl
        case hm => kernel_rfl
        case hk => rfl
        case hCr => exact (fun x => World.grownBy.refl x _)
        case hCt => intro _ _ _; exact (fun h k => grownTrans h k)
        case h00 => exact (fun x => Below.refl _ x)
        case h0C => intro _ _; exact fun h => ⟨h.os, h.tape, h.output, h.size, fun k hk _ => h.block k hk⟩
        case hst => exact ⟨fun _ _ _ _ h => h, fun _ _ _ _ h => h, fun v x y hC ⟨b, h1, h2, h3⟩ => ⟨b, h1, h2, (hC.block b (block_lt h3) h2.symm).trans h3⟩, fun v x y hC ⟨h1, h2⟩ => ⟨ownsRow_below h1 hC, h2⟩, fun _ _ _ _ h => h, fun _ _ _ _ h => h, fun _ _ _ _ h => h, fun _ _ _ _ h => h, fun v x y hC ⟨h1, h2⟩ => ⟨ownsRow_below h1 hC, h2⟩, trivial⟩
        case hfo => kernel_rfl
        case ht => kernel_rfl
        case hC0 => exact (⟨rfl, rfl, rfl, Nat.le_refl _, fun _ _ _ => rfl⟩)
        case hsk => decide
        case hso => decide
        case hsg => rfl
        case hsteps =>
          refine ⟨?_, ?_, ?_, ?_, ?_, ?_, ?_, ?_, ?_, trivial⟩
          · -- 0
            intro a' w' b_ hA hC hJ hB1 hB2 hU hD
            obtain rfl := hB1 (by kernel_rfl)
            clear hB1 hB2
            have s7 : a'.tmps[7]? = some _ := (hU 8 _ 7 (Nat.lt_of_lt_of_le (show 8 < 9 by decide) (Nat.le_refl _)) rfl rfl (.inl (by kernel_rfl))).trans rfl
            clear hA hD hU
            refine stepOk_plain rfl ?_
            intro K hK
            gi_wp2
            exact hK _ _ rfl ⟨(fun x => Below.refl _ x) _, hJ⟩
          · -- 1
            intro a' w' b_ hA hC hJ hB1 hB2 hU hD
            obtain rfl := hB1 (by kernel_rfl)
            clear hB1 hB2
            have s11 : a'.tmps[11]? = some _ := (hA.at 11 (by kernel_rfl)).trans rfl
            have b1 := cell_of_block (k := 0) (HC11.out w' hC) rfl
            clear hA hD hU
            refine stepOk_plain rfl ?_
            intro K hK
            gi_wp2
            exact hK _ _ rfl ⟨(fun x => Below.refl _ x) _, hJ⟩
          · -- 2
            intro a' w' b_ hA hC hJ hB1 hB2 hU hD
            obtain rfl := hB1 (by kernel_rfl)
            clear hB1 hB2
            obtain ⟨u47, s47, r47⟩ := hD ⟨1, .data⟩ (by simp) rfl _ rfl
            replace r47 : u47 = _ := r47
            subst r47
            clear hA hD hU
            refine stepOk_plain rfl ?_
            intro K hK
            gi_wp2
            exact hK _ _ ⟨w'.heap.size, rfl, fun e => by have := HG.out _ e; have := HZ6.out; have := hC.size; omega, newBlock _ _ _ rfl⟩ ⟨(Below.refl _ _).alloc (Nat.le_refl _) _, fun hb => (hJ hb).alloc _⟩
          · -- 3
            intro a' w' b_ hA hC hJ hB1 hB2 hU hD
            obtain rfl := hB2 rfl
            clear hB1 hB2
            obtain ⟨u46, s46, r46⟩ := hD ⟨0, .data⟩ (by simp) rfl _ rfl
            replace r46 : u46 = _ := r46
            subst r46
            obtain ⟨u48, s48, r48⟩ := hD ⟨2, .data⟩ (by simp) rfl _ rfl
            replace r48 : (fun v_ w_ => ∃ b, v_ = .slice (some ⟨b, 0, none⟩) 1 1 ∧ (u 7).ownBlock ≠ some b ∧ w_.heap[b]? = some (.cells #[.slice a1 m1 c1] 29 (0, 0))) u48 w' := r48
            obtain ⟨g, hg48, hbn, hbk⟩ := r48; subst hg48
            clear hA hD hU
            refine stepOk_plain rfl ?_
            intro K hK
            have H := HI.out; obtain ⟨v', w'', hrun, hr1, hr2, _, hr4⟩ := run_append_own_at (P := Try.prog) w' B0 58 58 29 i0 (.slice none 0 0) 1 24 Try.underlying58 H.1 H.2.1 H.2.2.1 H.2.2.2 rfl (by decide) (u 7) Rs.length (Rs.flatMap encR) (hJ rfl) ⟨g, 0, none⟩ 1 1 (encR (RowD.mk a1 c1 l1)) rfl (fun j x hx => cells_of_block hbk j x (by simpa [encR, HL1.out.2.1] using hx)) (encR_one _) (by have := HQN.out; unfold maxLen; omega) (by have := HQN.out; omega) (by have h_ := hC.size; have h2_ := HZ6.out; omega); refine opIn_append _ _ _ rfl (by simp [Act.eval, s46]) (by simp [Act.eval, s48]) hrun (hK v' w'' ⟨?_, ?_⟩ ⟨hr2, fun h => by cases h⟩); (rw [List.length_append, List.flatMap_append]; simpa using hr1); (rcases hr4 with h | h; exact .inl h; exact .inr ⟨_, h, hC.size⟩)
            skip
          · -- 4
            intro a' w' b_ hA hC hJ hB1 hB2 hU hD
            skip
            clear hB1 hB2
            have s8 : a'.tmps[8]? = some _ := (hA.at 8 (by kernel_rfl)).trans rfl
            clear hA hD hU
            refine stepOk_plain rfl ?_
            intro K hK
            gi_wp2
            exact hK _ _ rfl ⟨(fun x => Below.refl _ x) _, hJ⟩
          · -- 5
            intro a' w' b_ hA hC hJ hB1 hB2 hU hD
            skip
            clear hB1 hB2
            obtain ⟨u50, s50, r50⟩ := hD ⟨4, .data⟩ (by simp) rfl _ rfl
            replace r50 : u50 = _ := r50
            subst r50
            clear hA hD hU
            refine stepOk_plain rfl ?_
            intro K hK
            gi_wp2
            exact hK _ _ rfl ⟨(fun x => Below.refl _ x) _, hJ⟩
          · -- 6
            intro a' w' b_ hA hC hJ hB1 hB2 hU hD
            skip
            clear hB1 hB2
            have s12 : a'.tmps[12]? = some _ := (hA.at 12 (by kernel_rfl)).trans rfl
            obtain ⟨u51, s51, r51⟩ := hD ⟨5, .guard⟩ (by simp) rfl _ rfl
            replace r51 : u51 = _ := r51
            subst r51
            have b1 := cell_of_block (k := 0) (HC12.out w' hC) rfl
            clear hA hD hU
            refine stepOk_want rfl rfl s51 ?_
            intro K hK
            gi_wp2
            exact hK _ _ rfl ⟨(fun x => Below.refl _ x) _, hJ⟩
          · -- 7
            intro a' w' b_ hA hC hJ hB1 hB2 hU hD
            skip
            clear hB1 hB2
            obtain ⟨u51, s51, r51⟩ := hD ⟨5, .data⟩ (by simp) rfl _ rfl
            replace r51 : u51 = _ := r51
            subst r51
            obtain ⟨u52, s52, r52⟩ := hD ⟨6, .data⟩ (by simp) rfl _ rfl
            replace r52 : u52 = _ := r52
            subst r52
            clear hA hD hU
            refine stepOk_plain rfl ?_
            intro K hK
            gi_wp2
            exact hK _ _ rfl ⟨(fun x => Below.refl _ x) _, hJ⟩
          · -- 8
            intro a' w' b_ hA hC hJ hB1 hB2 hU hD
            skip
            clear hB1 hB2
            obtain ⟨u49, s49, r49⟩ := hD ⟨3, .data⟩ (by simp) rfl _ rfl
            replace r49 : (fun v_ w_ => w_.ownsRow B0 29 1 v_ (Rs ++ [(RowD.mk a1 c1 l1)]).length ((Rs ++ [(RowD.mk a1 c1 l1)]).flatMap encR) ∧ Loc (u 7) v_ w6.heap.size) u49 w' := r49
            clear hA hD hU
            refine stepOk_plain rfl ?_
            intro K hK
            gi_wp2
            exact hK _ _ r49 ⟨Below.refl _ _, hJ⟩
        case hJ0 => exact fun _ => HRW.out.drew
        case hend =>
          intro w7 hC hJ
          simp only [EndFrom, eqv, forall_eq, Act.put, List.length_cons, List.length_nil, List.drop_succ_cons, List.drop_zero, Nat.reduceAdd, List.setIfInBounds_toArray, List.set_cons_succ, List.set_cons_zero]
          rintro v2 - v3 - v' ⟨hr1, hr2⟩
          have hpush := (HS.out.sub (its' := [.blk w5.heap.size (.cells #[.bool true] 4 (0, 0)), .blk w3.heap.size (.cells #[.slice a1 m1 c1] 29 (0, 0)), .blk (w.heap.size + 1) (.cells #[.bool false] 4 (0, 0)), .blk w.heap.size (.cells #[.int .i64 x1, .int .i64 y1, .int .i64 x2, .int .i64 y2] 43 (0, 0)), .row (.slice ap np cp) np 2 (rowC encP ps) w.heap.size]) (.cons_cons _ (.cons_cons _ (.cons _ (List.Sublist.refl _))))).push (r := (RowD.mk a1 c1 l1)) (fun i hi g hg => by
            have h_ := HG.out g hg
            have h2_ := HZ6.out
            have h3_ := HZ.out
            simp at hi
            rcases hi with rfl | rfl | rfl | rfl | rfl <;> simp only [It.free] <;> omega) (by rw [HL1.out.2.1]; exact HS.out.elems 2 rfl) (fun g hg => (HG.out g hg).2.2) hC hr1 hr2
          have hel := (hpush.own.each (RowD.mk a1 c1 l1) (by simp)).1
          rw [HL1.out.2.1] at hel
          have HS := Lib.hid (hpush.addRow hel)
          have HRS2 := Lib.hid (show (Rs ++ [(RowD.mk a1 c1 l1)]).map (·.l) = (lls.take (k + 1)).map (fun l => l.take 40) by
            rw [List.map_append, HRS.out, List.take_add_one, HX.out]
            simp [HL1.out.1])
          have HAL2 := Lib.hid (show ((Rs ++ [(RowD.mk a1 c1 l1)]).map (·.l)).all rightB = true by
            rw [List.map_append, List.all_append, HAL.out]
            simp [HR.out])
          clear hpush hel hr1 hr2 hC hJ
          have t11 := cell_of_block (k := 0) (HS.out.blockAt 2 rfl) rfl
          gi_wp2_with fail
          clear t11
          have HCK := Lib.hid (check_any a1 m1 c1 l1 HL1.out.2.1 (by have := HL1.out.2.2; omega) w7 (HS.out.elems 0 rfl))
          rw [HR.out, errOf_true] at HCK
          refine (callsIn_wide.2 (HCK.out)).mono ?_
          rintro e w8 ⟨rfl, hb_⟩
          have HS := Lib.hid (HS.out.below hb_)
          clear hb_
          clear HCK
          have t11 := cell_of_block (k := 0) (HS.out.blockAt 2 rfl) rfl
          have t12 := cell_of_block (k := 0) (HS.out.blockAt 1 rfl) rfl
          have b0 := cell_of_block (k := 0) (HS.out.blockAt 4 rfl) rfl
          have b1 := cell_of_block (k := 1) (HS.out.blockAt 4 rfl) rfl
          have b2 := cell_of_block (k := 2) (HS.out.blockAt 4 rfl) rfl
          have b3 := cell_of_block (k := 3) (HS.out.blockAt 4 rfl) rfl
          gi_wp2_with fail
          clear t11 t12
          clear b0 b1 b2 b3
          obtain ⟨cl, hcl⟩ : ∃ cl, clipL ⟨x1, y1, x2, y2⟩ l1 = cl := ⟨_, rfl⟩
          obtain ⟨nc, hnc⟩ : ∃ nc, cl.length = nc := ⟨_, rfl⟩
          have HCL := Lib.hid (show cl.length = nc ∧ nc ≤ 40 by
            refine ⟨hnc, ?_⟩
            have h_ := clipL_len ⟨x1, y1, x2, y2⟩ l1 l1.length
            rw [List.take_length, hcl, hnc] at h_
            have := HL1.out
            omega)
          have HC1 := Lib.hid (clipGot a1 m1 c1 l1 HL1.out.2.1 (by have := HL1.out.2.2; omega) HR.out ⟨x1, y1, x2, y2⟩ w8 (HS.out.elems 0 rfl))
          rw [hcl, hnc] at HC1
          refine (callsIn_wide.2 (HC1.out)).mono ?_
          rintro e w9 ⟨-, a9, c9, rfl, he_, hb_⟩
          have HS := Lib.hid ((HS.out.below hb_).addRow he_)
          clear hb_ he_
          have t11 := cell_of_block (k := 0) (HS.out.blockAt 3 rfl) rfl
          have t12 := cell_of_block (k := 0) (HS.out.blockAt 2 rfl) rfl
          have b0 := cell_of_block (k := 0) (HS.out.blockAt 5 rfl) rfl
          have b1 := cell_of_block (k := 1) (HS.out.blockAt 5 rfl) rfl
          have b2 := cell_of_block (k := 2) (HS.out.blockAt 5 rfl) rfl
          have b3 := cell_of_block (k := 3) (HS.out.blockAt 5 rfl) rfl
          gi_wp2_with fail
          clear t11 t12
          clear b0 b1 b2 b3
          have HC2 := Lib.hid (fun w' h => (refClip_any a1 m1 c1 l1 HL1.out.2.1 (by have := HL1.out.2.2; omega) ⟨x1, y1, x2, y2⟩ w' h).mono fun _ _ q => q.gotV encS_len)
          simp only [hcl, hnc] at HC2
          refine (callsIn_wide.2 (HC2.out _ (HS.out.elems 1 rfl))).mono ?_
          rintro e w10 ⟨v10, rfl, he_, hb_⟩
          have HS := Lib.hid ((HS.out.below hb_).addRow he_)
          clear he_ hb_ hcl hnc HC1 HC2
          gi_wp2_with fail
          refine (callsIn_wide.2 (eqS_same _ _ cl nc HCL.out.1 _ (HS.out.elems 1 rfl) (HS.out.elems 0 rfl) (by have := HCL.out.2; omega))).mono ?_
          rintro e w11 ⟨rfl, hb_⟩
          have HS := Lib.hid (HS.out.below hb_)
          clear hb_
          have t11 := cell_of_block (k := 0) ((HS.out.alloc (.cells #[.int .i64 0] 3)).blockAt 5 rfl) rfl
          have HLT := Lib.hid (fun g (hg : v'.ownBlock = some g ∨ ∃ r ∈ Rs ++ [(RowD.mk a1 c1 l1)], g ∈ aBlk r.a) => HS.out.own.lt g hg)
          have HA1 := Lib.hid (aBlk_lt (HS.out.elems 2 rfl))
          have hw11 : w.heap.size + 1 < w11.heap.size := HS.out.lt 5 rfl
          gi_wp2_with fail
          clear t11
          have hs_ := (HS.out.alloc (.cells #[.int .i64 0] 3))
          obtain ⟨w12, hw_⟩ : ∃ w12 : World, (w11.alloc (.cells #[.int .i64 0] 3)) = w12 := ⟨_, rfl⟩
          rw [hw_] at hs_
          try simp only [World.size_alloc] at hs_
          have HS := Lib.hid hs_
          rw [hw_]
          clear hw_ hs_
          have hz12 : w11.heap.size < w12.heap.size := HS.out.lt 0 rfl
          refine (callsIn_wide.2 (all_any _ _ _ _)).mono ?_
          rintro e w' ⟨rfl, rfl⟩
          have hs_ := (HS.out.alloc (.cells #[.slice a1 m1 c1] 29))
          obtain ⟨w13, hw_⟩ : ∃ w13 : World, (w12.alloc (.cells #[.slice a1 m1 c1] 29)) = w13 := ⟨_, rfl⟩
          rw [hw_] at hs_
          try simp only [World.size_alloc] at hs_
          have HS := Lib.hid hs_
          rw [hw_]
          clear hw_ hs_
          have hz13 : w12.heap.size < w13.heap.size := HS.out.lt 0 rfl
          gi_wp2_with fail
          have hbs : ∀ c ∈ w12.heap.size :: aBlk a1, c < w13.heap.size := by
            intro c hc
            rcases List.mem_cons.1 hc with rfl | hc
            · exact hz13
            · have := HA1.out c hc; omega
          have hnb : w11.heap.size ∉ w12.heap.size :: aBlk a1 := by
            intro hc
            rcases List.mem_cons.1 hc with e | hc
            · omega
            · have := HA1.out _ hc; omega
          obtain ⟨A, hA⟩ : ∃ A, allL l1 = A := ⟨_, rfl⟩
          have hAle : A.length ≤ 20480 := by
            rw [← hA]
            unfold allL
            cases hq : rightB l1
            · simp
            · have h_ := ptsL_le hq
              have := HL1.out
              simp only [cond_true]
              omega
          have hit := all_iter (fun _ _ => False) w13 (ownSt_none _) (fun _ h => h.elim) w12.heap.size (w12.heap.size :: aBlk a1) a1 m1 c1 l1 HL1.out.2.1 (by have := HL1.out.2.2; omega) A hA hbs (by simp) (fun b off e => List.mem_cons_of_mem _ (aBlk_mem e)) (cell_of_block (HS.out.blockAt 0 rfl) rfl) (HS.out.elems 4 rfl)
          have HA2 := Lib.hid (And.intro hA hAle)
          have hst := HS.out.sub (its' := [.blk w12.heap.size (.cells #[.slice a1 m1 c1] 29 (0, 0)), .blk w11.heap.size (.cells #[.int .i64 (0 : Int)] 3 (0, 0)), .row (.slice a1 m1 c1) m1 3 (rowC encS l1) w7.heap.size, .blk w5.heap.size (.cells #[.bool true] 4 (0, 0)), .blk w3.heap.size (.cells #[.slice a1 m1 c1] 29 (0, 0)), .blk (w.heap.size + 1) (.cells #[.bool false] 4 (0, 0)), .blk w.heap.size (.cells #[.int .i64 x1, .int .i64 y1, .int .i64 x2, .int .i64 y2] 43 (0, 0)), .row (.slice ap np cp) np 2 (rowC encP ps) w.heap.size]) (.cons_cons _ (.cons_cons _ (.cons _ (.cons _ (.cons_cons _ (.cons_cons _ (.cons_cons _ (.cons_cons _ (.cons_cons _ (.cons_cons _ (List.nil_sublist _)))))))))))
          have hDs : ∀ D ∈ Ds, D < w13.heap.size := HS.out.markLt
          clear HS hA hAle
          apply with_actIn
          intro a0 ha0
          refine range_iterO hit (by omega) (ownSt_none _) (by rw [ha0]; rfl) (enters_of Try.func54 (by kernel_rfl) rfl) hbs (fun _ => rfl) (fun x => [(89, (A[x.1]).val)]) (fun _ => by simp)
            (fun pre W => Rnd w B0 [.blk w12.heap.size (.cells #[.slice a1 m1 c1] 29 (0, 0)), .blk w11.heap.size (.cells #[.int .i64 (pre.length : Int)] 3 (0, 0)), .row (.slice a1 m1 c1) m1 3 (rowC encS l1) w7.heap.size, .blk w5.heap.size (.cells #[.bool true] 4 (0, 0)), .blk w3.heap.size (.cells #[.slice a1 m1 c1] 29 (0, 0)), .blk (w.heap.size + 1) (.cells #[.bool false] 4 (0, 0)), .blk w.heap.size (.cells #[.int .i64 x1, .int .i64 y1, .int .i64 x2, .int .i64 y2] 43 (0, 0)), .row (.slice ap np cp) np 2 (rowC encP ps) w.heap.size] v' (Rs ++ [(RowD.mk a1 c1 l1)]) Ds W ∧ w13.heap.size ≤ W.heap.size)
            (fun _ _ _ => False) (OwnFrom.and (ownFrom_Rnd (w0 := w) (fun (pre : List (Fin A.length)) => [.blk w12.heap.size (.cells #[.slice a1 m1 c1] 29 (0, 0)), .blk w11.heap.size (.cells #[.int .i64 (pre.length : Int)] 3 (0, 0)), .row (.slice a1 m1 c1) m1 3 (rowC encS l1) w7.heap.size, .blk w5.heap.size (.cells #[.bool true] 4 (0, 0)), .blk w3.heap.size (.cells #[.slice a1 m1 c1] 29 (0, 0)), .blk (w.heap.size + 1) (.cells #[.bool false] 4 (0, 0)), .blk w.heap.size (.cells #[.int .i64 x1, .int .i64 y1, .int .i64 x2, .int .i64 y2] 43 (0, 0)), .row (.slice ap np cp) np 2 (rowC encP ps) w.heap.size]) hst.hB (by omega) (by intro s b o hb; simp at hb; rcases hb with ⟨_, rfl⟩ | ⟨_, rfl⟩ | ⟨_, rfl⟩ | ⟨_, rfl⟩ | ⟨_, rfl⟩ | ⟨_, rfl⟩ <;> rfl) hDs) (ownFrom_size _)) (fun _ => ownFrom_pure _ _) ⟨hst, Nat.le_refl _⟩
            (fun x a' W => ∃ p, a' = loopAct a0 [(89, (A[x.1]).val), (19, .pointer (some ⟨p, 0, none⟩))] ∧ W.heap[p]? = some (.cells #[.int .i64 (A[x.1]).x, .int .i64 (A[x.1]).y] 28 (0, 0))) ?hAx ?assign ?body ?done ?stop
          case hAx =>
            rintro x a' s X Y row ⟨p, e, hp⟩ hg hr
            exact ⟨p, e, (grownBy_keeps_cells hg (fun r e => (hr r e).2) hp rfl).trans hp⟩
          case assign =>
            rintro ly pre x W K ⟨hI, hlt5⟩ hK
            have HK := Lib.hid hK
            have HI := Lib.hid hI
            clear hK hI
            rw [ha0] at HK ⊢
            unfold loopAct at HK ⊢
            simp only [PtT.val, List.foldl, List.setIfInBounds_toArray, List.set_cons_succ, List.set_cons_zero] at HK ⊢
            gi_wp2
            have hb := (Below.refl W.heap.size W).alloc (Nat.le_refl _) (.cells #[.int .i64 (A[x.1]).x, .int .i64 (A[x.1]).y] 28)
            exact HK.out _ _ (keepsFrom_below hb) (KO.of_below (ownSt_none _) hb hlt5 (fun c hc => Nat.lt_of_lt_of_le (hbs c hc) hlt5)) ⟨HI.out.below hb, Nat.le_trans hlt5 hb.size⟩ ⟨W.heap.size, rfl, World.alloc_heap_new W _⟩
          case body =>
            rintro ly pre x a' W ⟨hI, hlt5⟩ ⟨p, rfl, hp⟩ hlen
            rw [ha0]
            unfold loopAct
            have hqa : hasB l1 A[x.1] = true := mem_ptsL.1 (by rw [← allL_right HR.out, HA2.out.1]; exact List.getElem_mem _)
            have hcle : pre.length ≤ 20480 := by have := HA2.out.2; omega
            obtain ⟨q, hq⟩ : ∃ q, A[x.1] = q := ⟨_, rfl⟩
            obtain ⟨cn, hcn⟩ : ∃ cn, pre.length = cn := ⟨_, rfl⟩
            have hcn2 : (pre ++ [x]).length = cn + 1 := by rw [List.length_append, hcn]; rfl
            rw [hq] at hp hqa ⊢
            rw [hcn] at hI hcle
            have HCN := Lib.hid (And.intro hcn2 hcle)
            have HQA := Lib.hid hqa
            clear hq hcn hcn2 hcle hqa hlen
            obtain ⟨qx, qy⟩ := q
            simp only [PtT.val, List.foldl, List.setIfInBounds_toArray, List.set_cons_succ, List.set_cons_zero] at hp ⊢
            have c18 := cell_of_block (k := 0) (hI.blockAt 1 rfl) rfl
            have f18 := free_of_block (hI.blockAt 1 rfl) 0
            have wk : wrap64 ((cn : Int) + 1) = ((cn + 1 : Nat) : Int) := by have := HCN.out; unfold wrap64; omega
            have HI := Lib.hid hI
            have HP := Lib.hid hp
            clear hI hp
            repeat ((fail_if_success (with_reducible refine stop_atI (id := 26) ?_)); (first | go_values | gi_guarded | gi_step | gi_upon | gi_back | (simp only [Int.not_lt, Int.not_le] at *; go_simp) | (go_values <;> (try go_simp)) | (go_ite <;> go_prune <;> (try go_simp)) | (split <;> (first | (rename_i hx; exact (hx _ rfl).elim) | go_prune))))
            clear c18 f18
            change Code.wpIn _ _ _ _ _ _ (W.setCell ⟨w11.heap.size, 0, none⟩ (.int .i64 ((cn + 1 : Nat) : Int)))
            have hp2 := HI.out.putAt (pre := [_]) (by intro i hi; simp at hi; exact ⟨_, _, hi⟩) 0 (.int .i64 ((cn + 1 : Nat) : Int)) rfl (fun g hg => HLT.out g hg)
            have hko : KO (fun _ _ => False) (w12.heap.size :: aBlk a1) w13.heap.size W (W.setCell ⟨w11.heap.size, 0, none⟩ (.int .i64 ((cn + 1 : Nat) : Int))) := KO.setCell W _ _ _ (by omega) hnb
            have hkf : KeepsFrom w13.heap.size W (W.setCell ⟨w11.heap.size, 0, none⟩ (.int .i64 ((cn + 1 : Nat) : Int))) := (KeepsOthers.setCell W _ _).from _
            have hpp : (W.setCell ⟨w11.heap.size, 0, none⟩ (.int .i64 ((cn + 1 : Nat) : Int))).heap[p]? = some (.cells #[.int .i64 qx, .int .i64 qy] 28 (0, 0)) := by
              by_cases e : p = w11.heap.size
              · subst e
                have h_ := HI.out.blockAt 1 rfl
                rw [HP.out] at h_
                simp at h_
              · exact (Below.heap_setCell W ⟨w11.heap.size, 0, none⟩ _ p e).trans HP.out
            have hsz : W.heap.size ≤ (W.setCell ⟨w11.heap.size, 0, none⟩ (.int .i64 ((cn + 1 : Nat) : Int))).heap.size := by rw [World.size_setCell]; exact Nat.le_refl _
            obtain ⟨W2, hW2⟩ : ∃ W2 : World, W.setCell ⟨w11.heap.size, 0, none⟩ (.int .i64 ((cn + 1 : Nat) : Int)) = W2 := ⟨_, rfl⟩
            rw [hW2] at hp2 hko hkf hpp hsz ⊢
            have HI2 := Lib.hid hp2
            have HP2 := Lib.hid hpp
            have HKO := Lib.hid (And.intro hko (And.intro hkf (Nat.le_trans hlt5 hsz)))
            clear hp2 hko hkf hpp hsz hW2 wk
            have HUQ := Lib.hid (refHas_any a1 m1 c1 l1 HL1.out.2.1 (by have := HL1.out.2.2; omega) ⟨qx, qy⟩ W2 (HI2.out.elems 2 rfl))
            rw [HQA.out] at HUQ
            simp only [PtT.val] at HUQ
            have t12 := cell_of_block (k := 0) (HI2.out.blockAt 3 rfl) rfl
            have t11 := cell_of_block (k := 0) (HI2.out.blockAt 4 rfl) rfl
            have k0 := cell_of_block (k := 0) HP2.out rfl
            have k1 := cell_of_block (k := 1) HP2.out rfl
            gi_wp2_with fail
            refine ((callsIn_wide.2 HUQ.out).inRound ly).mono ?_
            rintro e W3 ⟨rfl, hb3⟩
            clear t12 t11 k0 k1 HUQ
            have HI3 := Lib.hid (HI2.out.below hb3)
            have HB3 := Lib.hid hb3
            clear hb3
            gi_wp2
            refine ⟨HKO.out.2.1.trans (keepsFrom_below HB3.out), HKO.out.1.trans (KO.of_below (ownSt_none _) HB3.out HKO.out.2.2 (fun c hc => Nat.lt_of_lt_of_le (hbs c hc) HKO.out.2.2)), ?_, Nat.le_trans HKO.out.2.2 HB3.out.size⟩
            rw [HCN.out.1]
            exact HI3.out
          case stop =>
            intro D c pre W _ _ h
            exact h.elim
          case done =>
            rintro D W hD ⟨hI, -⟩ hK
            rw [List.length_finRange] at hI
            have hm := hI.mark (by omega) hDs hD hK
            rw [ha0]
            dsimp only
            have HS := Lib.hid hm
            clear hm hI hK ha0 hit hbs hnb hst
            have t11 := cell_of_block (k := 0) (HS.out.blockAt 4 rfl) rfl
            gi_wp2
            clear t11
            obtain ⟨NA, hNA⟩ : ∃ NA, A.length = NA := ⟨_, rfl⟩
            rw [hNA] at HS
            apply wpIn_loopS [20, 22, 102, 103, 104, 105, 106, 107, 108, 109, 110, 111, 112, 113, 114, 115] 102 (by decide) (by exact Nat.lt_of_lt_of_le (show 102 < 180 by decide) (Nat.le_refl _)) (fun u ds wx => ds = marksOf (D :: Ds) ∧ ∃ j : Nat, j ≤ m1 ∧ u 102 = .int .i64 (j : Int) ∧ u 20 = .int .i64 ((posL l1 j : Nat) : Int) ∧ Rnd w B0 [.blk w12.heap.size (.cells #[.slice a1 m1 c1] 29 (0, 0)), .blk w11.heap.size (.cells #[.int .i64 (NA : Int)] 3 (0, 0)), .row (.slice a1 m1 c1) m1 3 (rowC encS l1) w7.heap.size, .blk w5.heap.size (.cells #[.bool true] 4 (0, 0)), .blk w3.heap.size (.cells #[.slice a1 m1 c1] 29 (0, 0)), .blk (w.heap.size + 1) (.cells #[.bool false] 4 (0, 0)), .blk w.heap.size (.cells #[.int .i64 x1, .int .i64 y1, .int .i64 x2, .int .i64 y2] 43 (0, 0)), .row (.slice ap np cp) np 2 (rowC encP ps) w.heap.size] v' (Rs ++ [(RowD.mk a1 c1 l1)]) (D :: Ds) wx) (fun v => m1 - (intOf v).toNat)
            · exact ⟨rfl, 0, by omega, rfl, rfl, HS.out⟩
            rintro u2 ds2 wx ⟨rfl, j, hj, hu1, hu2, hR⟩
            simp only [setS, List.foldl, List.setIfInBounds_toArray, List.set_cons_succ, List.set_cons_zero]
            rw [hu1, hu2]
            clear HS hu1 hu2
            have HS := Lib.hid hR
            clear hR
            by_cases hjm : j < m1
            · have HE4 := Lib.hid (show wrap64 ((j : Int) + 1) = ((j + 1 : Nat) : Int) by have := HL1.out.2.2; unfold wrap64; omega)
              obtain ⟨s, hs⟩ : ∃ s, l1[j]? = some s := ⟨_, List.getElem?_eq_getElem (by rw [HL1.out.2.1]; exact hjm)⟩
              obtain ⟨bb', off', ha1, -, c0, c1', c2⟩ := spCells HL1.out.2.1 (HS.out.elems 2 rfl) j s hs
              have HJ := Lib.hid hjm
              have hsp := (spB_iff s).1 (((rightB_iff l1).1 HR.out).mem (List.mem_of_getElem? hs))
              have hps := posL_succ hs
              have hpl : posL l1 (j + 1) ≤ 20480 := by
                have h_ := posL_le (l := l1) (k := j) hs (s.t - s.f + 1).toNat (Nat.le_refl _)
                have h2_ := ptsL_le HR.out
                have := HL1.out
                rw [hps]
                omega
              obtain ⟨sy, sf, st⟩ := s
              simp only at c0 c1' c2 hsp hps
              obtain ⟨p0, hp0⟩ : ∃ p0, posL l1 j = p0 := ⟨_, rfl⟩
              obtain ⟨p1, hp1⟩ : ∃ p1, posL l1 (j + 1) = p1 := ⟨_, rfl⟩
              rw [hp0, hp1] at hps
              rw [hp1] at hpl
              rw [hp0]
              have HP1 := Lib.hid hp1
              have w1_ : wrap64 (st - sf) = st - sf := by unfold wrap64; omega
              have w2_ : wrap64 (st - sf + 1) = st - sf + 1 := by unfold wrap64; omega
              have w3_ : wrap64 ((p0 : Int) + (st - sf + 1)) = (p1 : Int) := by unfold wrap64; omega
              subst ha1
              clear hs hsp hps hpl hp0 hp1
              repeat ((fail_if_success (with_reducible refine stop_atI (id := 32) ?_)); (first | go_values | gi_guarded | gi_step | gi_upon | gi_back | (simp only [Int.not_lt, Int.not_le] at *; go_simp) | (go_values <;> (try go_simp)) | (go_ite <;> go_prune <;> (try go_simp)) | (split <;> (first | (rename_i hx; exact (hx _ rfl).elim) | go_prune))))
              clear c0 c1' c2
              have hs_ := (HS.out.alloc (.cells #[.int .i64 sy, .int .i64 sf, .int .i64 st] 39))
              obtain ⟨wy, hw_⟩ : ∃ wy : World, (wx.alloc (.cells #[.int .i64 sy, .int .i64 sf, .int .i64 st] 39)) = wy := ⟨_, rfl⟩
              rw [hw_] at hs_
              try simp only [World.size_alloc] at hs_
              have HS := Lib.hid hs_
              rw [hw_]
              clear hw_ hs_
              have q1 := cell_of_block (k := 1) (HS.out.blockAt 0 rfl) rfl
              have q2 := cell_of_block (k := 2) (HS.out.blockAt 0 rfl) rfl
              have t12 := cell_of_block (k := 0) (HS.out.blockAt 4 rfl) rfl
              have e4 := HE4.out
              gi_wp2
              clear q1 q2 t12
              refine roundS_mix (.int .i64 ((j + 1 : Nat) : Int)) (by kernel_rfl) (by kernel_rfl) ⟨rfl, j + 1, HJ.out, ?_, ?_, HS.out.sub (.cons _ (List.Sublist.refl _))⟩ ?_ ?_
              · first | exact congrArg (Value.int .i64) e4 | rfl
              · rw [HP1.out]; first | exact congrArg (Value.int .i64) w3_ | rfl
              · first | exact congrArg (Value.int .i64) e4 | rfl
              · exact meas_step HJ.out
            · obtain rfl : m1 = j := by omega
              have hna : posL l1 m1 = NA := by
                rw [← hNA, ← HA2.out.1, allL_right HR.out, ← posL_all, HL1.out.2.1]
              rw [hna]
              have hcount := count_any a1 m1 c1 l1 HL1.out.2.1 (by have := HL1.out.2.2; omega) wx (HS.out.elems 2 rfl) (by rw [HA2.out.1]; have := HA2.out.2; omega)
              rw [HA2.out.1, hNA] at hcount
              have HCT := Lib.hid hcount
              clear hcount hj hjm hna hNA
              have t11 := cell_of_block (k := 0) (HS.out.blockAt 4 rfl) rfl
              gi_wp2_with fail
              clear t11
              refine (callsIn_wide.2 (HCT.out)).mono ?_
              rintro e wc ⟨rfl, hb_⟩
              have HS := Lib.hid (HS.out.below hb_)
              clear hb_
              clear HCT
              have c18 := cell_of_block (k := 0) (HS.out.blockAt 1 rfl) rfl
              obtain ⟨m8, hm8⟩ : ∃ m8, min np 8 = m8 := ⟨_, rfl⟩
              have e8 : min (np : Int) 8 = (m8 : Int) := by omega
              have hm8c : m8 ≤ cp := by have := HPL.out; omega
              have HM8 := Lib.hid (show m8 ≤ np ∧ m8 ≤ 8 by omega)
              gi_wp2
              clear c18 e8 hm8c hm8
              apply wpIn_loopS [24, 131, 132, 133, 134, 135, 136, 137, 138, 139, 140, 141, 142, 143, 144, 145] 131 (by decide) (by exact Nat.lt_of_lt_of_le (show 131 < 180 by decide) (Nat.le_refl _)) (fun u ds wx => ds = marksOf (D :: Ds) ∧ ∃ i : Nat, i ≤ m8 ∧ u 131 = .int .i64 (i : Int) ∧ Rnd w B0 [.blk w12.heap.size (.cells #[.slice a1 m1 c1] 29 (0, 0)), .blk w11.heap.size (.cells #[.int .i64 (NA : Int)] 3 (0, 0)), .row (.slice a1 m1 c1) m1 3 (rowC encS l1) w7.heap.size, .blk w5.heap.size (.cells #[.bool true] 4 (0, 0)), .blk w3.heap.size (.cells #[.slice a1 m1 c1] 29 (0, 0)), .blk (w.heap.size + 1) (.cells #[.bool false] 4 (0, 0)), .blk w.heap.size (.cells #[.int .i64 x1, .int .i64 y1, .int .i64 x2, .int .i64 y2] 43 (0, 0)), .row (.slice ap np cp) np 2 (rowC encP ps) w.heap.size] v' (Rs ++ [(RowD.mk a1 c1 l1)]) (D :: Ds) wx) (fun v => m8 - (intOf v).toNat)
              · exact ⟨rfl, 0, by omega, rfl, HS.out⟩
              rintro u3 ds3 wp ⟨rfl, i, hi, hu1, hR⟩
              simp only [setS, List.foldl, List.setIfInBounds_toArray, List.set_cons_succ, List.set_cons_zero]
              rw [hu1]
              clear HS hu1
              have HS := Lib.hid hR
              clear hR
              by_cases him : i < m8
              · have HE4 := Lib.hid (show wrap64 ((i : Int) + 1) = ((i + 1 : Nat) : Int) by have := HM8.out; unfold wrap64; omega)
                obtain ⟨s, hs⟩ : ∃ s, ps[i]? = some s := ⟨_, List.getElem?_eq_getElem (by rw [HPL.out.1]; have := HM8.out; omega)⟩
                obtain ⟨bb', off', hap, -, c0, c1'⟩ := ptCells HPL.out.1 (HS.out.elems 7 rfl) i s hs
                have HJ := Lib.hid him
                obtain ⟨sx, sy⟩ := s
                simp only at c0 c1'
                subst hap
                clear hs
                gi_wp2_with fail
                clear c0 c1'
                have hs_ := (HS.out.alloc (.cells #[.int .i64 sx, .int .i64 sy] 28))
                obtain ⟨wq, hw_⟩ : ∃ wq : World, (wp.alloc (.cells #[.int .i64 sx, .int .i64 sy] 28)) = wq := ⟨_, rfl⟩
                rw [hw_] at hs_
                try simp only [World.size_alloc] at hs_
                have HS := Lib.hid hs_
                rw [hw_]
                clear hw_ hs_
                obtain ⟨hv, hhv⟩ : ∃ hv, hasB l1 ⟨sx, sy⟩ = hv := ⟨_, rfl⟩
                have HH1 := Lib.hid (fun w' h => shHas_any a1 m1 c1 l1 HL1.out.2.1 (by have := HL1.out.2.2; omega) ⟨sx, sy⟩ w' h)
                have HH2 := Lib.hid (fun w' h => refHas_any a1 m1 c1 l1 HL1.out.2.1 (by have := HL1.out.2.2; omega) ⟨sx, sy⟩ w' h)
                simp only [HR.out, hhv, Bool.true_and, Bool.false_and] at HH1 HH2
                clear hhv
                apply wp_region_vals 10 (Rl := [(eqv _), (eqv _), (eqv _), (eqv _), (eqv _), (eqv _), (eqv _), (eqv _), (eqv _), (eqv _)]) (C := (fun x y => Below x.heap.size x y))
                case hm => kernel_rfl
                case hk => rfl
                case hCr => exact (fun _ => Below.refl _ _)
                case hCt => intro _ _ _; exact (fun h k => grows_trans h k)
                case hst => exact ⟨fun _ _ _ _ h => h, fun _ _ _ _ h => h, fun _ _ _ _ h => h, fun _ _ _ _ h => h, fun _ _ _ _ h => h, fun _ _ _ _ h => h, fun _ _ _ _ h => h, fun _ _ _ _ h => h, fun _ _ _ _ h => h, fun _ _ _ _ h => h, trivial⟩
                case hfo => kernel_rfl
                case ht => kernel_rfl
                case hC0 => exact (grows_drew _)
                case hsteps =>
                  refine ⟨?_, ?_, ?_, ?_, ?_, ?_, ?_, ?_, ?_, ?_, trivial⟩
                  · -- 0
                    intro a' w' hA hC hD
                    have s11 : a'.tmps[11]? = some _ := (hA.at 11 (by kernel_rfl)).trans rfl
                    have h1_ := (HS.out.below hC).blockAt 5 rfl; have c1_0 := cell_of_block (k := 0) h1_ rfl; clear h1_
                    clear hA hD
                    refine stepOk_plain rfl ?_
                    intro K hK
                    gi_wp2
                    exact hK _ _ rfl ((fun _ => Below.refl _ _) _)
                  · -- 1
                    intro a' w' hA hC hD
                    have s24 : a'.tmps[24]? = some _ := (hA.at 24 (by kernel_rfl)).trans rfl
                    have h1_ := (HS.out.below hC).blockAt 0 rfl; have c1_0 := cell_of_block (k := 0) h1_ rfl; have c1_1 := cell_of_block (k := 1) h1_ rfl; clear h1_
                    clear hA hD
                    refine stepOk_plain rfl ?_
                    intro K hK
                    gi_wp2
                    exact hK _ _ rfl ((fun _ => Below.refl _ _) _)
                  · -- 2
                    intro a' w' hA hC hD
                    obtain ⟨u135, s135, r135⟩ := hD ⟨0, .data⟩ (by simp) rfl _ rfl
                    replace r135 : u135 = _ := r135
                    subst r135
                    obtain ⟨u136, s136, r136⟩ := hD ⟨1, .data⟩ (by simp) rfl _ rfl
                    replace r136 : u136 = _ := r136
                    subst r136
                    clear hA hD
                    refine stepOk_plain rfl ?_
                    intro K hK
                    gi_wp2_with fail; refine (callsIn_wide.2 (HH1.out _ ((HS.out.elems 3 rfl).below hC))).mono ?_; rintro e w2 ⟨rfl, hb⟩
                    exact hK _ _ rfl hb
                  · -- 3
                    intro a' w' hA hC hD
                    have s12 : a'.tmps[12]? = some _ := (hA.at 12 (by kernel_rfl)).trans rfl
                    have h1_ := (HS.out.below hC).blockAt 4 rfl; have c1_0 := cell_of_block (k := 0) h1_ rfl; clear h1_
                    clear hA hD
                    refine stepOk_plain rfl ?_
                    intro K hK
                    gi_wp2
                    exact hK _ _ rfl ((fun _ => Below.refl _ _) _)
                  · -- 4
                    intro a' w' hA hC hD
                    obtain ⟨u138, s138, r138⟩ := hD ⟨3, .data⟩ (by simp) rfl _ rfl
                    replace r138 : u138 = _ := r138
                    subst r138
                    clear hA hD
                    refine stepOk_plain rfl ?_
                    intro K hK
                    gi_wp2
                    exact hK _ _ rfl ((fun _ => Below.refl _ _) _)
                  · -- 5
                    intro a' w' hA hC hD
                    have s11 : a'.tmps[11]? = some _ := (hA.at 11 (by kernel_rfl)).trans rfl
                    obtain ⟨u139, s139, r139⟩ := hD ⟨4, .guard⟩ (by simp) rfl _ rfl
                    replace r139 : u139 = _ := r139
                    subst r139
                    have h1_ := (HS.out.below hC).blockAt 5 rfl; have c1_0 := cell_of_block (k := 0) h1_ rfl; clear h1_
                    clear hA hD
                    refine stepOk_want rfl rfl s139 ?_
                    intro K hK
                    gi_wp2
                    exact hK _ _ rfl ((fun _ => Below.refl _ _) _)
                  · -- 6
                    intro a' w' hA hC hD
                    have s24 : a'.tmps[24]? = some _ := (hA.at 24 (by kernel_rfl)).trans rfl
                    obtain ⟨u139, s139, r139⟩ := hD ⟨4, .guard⟩ (by simp) rfl _ rfl
                    replace r139 : u139 = _ := r139
                    subst r139
                    have h1_ := (HS.out.below hC).blockAt 0 rfl; have c1_0 := cell_of_block (k := 0) h1_ rfl; have c1_1 := cell_of_block (k := 1) h1_ rfl; clear h1_
                    clear hA hD
                    refine stepOk_want rfl rfl s139 ?_
                    intro K hK
                    gi_wp2
                    exact hK _ _ rfl ((fun _ => Below.refl _ _) _)
                  · -- 7
                    intro a' w' hA hC hD
                    obtain ⟨u140, s140, r140⟩ := hD ⟨5, .data⟩ (by simp) rfl _ rfl
                    replace r140 : u140 = _ := r140
                    subst r140
                    obtain ⟨u141, s141, r141⟩ := hD ⟨6, .data⟩ (by simp) rfl _ rfl
                    replace r141 : u141 = _ := r141
                    subst r141
                    obtain ⟨u139, s139, r139⟩ := hD ⟨4, .chain⟩ (by simp) rfl _ rfl
                    replace r139 : u139 = _ := r139
                    subst r139
                    clear hA hD
                    refine stepOk_want rfl rfl s139 ?_
                    intro K hK
                    gi_wp2_with fail; refine (callsIn_wide.2 (HH2.out _ ((HS.out.elems 3 rfl).below hC))).mono ?_; rintro e w2 ⟨rfl, hb⟩
                    exact hK _ _ rfl hb
                  · -- 8
                    intro a' w' hA hC hD
                    obtain ⟨u139, s139, r139⟩ := hD ⟨4, .data⟩ (by simp) rfl _ rfl
                    replace r139 : u139 = _ := r139
                    subst r139
                    obtain ⟨u142, s142, r142⟩ := hD ⟨7, .data⟩ (by simp) rfl _ rfl
                    replace r142 : u142 = _ := r142
                    subst r142
                    clear hA hD
                    refine stepOk_plain rfl ?_
                    intro K hK
                    gi_wp2
                    exact hK _ _ rfl ((fun _ => Below.refl _ _) _)
                  · -- 9
                    intro a' w' hA hC hD
                    obtain ⟨u137, s137, r137⟩ := hD ⟨2, .data⟩ (by simp) rfl _ rfl
                    replace r137 : u137 = _ := r137
                    subst r137
                    obtain ⟨u143, s143, r143⟩ := hD ⟨8, .data⟩ (by simp) rfl _ rfl
                    replace r143 : u143 = _ := r143
                    subst r143
                    clear hA hD
                    refine stepOk_plain rfl ?_
                    intro K hK
                    gi_wp2
                    try simp only [bne_self_eq_false]
                    exact hK _ _ rfl ((fun _ => Below.refl _ _) _)
                case hend =>
                  intro wz hC
                  simp only [EndFrom, eqv, forall_eq, Act.put, List.length_cons, List.length_nil, List.drop_succ_cons, List.drop_zero, Nat.reduceAdd, List.setIfInBounds_toArray, List.set_cons_succ, List.set_cons_zero]
                  have HS := Lib.hid (HS.out.below hC)
                  clear hC
                  have e4 := HE4.out
                  gi_wp2
                  refine roundS_mix (.int .i64 ((i + 1 : Nat) : Int)) (by kernel_rfl) (by kernel_rfl) ⟨rfl, i + 1, HJ.out, ?_, HS.out.sub (.cons _ (List.Sublist.refl _))⟩ ?_ ?_
                  · first | exact congrArg (Value.int .i64) e4 | rfl
                  · first | exact congrArg (Value.int .i64) e4 | rfl
                  · exact meas_step HJ.out
              · obtain rfl : i = m8 := by omega
                clear hi him
                have e3 := HE3.out
                gi_wp2
                refine roundS_mix (.int .i64 ((k + 1 : Nat) : Int)) (by kernel_rfl) (by kernel_rfl) ⟨k + 1, HKK.out.1, ?_, v', Rs ++ [(RowD.mk a1 c1 l1)], D :: Ds, rfl, ?_, rfl, HRS2.out, HKK.out.2, HS.out.sub (.cons _ (.cons _ (.cons _ (.cons _ (.cons _ (.cons_cons _ (.cons_cons _ (.cons_cons _ (List.nil_sublist _)))))))))⟩ ?_ ?_
                · first | exact congrArg (Value.int .i64) e3 | rfl
                · rw [HAL2.out]; rfl
                · first | exact congrArg (Value.int .i64) e3 | rfl
                · exact meas_step HKK.out.1
  · rcases (show k = n ∨ (k < n ∧ k = 4) by have := HK.out; omega) with hkn | ⟨hkn, hk4'⟩
    · subst hkn
      clear hlt hk hk4
      have HKQ := Lib.hid (show (Rs.map (·.l)).length ≤ 4 ∧ ∀ l ∈ Rs.map (·.l), l.length ≤ 40 by
        rw [HRS.out]
        refine ⟨by have := HK.out; simp only [List.length_map, List.length_take]; omega, fun l hl => ?_⟩
        obtain ⟨l0, -, rfl⟩ := List.mem_map.1 hl
        rw [List.length_take]
        omega)
      obtain ⟨av, cv, hv7, hrr, -⟩ := HS.out.own.rowsR
      rw [hv7] at HS ⊢
      have hrl : Rs.length ≤ 4 := by have h_ := HKQ.out.1; rwa [List.length_map] at h_
      have hfl : (Rs.map (·.l)).flatten.length ≤ 160 := by
        obtain ⟨L, hL⟩ : ∃ L, Rs.map (·.l) = L := ⟨_, rfl⟩
        have h_ := HKQ.out
        rw [hL] at h_ ⊢
        have key := flat40 L h_.2
        omega
      have HU := Lib.hid (shUnion_any av Rs.length cv (Rs.map (·.l)) (by simp) (by omega) (by omega) wr hrr)
      rw [HAL.out] at HU
      have HUR := Lib.hid (fun (w' : World) (hal : (Rs.map (·.l)).all rightB = true) (h : RowsR w' av (Rs.map (·.l))) => refUnion_any av Rs.length cv (Rs.map (·.l)) (by simp) (by omega) (fun l hl => ⟨by have := HKQ.out.2 l hl; omega, List.all_eq_true.1 hal l hl⟩) w' h)
      have HRL := Lib.hid hrl
      clear hrr hfl hv7 hrl
      cases al
      · gi_wp2_with fail
        refine (callsIn_wide.2 HU.out).mono ?_
        rintro e w6 hg
        obtain ⟨-, a6, c6, rfl, he_, hb_⟩ := hg.bad
        have HS := Lib.hid ((HS.out.below hb_).addRow he_)
        clear hg he_ hb_ HU HUR
        gi_wp2_with fail
        refine (callsIn_wide.2 (eqS_same _ _ [] 0 rfl _ (HS.out.elems 0 rfl) (elems_nil _))).mono ?_
        rintro e w8 ⟨rfl, hb_⟩
        have HS := Lib.hid (HS.out.below hb_)
        clear hb_
        have HS := Lib.hid (HS.out.sub (its' := [.blk (w.heap.size + 1) (.cells #[.bool false] 4 (0, 0)), .blk w.heap.size (.cells #[.int .i64 x1, .int .i64 y1, .int .i64 x2, .int .i64 y2] 43 (0, 0)), .row (.slice ap np cp) np 2 (rowC encP ps) w.heap.size]) (.cons _ (List.Sublist.refl _)))
        gi_wp2
        apply wpIn_loopS [29, 30, 166, 167, 168, 169, 170, 171, 172, 173, 174, 175, 176, 177, 178, 179] 166 (by decide) (by exact Nat.lt_of_lt_of_le (show 166 < 180 by decide) (Nat.le_refl _)) (fun u ds wx => ds = marksOf Ds ∧ ∃ q : Nat, q ≤ Rs.length ∧ u 166 = .int .i64 (q : Int) ∧ Rnd w B0 [.blk (w.heap.size + 1) (.cells #[.bool false] 4 (0, 0)), .blk w.heap.size (.cells #[.int .i64 x1, .int .i64 y1, .int .i64 x2, .int .i64 y2] 43 (0, 0)), .row (.slice ap np cp) np 2 (rowC encP ps) w.heap.size] (.slice av Rs.length cv) Rs Ds wx) (fun v => Rs.length - (intOf v).toNat)
        · exact ⟨rfl, 0, Nat.zero_le _, rfl, HS.out⟩
        rintro u2 ds2 wx ⟨rfl, q, hq, hu1, hR⟩
        simp only [setS, List.foldl, List.setIfInBounds_toArray, List.set_cons_succ, List.set_cons_zero]
        rw [hu1]
        clear HS hu1
        have HS := Lib.hid hR
        clear hR
        by_cases hqm : q < Rs.length
        · have HE4 := Lib.hid (show wrap64 ((q : Int) + 1) = ((q + 1 : Nat) : Int) by have := HRL.out; unfold wrap64; omega)
          obtain ⟨r, hr⟩ : ∃ r, Rs[q]? = some r := ⟨_, List.getElem?_eq_getElem hqm⟩
          obtain ⟨g, hg0, -, c0⟩ := HS.out.own.cellAt hr
          subst hg0
          have hrow : ∃ l0, lls[q]? = some l0 ∧ l0.take 40 = r.l := by
            have h_ := congrArg (fun L => L[q]?) HRS.out
            simp only [List.getElem?_map, hr, Option.map_some] at h_
            obtain ⟨l0, h1, h2⟩ := Option.map_eq_some_iff.1 h_.symm
            have hqk : q < (lls.take k).length := (List.getElem?_eq_some_iff.1 h1).1
            rw [List.length_take] at hqk
            rw [List.getElem?_take_of_lt (by omega)] at h1
            exact ⟨l0, h1, h2⟩
          obtain ⟨l0, hl0, hlr⟩ := hrow
          obtain ⟨bq, offq, aq, capq, haq, hbq, d00, hlq, hcq, heq⟩ := HRO.out q l0 hl0
          cases haq
          have hqn := (List.getElem?_eq_some_iff.1 hl0).1
          rw [HL.out] at hqn
          have d0 := (HS.out.low.cell (by exact hbq)).trans d00
          have HFW := Lib.hid (few_got aq l0.length capq l0 rfl hlq hcq wx (heq.imp id (fun h => h.below HS.out.low)))
          have HEL := Lib.hid (HS.out.own.each r (List.mem_of_getElem? hr)).1
          have hlen40 : r.l.length ≤ 40 := HKQ.out.2 r.l (List.mem_map.2 ⟨r, List.mem_of_getElem? hr, rfl⟩)
          have HJ := Lib.hid (And.intro hqm hlen40)
          rw [hlr] at HFW
          obtain ⟨rl, hrl⟩ : ∃ rl, r.l.length = rl := ⟨_, rfl⟩
          obtain ⟨n0, hn0⟩ : ∃ n0, l0.length = n0 := ⟨_, rfl⟩
          rw [hrl] at HFW HEL c0 HJ
          rw [hn0] at HFW d0
          have HRL2 := Lib.hid hrl
          clear hr hl0 hlr d00 heq hbq hlq hcq hlen40 hrl hn0
          gi_wp2_with fail
          refine (callsIn_wide.2 HFW.out).mono ?_
          rintro e wy ⟨ay, cy, rfl, he_, hb_, -⟩
          have HS := Lib.hid (HS.out.below hb_)
          have HEL := Lib.hid (HEL.out.below hb_)
          have HEY := Lib.hid he_
          clear he_ hb_ HFW c0 d0
          gi_wp2_with fail
          refine (callsIn_wide.2 (eqS_same _ _ r.l rl HRL2.out _ HEL.out HEY.out (by have := HJ.out.2; omega))).mono ?_
          rintro e wz ⟨rfl, hb_⟩
          have HS := Lib.hid (HS.out.below hb_)
          clear hb_
          have e4 := HE4.out
          gi_wp2
          refine roundS_mix (.int .i64 ((q + 1 : Nat) : Int)) (by kernel_rfl) (by kernel_rfl) ⟨rfl, q + 1, HJ.out.1, ?_, HS.out⟩ ?_ ?_
          · first | exact congrArg (Value.int .i64) e4 | rfl
          · first | exact congrArg (Value.int .i64) e4 | rfl
          · exact meas_step HJ.out.1
        · have hqe : q = Rs.length := by omega
          rw [hqe]
          clear hq hqm hqe
          have cF := cell_of_block (k := 0) (HS.out.blockAt 0 rfl) rfl
          have fF := free_of_block (HS.out.blockAt 0 rfl) 0
          gi_wp2
          clear cF fF
          have hbF := heap_set_same (HS.out.blockAt 0 rfl) (.bool true) (k := 0)
          have hM := HS.out.mks.keep (y := wx.setCell ⟨w.heap.size + 1, 0, none⟩ (.bool true)) (fun j hj => (Below.heap_setCell wx ⟨w.heap.size + 1, 0, none⟩ (.bool true) j (fun e => by
            have e' : j = w.heap.size + 1 := e
            subst e'
            have h_ := HS.out.blockAt 0 rfl
            rw [hj] at h_
            cases h_)).trans hj)
          have hlow := HS.out.low.setCell (p := ⟨w.heap.size + 1, 0, none⟩) (by simp) (.bool true)
          have hnF : w.heap.size + 1 ∉ Ds := fun hm => by
            have h_ := (hM.blk _ hm).2
            rw [hbF] at h_
            cases h_
          refine ret_marks (lo := w.heap.size) (Ds := Ds) (v := .bool true) rfl hM (fun W' ht => ?_)
          have hcF := cell_of_block (k := 0) (v := .bool true) ((ht.block (w.heap.size + 1) (block_lt hbF) hnF).trans hbF) rfl
          refine ⟨?_, rfl, hlow.trans (ht.below hlow.size (fun D hD => (hM.blk D hD).1))⟩
          simp [results, Try.results6, go_sem, hcF]
      · gi_wp2_with fail
        refine (callsIn_wide.2 HU.out).mono ?_
        rintro e w6 hg
        obtain ⟨M, hset, hml, -, a6, c6, rfl, he_, hb_⟩ := hg.good
        obtain ⟨m, hm⟩ : ∃ m, M.length = m := ⟨_, rfl⟩
        rw [hm] at hml he_
        rw [hm]
        have HM := Lib.hid (And.intro hm (And.intro hml hset))
        have HS := Lib.hid ((HS.out.below hb_).addRow he_)
        clear hg he_ hb_ HU hm hml hset
        gi_wp2_with fail
        obtain ⟨av', cv', hvv, hrr, -⟩ := HS.out.own.rowsR
        cases hvv
        refine (callsIn_wide.2 (HUR.out w6 HAL.out hrr)).mono ?_
        rintro e w7 ⟨L, hL, hgv⟩
        obtain rfl := hL.unique HM.out.2.2
        obtain ⟨v7, rfl, he_, hb_⟩ := hgv.gotV encS_len
        rw [HM.out.1] at he_
        have HS := Lib.hid ((HS.out.below hb_).addRow he_)
        clear hL hgv he_ hb_ HUR hrr
        gi_wp2_with fail
        refine (callsIn_wide.2 (eqS_same _ _ L m HM.out.1 _ (HS.out.elems 1 rfl) (HS.out.elems 0 rfl) (by have := HM.out.2.1; omega))).mono ?_
        rintro e w8 ⟨rfl, hb_⟩
        have HS := Lib.hid (HS.out.below hb_)
        clear hb_
        have HS := Lib.hid (HS.out.sub (its' := [.blk (w.heap.size + 1) (.cells #[.bool false] 4 (0, 0)), .blk w.heap.size (.cells #[.int .i64 x1, .int .i64 y1, .int .i64 x2, .int .i64 y2] 43 (0, 0)), .row (.slice ap np cp) np 2 (rowC encP ps) w.heap.size]) (.cons _ (.cons _ (List.Sublist.refl _))))
        gi_wp2
        apply wpIn_loopS [29, 30, 166, 167, 168, 169, 170, 171, 172, 173, 174, 175, 176, 177, 178, 179] 166 (by decide) (by exact Nat.lt_of_lt_of_le (show 166 < 180 by decide) (Nat.le_refl _)) (fun u ds wx => ds = marksOf Ds ∧ ∃ q : Nat, q ≤ Rs.length ∧ u 166 = .int .i64 (q : Int) ∧ Rnd w B0 [.blk (w.heap.size + 1) (.cells #[.bool false] 4 (0, 0)), .blk w.heap.size (.cells #[.int .i64 x1, .int .i64 y1, .int .i64 x2, .int .i64 y2] 43 (0, 0)), .row (.slice ap np cp) np 2 (rowC encP ps) w.heap.size] (.slice av Rs.length cv) Rs Ds wx) (fun v => Rs.length - (intOf v).toNat)
        · exact ⟨rfl, 0, Nat.zero_le _, rfl, HS.out⟩
        rintro u2 ds2 wx ⟨rfl, q, hq, hu1, hR⟩
        simp only [setS, List.foldl, List.setIfInBounds_toArray, List.set_cons_succ, List.set_cons_zero]
        rw [hu1]
        clear HS hu1
        have HS := Lib.hid hR
        clear hR
        by_cases hqm : q < Rs.length
        · have HE4 := Lib.hid (show wrap64 ((q : Int) + 1) = ((q + 1 : Nat) : Int) by have := HRL.out; unfold wrap64; omega)
          obtain ⟨r, hr⟩ : ∃ r, Rs[q]? = some r := ⟨_, List.getElem?_eq_getElem hqm⟩
          obtain ⟨g, hg0, -, c0⟩ := HS.out.own.cellAt hr
          subst hg0
          have hrow : ∃ l0, lls[q]? = some l0 ∧ l0.take 40 = r.l := by
            have h_ := congrArg (fun L => L[q]?) HRS.out
            simp only [List.getElem?_map, hr, Option.map_some] at h_
            obtain ⟨l0, h1, h2⟩ := Option.map_eq_some_iff.1 h_.symm
            have hqk : q < (lls.take k).length := (List.getElem?_eq_some_iff.1 h1).1
            rw [List.length_take] at hqk
            rw [List.getElem?_take_of_lt (by omega)] at h1
            exact ⟨l0, h1, h2⟩
          obtain ⟨l0, hl0, hlr⟩ := hrow
          obtain ⟨bq, offq, aq, capq, haq, hbq, d00, hlq, hcq, heq⟩ := HRO.out q l0 hl0
          cases haq
          have hqn := (List.getElem?_eq_some_iff.1 hl0).1
          rw [HL.out] at hqn
          have d0 := (HS.out.low.cell (by exact hbq)).trans d00
          have HFW := Lib.hid (few_got aq l0.length capq l0 rfl hlq hcq wx (heq.imp id (fun h => h.below HS.out.low)))
          have HEL := Lib.hid (HS.out.own.each r (List.mem_of_getElem? hr)).1
          have hlen40 : r.l.length ≤ 40 := HKQ.out.2 r.l (List.mem_map.2 ⟨r, List.mem_of_getElem? hr, rfl⟩)
          have HJ := Lib.hid (And.intro hqm hlen40)
          rw [hlr] at HFW
          obtain ⟨rl, hrl⟩ : ∃ rl, r.l.length = rl := ⟨_, rfl⟩
          obtain ⟨n0, hn0⟩ : ∃ n0, l0.length = n0 := ⟨_, rfl⟩
          rw [hrl] at HFW HEL c0 HJ
          rw [hn0] at HFW d0
          have HRL2 := Lib.hid hrl
          clear hr hl0 hlr d00 heq hbq hlq hcq hlen40 hrl hn0
          gi_wp2_with fail
          refine (callsIn_wide.2 HFW.out).mono ?_
          rintro e wy ⟨ay, cy, rfl, he_, hb_, -⟩
          have HS := Lib.hid (HS.out.below hb_)
          have HEL := Lib.hid (HEL.out.below hb_)
          have HEY := Lib.hid he_
          clear he_ hb_ HFW c0 d0
          gi_wp2_with fail
          refine (callsIn_wide.2 (eqS_same _ _ r.l rl HRL2.out _ HEL.out HEY.out (by have := HJ.out.2; omega))).mono ?_
          rintro e wz ⟨rfl, hb_⟩
          have HS := Lib.hid (HS.out.below hb_)
          clear hb_
          have e4 := HE4.out
          gi_wp2
          refine roundS_mix (.int .i64 ((q + 1 : Nat) : Int)) (by kernel_rfl) (by kernel_rfl) ⟨rfl, q + 1, HJ.out.1, ?_, HS.out⟩ ?_ ?_
          · first | exact congrArg (Value.int .i64) e4 | rfl
          · first | exact congrArg (Value.int .i64) e4 | rfl
          · exact meas_step HJ.out.1
        · have hqe : q = Rs.length := by omega
          rw [hqe]
          clear hq hqm hqe
          have cF := cell_of_block (k := 0) (HS.out.blockAt 0 rfl) rfl
          have fF := free_of_block (HS.out.blockAt 0 rfl) 0
          gi_wp2
          clear cF fF
          have hbF := heap_set_same (HS.out.blockAt 0 rfl) (.bool true) (k := 0)
          have hM := HS.out.mks.keep (y := wx.setCell ⟨w.heap.size + 1, 0, none⟩ (.bool true)) (fun j hj => (Below.heap_setCell wx ⟨w.heap.size + 1, 0, none⟩ (.bool true) j (fun e => by
            have e' : j = w.heap.size + 1 := e
            subst e'
            have h_ := HS.out.blockAt 0 rfl
            rw [hj] at h_
            cases h_)).trans hj)
          have hlow := HS.out.low.setCell (p := ⟨w.heap.size + 1, 0, none⟩) (by simp) (.bool true)
          have hnF : w.heap.size + 1 ∉ Ds := fun hm => by
            have h_ := (hM.blk _ hm).2
            rw [hbF] at h_
            cases h_
          refine ret_marks (lo := w.heap.size) (Ds := Ds) (v := .bool true) rfl hM (fun W' ht => ?_)
          have hcF := cell_of_block (k := 0) (v := .bool true) ((ht.block (w.heap.size + 1) (block_lt hbF) hnF).trans hbF) rfl
          refine ⟨?_, rfl, hlow.trans (ht.below hlow.size (fun D hD => (hM.blk D hD).1))⟩
          simp [results, Try.results6, go_sem, hcF]
    · obtain ⟨l, hx⟩ : ∃ l, lls[k]? = some l := ⟨_, List.getElem?_eq_getElem (by rw [HL.out]; exact hkn)⟩
      obtain ⟨bb, off, a', cap', rfl, hbb, c00, hlc, hcm, hel⟩ := HRO.out k l hx
      have c0 := (HS.out.low.cell (p := ⟨bb, off + k, none⟩) hbb).trans c00
      have c0' : wr.cell? ⟨bb, off + 4, none⟩ = some (.slice a' l.length cap') := by rw [← hk4']; exact c0
      have hk4i : (k : Int) = 4 := by omega
      clear hx hbb c00 hlc hcm hel hlt hk hk4 hk4'
      have HKQ := Lib.hid (show (Rs.map (·.l)).length ≤ 4 ∧ ∀ l ∈ Rs.map (·.l), l.length ≤ 40 by
        rw [HRS.out]
        refine ⟨by have := HK.out; simp only [List.length_map, List.length_take]; omega, fun l hl => ?_⟩
        obtain ⟨l0, -, rfl⟩ := List.mem_map.1 hl
        rw [List.length_take]
        omega)
      obtain ⟨av, cv, hv7, hrr, -⟩ := HS.out.own.rowsR
      rw [hv7] at HS ⊢
      have hrl : Rs.length ≤ 4 := by have h_ := HKQ.out.1; rwa [List.length_map] at h_
      have hfl : (Rs.map (·.l)).flatten.length ≤ 160 := by
        obtain ⟨L, hL⟩ : ∃ L, Rs.map (·.l) = L := ⟨_, rfl⟩
        have h_ := HKQ.out
        rw [hL] at h_ ⊢
        have key := flat40 L h_.2
        omega
      have HU := Lib.hid (shUnion_any av Rs.length cv (Rs.map (·.l)) (by simp) (by omega) (by omega) wr hrr)
      rw [HAL.out] at HU
      have HUR := Lib.hid (fun (w' : World) (hal : (Rs.map (·.l)).all rightB = true) (h : RowsR w' av (Rs.map (·.l))) => refUnion_any av Rs.length cv (Rs.map (·.l)) (by simp) (by omega) (fun l hl => ⟨by have := HKQ.out.2 l hl; omega, List.all_eq_true.1 hal l hl⟩) w' h)
      have HRL := Lib.hid hrl
      clear hrr hfl hv7 hrl
      cases al
      · gi_wp2_with fail
        refine (callsIn_wide.2 HU.out).mono ?_
        rintro e w6 hg
        obtain ⟨-, a6, c6, rfl, he_, hb_⟩ := hg.bad
        have HS := Lib.hid ((HS.out.below hb_).addRow he_)
        clear hg he_ hb_ HU HUR
        gi_wp2_with fail
        refine (callsIn_wide.2 (eqS_same _ _ [] 0 rfl _ (HS.out.elems 0 rfl) (elems_nil _))).mono ?_
        rintro e w8 ⟨rfl, hb_⟩
        have HS := Lib.hid (HS.out.below hb_)
        clear hb_
        have HS := Lib.hid (HS.out.sub (its' := [.blk (w.heap.size + 1) (.cells #[.bool false] 4 (0, 0)), .blk w.heap.size (.cells #[.int .i64 x1, .int .i64 y1, .int .i64 x2, .int .i64 y2] 43 (0, 0)), .row (.slice ap np cp) np 2 (rowC encP ps) w.heap.size]) (.cons _ (List.Sublist.refl _)))
        gi_wp2
        apply wpIn_loopS [29, 30, 166, 167, 168, 169, 170, 171, 172, 173, 174, 175, 176, 177, 178, 179] 166 (by decide) (by exact Nat.lt_of_lt_of_le (show 166 < 180 by decide) (Nat.le_refl _)) (fun u ds wx => ds = marksOf Ds ∧ ∃ q : Nat, q ≤ Rs.length ∧ u 166 = .int .i64 (q : Int) ∧ Rnd w B0 [.blk (w.heap.size + 1) (.cells #[.bool false] 4 (0, 0)), .blk w.heap.size (.cells #[.int .i64 x1, .int .i64 y1, .int .i64 x2, .int .i64 y2] 43 (0, 0)), .row (.slice ap np cp) np 2 (rowC encP ps) w.heap.size] (.slice av Rs.length cv) Rs Ds wx) (fun v => Rs.length - (intOf v).toNat)
        · exact ⟨rfl, 0, Nat.zero_le _, rfl, HS.out⟩
        rintro u2 ds2 wx ⟨rfl, q, hq, hu1, hR⟩
        simp only [setS, List.foldl, List.setIfInBounds_toArray, List.set_cons_succ, List.set_cons_zero]
        rw [hu1]
        clear HS hu1
        have HS := Lib.hid hR
        clear hR
        by_cases hqm : q < Rs.length
        · have HE4 := Lib.hid (show wrap64 ((q : Int) + 1) = ((q + 1 : Nat) : Int) by have := HRL.out; unfold wrap64; omega)
          obtain ⟨r, hr⟩ : ∃ r, Rs[q]? = some r := ⟨_, List.getElem?_eq_getElem hqm⟩
          obtain ⟨g, hg0, -, c0⟩ := HS.out.own.cellAt hr
          subst hg0
          have hrow : ∃ l0, lls[q]? = some l0 ∧ l0.take 40 = r.l := by
            have h_ := congrArg (fun L => L[q]?) HRS.out
            simp only [List.getElem?_map, hr, Option.map_some] at h_
            obtain ⟨l0, h1, h2⟩ := Option.map_eq_some_iff.1 h_.symm
            have hqk : q < (lls.take k).length := (List.getElem?_eq_some_iff.1 h1).1
            rw [List.length_take] at hqk
            rw [List.getElem?_take_of_lt (by omega)] at h1
            exact ⟨l0, h1, h2⟩
          obtain ⟨l0, hl0, hlr⟩ := hrow
          obtain ⟨bq, offq, aq, capq, haq, hbq, d00, hlq, hcq, heq⟩ := HRO.out q l0 hl0
          cases haq
          have hqn := (List.getElem?_eq_some_iff.1 hl0).1
          rw [HL.out] at hqn
          have d0 := (HS.out.low.cell (by exact hbq)).trans d00
          have HFW := Lib.hid (few_got aq l0.length capq l0 rfl hlq hcq wx (heq.imp id (fun h => h.below HS.out.low)))
          have HEL := Lib.hid (HS.out.own.each r (List.mem_of_getElem? hr)).1
          have hlen40 : r.l.length ≤ 40 := HKQ.out.2 r.l (List.mem_map.2 ⟨r, List.mem_of_getElem? hr, rfl⟩)
          have HJ := Lib.hid (And.intro hqm hlen40)
          rw [hlr] at HFW
          obtain ⟨rl, hrl⟩ : ∃ rl, r.l.length = rl := ⟨_, rfl⟩
          obtain ⟨n0, hn0⟩ : ∃ n0, l0.length = n0 := ⟨_, rfl⟩
          rw [hrl] at HFW HEL c0 HJ
          rw [hn0] at HFW d0
          have HRL2 := Lib.hid hrl
          clear hr hl0 hlr d00 heq hbq hlq hcq hlen40 hrl hn0
          gi_wp2_with fail
          refine (callsIn_wide.2 HFW.out).mono ?_
          rintro e wy ⟨ay, cy, rfl, he_, hb_, -⟩
          have HS := Lib.hid (HS.out.below hb_)
          have HEL := Lib.hid (HEL.out.below hb_)
          have HEY := Lib.hid he_
          clear he_ hb_ HFW c0 d0
          gi_wp2_with fail
          refine (callsIn_wide.2 (eqS_same _ _ r.l rl HRL2.out _ HEL.out HEY.out (by have := HJ.out.2; omega))).mono ?_
          rintro e wz ⟨rfl, hb_⟩
          have HS := Lib.hid (HS.out.below hb_)
          clear hb_
          have e4 := HE4.out
          gi_wp2
          refine roundS_mix (.int .i64 ((q + 1 : Nat) : Int)) (by kernel_rfl) (by kernel_rfl) ⟨rfl, q + 1, HJ.out.1, ?_, HS.out⟩ ?_ ?_
          · first | exact congrArg (Value.int .i64) e4 | rfl
          · first | exact congrArg (Value.int .i64) e4 | rfl
          · exact meas_step HJ.out.1
        · have hqe : q = Rs.length := by omega
          rw [hqe]
          clear hq hqm hqe
          have cF := cell_of_block (k := 0) (HS.out.blockAt 0 rfl) rfl
          have fF := free_of_block (HS.out.blockAt 0 rfl) 0
          gi_wp2
          clear cF fF
          have hbF := heap_set_same (HS.out.blockAt 0 rfl) (.bool true) (k := 0)
          have hM := HS.out.mks.keep (y := wx.setCell ⟨w.heap.size + 1, 0, none⟩ (.bool true)) (fun j hj => (Below.heap_setCell wx ⟨w.heap.size + 1, 0, none⟩ (.bool true) j (fun e => by
            have e' : j = w.heap.size + 1 := e
            subst e'
            have h_ := HS.out.blockAt 0 rfl
            rw [hj] at h_
            cases h_)).trans hj)
          have hlow := HS.out.low.setCell (p := ⟨w.heap.size + 1, 0, none⟩) (by simp) (.bool true)
          have hnF : w.heap.size + 1 ∉ Ds := fun hm => by
            have h_ := (hM.blk _ hm).2
            rw [hbF] at h_
            cases h_
          refine ret_marks (lo := w.heap.size) (Ds := Ds) (v := .bool true) rfl hM (fun W' ht => ?_)
          have hcF := cell_of_block (k := 0) (v := .bool true) ((ht.block (w.heap.size + 1) (block_lt hbF) hnF).trans hbF) rfl
          refine ⟨?_, rfl, hlow.trans (ht.below hlow.size (fun D hD => (hM.blk D hD).1))⟩
          simp [results, Try.results6, go_sem, hcF]
      · gi_wp2_with fail
        refine (callsIn_wide.2 HU.out).mono ?_
        rintro e w6 hg
        obtain ⟨M, hset, hml, -, a6, c6, rfl, he_, hb_⟩ := hg.good
        obtain ⟨m, hm⟩ : ∃ m, M.length = m := ⟨_, rfl⟩
        rw [hm] at hml he_
        rw [hm]
        have HM := Lib.hid (And.intro hm (And.intro hml hset))
        have HS := Lib.hid ((HS.out.below hb_).addRow he_)
        clear hg he_ hb_ HU hm hml hset
        gi_wp2_with fail
        obtain ⟨av', cv', hvv, hrr, -⟩ := HS.out.own.rowsR
        cases hvv
        refine (callsIn_wide.2 (HUR.out w6 HAL.out hrr)).mono ?_
        rintro e w7 ⟨L, hL, hgv⟩
        obtain rfl := hL.unique HM.out.2.2
        obtain ⟨v7, rfl, he_, hb_⟩ := hgv.gotV encS_len
        rw [HM.out.1] at he_
        have HS := Lib.hid ((HS.out.below hb_).addRow he_)
        clear hL hgv he_ hb_ HUR hrr
        gi_wp2_with fail
        refine (callsIn_wide.2 (eqS_same _ _ L m HM.out.1 _ (HS.out.elems 1 rfl) (HS.out.elems 0 rfl) (by have := HM.out.2.1; omega))).mono ?_
        rintro e w8 ⟨rfl, hb_⟩
        have HS := Lib.hid (HS.out.below hb_)
        clear hb_
        have HS := Lib.hid (HS.out.sub (its' := [.blk (w.heap.size + 1) (.cells #[.bool false] 4 (0, 0)), .blk w.heap.size (.cells #[.int .i64 x1, .int .i64 y1, .int .i64 x2, .int .i64 y2] 43 (0, 0)), .row (.slice ap np cp) np 2 (rowC encP ps) w.heap.size]) (.cons _ (.cons _ (List.Sublist.refl _))))
        gi_wp2
        apply wpIn_loopS [29, 30, 166, 167, 168, 169, 170, 171, 172, 173, 174, 175, 176, 177, 178, 179] 166 (by decide) (by exact Nat.lt_of_lt_of_le (show 166 < 180 by decide) (Nat.le_refl _)) (fun u ds wx => ds = marksOf Ds ∧ ∃ q : Nat, q ≤ Rs.length ∧ u 166 = .int .i64 (q : Int) ∧ Rnd w B0 [.blk (w.heap.size + 1) (.cells #[.bool false] 4 (0, 0)), .blk w.heap.size (.cells #[.int .i64 x1, .int .i64 y1, .int .i64 x2, .int .i64 y2] 43 (0, 0)), .row (.slice ap np cp) np 2 (rowC encP ps) w.heap.size] (.slice av Rs.length cv) Rs Ds wx) (fun v => Rs.length - (intOf v).toNat)
        · exact ⟨rfl, 0, Nat.zero_le _, rfl, HS.out⟩
        rintro u2 ds2 wx ⟨rfl, q, hq, hu1, hR⟩
        simp only [setS, List.foldl, List.setIfInBounds_toArray, List.set_cons_succ, List.set_cons_zero]
        rw [hu1]
        clear HS hu1
        have HS := Lib.hid hR
        clear hR
        by_cases hqm : q < Rs.length
        · have HE4 := Lib.hid (show wrap64 ((q : Int) + 1) = ((q + 1 : Nat) : Int) by have := HRL.out; unfold wrap64; omega)
          obtain ⟨r, hr⟩ : ∃ r, Rs[q]? = some r := ⟨_, List.getElem?_eq_getElem hqm⟩
          obtain ⟨g, hg0, -, c0⟩ := HS.out.own.cellAt hr
          subst hg0
          have hrow : ∃ l0, lls[q]? = some l0 ∧ l0.take 40 = r.l := by
            have h_ := congrArg (fun L => L[q]?) HRS.out
            simp only [List.getElem?_map, hr, Option.map_some] at h_
            obtain ⟨l0, h1, h2⟩ := Option.map_eq_some_iff.1 h_.symm
            have hqk : q < (lls.take k).length := (List.getElem?_eq_some_iff.1 h1).1
            rw [List.length_take] at hqk
            rw [List.getElem?_take_of_lt (by omega)] at h1
            exact ⟨l0, h1, h2⟩
          obtain ⟨l0, hl0, hlr⟩ := hrow
          obtain ⟨bq, offq, aq, capq, haq, hbq, d00, hlq, hcq, heq⟩ := HRO.out q l0 hl0
          cases haq
          have hqn := (List.getElem?_eq_some_iff.1 hl0).1
          rw [HL.out] at hqn
          have d0 := (HS.out.low.cell (by exact hbq)).trans d00
          have HFW := Lib.hid (few_got aq l0.length capq l0 rfl hlq hcq wx (heq.imp id (fun h => h.below HS.out.low)))
          have HEL := Lib.hid (HS.out.own.each r (List.mem_of_getElem? hr)).1
          have hlen40 : r.l.length ≤ 40 := HKQ.out.2 r.l (List.mem_map.2 ⟨r, List.mem_of_getElem? hr, rfl⟩)
          have HJ := Lib.hid (And.intro hqm hlen40)
          rw [hlr] at HFW
          obtain ⟨rl, hrl⟩ : ∃ rl, r.l.length = rl := ⟨_, rfl⟩
          obtain ⟨n0, hn0⟩ : ∃ n0, l0.length = n0 := ⟨_, rfl⟩
          rw [hrl] at HFW HEL c0 HJ
          rw [hn0] at HFW d0
          have HRL2 := Lib.hid hrl
          clear hr hl0 hlr d00 heq hbq hlq hcq hlen40 hrl hn0
          gi_wp2_with fail
          refine (callsIn_wide.2 HFW.out).mono ?_
          rintro e wy ⟨ay, cy, rfl, he_, hb_, -⟩
          have HS := Lib.hid (HS.out.below hb_)
          have HEL := Lib.hid (HEL.out.below hb_)
          have HEY := Lib.hid he_
          clear he_ hb_ HFW c0 d0
          gi_wp2_with fail
          refine (callsIn_wide.2 (eqS_same _ _ r.l rl HRL2.out _ HEL.out HEY.out (by have := HJ.out.2; omega))).mono ?_
          rintro e wz ⟨rfl, hb_⟩
          have HS := Lib.hid (HS.out.below hb_)
          clear hb_
          have e4 := HE4.out
          gi_wp2
          refine roundS_mix (.int .i64 ((q + 1 : Nat) : Int)) (by kernel_rfl) (by kernel_rfl) ⟨rfl, q + 1, HJ.out.1, ?_, HS.out⟩ ?_ ?_
          · first | exact congrArg (Value.int .i64) e4 | rfl
          · first | exact congrArg (Value.int .i64) e4 | rfl
          · exact meas_step HJ.out.1
        · have hqe : q = Rs.length := by omega
          rw [hqe]
          clear hq hqm hqe
          have cF := cell_of_block (k := 0) (HS.out.blockAt 0 rfl) rfl
          have fF := free_of_block (HS.out.blockAt 0 rfl) 0
          gi_wp2
          clear cF fF
          have hbF := heap_set_same (HS.out.blockAt 0 rfl) (.bool true) (k := 0)
          have hM := HS.out.mks.keep (y := wx.setCell ⟨w.heap.size + 1, 0, none⟩ (.bool true)) (fun j hj => (Below.heap_setCell wx ⟨w.heap.size + 1, 0, none⟩ (.bool true) j (fun e => by
            have e' : j = w.heap.size + 1 := e
            subst e'
            have h_ := HS.out.blockAt 0 rfl
            rw [hj] at h_
            cases h_)).trans hj)
          have hlow := HS.out.low.setCell (p := ⟨w.heap.size + 1, 0, none⟩) (by simp) (.bool true)
          have hnF : w.heap.size + 1 ∉ Ds := fun hm => by
            have h_ := (hM.blk _ hm).2
            rw [hbF] at h_
            cases h_
          refine ret_marks (lo := w.heap.size) (Ds := Ds) (v := .bool true) rfl hM (fun W' ht => ?_)
          have hcF := cell_of_block (k := 0) (v := .bool true) ((ht.block (w.heap.size + 1) (block_lt hbF) hnF).trans hbF) rfl
          refine ⟨?_, rfl, hlow.trans (ht.below hlow.size (fun D hD => (hM.blk D hD).1))⟩
          simp [results, Try.results6, go_sem, hcF]
end Go.Proofs.Ytflbcabjefpojaa
