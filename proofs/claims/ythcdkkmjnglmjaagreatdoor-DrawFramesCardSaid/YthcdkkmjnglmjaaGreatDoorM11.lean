/- Merged texts: Line SwP. -/
import Derived.Test.YthcdkkmjnglmjaaGreatDoorM10
import Derived.Test.YthcdkkmjnglmjaaGreatDoorM5
import Derived.Test.YthcdkkmjnglmjaaGreatDoorM9
/- shape.Line. -/
namespace Go.Proofs.YthcdkkmjnglmjaaGreatDoor
set_option linter.unusedSimpArgs false
set_option linter.unusedVariables false
open Go.RowKit Go.Shelf
def lineE (a b : PtT) : List PtT := bif drawnB a && drawnB b then lineL a b else []
def lenV : Value → Nat | .slice _ n _ => n | _ => 0
def penO (x y lx ly sx sy n m r : Int) : Obj := .cells #[.int .i64 x, .int .i64 y, .int .i64 lx, .int .i64 ly, .int .i64 sx, .int .i64 sy, .int .i64 n, .int .i64 m, .int .i64 r] 142 (0, 0)
/-- At the label, behind k steps. -/
def LineJ (w : World) (a b : PtT) (a' : Act) (w' : World) : Prop :=
 ∃ (u : Nat → Value) (k : Nat) (v : Value) (p : Nat) (lx ly sx sy n m : Int) (N1 : Nat), (u = fun i => a'.tmps.getD i undef) ∧ a' = ⟨#[u 0, u 1, .pointer (some ⟨w.heap.size, 0, none⟩), .pointer (some ⟨w.heap.size + 1, 0, none⟩), u 4, u 5, u 6, u 7, u 8, .pointer (some ⟨p, 0, none⟩), .func (.func 99) #[.pointer (some ⟨p, 0, none⟩)] #[], v, u 12, u 13, u 14, u 15, u 16, u 17, u 18, u 19, u 20, u 21, u 22, u 23, u 24, u 25, u 26, u 27, u 28, u 29, u 30, u 31, u 32, u 33, u 34, u 35, u 36, u 37, u 38, u 39, u 40, u 41, u 42, u 43, u 44, u 45, u 46, u 47, u 48, u 49, u 50, u 51, u 52, u 53, u 54, u 55, u 56, u 57, u 58, u 59, u 60, u 61, u 62, u 63, u 64, u 65, u 66, u 67, u 68, u 69, u 70, u 71, u 72, u 73, u 74, u 75, u 76, u 77, u 78, u 79, u 80, u 81, u 82, u 83, u 84, u 85, u 86, u 87, u 88, u 89, u 90, u 91, u 92, u 93, u 94, u 95, u 96, u 97, u 98, u 99, u 100, u 101, u 102, u 103, u 104, u 105, u 106, u 107, u 108, u 109, u 110, u 111, u 112], []⟩ ∧
  (k : Int) ≤ n ∧ LineD a b lx ly sx sy n m ∧ StO w [.blk p (penO (linePt a b (k : Int)).x (linePt a b (k : Int)).y lx ly sx sy n m (restN n m (k : Int))), .blk (w.heap.size + 1) (.cells #[.int .i64 b.x, .int .i64 b.y] 26), .blk w.heap.size (.cells #[.int .i64 a.x, .int .i64 a.y] 26)] N1 26 2 encP v (lineN a b (k + 1)) w' ∧ drawnB a = true ∧ drawnB b = true

section
variable {α : Type} {w0 x y : World} {its : List It} {base : Nat} {e : TypeId} {k : Nat} {enc : α → List Value} {v : Value} {L : List α}
/-- A row of one element. -/
theorem StO.one (h : St w0 its x) (e : TypeId) (enc : α → List Value) (q : α) (hk : (enc q).length = k) : StO w0 its x.heap.size e k enc (.slice (some ⟨x.heap.size, 0, none⟩) 1 1) [q] (x.alloc (.cells (enc q).toArray e (0, 0))) := by
 refine ⟨h.below ((Below.refl _ _).alloc (Nat.le_refl _) _), ⟨by simp [hk], .inr ⟨x.heap.size, 1, (enc q).toArray, rfl, Nat.le_refl _, World.alloc_heap_new _ _, Nat.le_refl _, by decide, by simp [hk], ?_⟩⟩, h.size, h.top, by simp⟩
 simp [← hk]
/-- The newest block is written by a call. -/
theorem StO.pen {p : Nat} {o o' : Obj} (h : StO w0 (.blk p o :: its) base e k enc v L x) (ht : Turned (fun j => j = p) x y) (hp : y.heap[p]? = some o') : StO w0 (.blk p o' :: its) base e k enc v L y := by
 have hpb : p < base := h.top (.blk p o) (by simp)
 have hord := h.st.ord
 have hd : St w0 its y := h.st.drop1.turned ht (fun j hj => by rw [hj]; exact hord.1) (fun i hi => by
  have htop := hord.2.1 i hi
  cases i with
  | blk b ob => exact fun e => by simp only [It.top] at htop; omega
  | row v n s c hi' => exact fun j hj => by simp only [It.top] at htop; omega)
 refine ⟨⟨hd.low, fun i hi => ?_, ⟨hord.1, hord.2.1, hord.2.2⟩, fun i hi => ?_⟩, h.row.kept (row := some p) ⟨ht.os, ht.tape, ht.output, ht.size, fun j hj hn => ht.block j hj (fun e => hn (by rw [e]))⟩ ?_, h.low, fun i hi => ?_, Nat.le_trans h.hi ht.size⟩
 · rcases List.mem_cons.1 hi with rfl | hi
   · exact hp
   · exact hd.ok i hi
 · rcases List.mem_cons.1 hi with rfl | hi
   · exact block_lt hp
   · exact hd.top i hi
 · cases hv : v.ownBlock with
   | none => exact .inl rfl
   | some j => exact .inr (fun e => by have := (h.row.lt j hv).1; cases e; omega)
 · rcases List.mem_cons.1 hi with rfl | hi
   · exact hpb
   · exact h.top i (by simp [hi])
end

theorem LineD.start {a b : PtT} {lx ly sx sy n m : Int} (h : LineD a b lx ly sx sy n m) : linePt a b 0 = a := by
 rw [h.pt 0 (by omega) (by have := h.mle; omega), less_zero]
 simp
theorem lineJ_start {w W : World} {a b : PtT} {lx ly sx sy n m : Int} {p N1 : Nat} {v : Value} {its : List It} (hd : LineD a b lx ly sx sy n m)
 (h : StO w (.blk p (penO a.x a.y lx ly sx sy n m n) :: its) N1 26 2 encP v [a] W) :
 StO w (.blk p (penO (linePt a b ((0 : Nat) : Int)).x (linePt a b ((0 : Nat) : Int)).y lx ly sx sy n m (restN n m ((0 : Nat) : Int))) :: its) N1 26 2 encP v (lineN a b (0 + 1)) W := by
 have e : ((0 : Nat) : Int) = 0 := rfl
 have e1 : restN n m 0 = n := by unfold restN; rw [less_zero]; simp
 have e2 : lineN a b (0 + 1) = [a] := by rw [lineN_succ, e, hd.start]; rfl
 rw [e, hd.start, e1, e2]
 exact h

set_option maxRecDepth 100000 in
theorem side_any (d : Int) (w : World) : Calls Tryz.prog 97 #[.int .i64 d] w (Gives (.int .i64 (Lib.compareInt d 0)) w) := by
 have H := Lib.hid (cmp_int d 0 w)
 go_enter Tryz.func97, Tryz.ntmps97
 go_wp2_with fail
 refine H.out.mono ?_
 rintro e w' ⟨rfl, rfl⟩
 go_wp2_with fail
 go_ret
 exact ⟨rfl, Below.refl _ _⟩

set_option maxRecDepth 100000 in
set_option maxHeartbeats 4000000 in
theorem shLine_any (a b : PtT) (w : World) : Calls Tryz.prog 65 #[a.val, b.val] w (GivesRowE 26 2 (lineE a b).length ((lineE a b).flatMap encP) (errOf (drawnB a && drawnB b) 2) w) := by
 have HCa := Lib.hid (fun w => drawn_any a w)
 have HCb := Lib.hid (fun w => drawn_any b w)
 obtain ⟨da, hda⟩ : ∃ da, drawnB a = da := ⟨_, rfl⟩
 obtain ⟨db, hdb⟩ : ∃ db, drawnB b = db := ⟨_, rfl⟩
 have HDa := Lib.hid hda
 have HDb := Lib.hid hdb
 simp only [hda] at HCa
 simp only [hdb] at HCb
 obtain ⟨A, hA⟩ : ∃ A, A = a := ⟨_, rfl⟩
 obtain ⟨B, hB⟩ : ∃ B, B = b := ⟨_, rfl⟩
 have HA := Lib.hid hA
 have HB := Lib.hid hB
 obtain ⟨ax, ay⟩ := a
 obtain ⟨bx, by'⟩ := b
 rw [← hA, ← hB]
 clear hda hdb hA hB
 unfold PtT.val at HCa HCb
 have HS := Lib.hid (St.start w)
 show Calls _ _ #[A.val, B.val] _ _
 rw [HA.out, HB.out]
 unfold PtT.val
 go_enter Tryz.func65, Tryz.ntmps65
 go_wp2
 refine wp_scope_loop 0 (LineJ w ⟨ax, ay⟩ ⟨bx, by'⟩) (fun a' _ => (wayMax ⟨ax, ay⟩ ⟨bx, by'⟩ + 2).toNat - lenV (a'.tmps.getD 11 undef)) rfl ?_ ?_
 · rintro a' wr ⟨u, k, v, p, lx, ly, sx, sy, n, m, N1, -, rfl, hk, hd, ho, hda, hdb⟩
   obtain rfl : da = true := by rw [← HDa.out]; exact hda
   obtain rfl : db = true := by rw [← HDb.out]; exact hdb
   clear hda hdb
   clear HCa HCb HS
   have hAB := of_decide_eq_true HDa.out
   have hBB := of_decide_eq_true HDb.out
   simp only at hAB hBB
   have hn200 : n ≤ 200 := by
    rw [hd.top]; unfold wayMax wayN; simp only; split <;> split <;> omega
   have HNEAR := Lib.hid (hd.near hn200 ⟨⟨hAB.1, hAB.2.1⟩, hAB.2.2.1, hAB.2.2.2⟩ (i := (k : Int)) (by omega) hk)
   have HPT := Lib.hid (hd.pt (k : Int) (by omega) hk)
   have HPT1 := Lib.hid (hd.pt (k + 1 : Int) (by omega))
   have HFIN := Lib.hid (hd.fin (k : Int) (by omega) hk)
   have HRES := Lib.hid (fun h0 : 0 < n => less_next (i := (k : Int)) h0 hd.mle.1 hd.mle.2)
   have HD := Lib.hid hd
   have HK := Lib.hid hk
   have HN := Lib.hid hn200
   obtain ⟨px, hpx⟩ : ∃ px, (linePt (PtT.mk ax ay) (PtT.mk bx by') (k : Int)).x = px := ⟨_, rfl⟩
   obtain ⟨py, hpy⟩ : ∃ py, (linePt (PtT.mk ax ay) (PtT.mk bx by') (k : Int)).y = py := ⟨_, rfl⟩
   obtain ⟨rr, hrr⟩ : ∃ rr, restN n m (k : Int) = rr := ⟨_, rfl⟩
   rw [hpx, hpy, hrr] at ho
   unfold penO at ho
   have HPX := Lib.hid (show linePt (PtT.mk ax ay) (PtT.mk bx by') (k : Int) = ⟨px, py⟩ by rw [← hpx, ← hpy])
   have HRR := Lib.hid hrr
   have HO := Lib.hid ho
   clear hAB hBB hn200 hd hk hpx hpy hrr ho
   have HV := Lib.hid (show lenV v = k + 1 by
    obtain ⟨ad, cap, e, -⟩ := HO.out.shape
    rw [e]
    exact lineN_len _ _ _)
   obtain ⟨T, hT⟩ : ∃ T, (!decide (px = bx ∧ py = by')) = T := ⟨_, rfl⟩
   have HT := Lib.hid hT.symm
   clear hT
   repeat ((fail_if_success (with_reducible refine stop_at (id := 11) ?_)); (first | go_values | go_skip | go_guarded | go_step | go_upon | go_back | (simp only [Int.not_lt, Int.not_le] at *; go_simp) | (go_values <;> (try go_simp)) | (go_ite <;> go_prune <;> (try go_simp)) | (split <;> (first | (rename_i hx; exact (hx _ rfl).elim) | go_prune))))
   refine (wpIn_wide (n := 0)).1 ?_
   apply wp_region_vals 6 (Rl := [(eqv _), (eqv _), (eqv _), (eqv _), (eqv _), (fun v_ _ => v_ = (.bool T : Value))]) (C := (fun x y => Below x.heap.size x y))
   case hm => kernel_rfl
   case hk => rfl
   case hCr => exact (fun _ => Below.refl _ _)
   case hCt => intro _ _ _; exact (fun h k => grows_trans h k)
   case hst => exact ⟨fun _ _ _ _ h => h, fun _ _ _ _ h => h, fun _ _ _ _ h => h, fun _ _ _ _ h => h, fun _ _ _ _ h => h, fun _ _ _ _ h => h, trivial⟩
   case hfo => kernel_rfl
   case ht => kernel_rfl
   case hC0 => exact (grows_drew _)
   case hsteps =>
    refine ⟨?_, ?_, ?_, ?_, ?_, ?_, trivial⟩
    · intro a' w' hA hC hD; have s9 : a'.tmps[9]? = some _ := (hA.at 9 (by kernel_rfl)).trans rfl; clear hA hD; refine stepOk_plain rfl ?_; intro K hK; gi_wp2; exact hK _ _ rfl ((fun _ => Below.refl _ _) _)
    · intro a' w' hA hC hD; obtain ⟨u97, s97, r97⟩ := hD ⟨0, .data⟩ (by simp) rfl _ rfl; replace r97 : u97 = _ := r97; subst r97; clear hA hD; refine stepOk_plain rfl ?_; intro K hK; gi_wp2; exact hK _ _ rfl ((fun _ => Below.refl _ _) _)
    · intro a' w' hA hC hD; obtain ⟨u98, s98, r98⟩ := hD ⟨1, .data⟩ (by simp) rfl _ rfl; replace r98 : u98 = _ := r98; subst r98; clear hA hD; refine stepOk_plain rfl ?_; intro K hK; gi_wp2; exact hK _ _ rfl ((fun _ => Below.refl _ _) _)
    · intro a' w' hA hC hD; obtain ⟨u99, s99, r99⟩ := hD ⟨2, .data⟩ (by simp) rfl _ rfl; replace r99 : u99 = _ := r99; subst r99
      have b1 := cell_of_block (k := 0) ((HO.out.st.below hC).blockAt 0 rfl) rfl; have b2 := cell_of_block (k := 1) ((HO.out.st.below hC).blockAt 0 rfl) rfl
      clear hA hD; refine stepOk_plain rfl ?_; intro K hK; gi_wp2; exact hK _ _ rfl ((fun _ => Below.refl _ _) _)
    · intro a' w' hA hC hD; have s3 : a'.tmps[3]? = some _ := (hA.at 3 (by kernel_rfl)).trans rfl
      have b1 := cell_of_block (k := 0) ((HO.out.st.below hC).blockAt 1 rfl) rfl; have b2 := cell_of_block (k := 1) ((HO.out.st.below hC).blockAt 1 rfl) rfl
      clear hA hD; refine stepOk_plain rfl ?_; intro K hK; gi_wp2; exact hK _ _ rfl ((fun _ => Below.refl _ _) _)
    · intro a' w' hA hC hD; obtain ⟨u100, s100, r100⟩ := hD ⟨3, .data⟩ (by simp) rfl _ rfl; replace r100 : u100 = _ := r100; subst r100; obtain ⟨u101, s101, r101⟩ := hD ⟨4, .data⟩ (by simp) rfl _ rfl; replace r101 : u101 = _ := r101; subst r101; clear hA hD; refine stepOk_plain rfl ?_; intro K hK
      gi_wp2 <;> exact hK _ _ (congrArg Value.bool (by rw [HT.out]; simp; omega)) (Below.refl _ _)
   case hend =>
    intro w2 hC
    simp only [EndFrom, eqv, forall_eq, Act.put, List.length_cons, List.length_nil, List.drop_succ_cons, List.drop_zero, Nat.reduceAdd, List.setIfInBounds_toArray, List.set_cons_succ, List.set_cons_zero]
    have ho := HO.out.below hC
    clear HO hC
    have HO := Lib.hid ho
    clear ho
    gi_wp2
    cases T
    · have HL := Lib.hid (show (wayMax (PtT.mk ax ay) (PtT.mk bx by') + 1).toNat = k + 1 by
       have h1 : linePt (PtT.mk ax ay) (PtT.mk bx by') (k : Int) = PtT.mk bx by' := by
        have := HT.out
        simp at this
        rw [HPX.out, this.1, this.2]
       have h2 := HFIN.out.1 h1
       rw [← HD.out.top, ← h2]
       omega)
      clear HT
      go_wp2_with fail
      simp only [Exit.jump]
      refine bodyPost_ret (v := .tuple #[v, .int .i64 0]) (by simp [results, Tryz.results65, go_sem]) rfl ⟨v, by rw [HDa.out, HDb.out]; rfl, ?_, HO.out.st.low⟩
      rw [show lineE (PtT.mk ax ay) (PtT.mk bx by') = lineN (PtT.mk ax ay) (PtT.mk bx by') (k + 1) by unfold lineE lineL; rw [HDa.out, HDb.out, HL.out]; rfl]
      exact ownsRow_mono HO.out.row HO.out.low
    · have hkn : (k : Int) < n := by
       have h1 := HK.out
       rcases Int.lt_or_eq_of_le h1 with h | h
       · exact h
       · have h2 := HFIN.out.2 h
         rw [HPX.out] at h2
         have h3 := HT.out
         simp at h3
         injection h2 with e1 e2
         rcases h3 with h4 | h4
         · exact absurd e1 h4
         · exact absurd e2 h4
      obtain ⟨hr1, hr2, hr3⟩ := HRES.out (by omega)
      rw [HRR.out] at hr1 hr2 hr3
      have HKN := Lib.hid hkn
      have hpt1 := HPT1.out (by omega)
      have hpx : px = ax + lx * (k : Int) + sx * lessN n m (k : Int) ∧ py = ay + ly * (k : Int) + sy * lessN n m (k : Int) := by
       have h1 := HPT.out
       rw [HPX.out] at h1
       injection h1 with e1 e2
       exact ⟨e1, e2⟩
      have HCALL := Lib.hid (pen_next p px py lx ly sx sy n m rr ⟨by have := HNEAR.out; rw [← hpx.1] at this; exact this.1, by have := HNEAR.out; rw [← hpx.2] at this; exact this.2, HD.out.unit.1, HD.out.unit.2.1, HD.out.unit.2.2.1, HD.out.unit.2.2.2, by have := HN.out; omega, by have := HN.out; have := HD.out.mle; omega, by have := HN.out; omega⟩ w2 (HO.out.st.blockAt 0 rfl))
      have HQ := Lib.hid (show (2 * n ≤ rr + 2 * m → linePt (PtT.mk ax ay) (PtT.mk bx by') (k + 1 : Int) = ⟨px + lx + sx, py + ly + sy⟩ ∧ restN n m (k + 1 : Int) = rr + 2 * m - 2 * n) ∧ (¬ 2 * n ≤ rr + 2 * m → linePt (PtT.mk ax ay) (PtT.mk bx by') (k + 1 : Int) = ⟨px + lx, py + ly⟩ ∧ restN n m (k + 1 : Int) = rr + 2 * m) by
       refine ⟨fun h => ⟨?_, (hr2 h).2⟩, fun h => ⟨?_, (hr3 (by omega)).2⟩⟩
       · rw [hpt1, (hr2 h).1, hpx.1, hpx.2]
         simp only [Int.mul_add, Int.mul_one]
         congr 1 <;> omega
       · rw [hpt1, (hr3 (by omega)).1, hpx.1, hpx.2]
         simp only [Int.mul_add, Int.mul_one]
         congr 1 <;> omega)
      clear hkn hr1 hr2 hr3 hpt1 hpx HT
      go_wp2_with fail
      refine HCALL.out.mono ?_
      rintro e w3 ⟨rfl, ht, hpen⟩
      obtain ⟨qx, qy, qr, hq1, hq2, hq3⟩ : ∃ qx qy qr, linePt (PtT.mk ax ay) (PtT.mk bx by') (k + 1 : Int) = ⟨qx, qy⟩ ∧ restN n m (k + 1 : Int) = qr ∧ PenAt p qx qy lx ly sx sy n m qr w3 := by
       by_cases h : 2 * n ≤ rr + 2 * m
       · rw [if_pos h] at hpen
         exact ⟨_, _, _, (HQ.out.1 h).1, (HQ.out.1 h).2, hpen⟩
       · rw [if_neg h] at hpen
         exact ⟨_, _, _, (HQ.out.2 (by omega)).1, (HQ.out.2 (by omega)).2, hpen⟩
      have ho := HO.out.pen ht hq3
      clear HO HCALL HQ ht hpen hq3
      have HO := Lib.hid ho
      have HQ1 := Lib.hid hq1
      have HQ2 := Lib.hid hq2
      have k0 := cell_of_block (k := 0) (ho.st.blockAt 0 rfl) rfl
      have k1 := cell_of_block (k := 1) (ho.st.blockAt 0 rfl) rfl
      have HLEN := Lib.hid (lineN_len (PtT.mk ax ay) (PtT.mk bx by') (k + 1))
      clear ho hq1 hq2
      go_wp2_with (at_builtin; refine wpList_app1 rowP encP_len encP_one HO.out (Below.refl _ _) ⟨qx, qy⟩ _ rfl (by have := HLEN.out; have := HKN.out; have := HN.out; omega) (by decide) _ _ rfl rfl rfl _ rfl (by simp) ?_; intro v' w5 ho5 hsh; have HO5 := Lib.hid ho5; have HSH := Lib.hid hsh; clear ho5 hsh)
      go_step3
      refine ⟨rfl, ⟨_, k + 1, v', p, lx, ly, sx, sy, n, m, N1, rfl, ?_, by have := HKN.out; omega, HD.out, ?_, HDa.out, HDb.out⟩, ?_⟩
      · kernel_rfl
      · have e1 : ((k + 1 : Nat) : Int) = (k + 1 : Int) := by omega
        rw [e1, HQ1.out, HQ2.out, lineN_succ _ _ (k + 1), e1, HQ1.out]
        exact HO5.out
      · obtain ⟨ad, cap, e5⟩ := HSH.out
        show (wayMax _ _ + 2).toNat - lenV v' < (wayMax _ _ + 2).toNat - lenV v
        rw [e5, HV.out]
        have := HD.out.top
        have := HKN.out
        have := HLEN.out
        simp only [lenV]
        omega
 intro hpass
 have HPASS := Lib.hid hpass
 clear hpass
 repeat ((fail_if_success (with_reducible refine stop_at (id := 1) ?_)); (first | go_values | go_skip | go_guarded | go_step | go_upon | go_back | (simp only [Int.not_lt, Int.not_le] at *; go_simp) | (go_values <;> (try go_simp)) | (go_ite <;> go_prune <;> (try go_simp)) | (split <;> (first | (rename_i hx; exact (hx _ rfl).elim) | go_prune))))
 have hs_ := ((HS.out.alloc (.cells #[.int .i64 ax, .int .i64 ay] 26)).alloc (.cells #[.int .i64 bx, .int .i64 by'] 26))
 obtain ⟨w1, hw_⟩ : ∃ w1 : World, ((w.alloc (.cells #[.int .i64 ax, .int .i64 ay] 26)).alloc (.cells #[.int .i64 bx, .int .i64 by'] 26)) = w1 := ⟨_, rfl⟩
 rw [hw_] at hs_
 try simp only [World.size_alloc] at hs_
 have HS := Lib.hid hs_
 rw [hw_]
 clear hw_ hs_
 have k0 := cell_of_block (k := 0) (HS.out.blockAt 1 rfl) rfl
 have k1 := cell_of_block (k := 1) (HS.out.blockAt 1 rfl) rfl
 go_wp2_with fail
 clear k0 k1
 refine (HCa.out _).mono ?_
 rintro e w2 ⟨rfl, hb_⟩
 have HS := Lib.hid (HS.out.below hb_)
 clear hb_
 cases da
 · go_wp2_with fail
   simp only [Exit.jump]
   refine bodyPost_ret (v := .tuple #[.slice none 0 0, .int .i64 2]) (by simp [results, Tryz.results65, go_sem]) rfl ⟨.slice none 0 0, by rw [HDa.out]; rfl, ?_, HS.out.low⟩
   rw [show lineE (PtT.mk ax ay) (PtT.mk bx by') = [] by unfold lineE; rw [HDa.out]; rfl]
   exact World.ownsRow_nil _ _ _ _
 have k0 := cell_of_block (k := 0) (HS.out.blockAt 0 rfl) rfl
 have k1 := cell_of_block (k := 1) (HS.out.blockAt 0 rfl) rfl
 go_wp2_with fail
 clear k0 k1
 refine (HCb.out _).mono ?_
 rintro e w3 ⟨rfl, hb_⟩
 have HS := Lib.hid (HS.out.below hb_)
 clear hb_
 cases db
 · go_wp2_with fail
   simp only [Exit.jump]
   refine bodyPost_ret (v := .tuple #[.slice none 0 0, .int .i64 2]) (by simp [results, Tryz.results65, go_sem]) rfl ⟨.slice none 0 0, by rw [HDa.out, HDb.out]; rfl, ?_, HS.out.low⟩
   rw [show lineE (PtT.mk ax ay) (PtT.mk bx by') = [] by unfold lineE; rw [HDa.out, HDb.out]; rfl]
   exact World.ownsRow_nil _ _ _ _
 have hAB := of_decide_eq_true HDa.out
 have hBB := of_decide_eq_true HDb.out
 simp only at hAB hBB
 have HR := Lib.hid (And.intro hAB hBB)
 clear hAB hBB HCa HCb
 obtain ⟨dx, hdx⟩ : ∃ dx, bx - ax = dx := ⟨_, rfl⟩
 obtain ⟨dy, hdy⟩ : ∃ dy, by' - ay = dy := ⟨_, rfl⟩
 obtain ⟨X, hX⟩ : ∃ X, wayN ax bx = X := ⟨_, rfl⟩
 obtain ⟨Y, hY⟩ : ∃ Y, wayN ay by' = Y := ⟨_, rfl⟩
 have hsm : dx = bx - ax ∧ dy = by' - ay ∧ (-200 ≤ dx ∧ dx ≤ 200) ∧ (-200 ≤ dy ∧ dy ≤ 200) ∧ max dx (-dx) = X ∧ max dy (-dy) = Y ∧ 0 ≤ X ∧ X ≤ 200 ∧ 0 ≤ Y ∧ Y ≤ 200 := by
  have := HR.out
  subst hX hY hdx hdy
  unfold wayN
  refine ⟨rfl, rfl, by omega, by omega, by split <;> omega, by split <;> omega, by split <;> omega, by split <;> omega, by split <;> omega, by split <;> omega⟩
 have HSM := Lib.hid hsm
 have E1 := Lib.hid (show wrap64 (bx - ax) = dx by have := HSM.out; unfold wrap64; omega)
 have E2 := Lib.hid (show wrap64 (by' - ay) = dy by have := HSM.out; unfold wrap64; omega)
 have E3 := Lib.hid (show wrap64 (-dx) = -dx by have := HSM.out; unfold wrap64; omega)
 have E4 := Lib.hid (show wrap64 (-dy) = -dy by have := HSM.out; unfold wrap64; omega)
 have E5 := Lib.hid (show max dx (-dx) = X from HSM.out.2.2.2.2.1)
 have E6 := Lib.hid (show max dy (-dy) = Y from HSM.out.2.2.2.2.2.1)
 have HX := Lib.hid hX
 have HY := Lib.hid hY
 clear hsm hX hY hdx hdy
 repeat ((fail_if_success (with_reducible refine stop_at (id := 4) ?_)); (first | go_values | go_skip | go_guarded | go_step | go_upon | go_back | (simp only [Int.not_lt, Int.not_le] at *; go_simp) | (go_values <;> (try go_simp)) | (go_ite <;> go_prune <;> (try go_simp)) | (split <;> (first | (rename_i hx; exact (hx _ rfl).elim) | go_prune))))
 refine (wpIn_wide (n := 0)).1 ?_
 apply wp_region_vals 11 (Rl := [(eqv _), (eqv _), (eqv _), (eqv _), (eqv _), (eqv _), (eqv _), (eqv _), (eqv _), (eqv _), (eqv _)]) (C := (fun x y => Below x.heap.size x y))
 case hm => kernel_rfl
 case hk => rfl
 case hCr => exact (fun _ => Below.refl _ _)
 case hCt => intro _ _ _; exact (fun h k => grows_trans h k)
 case hst => exact ⟨fun _ _ _ _ h => h, fun _ _ _ _ h => h, fun _ _ _ _ h => h, fun _ _ _ _ h => h, fun _ _ _ _ h => h, fun _ _ _ _ h => h, fun _ _ _ _ h => h, fun _ _ _ _ h => h, fun _ _ _ _ h => h, fun _ _ _ _ h => h, fun _ _ _ _ h => h, trivial⟩
 case hfo => kernel_rfl
 case ht => kernel_rfl
 case hC0 => exact (grows_drew _)
 case hsteps =>
  refine ⟨?_, ?_, ?_, ?_, ?_, ?_, ?_, ?_, ?_, ?_, ?_, trivial⟩
  · intro a' w' hA hC hD; have s3 : a'.tmps[3]? = some _ := (hA.at 3 (by kernel_rfl)).trans rfl; clear hA hD; refine stepOk_plain rfl ?_; intro K hK; gi_wp2; exact hK _ _ rfl ((fun _ => Below.refl _ _) _)
  · intro a' w' hA hC hD; obtain ⟨u20, s20, r20⟩ := hD ⟨0, .data⟩ (by simp) rfl _ rfl; replace r20 : u20 = _ := r20; subst r20
    have b1 := cell_of_block (k := 0) ((HS.out.below hC).blockAt 0 rfl) rfl
    clear hA hD; refine stepOk_plain rfl ?_; intro K hK; gi_wp2; exact hK _ _ rfl ((fun _ => Below.refl _ _) _)
  · intro a' w' hA hC hD; have s2 : a'.tmps[2]? = some _ := (hA.at 2 (by kernel_rfl)).trans rfl; clear hA hD; refine stepOk_plain rfl ?_; intro K hK; gi_wp2; exact hK _ _ rfl ((fun _ => Below.refl _ _) _)
  · intro a' w' hA hC hD; obtain ⟨u22, s22, r22⟩ := hD ⟨2, .data⟩ (by simp) rfl _ rfl; replace r22 : u22 = _ := r22; subst r22
    have b1 := cell_of_block (k := 0) ((HS.out.below hC).blockAt 1 rfl) rfl
    clear hA hD; refine stepOk_plain rfl ?_; intro K hK; gi_wp2; exact hK _ _ rfl ((fun _ => Below.refl _ _) _)
  · intro a' w' hA hC hD; obtain ⟨u21, s21, r21⟩ := hD ⟨1, .data⟩ (by simp) rfl _ rfl; replace r21 : u21 = _ := r21; subst r21; obtain ⟨u23, s23, r23⟩ := hD ⟨3, .data⟩ (by simp) rfl _ rfl; replace r23 : u23 = _ := r23; subst r23; clear hA hD; refine stepOk_plain rfl ?_; intro K hK; gi_wp2; rw [E1.out]; exact hK _ _ rfl ((fun _ => Below.refl _ _) _)
  · intro a' w' hA hC hD; have s3 : a'.tmps[3]? = some _ := (hA.at 3 (by kernel_rfl)).trans rfl; clear hA hD; refine stepOk_plain rfl ?_; intro K hK; gi_wp2; exact hK _ _ rfl ((fun _ => Below.refl _ _) _)
  · intro a' w' hA hC hD; obtain ⟨u25, s25, r25⟩ := hD ⟨5, .data⟩ (by simp) rfl _ rfl; replace r25 : u25 = _ := r25; subst r25
    have b1 := cell_of_block (k := 1) ((HS.out.below hC).blockAt 0 rfl) rfl
    clear hA hD; refine stepOk_plain rfl ?_; intro K hK; gi_wp2; exact hK _ _ rfl ((fun _ => Below.refl _ _) _)
  · intro a' w' hA hC hD; have s2 : a'.tmps[2]? = some _ := (hA.at 2 (by kernel_rfl)).trans rfl; clear hA hD; refine stepOk_plain rfl ?_; intro K hK; gi_wp2; exact hK _ _ rfl ((fun _ => Below.refl _ _) _)
  · intro a' w' hA hC hD; obtain ⟨u27, s27, r27⟩ := hD ⟨7, .data⟩ (by simp) rfl _ rfl; replace r27 : u27 = _ := r27; subst r27
    have b1 := cell_of_block (k := 1) ((HS.out.below hC).blockAt 1 rfl) rfl
    clear hA hD; refine stepOk_plain rfl ?_; intro K hK; gi_wp2; exact hK _ _ rfl ((fun _ => Below.refl _ _) _)
  · intro a' w' hA hC hD; obtain ⟨u26, s26, r26⟩ := hD ⟨6, .data⟩ (by simp) rfl _ rfl; replace r26 : u26 = _ := r26; subst r26; obtain ⟨u28, s28, r28⟩ := hD ⟨8, .data⟩ (by simp) rfl _ rfl; replace r28 : u28 = _ := r28; subst r28; clear hA hD; refine stepOk_plain rfl ?_; intro K hK; gi_wp2; rw [E2.out]; exact hK _ _ rfl ((fun _ => Below.refl _ _) _)
  · intro a' w' hA hC hD; obtain ⟨u24, s24, r24⟩ := hD ⟨4, .data⟩ (by simp) rfl _ rfl; replace r24 : u24 = _ := r24; subst r24; clear hA hD; refine stepOk_plain rfl ?_; intro K hK; gi_wp2; exact hK _ _ rfl ((fun _ => Below.refl _ _) _)
 case hend =>
  intro w4 hC
  simp only [EndFrom, eqv, forall_eq, Act.put, List.length_cons, List.length_nil, List.drop_succ_cons, List.drop_zero, Nat.reduceAdd, List.setIfInBounds_toArray, List.set_cons_succ, List.set_cons_zero]
  have hs := HS.out.below hC
  clear HS hC
  have HS := Lib.hid hs
  clear hs
  gi_wp2
  repeat ((fail_if_success (with_reducible refine stop_at (id := 5) ?_)); (first | go_values | go_skip | go_guarded | go_step | go_upon | go_back | (simp only [Int.not_lt, Int.not_le] at *; go_simp) | (go_values <;> (try go_simp)) | (go_ite <;> go_prune <;> (try go_simp)) | (split <;> (first | (rename_i hx; exact (hx _ rfl).elim) | go_prune))))
  refine (wpIn_wide (n := 0)).1 ?_
  apply wp_region_vals 18 (Rl := [(eqv _), (eqv _), (eqv _), (eqv _), (eqv _), (eqv _), (eqv _), (eqv _), (eqv _), (eqv _), (eqv _), (eqv _), (eqv _), (eqv _), (eqv _), (eqv _), (eqv _), (eqv _)]) (C := (fun x y => Below x.heap.size x y))
  case hm => kernel_rfl
  case hk => rfl
  case hCr => exact (fun _ => Below.refl _ _)
  case hCt => intro _ _ _; exact (fun h k => grows_trans h k)
  case hst => exact ⟨fun _ _ _ _ h => h, fun _ _ _ _ h => h, fun _ _ _ _ h => h, fun _ _ _ _ h => h, fun _ _ _ _ h => h, fun _ _ _ _ h => h, fun _ _ _ _ h => h, fun _ _ _ _ h => h, fun _ _ _ _ h => h, fun _ _ _ _ h => h, fun _ _ _ _ h => h, fun _ _ _ _ h => h, fun _ _ _ _ h => h, fun _ _ _ _ h => h, fun _ _ _ _ h => h, fun _ _ _ _ h => h, fun _ _ _ _ h => h, fun _ _ _ _ h => h, trivial⟩
  case hfo => kernel_rfl
  case ht => kernel_rfl
  case hC0 => exact (grows_drew _)
  case hsteps =>
   refine ⟨?_, ?_, ?_, ?_, ?_, ?_, ?_, ?_, ?_, ?_, ?_, ?_, ?_, ?_, ?_, ?_, ?_, ?_, trivial⟩
   · intro a' w' hA hC hD; have s2 : a'.tmps[2]? = some _ := (hA.at 2 (by kernel_rfl)).trans rfl
     have b1 := cell_of_block (k := 0) ((HS.out.below hC).blockAt 1 rfl) rfl; have b2 := cell_of_block (k := 1) ((HS.out.below hC).blockAt 1 rfl) rfl
     clear hA hD; refine stepOk_plain rfl ?_; intro K hK; gi_wp2; exact hK _ _ rfl ((fun _ => Below.refl _ _) _)
   · intro a' w' hA hC hD; have s6 : a'.tmps[6]? = some _ := (hA.at 6 (by kernel_rfl)).trans rfl; clear hA hD; refine stepOk_plain rfl ?_; intro K hK; gi_wp2; exact hK _ _ rfl ((fun _ => Below.refl _ _) _)
   · intro a' w' hA hC hD; have s7 : a'.tmps[7]? = some _ := (hA.at 7 (by kernel_rfl)).trans rfl; clear hA hD; refine stepOk_plain rfl ?_; intro K hK; gi_wp2; exact hK _ _ rfl ((fun _ => Below.refl _ _) _)
   · intro a' w' hA hC hD; obtain ⟨u31, s31, r31⟩ := hD ⟨1, .data⟩ (by simp) rfl _ rfl; replace r31 : u31 = _ := r31; subst r31; obtain ⟨u32, s32, r32⟩ := hD ⟨2, .data⟩ (by simp) rfl _ rfl; replace r32 : u32 = _ := r32; subst r32; clear hA hD; refine stepOk_plain rfl ?_; intro K hK
     gi_wp2_with fail; refine (callsIn_wide.2 (side_any dx _)).mono ?_; rintro e w2 ⟨rfl, hb⟩
     exact hK _ _ rfl hb
   · intro a' w' hA hC hD; obtain ⟨u33, s33, r33⟩ := hD ⟨3, .data⟩ (by simp) rfl _ rfl; replace r33 : u33 = _ := r33; subst r33; clear hA hD; refine stepOk_plain rfl ?_; intro K hK; gi_wp2; exact hK _ _ rfl ((fun _ => Below.refl _ _) _)
   · intro a' w' hA hC hD; have s6 : a'.tmps[6]? = some _ := (hA.at 6 (by kernel_rfl)).trans rfl; clear hA hD; refine stepOk_plain rfl ?_; intro K hK; gi_wp2; exact hK _ _ rfl ((fun _ => Below.refl _ _) _)
   · intro a' w' hA hC hD; have s8 : a'.tmps[8]? = some _ := (hA.at 8 (by kernel_rfl)).trans rfl; clear hA hD; refine stepOk_plain rfl ?_; intro K hK; gi_wp2; exact hK _ _ rfl ((fun _ => Below.refl _ _) _)
   · intro a' w' hA hC hD; obtain ⟨u35, s35, r35⟩ := hD ⟨5, .data⟩ (by simp) rfl _ rfl; replace r35 : u35 = _ := r35; subst r35; obtain ⟨u36, s36, r36⟩ := hD ⟨6, .data⟩ (by simp) rfl _ rfl; replace r36 : u36 = _ := r36; subst r36; clear hA hD; refine stepOk_plain rfl ?_; intro K hK
     gi_wp2_with fail; refine (callsIn_wide.2 (side_any dy _)).mono ?_; rintro e w2 ⟨rfl, hb⟩
     exact hK _ _ rfl hb
   · intro a' w' hA hC hD; obtain ⟨u37, s37, r37⟩ := hD ⟨7, .data⟩ (by simp) rfl _ rfl; replace r37 : u37 = _ := r37; subst r37; clear hA hD; refine stepOk_plain rfl ?_; intro K hK; gi_wp2; exact hK _ _ rfl ((fun _ => Below.refl _ _) _)
   · intro a' w' hA hC hD; have s7 : a'.tmps[7]? = some _ := (hA.at 7 (by kernel_rfl)).trans rfl; clear hA hD; refine stepOk_plain rfl ?_; intro K hK; gi_wp2; exact hK _ _ rfl ((fun _ => Below.refl _ _) _)
   · intro a' w' hA hC hD; have s7 : a'.tmps[7]? = some _ := (hA.at 7 (by kernel_rfl)).trans rfl; clear hA hD; refine stepOk_plain rfl ?_; intro K hK; gi_wp2; exact hK _ _ rfl ((fun _ => Below.refl _ _) _)
   · intro a' w' hA hC hD; obtain ⟨u40, s40, r40⟩ := hD ⟨10, .data⟩ (by simp) rfl _ rfl; replace r40 : u40 = _ := r40; subst r40; clear hA hD; refine stepOk_plain rfl ?_; intro K hK; gi_wp2; rw [E3.out]; exact hK _ _ rfl ((fun _ => Below.refl _ _) _)
   · intro a' w' hA hC hD; obtain ⟨u39, s39, r39⟩ := hD ⟨9, .data⟩ (by simp) rfl _ rfl; replace r39 : u39 = _ := r39; subst r39; obtain ⟨u41, s41, r41⟩ := hD ⟨11, .data⟩ (by simp) rfl _ rfl; replace r41 : u41 = _ := r41; subst r41; clear hA hD; refine stepOk_plain rfl ?_; intro K hK; gi_wp2; rw [E5.out]; exact hK _ _ rfl ((fun _ => Below.refl _ _) _)
   · intro a' w' hA hC hD; have s8 : a'.tmps[8]? = some _ := (hA.at 8 (by kernel_rfl)).trans rfl; clear hA hD; refine stepOk_plain rfl ?_; intro K hK; gi_wp2; exact hK _ _ rfl ((fun _ => Below.refl _ _) _)
   · intro a' w' hA hC hD; have s8 : a'.tmps[8]? = some _ := (hA.at 8 (by kernel_rfl)).trans rfl; clear hA hD; refine stepOk_plain rfl ?_; intro K hK; gi_wp2; exact hK _ _ rfl ((fun _ => Below.refl _ _) _)
   · intro a' w' hA hC hD; obtain ⟨u44, s44, r44⟩ := hD ⟨14, .data⟩ (by simp) rfl _ rfl; replace r44 : u44 = _ := r44; subst r44; clear hA hD; refine stepOk_plain rfl ?_; intro K hK; gi_wp2; rw [E4.out]; exact hK _ _ rfl ((fun _ => Below.refl _ _) _)
   · intro a' w' hA hC hD; obtain ⟨u43, s43, r43⟩ := hD ⟨13, .data⟩ (by simp) rfl _ rfl; replace r43 : u43 = _ := r43; subst r43; obtain ⟨u45, s45, r45⟩ := hD ⟨15, .data⟩ (by simp) rfl _ rfl; replace r45 : u45 = _ := r45; subst r45; clear hA hD; refine stepOk_plain rfl ?_; intro K hK; gi_wp2; rw [E6.out]; exact hK _ _ rfl ((fun _ => Below.refl _ _) _)
   · intro a' w' hA hC hD; obtain ⟨u30, s30, r30⟩ := hD ⟨0, .data⟩ (by simp) rfl _ rfl; replace r30 : u30 = _ := r30; subst r30; obtain ⟨u34, s34, r34⟩ := hD ⟨4, .data⟩ (by simp) rfl _ rfl; replace r34 : u34 = _ := r34; subst r34; obtain ⟨u38, s38, r38⟩ := hD ⟨8, .data⟩ (by simp) rfl _ rfl; replace r38 : u38 = _ := r38; subst r38; obtain ⟨u42, s42, r42⟩ := hD ⟨12, .data⟩ (by simp) rfl _ rfl; replace r42 : u42 = _ := r42; subst r42; obtain ⟨u46, s46, r46⟩ := hD ⟨16, .data⟩ (by simp) rfl _ rfl; replace r46 : u46 = _ := r46; subst r46; clear hA hD; refine stepOk_plain rfl ?_; intro K hK; gi_wp2; exact hK _ _ rfl ((fun _ => Below.refl _ _) _)
  case hend =>
   intro w5 hC
   simp only [EndFrom, eqv, forall_eq, Act.put, List.length_cons, List.length_nil, List.drop_succ_cons, List.drop_zero, Nat.reduceAdd, List.setIfInBounds_toArray, List.set_cons_succ, List.set_cons_zero]
   gi_wp2
   have hs := HS.out.below hC
   clear HS hC
   have HS := Lib.hid hs
   clear hs
   obtain ⟨SX, hSX⟩ : ∃ SX, Lib.compareInt dx 0 = SX := ⟨_, rfl⟩
   obtain ⟨SY, hSY⟩ : ∃ SY, Lib.compareInt dy 0 = SY := ⟨_, rfl⟩
   rw [hSX, hSY]
   have HSX := Lib.hid hSX
   have HSY := Lib.hid hSY
   clear hSX hSY
   have hs_ := (HS.out.alloc (.cells #[.int .i64 ax, .int .i64 ay, .int .i64 SX, .int .i64 0, .int .i64 0, .int .i64 SY, .int .i64 X, .int .i64 Y, .int .i64 0] 142))
   obtain ⟨w6, hw_⟩ : ∃ w6 : World, (w5.alloc (.cells #[.int .i64 ax, .int .i64 ay, .int .i64 SX, .int .i64 0, .int .i64 0, .int .i64 SY, .int .i64 X, .int .i64 Y, .int .i64 0] 142)) = w6 := ⟨_, rfl⟩
   rw [hw_] at hs_
   try simp only [World.size_alloc] at hs_
   have HS := Lib.hid hs_
   rw [hw_]
   clear hw_ hs_
   repeat ((fail_if_success (with_reducible refine stop_at (id := 6) ?_)); (first | go_values | go_skip | go_guarded | go_step | go_upon | go_back | (simp only [Int.not_lt, Int.not_le] at *; go_simp) | (go_values <;> (try go_simp)) | (go_ite <;> go_prune <;> (try go_simp)) | (split <;> (first | (rename_i hx; exact (hx _ rfl).elim) | go_prune))))
   refine (wpIn_wide (n := 0)).1 ?_
   apply wp_region_vals 9 (Rl := [(eqv _), (eqv _), (eqv _), (eqv _), (eqv _), (eqv _), (eqv _), (eqv _), (eqv _)]) (C := (fun x y => Below x.heap.size x y))
   case hm => kernel_rfl
   case hk => rfl
   case hCr => exact (fun _ => Below.refl _ _)
   case hCt => intro _ _ _; exact (fun h k => grows_trans h k)
   case hst => exact ⟨fun _ _ _ _ h => h, fun _ _ _ _ h => h, fun _ _ _ _ h => h, fun _ _ _ _ h => h, fun _ _ _ _ h => h, fun _ _ _ _ h => h, fun _ _ _ _ h => h, fun _ _ _ _ h => h, fun _ _ _ _ h => h, trivial⟩
   case hfo => kernel_rfl
   case ht => kernel_rfl
   case hC0 => exact (grows_drew _)
   case hsteps =>
    refine ⟨?_, ?_, ?_, ?_, ?_, ?_, ?_, ?_, ?_, trivial⟩
    · intro a' w' hA hC hD; have s9 : a'.tmps[9]? = some _ := (hA.at 9 (by kernel_rfl)).trans rfl; clear hA hD; refine stepOk_plain rfl ?_; intro K hK; gi_wp2; exact hK _ _ rfl ((fun _ => Below.refl _ _) _)
    · intro a' w' hA hC hD; obtain ⟨u49, s49, r49⟩ := hD ⟨0, .data⟩ (by simp) rfl _ rfl; replace r49 : u49 = _ := r49; subst r49; clear hA hD; refine stepOk_plain rfl ?_; intro K hK; gi_wp2; exact hK _ _ rfl ((fun _ => Below.refl _ _) _)
    · intro a' w' hA hC hD; obtain ⟨u50, s50, r50⟩ := hD ⟨1, .data⟩ (by simp) rfl _ rfl; replace r50 : u50 = _ := r50; subst r50; clear hA hD; refine stepOk_plain rfl ?_; intro K hK; gi_wp2; exact hK _ _ rfl ((fun _ => Below.refl _ _) _)
    · intro a' w' hA hC hD; obtain ⟨u51, s51, r51⟩ := hD ⟨2, .data⟩ (by simp) rfl _ rfl; replace r51 : u51 = _ := r51; subst r51
      have b1 := cell_of_block (k := 7) ((HS.out.below hC).blockAt 0 rfl) rfl
      clear hA hD; refine stepOk_plain rfl ?_; intro K hK; gi_wp2; exact hK _ _ rfl ((fun _ => Below.refl _ _) _)
    · intro a' w' hA hC hD; have s9 : a'.tmps[9]? = some _ := (hA.at 9 (by kernel_rfl)).trans rfl; clear hA hD; refine stepOk_plain rfl ?_; intro K hK; gi_wp2; exact hK _ _ rfl ((fun _ => Below.refl _ _) _)
    · intro a' w' hA hC hD; obtain ⟨u53, s53, r53⟩ := hD ⟨4, .data⟩ (by simp) rfl _ rfl; replace r53 : u53 = _ := r53; subst r53; clear hA hD; refine stepOk_plain rfl ?_; intro K hK; gi_wp2; exact hK _ _ rfl ((fun _ => Below.refl _ _) _)
    · intro a' w' hA hC hD; obtain ⟨u54, s54, r54⟩ := hD ⟨5, .data⟩ (by simp) rfl _ rfl; replace r54 : u54 = _ := r54; subst r54; clear hA hD; refine stepOk_plain rfl ?_; intro K hK; gi_wp2; exact hK _ _ rfl ((fun _ => Below.refl _ _) _)
    · intro a' w' hA hC hD; obtain ⟨u55, s55, r55⟩ := hD ⟨6, .data⟩ (by simp) rfl _ rfl; replace r55 : u55 = _ := r55; subst r55
      have b1 := cell_of_block (k := 6) ((HS.out.below hC).blockAt 0 rfl) rfl
      clear hA hD; refine stepOk_plain rfl ?_; intro K hK; gi_wp2; exact hK _ _ rfl ((fun _ => Below.refl _ _) _)
    · intro a' w' hA hC hD; obtain ⟨u52, s52, r52⟩ := hD ⟨3, .data⟩ (by simp) rfl _ rfl; replace r52 : u52 = _ := r52; subst r52; obtain ⟨u56, s56, r56⟩ := hD ⟨7, .data⟩ (by simp) rfl _ rfl; replace r56 : u56 = _ := r56; subst r56; clear hA hD; refine stepOk_plain rfl ?_; intro K hK; gi_wp2; exact hK _ _ rfl ((fun _ => Below.refl _ _) _)
   case hend =>
    intro w7 hC
    simp only [EndFrom, eqv, forall_eq, Act.put, List.length_cons, List.length_nil, List.drop_succ_cons, List.drop_zero, Nat.reduceAdd, List.setIfInBounds_toArray, List.set_cons_succ, List.set_cons_zero]
    have hs := HS.out.below hC
    clear HS hC
    have HS := Lib.hid hs
    clear hs
    gi_wp2
    by_cases hst : X < Y
    · have HST := Lib.hid hst
      repeat ((fail_if_success (with_reducible refine stop_at (id := 7) ?_)); (first | go_values | go_skip | go_guarded | go_step | go_upon | go_back | (simp only [Int.not_lt, Int.not_le] at *; go_simp) | (go_values <;> (try go_simp)) | (go_ite <;> go_prune <;> (try go_simp)) | (split <;> (first | (rename_i hx; exact (hx _ rfl).elim) | go_prune))))
      refine (wpIn_wide (n := 0)).1 ?_
      clear hst
      have hs := HS.out.below (y := w7.drew) ⟨rfl, rfl, rfl, Nat.le_refl _, fun _ _ => rfl⟩
      clear HS
      have HS := Lib.hid hs
      clear hs
      refine wpIn_region_any (by kernel_rfl) ?_
      apply take_first (i := 1) (some 59)
      case hro => rfl
      case hi => rfl
      case hd => rfl
      case hs => kernel_rfl
      case hf => kernel_rfl
      case hr => kernel_rfl
      case hQ => exact fun _ _ _ h => h
      case hy => exact ⟨.inl ⟨by rfl, fun w => by go_simp; rfl⟩, fun _ => rfl⟩
      simp only [Act.put, List.setIfInBounds_toArray, List.set_cons_succ, List.set_cons_zero]
      apply take_first (i := 2) (some 60)
      case hro => rfl
      case hi => rfl
      case hd => rfl
      case hs => kernel_rfl
      case hf => kernel_rfl
      case hr => kernel_rfl
      case hQ => exact fun _ _ _ h => h
      case hy => exact ⟨.inl ⟨by rfl, fun w => by go_simp; rfl⟩, fun _ => rfl⟩
      simp only [Act.put, List.setIfInBounds_toArray, List.set_cons_succ, List.set_cons_zero]
      apply take_first (i := 3) (some 61)
      case hro => rfl
      case hi => rfl
      case hd => rfl
      case hs => kernel_rfl
      case hf => kernel_rfl
      case hr => kernel_rfl
      case hQ => exact fun _ _ _ h => h
      case hy => exact ⟨.inl ⟨by rfl, fun w => by go_simp; rfl⟩, fun _ => rfl⟩
      simp only [Act.put, List.setIfInBounds_toArray, List.set_cons_succ, List.set_cons_zero]
      apply wp_facts_marks [0, 4, 5, 6, 7, 8, 9, 10, 11, 12, 13, 14, 15, 16, 17, 18, 19] [20, 21, 22, 23, 24, 25, 26, 27, 28, 29, 30, 31] [true, false, false, false, true, true, true, true, true, true, true, true, true, true, true, true, true, true, true, true, false, false, false, false, false, false, false, false, false, false, false, false] [false, false, false, false, false, false, false, false, false, false, false, false, false, false, false, false, false, false, false, false, true, true, true, true, true, true, true, true, true, true, true, true] (Rl := [(0, (eqv _)), (4, (eqv _)), (5, (eqv _)), (6, (eqv _)), (7, (eqv _)), (8, (eqv _)), (9, (eqv _)), (10, (eqv _)), (11, (eqv _)), (12, (eqv _)), (13, (eqv _)), (14, (eqv _)), (15, (eqv _)), (16, (eqv _)), (17, (eqv _)), (18, (eqv _)), (19, (eqv _))]) (C := (fun x y => Below x.heap.size x y))
      case hk => rfl
      case hnd => decide
      case hmf => kernel_rfl
      case hmt => kernel_rfl
      case hCr => exact (fun _ => Below.refl _ _)
      case hCt => intro _ _ _; exact (fun h k => grows_trans h k)
      case hst => exact ⟨fun _ _ _ _ h => h, fun _ _ _ _ h => h, fun _ _ _ _ h => h, fun _ _ _ _ h => h, fun _ _ _ _ h => h, fun _ _ _ _ h => h, fun _ _ _ _ h => h, fun _ _ _ _ h => h, fun _ _ _ _ h => h, fun _ _ _ _ h => h, fun _ _ _ _ h => h, fun _ _ _ _ h => h, fun _ _ _ _ h => h, fun _ _ _ _ h => h, fun _ _ _ _ h => h, fun _ _ _ _ h => h, fun _ _ _ _ h => h, trivial⟩
      case hfo => kernel_rfl
      case hsp => kernel_rfl
      case hch => kernel_rfl
      case hfuel => kernel_rfl
      case hsteps =>
       refine ⟨?_, ?_, ?_, ?_, ?_, ?_, ?_, ?_, ?_, ?_, ?_, ?_, ?_, ?_, ?_, ?_, ?_, trivial⟩
       · intro a' w' hA hC hD; have s9 : a'.tmps[9]? = some _ := (hA.at 9 (by kernel_rfl)).trans rfl; clear hA hD; refine stepOk_plain rfl ?_; intro K hK; gi_wp2; exact hK _ _ rfl ((fun _ => Below.refl _ _) _)
       · intro a' w' hA hC hD; have s9 : a'.tmps[9]? = some _ := (hA.at 9 (by kernel_rfl)).trans rfl; clear hA hD; refine stepOk_plain rfl ?_; intro K hK; gi_wp2; exact hK _ _ rfl ((fun _ => Below.refl _ _) _)
       · intro a' w' hA hC hD; obtain ⟨u62, s62, r62⟩ := hD ⟨4, .data⟩ (by simp) rfl (by simp) _ rfl; replace r62 : u62 = _ := r62; subst r62; clear hA hD; refine stepOk_plain rfl ?_; intro K hK; gi_wp2; exact hK _ _ rfl ((fun _ => Below.refl _ _) _)
       · intro a' w' hA hC hD; obtain ⟨u63, s63, r63⟩ := hD ⟨5, .data⟩ (by simp) rfl (by simp) _ rfl; replace r63 : u63 = _ := r63; subst r63; clear hA hD; refine stepOk_plain rfl ?_; intro K hK; gi_wp2; exact hK _ _ rfl ((fun _ => Below.refl _ _) _)
       · intro a' w' hA hC hD; obtain ⟨u64, s64, r64⟩ := hD ⟨6, .data⟩ (by simp) rfl (by simp) _ rfl; replace r64 : u64 = _ := r64; subst r64
         have b1 := cell_of_block (k := 7) ((HS.out.below hC).blockAt 0 rfl) rfl
         clear hA hD; refine stepOk_plain rfl ?_; intro K hK; gi_wp2; exact hK _ _ rfl ((fun _ => Below.refl _ _) _)
       · intro a' w' hA hC hD; have s9 : a'.tmps[9]? = some _ := (hA.at 9 (by kernel_rfl)).trans rfl; clear hA hD; refine stepOk_plain rfl ?_; intro K hK; gi_wp2; exact hK _ _ rfl ((fun _ => Below.refl _ _) _)
       · intro a' w' hA hC hD; obtain ⟨u66, s66, r66⟩ := hD ⟨8, .data⟩ (by simp) rfl (by simp) _ rfl; replace r66 : u66 = _ := r66; subst r66; clear hA hD; refine stepOk_plain rfl ?_; intro K hK; gi_wp2; exact hK _ _ rfl ((fun _ => Below.refl _ _) _)
       · intro a' w' hA hC hD; obtain ⟨u67, s67, r67⟩ := hD ⟨9, .data⟩ (by simp) rfl (by simp) _ rfl; replace r67 : u67 = _ := r67; subst r67; clear hA hD; refine stepOk_plain rfl ?_; intro K hK; gi_wp2; exact hK _ _ rfl ((fun _ => Below.refl _ _) _)
       · intro a' w' hA hC hD; obtain ⟨u68, s68, r68⟩ := hD ⟨10, .data⟩ (by simp) rfl (by simp) _ rfl; replace r68 : u68 = _ := r68; subst r68
         have b1 := cell_of_block (k := 6) ((HS.out.below hC).blockAt 0 rfl) rfl
         clear hA hD; refine stepOk_plain rfl ?_; intro K hK; gi_wp2; exact hK _ _ rfl ((fun _ => Below.refl _ _) _)
       · intro a' w' hA hC hD; have s9 : a'.tmps[9]? = some _ := (hA.at 9 (by kernel_rfl)).trans rfl; clear hA hD; refine stepOk_plain rfl ?_; intro K hK; gi_wp2; exact hK _ _ rfl ((fun _ => Below.refl _ _) _)
       · intro a' w' hA hC hD; obtain ⟨u70, s70, r70⟩ := hD ⟨12, .data⟩ (by simp) rfl (by simp) _ rfl; replace r70 : u70 = _ := r70; subst r70; clear hA hD; refine stepOk_plain rfl ?_; intro K hK; gi_wp2; exact hK _ _ rfl ((fun _ => Below.refl _ _) _)
       · intro a' w' hA hC hD; obtain ⟨u71, s71, r71⟩ := hD ⟨13, .data⟩ (by simp) rfl (by simp) _ rfl; replace r71 : u71 = _ := r71; subst r71; clear hA hD; refine stepOk_plain rfl ?_; intro K hK; gi_wp2; exact hK _ _ rfl ((fun _ => Below.refl _ _) _)
       · intro a' w' hA hC hD; obtain ⟨u72, s72, r72⟩ := hD ⟨14, .data⟩ (by simp) rfl (by simp) _ rfl; replace r72 : u72 = _ := r72; subst r72
         have b1 := cell_of_block (k := 4) ((HS.out.below hC).blockAt 0 rfl) rfl; have b2 := cell_of_block (k := 5) ((HS.out.below hC).blockAt 0 rfl) rfl
         clear hA hD; refine stepOk_plain rfl ?_; intro K hK; gi_wp2; exact hK _ _ rfl ((fun _ => Below.refl _ _) _)
       · intro a' w' hA hC hD; have s9 : a'.tmps[9]? = some _ := (hA.at 9 (by kernel_rfl)).trans rfl; clear hA hD; refine stepOk_plain rfl ?_; intro K hK; gi_wp2; exact hK _ _ rfl ((fun _ => Below.refl _ _) _)
       · intro a' w' hA hC hD; obtain ⟨u74, s74, r74⟩ := hD ⟨16, .data⟩ (by simp) rfl (by simp) _ rfl; replace r74 : u74 = _ := r74; subst r74; clear hA hD; refine stepOk_plain rfl ?_; intro K hK; gi_wp2; exact hK _ _ rfl ((fun _ => Below.refl _ _) _)
       · intro a' w' hA hC hD; obtain ⟨u75, s75, r75⟩ := hD ⟨17, .data⟩ (by simp) rfl (by simp) _ rfl; replace r75 : u75 = _ := r75; subst r75; clear hA hD; refine stepOk_plain rfl ?_; intro K hK; gi_wp2; exact hK _ _ rfl ((fun _ => Below.refl _ _) _)
       · intro a' w' hA hC hD; obtain ⟨u76, s76, r76⟩ := hD ⟨18, .data⟩ (by simp) rfl (by simp) _ rfl; replace r76 : u76 = _ := r76; subst r76
         have b1 := cell_of_block (k := 2) ((HS.out.below hC).blockAt 0 rfl) rfl; have b2 := cell_of_block (k := 3) ((HS.out.below hC).blockAt 0 rfl) rfl
         clear hA hD; refine stepOk_plain rfl ?_; intro K hK; gi_wp2; exact hK _ _ rfl ((fun _ => Below.refl _ _) _)
      case hend =>
       intro w8 hC
       simp only [EndL, pickM, eqv, forall_eq, Act.put, List.setIfInBounds_toArray, List.set_cons_succ, List.set_cons_zero]
       have hs := HS.out.below hC
       clear HS hC
       have HS := Lib.hid hs
       have hq := hs.blockAt 0 rfl
       have b2 := cell_of_block (k := 2) hq rfl
       have b3 := cell_of_block (k := 3) hq rfl
       have b4 := cell_of_block (k := 4) hq rfl
       have b5 := cell_of_block (k := 5) hq rfl
       have b6 := cell_of_block (k := 6) hq rfl
       have b7 := cell_of_block (k := 7) hq rfl
       have f0 := free_of_block hq
       clear hs hq
       gi_wp2
       clear b2 b3 b4 b5 b6 b7 f0
       have hs : St w [.blk w5.heap.size (.cells #[.int .i64 ax, .int .i64 ay, .int .i64 0, .int .i64 SY, .int .i64 SX, .int .i64 0, .int .i64 Y, .int .i64 X, .int .i64 0] 142), .blk (w.heap.size + 1) (.cells #[.int .i64 bx, .int .i64 by'] 26), .blk w.heap.size (.cells #[.int .i64 ax, .int .i64 ay] 26)] (World.setCell (World.setCell (World.setCell (World.setCell (World.setCell (World.setCell w8 ⟨w5.heap.size, 6, none⟩ (.int .i64 Y)) ⟨w5.heap.size, 7, none⟩ (.int .i64 X)) ⟨w5.heap.size, 2, none⟩ (.int .i64 0)) ⟨w5.heap.size, 3, none⟩ (.int .i64 SY)) ⟨w5.heap.size, 4, none⟩ (.int .i64 SX)) ⟨w5.heap.size, 5, none⟩ (.int .i64 0)) := (St.putAt (pre := []) (St.putAt (pre := []) (St.putAt (pre := []) (St.putAt (pre := []) (St.putAt (pre := []) (St.putAt (pre := []) HS.out (by simp) 6 (.int .i64 Y) rfl) (by simp) 7 (.int .i64 X) rfl) (by simp) 2 (.int .i64 0) rfl) (by simp) 3 (.int .i64 SY) rfl) (by simp) 4 (.int .i64 SX) rfl) (by simp) 5 (.int .i64 0) rfl)
       clear HS
       obtain ⟨w9, hw9⟩ : ∃ w9, (World.setCell (World.setCell (World.setCell (World.setCell (World.setCell (World.setCell w8 ⟨w5.heap.size, 6, none⟩ (.int .i64 Y)) ⟨w5.heap.size, 7, none⟩ (.int .i64 X)) ⟨w5.heap.size, 2, none⟩ (.int .i64 0)) ⟨w5.heap.size, 3, none⟩ (.int .i64 SY)) ⟨w5.heap.size, 4, none⟩ (.int .i64 SX)) ⟨w5.heap.size, 5, none⟩ (.int .i64 0)) = w9 := ⟨_, rfl⟩
       rw [hw9] at hs
       first | rw [hw9] | simp only [hw9]
       clear hw9
       have HS := Lib.hid hs
       have hq := hs.blockAt 0 rfl
       have b7 := cell_of_block (k := 6) hq rfl
       have f0 := free_of_block hq
       have b8 := cell_of_block (k := 8) hq rfl
       have a0 := cell_of_block (k := 0) (hs.blockAt 2 rfl) rfl
       have a1 := cell_of_block (k := 1) (hs.blockAt 2 rfl) rfl
       clear hq hs
       go_wp2_with fail
       go_step3
       simp only [Exit.then]
       go_at_K
       have hd := lineD_steep (a := PtT.mk ax ay) (b := PtT.mk bx by') (by simp only; rw [HX.out, HY.out]; have := HST.out; omega)
       simp only at hd
       rw [HX.out, HY.out, ← HSM.out.1, ← HSM.out.2.1, HSX.out, HSY.out] at hd
       have ho := StO.one (HS.out.putAt (pre := []) (by simp) 8 (.int .i64 Y) (c' := #[.int .i64 ax, .int .i64 ay, .int .i64 0, .int .i64 SY, .int .i64 SX, .int .i64 0, .int .i64 Y, .int .i64 X, .int .i64 Y]) rfl) 26 encP ⟨ax, ay⟩ rfl
       rw [World.size_setCell] at ho
       refine (‹∀ (a : Act) (w : World), Code.wp _ _ _ a w → _›) _ _ ?_
       refine HPASS.out _ _ ⟨_, 0, .slice (some ⟨w9.heap.size, 0, none⟩) 1 1, w5.heap.size, 0, SY, SX, 0, Y, X, w9.heap.size, rfl, ?_, by have := hd.mle; omega, hd, lineJ_start hd ho, HDa.out, HDb.out⟩
       kernel_rfl
    · have HST := Lib.hid hst
      have hq := HS.out.blockAt 0 rfl
      have b7 := cell_of_block (k := 6) hq rfl
      have f0 := free_of_block hq
      have b8 := cell_of_block (k := 8) hq rfl
      have a0 := cell_of_block (k := 0) (HS.out.blockAt 2 rfl) rfl
      have a1 := cell_of_block (k := 1) (HS.out.blockAt 2 rfl) rfl
      clear hq
      go_wp2_with fail
      go_step3
      simp only [Exit.then]
      go_at_K
      have hd := lineD_flat (a := PtT.mk ax ay) (b := PtT.mk bx by') (by simp only; rw [HX.out, HY.out]; have := HST.out; omega)
      simp only at hd
      rw [HX.out, HY.out, ← HSM.out.1, ← HSM.out.2.1, HSX.out, HSY.out] at hd
      have ho := StO.one (HS.out.putAt (pre := []) (by simp) 8 (.int .i64 X) (c' := #[.int .i64 ax, .int .i64 ay, .int .i64 SX, .int .i64 0, .int .i64 0, .int .i64 SY, .int .i64 X, .int .i64 Y, .int .i64 X]) rfl) 26 encP ⟨ax, ay⟩ rfl
      rw [World.size_setCell] at ho
      refine (‹∀ (a : Act) (w : World), Code.wp _ _ _ a w → _›) _ _ ?_
      refine HPASS.out _ _ ⟨_, 0, .slice (some ⟨w7.heap.size, 0, none⟩) 1 1, w5.heap.size, SX, 0, 0, SY, X, Y, w7.heap.size, rfl, ?_, by have := hd.mle; omega, hd, lineJ_start hd ho, HDa.out, HDb.out⟩
      kernel_rfl
end Go.Proofs.YthcdkkmjnglmjaaGreatDoor

/- Layer 6, plain: the spans about a place are the brush's places. -/
namespace Go.Proofs.YthcdkkmjnglmjaaGreatDoor
set_option linter.unusedSimpArgs false
set_option linter.unusedVariables false
open Go.RowKit Go.Shelf

theorem wideG_some {size : Int} {round : Bool} {dy : Int} : ∀ {k w : Nat}, wideG size round dy k = some w → inSize size round (w : Int) dy = true ∧ ∀ v : Nat, v < k → inSize size round (v : Int) dy = true → v ≤ w
 | k + 1, w, h => by
  unfold wideG at h
  split at h
  · cases h; exact ⟨by assumption, fun v hv _ => by omega⟩
  · rename_i hn
    obtain ⟨h1, h2⟩ := wideG_some h
    refine ⟨h1, fun v hv hi => ?_⟩
    rcases Nat.lt_or_eq_of_le (Nat.lt_succ_iff.1 hv) with h3 | rfl
    · exact h2 v h3 hi
    · exact absurd hi hn
theorem wideG_none {size : Int} {round : Bool} {dy : Int} : ∀ {k : Nat}, wideG size round dy k = none → ∀ v : Nat, v < k → inSize size round (v : Int) dy = false
 | k + 1, h, v, hv => by
  unfold wideG at h
  split at h
  · cases h
  · rename_i hn
    rcases Nat.lt_or_eq_of_le (Nat.lt_succ_iff.1 hv) with h3 | rfl
    · exact wideG_none h v h3
    · simpa using hn
theorem mem_aboutTo {c : PtT} {size : Int} {round : Bool} {k : Nat} {s : SpT} : s ∈ aboutTo c size round k ↔ ∃ i w : Nat, i < k ∧ wideG size round (-size + (i : Int)) (size.toNat + 1) = some w ∧ s = ⟨c.y + (-size + (i : Int)), c.x - (w : Int), c.x + (w : Int)⟩ := by
 unfold aboutTo aboutRow
 rw [List.mem_flatMap]
 constructor
 · rintro ⟨i, hi, hs⟩
   obtain ⟨w, hw, e⟩ := List.mem_map.1 hs
   exact ⟨i, w, List.mem_range.1 hi, by simpa using hw, e.symm⟩
 · rintro ⟨i, w, hi, hw, e⟩
   exact ⟨i, List.mem_range.2 hi, List.mem_map.2 ⟨w, by simp [hw], e.symm⟩⟩
theorem mem_aboutL {c : PtT} {size : Int} {round : Bool} {s : SpT} (hs0 : 0 ≤ size) (h : s ∈ aboutL c size round) : (c.y - size ≤ s.y ∧ s.y ≤ c.y + size) ∧ (c.x - size ≤ s.f ∧ s.f ≤ s.t ∧ s.t ≤ c.x + size) := by
 obtain ⟨i, w, hi, hw, rfl⟩ := mem_aboutTo.1 h
 have := wideG_lt hw
 simp only
 omega
theorem aboutTo_len (c : PtT) (size : Int) (round : Bool) : ∀ k, (aboutTo c size round k).length ≤ k
 | 0 => by simp [aboutTo]
 | k + 1 => by
  have h := aboutTo_len c size round k
  rw [aboutTo_succ, List.length_append]
  have : (aboutRow c size round (-size + (k : Int))).length ≤ 1 := by
   unfold aboutRow
   cases wideG size round (-size + (k : Int)) (size.toNat + 1) <;> simp
  omega
theorem aboutL_len {c : PtT} {size : Int} {round : Bool} (h : size ≤ 15) : (aboutL c size round).length ≤ 31 := by
 have := aboutTo_len c size round (2 * size + 1).toNat
 unfold aboutL
 omega
theorem sq_le {a b : Int} (h0 : 0 ≤ a) (h : a ≤ b) : a * a ≤ b * b := Int.mul_le_mul h h h0 (by omega)
theorem wayN_sq (a b : Int) : wayN a b * wayN a b = (b - a) * (b - a) := by
 unfold wayN
 split
 · rw [show a - b = -(b - a) by omega, Int.neg_mul_neg]
 · rfl
theorem aboutL_has {c : PtT} {size : Int} {round : Bool} (hs0 : 0 ≤ size) (p : PtT) : hasB (aboutL c size round) p = true ↔ inRef size round c p = true := by
 rw [hasB_iff]
 constructor
 · rintro ⟨s, hs, h1, h2, h3⟩
   obtain ⟨i, w, hi, hw, rfl⟩ := mem_aboutTo.1 hs
   have hlt := wideG_lt hw
   obtain ⟨hin, _⟩ := wideG_some hw
   simp only at h1 h2 h3
   have hX : wayN c.x p.x ≤ (w : Int) := by unfold wayN; split <;> omega
   have hY : wayN c.y p.y ≤ size := by unfold wayN; split <;> omega
   unfold inRef
   cases round
   · simp; omega
   · simp only [cond_true, decide_eq_true_eq]
     have h4 : (w : Int) * w + (-size + (i : Int)) * (-size + (i : Int)) ≤ size * size := by simpa [inSize] using hin
     have h5 := sq_le (wayN_nonneg c.x p.x) hX
     rw [wayN_sq c.y p.y, show p.y - c.y = -size + (i : Int) by omega]
     omega
 · intro h
   obtain ⟨⟨x1, x2⟩, y1, y2⟩ := inRef_in hs0 h
   obtain ⟨X, hX⟩ := Int.eq_ofNat_of_zero_le (wayN_nonneg c.x p.x)
   have hXs : (X : Int) ≤ size := by rw [← hX]; unfold wayN; split <;> omega
   obtain ⟨i, hi⟩ : ∃ i : Nat, p.y - c.y = -size + (i : Int) := ⟨(p.y - c.y + size).toNat, by omega⟩
   have hin : inSize size round (X : Int) (-size + (i : Int)) = true := by
    unfold inSize
    cases round
    · rfl
    · unfold inRef at h
      simp only [cond_true, decide_eq_true_eq] at h
      rw [hX, wayN_sq c.y p.y, hi] at h
      simpa using h
   cases hw : wideG size round (-size + (i : Int)) (size.toNat + 1) with
   | none =>
    have := wideG_none hw X (by omega)
    rw [this] at hin; cases hin
   | some w =>
    have hwx := (wideG_some hw).2 X (by omega) hin
    refine ⟨_, mem_aboutTo.2 ⟨i, w, by omega, hw, rfl⟩, by simp only; omega, ?_, ?_⟩
    · simp only
      have : c.x - p.x ≤ X := by rw [← hX]; unfold wayN; split <;> omega
      omega
    · simp only
      have : p.x - c.x ≤ X := by rw [← hX]; unfold wayN; split <;> omega
      omega
/-- The spans of places. -/
def sweepL (size : Int) (round : Bool) (l : List PtT) : List SpT := l.flatMap fun c => aboutL c size round
theorem sweepL_has {size : Int} {round : Bool} (hs0 : 0 ≤ size) (l : List PtT) (p : PtT) : hasB (sweepL size round l) p = true ↔ SwM size round l p := by
 rw [hasB_iff]
 unfold sweepL SwM
 constructor
 · rintro ⟨s, hs, h⟩
   obtain ⟨c, hc, hs⟩ := List.mem_flatMap.1 hs
   exact ⟨c, hc, (aboutL_has hs0 p).1 ((hasB_iff _ _).2 ⟨s, hs, h⟩)⟩
 · rintro ⟨c, hc, h⟩
   obtain ⟨s, hs, k⟩ := (hasB_iff _ _).1 ((aboutL_has hs0 p).2 h)
   exact ⟨s, List.mem_flatMap.2 ⟨c, hc, hs⟩, k⟩
theorem sweepL_len {size : Int} {round : Bool} (h : size ≤ 15) (l : List PtT) : (sweepL size round l).length ≤ l.length * 31 := by
 induction l with
 | nil => simp [sweepL]
 | cons a l ih =>
  unfold sweepL at *
  rw [List.flatMap_cons, List.length_append, List.length_cons]
  have := aboutL_len (c := a) (round := round) h
  omega
theorem sweepL_in {size : Int} {round : Bool} (hs0 : 0 ≤ size) (hs1 : size ≤ 15) {l : List PtT} (hd : ∀ c ∈ l, drawnB c = true) : ∀ s ∈ sweepL size round l, (-79 ≤ s.y ∧ s.y ≤ 142) ∧ (-79 ≤ s.f ∧ s.f ≤ s.t ∧ s.t ≤ 142) := by
 intro s hs
 obtain ⟨c, hc, hs⟩ := List.mem_flatMap.1 hs
 have h1 := mem_aboutL hs0 hs
 have h2 := (drawn_iff c).1 (hd c hc)
 omega
end Go.Proofs.YthcdkkmjnglmjaaGreatDoor
