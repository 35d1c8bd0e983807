/- Merged texts: Line SwP. -/
import Derived.Test.YthcdkkmjnglmjaaGreatDoorM9
import Derived.Test.YthcdkkmjnglmjaaGreatDoorM5
import Derived.Test.YthcdkkmjnglmjaaGreatDoorM8
set_option linter.unusedSimpArgs false
set_option linter.unusedVariables false
/- shape.Line. -/
namespace Go.Proofs.YthcdkkmjnglmjaaGreatDoor
open Go.RowKit Go.Shelf
def lineE (a b : PtT) : List PtT := bif drawnB a && drawnB b then lineL a b else []
def lenV : Value → Nat | .slice _ n _ => n | _ => 0
def penO (x y lx ly sx sy n m r : Int) : Obj := .cells #[.int .i64 x, .int .i64 y, .int .i64 lx, .int .i64 ly, .int .i64 sx, .int .i64 sy, .int .i64 n, .int .i64 m, .int .i64 r] 142 (0, 0)
/-- At the label, behind k steps. -/
def LineJ (w : World) (a b : PtT) (a' : Act) (w' : World) : Prop :=
 ∃ (u : Nat → Value) (k : Nat) (v : Value) (p : Nat) (lx ly sx sy n m : Int) (N1 : Nat), (u = fun i => a'.tmps.getD i undef) ∧ a' = ⟨#[u 0, u 1, .pointer (some ⟨w.heap.size, 0, none⟩), .pointer (some ⟨w.heap.size + 1, 0, none⟩), u 4, u 5, u 6, u 7, u 8, .pointer (some ⟨p, 0, none⟩), .func (.func 99) #[.pointer (some ⟨p, 0, none⟩)] #[], v, u 12, u 13, u 14, u 15, u 16, u 17, u 18, u 19, u 20, u 21, u 22, u 23, u 24, u 25, u 26, u 27, u 28, u 29, u 30, u 31, u 32, u 33, u 34, u 35, u 36, u 37, u 38, u 39, u 40, u 41, u 42, u 43, u 44, u 45, u 46, u 47, u 48, u 49, u 50, u 51, u 52, u 53, u 54, u 55, u 56, u 57, u 58, u 59, u 60, u 61, u 62, u 63, u 64, u 65, u 66, u 67, u 68, u 69, u 70, u 71, u 72, u 73, u 74, u 75, u 76, u 77, u 78, u 79, u 80, u 81, u 82, u 83, u 84, u 85, u 86, u 87, u 88, u 89, u 90, u 91, u 92, u 93, u 94, u 95, u 96, u 97, u 98, u 99, u 100, u 101, u 102, u 103, u 104, u 105, u 106, u 107, u 108, u 109, u 110, u 111, u 112], []⟩ ∧
  (k : Int) ≤ n ∧ LineD a b lx ly sx sy n m ∧ StO w [.blk p (penO (linePt a b (k : Int)).x (linePt a b (k : Int)).y lx ly sx sy n m (restN n m (k : Int))), .blk (w.heap.size + 1) (.cells #[.int .i64 b.x, .int .i64 b.y] 26), .blk w.heap.size (.cells #[.int .i64 a.x, .int .i64 a.y] 26)] N1 26 2 encP v (lineN a b (k + 1)) w' ∧ drawnB a = true ∧ drawnB b = true
section
variable {α : Type} {w0 x y : World} {its : List It} {base : Nat} {e : TypeId} {k : Nat} {enc : α → List Value} {v : Value} {L : List α}
/-- A row of one element. -/
theorem StO.one (h : St w0 its x) (e : TypeId) (enc : α → List Value) (q : α) (hk : (enc q).length = k) : StO w0 its x.heap.size e k enc (.slice (some ⟨x.heap.size, 0, none⟩) 1 1) [q] (x.alloc (.cells (enc q).toArray e (0, 0))) := by
 refine ⟨h.below ((B7 _ _).alloc (Nat.le_refl _) _), ⟨by simp [hk], .inr ⟨x.heap.size, 1, (enc q).toArray, rfl, Nat.le_refl _, World.alloc_heap_new _ _, Nat.le_refl _, by decide, by simp [hk], ?_⟩⟩, h.size, h.top, by simp⟩
 simp [← hk]
/-- The newest block is written by a call. -/
theorem StO.pen {p : Nat} {o o' : Obj} (h : StO w0 (.blk p o :: its) base e k enc v L x) (ht : Turned (fun j => j = p) x y) (hp : y.heap[p]? = some o') : StO w0 (.blk p o' :: its) base e k enc v L y := by
 have hpb : p < base := h.top (.blk p o) (by simp)
 have hord := h.st.ord
 have hd : St w0 its y := h.st.drop1.turned ht (fun j hj => by rw [hj]; exact hord.1) (fun i hi => by
  have htop := hord.2.1 i hi
  cases i with
  | blk b ob => exact fun e => by simp only [It.top] at htop; omega
  | row v n s c hi' => exact fun j hj => by simp only [It.top] at htop; omega)
 refine ⟨⟨hd.low, fun i hi => ?_, ⟨hord.1, hord.2.1, hord.2.2⟩, fun i hi => ?_⟩, h.row.kept (row := some p) ⟨ht.os, ht.tape, ht.output, ht.size, fun j hj hn => ht.block j hj (fun e => hn (by rw [e]))⟩ ?_, h.low, fun i hi => ?_, Nat.le_trans h.hi ht.size⟩
 · rcases List.mem_cons.1 hi with rfl | hi
   · exact hp
   · exact hd.ok i hi
 · rcases List.mem_cons.1 hi with rfl | hi
   · exact b7t hp
   · exact hd.top i hi
 · cases hv : v.ownBlock with
   | none => exact .inl rfl
   | some j => exact .inr (fun e => by have := (h.row.lt j hv).1; cases e; omega)
 · rcases List.mem_cons.1 hi with rfl | hi
   · exact hpb
   · exact h.top i (by simp [hi])
end
theorem LineD.start {a b : PtT} {lx ly sx sy n m : Int} (h : LineD a b lx ly sx sy n m) : linePt a b 0 = a := by
 rw [h.pt 0 (by omega) (by have := h.mle; omega), less_zero]
 simp
theorem lineJ_start {w W : World} {a b : PtT} {lx ly sx sy n m : Int} {p N1 : Nat} {v : Value} {its : List It} (hd : LineD a b lx ly sx sy n m)
 (h : StO w (.blk p (penO a.x a.y lx ly sx sy n m n) :: its) N1 26 2 encP v [a] W) :
 StO w (.blk p (penO (linePt a b ((0 : Nat) : Int)).x (linePt a b ((0 : Nat) : Int)).y lx ly sx sy n m (restN n m ((0 : Nat) : Int))) :: its) N1 26 2 encP v (lineN a b (0 + 1)) W := by
 have e : ((0 : Nat) : Int) = 0 := rfl
 have e1 : restN n m 0 = n := by unfold restN; rw [less_zero]; simp
 have e2 : lineN a b (0 + 1) = [a] := by rw [lineN_succ, e, hd.start]; rfl
 rw [e, hd.start, e1, e2]
 exact h
set_option maxRecDepth 100000 in
theorem side_any (d : Int) (w : World) : Calls Tryz.prog 97 #[.int .i64 d] w (Gives (.int .i64 (Lib.compareInt d 0)) w) := by
 have H := H7 (cmp_int d 0 w)
 go_enter Tryz.func97, Tryz.ntmps97
 go_wp2_with fail
 refine H.out.mono ?_
 rintro e w' ⟨rfl, rfl⟩
 go_wp2_with fail
 go_ret
 exact ⟨rfl, B7 _ _⟩
set_option maxRecDepth 100000 in
set_option maxHeartbeats 4000000 in
theorem shLine_any (a b : PtT) (w : World) : Calls Tryz.prog 65 #[a.val, b.val] w (GivesRowE 26 2 (lineE a b).length ((lineE a b).flatMap encP) (errOf (drawnB a && drawnB b) 2) w) := by
 have HCa := H7 (fun w => drawn_any a w)
 have HCb := H7 (fun w => drawn_any b w)
 obtain ⟨da, hda⟩ : ∃ da, drawnB a = da := ⟨_, rfl⟩
 obtain ⟨db, hdb⟩ : ∃ db, drawnB b = db := ⟨_, rfl⟩
 have HDa := H7 hda
 have HDb := H7 hdb
 simp only [hda] at HCa
 simp only [hdb] at HCb
 obtain ⟨A, hA⟩ : ∃ A, A = a := ⟨_, rfl⟩
 obtain ⟨B, hB⟩ : ∃ B, B = b := ⟨_, rfl⟩
 have HA := H7 hA
 have HB := H7 hB
 obtain ⟨ax, ay⟩ := a
 obtain ⟨bx, by'⟩ := b
 rw [← hA, ← hB]
 clear hda hdb hA hB
 unfold PtT.val at HCa HCb
 have HS := H7 (St.start w)
 show Calls _ _ #[A.val, B.val] _ _
 rw [HA.out, HB.out]
 unfold PtT.val
 go_enter Tryz.func65, Tryz.ntmps65
 go_wp2
 refine wp_scope_loop 0 (LineJ w ⟨ax, ay⟩ ⟨bx, by'⟩) (fun a' _ => (wayMax ⟨ax, ay⟩ ⟨bx, by'⟩ + 2).toNat - lenV (a'.tmps.getD 11 undef)) rfl ?_ ?_
 · rintro a' wr ⟨u, k, v, p, lx, ly, sx, sy, n, m, N1, -, rfl, hk, hd, ho, hda, hdb⟩
   obtain rfl : da = true := by rw [← HDa.out]; exact hda
   obtain rfl : db = true := by rw [← HDb.out]; exact hdb
   clear hda hdb
   clear HCa HCb HS
   have hAB := of_decide_eq_true HDa.out
   have hBB := of_decide_eq_true HDb.out
   simp only at hAB hBB
   have hn200 : n ≤ 200 := by
    rw [hd.top]; unfold wayMax wayN; simp only; split <;> split <;> omega
   have HNEAR := H7 (hd.near hn200 ⟨⟨hAB.1, hAB.2.1⟩, hAB.2.2.1, hAB.2.2.2⟩ (i := (k : Int)) (by omega) hk)
   have HPT := H7 (hd.pt (k : Int) (by omega) hk)
   have HPT1 := H7 (hd.pt (k + 1 : Int) (by omega))
   have HFIN := H7 (hd.fin (k : Int) (by omega) hk)
   have HRES := H7 (fun h0 : 0 < n => less_next (i := (k : Int)) h0 hd.mle.1 hd.mle.2)
   have HD := H7 hd
   have HK := H7 hk
   have HN := H7 hn200
   obtain ⟨px, hpx⟩ : ∃ px, (linePt (PtT.mk ax ay) (PtT.mk bx by') (k : Int)).x = px := ⟨_, rfl⟩
   obtain ⟨py, hpy⟩ : ∃ py, (linePt (PtT.mk ax ay) (PtT.mk bx by') (k : Int)).y = py := ⟨_, rfl⟩
   obtain ⟨rr, hrr⟩ : ∃ rr, restN n m (k : Int) = rr := ⟨_, rfl⟩
   rw [hpx, hpy, hrr] at ho
   unfold penO at ho
   have HPX := H7 (show linePt (PtT.mk ax ay) (PtT.mk bx by') (k : Int) = ⟨px, py⟩ by rw [← hpx, ← hpy])
   have HRR := H7 hrr
   have HO := H7 ho
   clear hAB hBB hn200 hd hk hpx hpy hrr ho
   have HV := H7 (show lenV v = k + 1 by
    obtain ⟨ad, cap, e, -⟩ := HO.out.shape
    rw [e]
    exact lineN_len _ _ _)
   obtain ⟨T, hT⟩ : ∃ T, (!decide (px = bx ∧ py = by')) = T := ⟨_, rfl⟩
   have HT := H7 hT.symm
   clear hT
   repeat ((fail_if_success (with_reducible refine stop_at (id := 11) ?_)); (first | go_values | go_skip | go_guarded | go_step | go_upon | go_back | (simp only [Int.not_lt, Int.not_le] at *; go_simp) | (go_values <;> (try go_simp)) | (go_ite <;> go_prune <;> (try go_simp)) | (split <;> (first | (rename_i hx; exact (hx _ rfl).elim) | go_prune))))
   refine (wpIn_wide (n := 0)).1 ?_
   apply w7v 6 (Rl := [(eqv _), (eqv _), (eqv _), (eqv _), (eqv _), (fun v_ _ => v_ = (.bool T : Value))]) (C := (fun x y => Below x.heap.size x y))
   case hm => kernel_rfl
   case hk => rfl
   case hCr => exact (fun _ => B7 _ _)
   case hCt => intro _ _ _; exact (fun h k => g7t h k)
   case hst => repeat (first | exact trivial | refine ⟨fun _ _ _ _ h => h, ?_⟩)
   case hfo => kernel_rfl
   case ht => kernel_rfl
   case hC0 => exact (g7d _)
   case hsteps =>
    refine ⟨?_, ?_, ?_, ?_, ?_, ?_, trivial⟩
    · intro a' w' hA hC hD; have s9 := hA.to 9 (by kernel_rfl) rfl; clear hA hD; refine o7p rfl ?_; intro K hK; gi_wp2; exact hK _ _ rfl (B7 _ _)
    · intro a' w' hA hC hD; obtain ⟨u97, s97, rfl⟩ := hD ⟨0, .data⟩ (by simp) rfl _ rfl; clear hA hD; refine o7p rfl ?_; intro K hK; gi_wp2; exact hK _ _ rfl (B7 _ _)
    · intro a' w' hA hC hD; obtain ⟨u98, s98, rfl⟩ := hD ⟨1, .data⟩ (by simp) rfl _ rfl; clear hA hD; refine o7p rfl ?_; intro K hK; gi_wp2; exact hK _ _ rfl (B7 _ _)
    · intro a' w' hA hC hD; obtain ⟨u99, s99, rfl⟩ := hD ⟨2, .data⟩ (by simp) rfl _ rfl
      have b1 := c7b (k := 0) ((HO.out.st.below hC).blockAt 0 rfl) rfl; have b2 := c7b (k := 1) ((HO.out.st.below hC).blockAt 0 rfl) rfl
      clear hA hD; refine o7p rfl ?_; intro K hK; gi_wp2; exact hK _ _ rfl (B7 _ _)
    · intro a' w' hA hC hD; have s3 := hA.to 3 (by kernel_rfl) rfl
      have b1 := c7b (k := 0) ((HO.out.st.below hC).blockAt 1 rfl) rfl; have b2 := c7b (k := 1) ((HO.out.st.below hC).blockAt 1 rfl) rfl
      clear hA hD; refine o7p rfl ?_; intro K hK; gi_wp2; exact hK _ _ rfl (B7 _ _)
    · intro a' w' hA hC hD; obtain ⟨u100, s100, rfl⟩ := hD ⟨3, .data⟩ (by simp) rfl _ rfl; obtain ⟨u101, s101, rfl⟩ := hD ⟨4, .data⟩ (by simp) rfl _ rfl; clear hA hD; refine o7p rfl ?_; intro K hK
      gi_wp2 <;> exact hK _ _ (congrArg Value.bool (by rw [HT.out]; simp; omega)) (B7 _ _)
   case hend =>
    intro w2 hC
    simp only [EndFrom, eqv, forall_eq, Act.put, List.length_cons, List.length_nil, List.drop_succ_cons, List.drop_zero, Nat.reduceAdd, List.setIfInBounds_toArray, List.set_cons_succ, List.set_cons_zero]
    have ho := HO.out.below hC
    clear HO hC
    have HO := H7 ho
    clear ho
    gi_wp2
    cases T
    · have HL := H7 (show (wayMax (PtT.mk ax ay) (PtT.mk bx by') + 1).toNat = k + 1 by
       have h1 : linePt (PtT.mk ax ay) (PtT.mk bx by') (k : Int) = PtT.mk bx by' := by
        have := HT.out
        simp at this
        rw [HPX.out, this.1, this.2]
       have h2 := HFIN.out.1 h1
       rw [← HD.out.top, ← h2]
       omega)
      clear HT
      go_wp2_with fail
      simp only [Exit.jump]
      refine bodyPost_ret (v := .tuple #[v, .int .i64 0]) (by simp [results, Tryz.results65, go_sem]) rfl ⟨v, by rw [HDa.out, HDb.out]; rfl, ?_, HO.out.st.low⟩
      rw [show lineE (PtT.mk ax ay) (PtT.mk bx by') = lineN (PtT.mk ax ay) (PtT.mk bx by') (k + 1) by unfold lineE lineL; rw [HDa.out, HDb.out, HL.out]; rfl]
      exact ownsRow_mono HO.out.row HO.out.low
    · have hkn : (k : Int) < n := by
       have h1 := HK.out
       rcases Int.lt_or_eq_of_le h1 with h | h
       · exact h
       · have h2 := HFIN.out.2 h
         rw [HPX.out] at h2
         have h3 := HT.out
         simp at h3
         injection h2 with e1 e2
         rcases h3 with h4 | h4
         · exact absurd e1 h4
         · exact absurd e2 h4
      obtain ⟨hr1, hr2, hr3⟩ := HRES.out (by omega)
      rw [HRR.out] at hr1 hr2 hr3
      have HKN := H7 hkn
      have hpt1 := HPT1.out (by omega)
      have hpx : px = ax + lx * (k : Int) + sx * lessN n m (k : Int) ∧ py = ay + ly * (k : Int) + sy * lessN n m (k : Int) := by
       have h1 := HPT.out
       rw [HPX.out] at h1
       injection h1 with e1 e2
       exact ⟨e1, e2⟩
      have HCALL := H7 (pen_next p px py lx ly sx sy n m rr ⟨by have := HNEAR.out; rw [← hpx.1] at this; exact this.1, by have := HNEAR.out; rw [← hpx.2] at this; exact this.2, HD.out.unit.1, HD.out.unit.2.1, HD.out.unit.2.2.1, HD.out.unit.2.2.2, by have := HN.out; omega, by have := HN.out; have := HD.out.mle; omega, by have := HN.out; omega⟩ w2 (HO.out.st.blockAt 0 rfl))
      have HQ := H7 (show (2 * n ≤ rr + 2 * m → linePt (PtT.mk ax ay) (PtT.mk bx by') (k + 1 : Int) = ⟨px + lx + sx, py + ly + sy⟩ ∧ restN n m (k + 1 : Int) = rr + 2 * m - 2 * n) ∧ (¬ 2 * n ≤ rr + 2 * m → linePt (PtT.mk ax ay) (PtT.mk bx by') (k + 1 : Int) = ⟨px + lx, py + ly⟩ ∧ restN n m (k + 1 : Int) = rr + 2 * m) by
       refine ⟨fun h => ⟨?_, (hr2 h).2⟩, fun h => ⟨?_, (hr3 (by omega)).2⟩⟩
       · rw [hpt1, (hr2 h).1, hpx.1, hpx.2]
         simp only [Int.mul_add, Int.mul_one]
         congr 1 <;> omega
       · rw [hpt1, (hr3 (by omega)).1, hpx.1, hpx.2]
         simp only [Int.mul_add, Int.mul_one]
         congr 1 <;> omega)
      clear hkn hr1 hr2 hr3 hpt1 hpx HT
      go_wp2_with fail
      refine HCALL.out.mono ?_
      rintro e w3 ⟨rfl, ht, hpen⟩
      obtain ⟨qx, qy, qr, hq1, hq2, hq3⟩ : ∃ qx qy qr, linePt (PtT.mk ax ay) (PtT.mk bx by') (k + 1 : Int) = ⟨qx, qy⟩ ∧ restN n m (k + 1 : Int) = qr ∧ PenAt p qx qy lx ly sx sy n m qr w3 := by
       by_cases h : 2 * n ≤ rr + 2 * m
       · rw [if_pos h] at hpen
         exact ⟨_, _, _, (HQ.out.1 h).1, (HQ.out.1 h).2, hpen⟩
       · rw [if_neg h] at hpen
         exact ⟨_, _, _, (HQ.out.2 (by omega)).1, (HQ.out.2 (by omega)).2, hpen⟩
      have ho := HO.out.pen ht hq3
      clear HO HCALL HQ ht hpen hq3
      have HO := H7 ho
      have HQ1 := H7 hq1
      have HQ2 := H7 hq2
      have k0 := c7b (k := 0) (ho.st.blockAt 0 rfl) rfl
      have k1 := c7b (k := 1) (ho.st.blockAt 0 rfl) rfl
      have HLEN := H7 (lineN_len (PtT.mk ax ay) (PtT.mk bx by') (k + 1))
      clear ho hq1 hq2
      go_wp2_with (at_builtin; refine wpList_app1 rowP encP_len encP_one HO.out (B7 _ _) ⟨qx, qy⟩ _ rfl (by have := HLEN.out; have := HKN.out; have := HN.out; omega) (by decide) _ _ rfl rfl rfl _ rfl (by simp) ?_; intro v' w5 ho5 hsh; have HO5 := H7 ho5; have HSH := H7 hsh; clear ho5 hsh)
      go_step3
      refine ⟨rfl, ⟨_, k + 1, v', p, lx, ly, sx, sy, n, m, N1, rfl, ?_, by have := HKN.out; omega, HD.out, ?_, HDa.out, HDb.out⟩, ?_⟩
      · kernel_rfl
      · have e1 : ((k + 1 : Nat) : Int) = (k + 1 : Int) := by omega
        rw [e1, HQ1.out, HQ2.out, lineN_succ _ _ (k + 1), e1, HQ1.out]
        exact HO5.out
      · obtain ⟨ad, cap, e5⟩ := HSH.out
        show (wayMax _ _ + 2).toNat - lenV v' < (wayMax _ _ + 2).toNat - lenV v
        rw [e5, HV.out]
        have := HD.out.top
        have := HKN.out
        have := HLEN.out
        simp only [lenV]
        omega
 intro hpass
 have HPASS := H7 hpass
 clear hpass
 repeat ((fail_if_success (with_reducible refine stop_at (id := 1) ?_)); (first | go_values | go_skip | go_guarded | go_step | go_upon | go_back | (simp only [Int.not_lt, Int.not_le] at *; go_simp) | (go_values <;> (try go_simp)) | (go_ite <;> go_prune <;> (try go_simp)) | (split <;> (first | (rename_i hx; exact (hx _ rfl).elim) | go_prune))))
 have hs_ := ((HS.out.alloc (.cells #[.int .i64 ax, .int .i64 ay] 26)).alloc (.cells #[.int .i64 bx, .int .i64 by'] 26))
 obtain ⟨w1, hw_⟩ : ∃ w1 : World, ((w.alloc (.cells #[.int .i64 ax, .int .i64 ay] 26)).alloc (.cells #[.int .i64 bx, .int .i64 by'] 26)) = w1 := ⟨_, rfl⟩
 rw [hw_] at hs_
 try simp only [World.size_alloc] at hs_
 have HS := H7 hs_
 rw [hw_]
 clear hw_ hs_
 have k0 := h7c HS 1 0 rfl rfl
 have k1 := h7c HS 1 1 rfl rfl
 go_wp2_with fail
 clear k0 k1
 refine (HCa.out _).mono ?_
 rintro e w2 ⟨rfl, hb_⟩
 have HS := H7 (HS.out.below hb_)
 clear hb_
 cases da
 · go_wp2_with fail
   simp only [Exit.jump]
   refine bodyPost_ret (v := .tuple #[.slice none 0 0, .int .i64 2]) (by simp [results, Tryz.results65, go_sem]) rfl ⟨.slice none 0 0, by rw [HDa.out]; rfl, ?_, HS.out.low⟩
   rw [show lineE (PtT.mk ax ay) (PtT.mk bx by') = [] by unfold lineE; rw [HDa.out]; rfl]
   exact World.ownsRow_nil _ _ _ _
 have k0 := h7c HS 0 0 rfl rfl
 have k1 := h7c HS 0 1 rfl rfl
 go_wp2_with fail
 clear k0 k1
 refine (HCb.out _).mono ?_
 rintro e w3 ⟨rfl, hb_⟩
 have HS := H7 (HS.out.below hb_)
 clear hb_
 cases db
 · go_wp2_with fail
   simp only [Exit.jump]
   refine bodyPost_ret (v := .tuple #[.slice none 0 0, .int .i64 2]) (by simp [results, Tryz.results65, go_sem]) rfl ⟨.slice none 0 0, by rw [HDa.out, HDb.out]; rfl, ?_, HS.out.low⟩
   rw [show lineE (PtT.mk ax ay) (PtT.mk bx by') = [] by unfold lineE; rw [HDa.out, HDb.out]; rfl]
   exact World.ownsRow_nil _ _ _ _
 have hAB := of_decide_eq_true HDa.out
 have hBB := of_decide_eq_true HDb.out
 simp only at hAB hBB
 have HR := H7 (And.intro hAB hBB)
 clear hAB hBB HCa HCb
 obtain ⟨dx, hdx⟩ : ∃ dx, bx - ax = dx := ⟨_, rfl⟩
 obtain ⟨dy, hdy⟩ : ∃ dy, by' - ay = dy := ⟨_, rfl⟩
 obtain ⟨X, hX⟩ : ∃ X, wayN ax bx = X := ⟨_, rfl⟩
 obtain ⟨Y, hY⟩ : ∃ Y, wayN ay by' = Y := ⟨_, rfl⟩
 have hsm : dx = bx - ax ∧ dy = by' - ay ∧ (-200 ≤ dx ∧ dx ≤ 200) ∧ (-200 ≤ dy ∧ dy ≤ 200) ∧ max dx (-dx) = X ∧ max dy (-dy) = Y ∧ 0 ≤ X ∧ X ≤ 200 ∧ 0 ≤ Y ∧ Y ≤ 200 := by
  have := HR.out
  subst hX hY hdx hdy
  unfold wayN
  refine ⟨rfl, rfl, by omega, by omega, by split <;> omega, by split <;> omega, by split <;> omega, by split <;> omega, by split <;> omega, by split <;> omega⟩
 have HSM := H7 hsm
 have E1 := H7 (show wrap64 (bx - ax) = dx by have := HSM.out; unfold wrap64; omega)
 have E2 := H7 (show wrap64 (by' - ay) = dy by have := HSM.out; unfold wrap64; omega)
 have E3 := H7 (show wrap64 (-dx) = -dx by have := HSM.out; unfold wrap64; omega)
 have E4 := H7 (show wrap64 (-dy) = -dy by have := HSM.out; unfold wrap64; omega)
 have E5 := H7 (show max dx (-dx) = X from HSM.out.2.2.2.2.1)
 have E6 := H7 (show max dy (-dy) = Y from HSM.out.2.2.2.2.2.1)
 have HX := H7 hX
 have HY := H7 hY
 clear hsm hX hY hdx hdy
 repeat ((fail_if_success (with_reducible refine stop_at (id := 4) ?_)); (first | go_values | go_skip | go_guarded | go_step | go_upon | go_back | (simp only [Int.not_lt, Int.not_le] at *; go_simp) | (go_values <;> (try go_simp)) | (go_ite <;> go_prune <;> (try go_simp)) | (split <;> (first | (rename_i hx; exact (hx _ rfl).elim) | go_prune))))
 refine (wpIn_wide (n := 0)).1 ?_
 apply w7v 11 (Rl := [(eqv _), (eqv _), (eqv _), (eqv _), (eqv _), (eqv _), (eqv _), (eqv _), (eqv _), (eqv _), (eqv _)]) (C := (fun x y => Below x.heap.size x y))
 case hm => kernel_rfl
 case hk => rfl
 case hCr => exact (fun _ => B7 _ _)
 case hCt => intro _ _ _; exact (fun h k => g7t h k)
 case hst => repeat (first | exact trivial | refine ⟨fun _ _ _ _ h => h, ?_⟩)
 case hfo => kernel_rfl
 case ht => kernel_rfl
 case hC0 => exact (g7d _)
 case hsteps =>
  refine ⟨?_, ?_, ?_, ?_, ?_, ?_, ?_, ?_, ?_, ?_, ?_, trivial⟩
  · intro a' w' hA hC hD; have s3 := hA.to 3 (by kernel_rfl) rfl; clear hA hD; refine o7p rfl ?_; intro K hK; gi_wp2; exact hK _ _ rfl (B7 _ _)
  · intro a' w' hA hC hD; obtain ⟨u20, s20, rfl⟩ := hD ⟨0, .data⟩ (by simp) rfl _ rfl
    have b1 := c7b (k := 0) ((HS.out.below hC).blockAt 0 rfl) rfl
    clear hA hD; refine o7p rfl ?_; intro K hK; gi_wp2; exact hK _ _ rfl (B7 _ _)
  · intro a' w' hA hC hD; have s2 := hA.to 2 (by kernel_rfl) rfl; clear hA hD; refine o7p rfl ?_; intro K hK; gi_wp2; exact hK _ _ rfl (B7 _ _)
  · intro a' w' hA hC hD; obtain ⟨u22, s22, rfl⟩ := hD ⟨2, .data⟩ (by simp) rfl _ rfl
    have b1 := c7b (k := 0) ((HS.out.below hC).blockAt 1 rfl) rfl
    clear hA hD; refine o7p rfl ?_; intro K hK; gi_wp2; exact hK _ _ rfl (B7 _ _)
  · intro a' w' hA hC hD; obtain ⟨u21, s21, rfl⟩ := hD ⟨1, .data⟩ (by simp) rfl _ rfl; obtain ⟨u23, s23, rfl⟩ := hD ⟨3, .data⟩ (by simp) rfl _ rfl; clear hA hD; refine o7p rfl ?_; intro K hK; gi_wp2; rw [E1.out]; exact hK _ _ rfl (B7 _ _)
  · intro a' w' hA hC hD; have s3 := hA.to 3 (by kernel_rfl) rfl; clear hA hD; refine o7p rfl ?_; intro K hK; gi_wp2; exact hK _ _ rfl (B7 _ _)
  · intro a' w' hA hC hD; obtain ⟨u25, s25, rfl⟩ := hD ⟨5, .data⟩ (by simp) rfl _ rfl
    have b1 := c7b (k := 1) ((HS.out.below hC).blockAt 0 rfl) rfl
    clear hA hD; refine o7p rfl ?_; intro K hK; gi_wp2; exact hK _ _ rfl (B7 _ _)
  · intro a' w' hA hC hD; have s2 := hA.to 2 (by kernel_rfl) rfl; clear hA hD; refine o7p rfl ?_; intro K hK; gi_wp2; exact hK _ _ rfl (B7 _ _)
  · intro a' w' hA hC hD; obtain ⟨u27, s27, rfl⟩ := hD ⟨7, .data⟩ (by simp) rfl _ rfl
    have b1 := c7b (k := 1) ((HS.out.below hC).blockAt 1 rfl) rfl
    clear hA hD; refine o7p rfl ?_; intro K hK; gi_wp2; exact hK _ _ rfl (B7 _ _)
  · intro a' w' hA hC hD; obtain ⟨u26, s26, rfl⟩ := hD ⟨6, .data⟩ (by simp) rfl _ rfl; obtain ⟨u28, s28, rfl⟩ := hD ⟨8, .data⟩ (by simp) rfl _ rfl; clear hA hD; refine o7p rfl ?_; intro K hK; gi_wp2; rw [E2.out]; exact hK _ _ rfl (B7 _ _)
  · intro a' w' hA hC hD; obtain ⟨u24, s24, rfl⟩ := hD ⟨4, .data⟩ (by simp) rfl _ rfl; clear hA hD; refine o7p rfl ?_; intro K hK; gi_wp2; exact hK _ _ rfl (B7 _ _)
 case hend =>
  intro w4 hC
  simp only [EndFrom, eqv, forall_eq, Act.put, List.length_cons, List.length_nil, List.drop_succ_cons, List.drop_zero, Nat.reduceAdd, List.setIfInBounds_toArray, List.set_cons_succ, List.set_cons_zero]
  have hs := HS.out.below hC
  clear HS hC
  have HS := H7 hs
  clear hs
  gi_wp2
  repeat ((fail_if_success (with_reducible refine stop_at (id := 5) ?_)); (first | go_values | go_skip | go_guarded | go_step | go_upon | go_back | (simp only [Int.not_lt, Int.not_le] at *; go_simp) | (go_values <;> (try go_simp)) | (go_ite <;> go_prune <;> (try go_simp)) | (split <;> (first | (rename_i hx; exact (hx _ rfl).elim) | go_prune))))
  refine (wpIn_wide (n := 0)).1 ?_
  apply w7v 18 (Rl := [(eqv _), (eqv _), (eqv _), (eqv _), (eqv _), (eqv _), (eqv _), (eqv _), (eqv _), (eqv _), (eqv _), (eqv _), (eqv _), (eqv _), (eqv _), (eqv _), (eqv _), (eqv _)]) (C := (fun x y => Below x.heap.size x y))
  case hm => kernel_rfl
  case hk => rfl
  case hCr => exact (fun _ => B7 _ _)
  case hCt => intro _ _ _; exact (fun h k => g7t h k)
  case hst => repeat (first | exact trivial | refine ⟨fun _ _ _ _ h => h, ?_⟩)
  case hfo => kernel_rfl
  case ht => kernel_rfl
  case hC0 => exact (g7d _)
  case hsteps =>
   refine ⟨?_, ?_, ?_, ?_, ?_, ?_, ?_, ?_, ?_, ?_, ?_, ?_, ?_, ?_, ?_, ?_, ?_, ?_, trivial⟩
   · intro a' w' hA hC hD; have s2 := hA.to 2 (by kernel_rfl) rfl
     have b1 := c7b (k := 0) ((HS.out.below hC).blockAt 1 rfl) rfl; have b2 := c7b (k := 1) ((HS.out.below hC).blockAt 1 rfl) rfl
     clear hA hD; refine o7p rfl ?_; intro K hK; gi_wp2; exact hK _ _ rfl (B7 _ _)
   · intro a' w' hA hC hD; have s6 := hA.to 6 (by kernel_rfl) rfl; clear hA hD; refine o7p rfl ?_; intro K hK; gi_wp2; exact hK _ _ rfl (B7 _ _)
   · intro a' w' hA hC hD; have s7 := hA.to 7 (by kernel_rfl) rfl; clear hA hD; refine o7p rfl ?_; intro K hK; gi_wp2; exact hK _ _ rfl (B7 _ _)
   · intro a' w' hA hC hD; obtain ⟨u31, s31, rfl⟩ := hD ⟨1, .data⟩ (by simp) rfl _ rfl; obtain ⟨u32, s32, rfl⟩ := hD ⟨2, .data⟩ (by simp) rfl _ rfl; clear hA hD; refine o7p rfl ?_; intro K hK
     gi_wp2_with fail; refine (callsIn_wide.2 (side_any dx _)).mono ?_; rintro e w2 ⟨rfl, hb⟩
     exact hK _ _ rfl hb
   · intro a' w' hA hC hD; obtain ⟨u33, s33, rfl⟩ := hD ⟨3, .data⟩ (by simp) rfl _ rfl; clear hA hD; refine o7p rfl ?_; intro K hK; gi_wp2; exact hK _ _ rfl (B7 _ _)
   · intro a' w' hA hC hD; have s6 := hA.to 6 (by kernel_rfl) rfl; clear hA hD; refine o7p rfl ?_; intro K hK; gi_wp2; exact hK _ _ rfl (B7 _ _)
   · intro a' w' hA hC hD; have s8 := hA.to 8 (by kernel_rfl) rfl; clear hA hD; refine o7p rfl ?_; intro K hK; gi_wp2; exact hK _ _ rfl (B7 _ _)
   · intro a' w' hA hC hD; obtain ⟨u35, s35, rfl⟩ := hD ⟨5, .data⟩ (by simp) rfl _ rfl; obtain ⟨u36, s36, rfl⟩ := hD ⟨6, .data⟩ (by simp) rfl _ rfl; clear hA hD; refine o7p rfl ?_; intro K hK
     gi_wp2_with fail; refine (callsIn_wide.2 (side_any dy _)).mono ?_; rintro e w2 ⟨rfl, hb⟩
     exact hK _ _ rfl hb
   · intro a' w' hA hC hD; obtain ⟨u37, s37, rfl⟩ := hD ⟨7, .data⟩ (by simp) rfl _ rfl; clear hA hD; refine o7p rfl ?_; intro K hK; gi_wp2; exact hK _ _ rfl (B7 _ _)
   · intro a' w' hA hC hD; have s7 := hA.to 7 (by kernel_rfl) rfl; clear hA hD; refine o7p rfl ?_; intro K hK; gi_wp2; exact hK _ _ rfl (B7 _ _)
   · intro a' w' hA hC hD; have s7 := hA.to 7 (by kernel_rfl) rfl; clear hA hD; refine o7p rfl ?_; intro K hK; gi_wp2; exact hK _ _ rfl (B7 _ _)
   · intro a' w' hA hC hD; obtain ⟨u40, s40, rfl⟩ := hD ⟨10, .data⟩ (by simp) rfl _ rfl; clear hA hD; refine o7p rfl ?_; intro K hK; gi_wp2; rw [E3.out]; exact hK _ _ rfl (B7 _ _)
   · intro a' w' hA hC hD; obtain ⟨u39, s39, rfl⟩ := hD ⟨9, .data⟩ (by simp) rfl _ rfl; obtain ⟨u41, s41, rfl⟩ := hD ⟨11, .data⟩ (by simp) rfl _ rfl; clear hA hD; refine o7p rfl ?_; intro K hK; gi_wp2; rw [E5.out]; exact hK _ _ rfl (B7 _ _)
   · intro a' w' hA hC hD; have s8 := hA.to 8 (by kernel_rfl) rfl; clear hA hD; refine o7p rfl ?_; intro K hK; gi_wp2; exact hK _ _ rfl (B7 _ _)
   · intro a' w' hA hC hD; have s8 := hA.to 8 (by kernel_rfl) rfl; clear hA hD; refine o7p rfl ?_; intro K hK; gi_wp2; exact hK _ _ rfl (B7 _ _)
   · intro a' w' hA hC hD; obtain ⟨u44, s44, rfl⟩ := hD ⟨14, .data⟩ (by simp) rfl _ rfl; clear hA hD; refine o7p rfl ?_; intro K hK; gi_wp2; rw [E4.out]; exact hK _ _ rfl (B7 _ _)
   · intro a' w' hA hC hD; obtain ⟨u43, s43, rfl⟩ := hD ⟨13, .data⟩ (by simp) rfl _ rfl; obtain ⟨u45, s45, rfl⟩ := hD ⟨15, .data⟩ (by simp) rfl _ rfl; clear hA hD; refine o7p rfl ?_; intro K hK; gi_wp2; rw [E6.out]; exact hK _ _ rfl (B7 _ _)
   · intro a' w' hA hC hD; obtain ⟨u30, s30, rfl⟩ := hD ⟨0, .data⟩ (by simp) rfl _ rfl; obtain ⟨u34, s34, rfl⟩ := hD ⟨4, .data⟩ (by simp) rfl _ rfl; obtain ⟨u38, s38, rfl⟩ := hD ⟨8, .data⟩ (by simp) rfl _ rfl; obtain ⟨u42, s42, rfl⟩ := hD ⟨12, .data⟩ (by simp) rfl _ rfl; obtain ⟨u46, s46, rfl⟩ := hD ⟨16, .data⟩ (by simp) rfl _ rfl; clear hA hD; refine o7p rfl ?_; intro K hK; gi_wp2; exact hK _ _ rfl (B7 _ _)
  case hend =>
   intro w5 hC
   simp only [EndFrom, eqv, forall_eq, Act.put, List.length_cons, List.length_nil, List.drop_succ_cons, List.drop_zero, Nat.reduceAdd, List.setIfInBounds_toArray, List.set_cons_succ, List.set_cons_zero]
   gi_wp2
   have hs := HS.out.below hC
   clear HS hC
   have HS := H7 hs
   clear hs
   obtain ⟨SX, hSX⟩ : ∃ SX, Lib.compareInt dx 0 = SX := ⟨_, rfl⟩
   obtain ⟨SY, hSY⟩ : ∃ SY, Lib.compareInt dy 0 = SY := ⟨_, rfl⟩
   rw [hSX, hSY]
   have HSX := H7 hSX
   have HSY := H7 hSY
   clear hSX hSY
   have hs_ := (HS.out.alloc (.cells #[.int .i64 ax, .int .i64 ay, .int .i64 SX, .int .i64 0, .int .i64 0, .int .i64 SY, .int .i64 X, .int .i64 Y, .int .i64 0] 142))
   obtain ⟨w6, hw_⟩ : ∃ w6 : World, (w5.alloc (.cells #[.int .i64 ax, .int .i64 ay, .int .i64 SX, .int .i64 0, .int .i64 0, .int .i64 SY, .int .i64 X, .int .i64 Y, .int .i64 0] 142)) = w6 := ⟨_, rfl⟩
   rw [hw_] at hs_
   try simp only [World.size_alloc] at hs_
   have HS := H7 hs_
   rw [hw_]
   clear hw_ hs_
   repeat ((fail_if_success (with_reducible refine stop_at (id := 6) ?_)); (first | go_values | go_skip | go_guarded | go_step | go_upon | go_back | (simp only [Int.not_lt, Int.not_le] at *; go_simp) | (go_values <;> (try go_simp)) | (go_ite <;> go_prune <;> (try go_simp)) | (split <;> (first | (rename_i hx; exact (hx _ rfl).elim) | go_prune))))
   refine (wpIn_wide (n := 0)).1 ?_
   apply w7v 9 (Rl := [(eqv _), (eqv _), (eqv _), (eqv _), (eqv _), (eqv _), (eqv _), (eqv _), (eqv _)]) (C := (fun x y => Below x.heap.size x y))
   case hm => kernel_rfl
   case hk => rfl
   case hCr => exact (fun _ => B7 _ _)
   case hCt => intro _ _ _; exact (fun h k => g7t h k)
   case hst => repeat (first | exact trivial | refine ⟨fun _ _ _ _ h => h, ?_⟩)
   case hfo => kernel_rfl
   case ht => kernel_rfl
   case hC0 => exact (g7d _)
   case hsteps =>
    refine ⟨?_, ?_, ?_, ?_, ?_, ?_, ?_, ?_, ?_, trivial⟩
    · intro a' w' hA hC hD; have s9 := hA.to 9 (by kernel_rfl) rfl; clear hA hD; refine o7p rfl ?_; intro K hK; gi_wp2; exact hK _ _ rfl (B7 _ _)
    · intro a' w' hA hC hD; obtain ⟨u49, s49, rfl⟩ := hD ⟨0, .data⟩ (by simp) rfl _ rfl; clear hA hD; refine o7p rfl ?_; intro K hK; gi_wp2; exact hK _ _ rfl (B7 _ _)
    · intro a' w' hA hC hD; obtain ⟨u50, s50, rfl⟩ := hD ⟨1, .data⟩ (by simp) rfl _ rfl; clear hA hD; refine o7p rfl ?_; intro K hK; gi_wp2; exact hK _ _ rfl (B7 _ _)
    · intro a' w' hA hC hD; obtain ⟨u51, s51, rfl⟩ := hD ⟨2, .data⟩ (by simp) rfl _ rfl
      have b1 := c7b (k := 7) ((HS.out.below hC).blockAt 0 rfl) rfl
      clear hA hD; refine o7p rfl ?_; intro K hK; gi_wp2; exact hK _ _ rfl (B7 _ _)
    · intro a' w' hA hC hD; have s9 := hA.to 9 (by kernel_rfl) rfl; clear hA hD; refine o7p rfl ?_; intro K hK; gi_wp2; exact hK _ _ rfl (B7 _ _)
    · intro a' w' hA hC hD; obtain ⟨u53, s53, rfl⟩ := hD ⟨4, .data⟩ (by simp) rfl _ rfl; clear hA hD; refine o7p rfl ?_; intro K hK; gi_wp2; exact hK _ _ rfl (B7 _ _)
    · intro a' w' hA hC hD; obtain ⟨u54, s54, rfl⟩ := hD ⟨5, .data⟩ (by simp) rfl _ rfl; clear hA hD; refine o7p rfl ?_; intro K hK; gi_wp2; exact hK _ _ rfl (B7 _ _)
    · intro a' w' hA hC hD; obtain ⟨u55, s55, rfl⟩ := hD ⟨6, .data⟩ (by simp) rfl _ rfl
      have b1 := c7b (k := 6) ((HS.out.below hC).blockAt 0 rfl) rfl
      clear hA hD; refine o7p rfl ?_; intro K hK; gi_wp2; exact hK _ _ rfl (B7 _ _)
    · intro a' w' hA hC hD; obtain ⟨u52, s52, rfl⟩ := hD ⟨3, .data⟩ (by simp) rfl _ rfl; obtain ⟨u56, s56, rfl⟩ := hD ⟨7, .data⟩ (by simp) rfl _ rfl; clear hA hD; refine o7p rfl ?_; intro K hK; gi_wp2; exact hK _ _ rfl (B7 _ _)
   case hend =>
    intro w7 hC
    simp only [EndFrom, eqv, forall_eq, Act.put, List.length_cons, List.length_nil, List.drop_succ_cons, List.drop_zero, Nat.reduceAdd, List.setIfInBounds_toArray, List.set_cons_succ, List.set_cons_zero]
    have hs := HS.out.below hC
    clear HS hC
    have HS := H7 hs
    clear hs
    gi_wp2
    by_cases hst : X < Y
    · have HST := H7 hst
      repeat ((fail_if_success (with_reducible refine stop_at (id := 7) ?_)); (first | go_values | go_skip | go_guarded | go_step | go_upon | go_back | (simp only [Int.not_lt, Int.not_le] at *; go_simp) | (go_values <;> (try go_simp)) | (go_ite <;> go_prune <;> (try go_simp)) | (split <;> (first | (rename_i hx; exact (hx _ rfl).elim) | go_prune))))
      refine (wpIn_wide (n := 0)).1 ?_
      clear hst
      have hs := HS.out.below (y := w7.drew) ⟨rfl, rfl, rfl, Nat.le_refl _, fun _ _ => rfl⟩
      clear HS
      have HS := H7 hs
      clear hs
      refine wpIn_region_any (by kernel_rfl) ?_
      apply take_first (i := 1) (some 59)
      case hro => rfl
      case hi => rfl
      case hd => rfl
      case hs => kernel_rfl
      case hf => kernel_rfl
      case hr => kernel_rfl
      case hQ => exact fun _ _ _ h => h
      case hy => exact ⟨.inl ⟨by rfl, fun w => by go_simp; rfl⟩, fun _ => rfl⟩
      simp only [Act.put, List.setIfInBounds_toArray, List.set_cons_succ, List.set_cons_zero]
      apply take_first (i := 2) (some 60)
      case hro => rfl
      case hi => rfl
      case hd => rfl
      case hs => kernel_rfl
      case hf => kernel_rfl
      case hr => kernel_rfl
      case hQ => exact fun _ _ _ h => h
      case hy => exact ⟨.inl ⟨by rfl, fun w => by go_simp; rfl⟩, fun _ => rfl⟩
      simp only [Act.put, List.setIfInBounds_toArray, List.set_cons_succ, List.set_cons_zero]
      apply take_first (i := 3) (some 61)
      case hro => rfl
      case hi => rfl
      case hd => rfl
      case hs => kernel_rfl
      case hf => kernel_rfl
      case hr => kernel_rfl
      case hQ => exact fun _ _ _ h => h
      case hy => exact ⟨.inl ⟨by rfl, fun w => by go_simp; rfl⟩, fun _ => rfl⟩
      simp only [Act.put, List.setIfInBounds_toArray, List.set_cons_succ, List.set_cons_zero]
      apply wp_facts_marks [0, 4, 5, 6, 7, 8, 9, 10, 11, 12, 13, 14, 15, 16, 17, 18, 19] [20, 21, 22, 23, 24, 25, 26, 27, 28, 29, 30, 31] [true, false, false, false, true, true, true, true, true, true, true, true, true, true, true, true, true, true, true, true, false, false, false, false, false, false, false, false, false, false, false, false] [false, false, false, false, false, false, false, false, false, false, false, false, false, false, false, false, false, false, false, false, true, true, true, true, true, true, true, true, true, true, true, true] (Rl := [(0, (eqv _)), (4, (eqv _)), (5, (eqv _)), (6, (eqv _)), (7, (eqv _)), (8, (eqv _)), (9, (eqv _)), (10, (eqv _)), (11, (eqv _)), (12, (eqv _)), (13, (eqv _)), (14, (eqv _)), (15, (eqv _)), (16, (eqv _)), (17, (eqv _)), (18, (eqv _)), (19, (eqv _))]) (C := (fun x y => Below x.heap.size x y))
      case hk => rfl
      case hnd => decide
      case hmf => kernel_rfl
      case hmt => kernel_rfl
      case hCr => exact (fun _ => B7 _ _)
      case hCt => intro _ _ _; exact (fun h k => g7t h k)
      case hst => repeat (first | exact trivial | refine ⟨fun _ _ _ _ h => h, ?_⟩)
      case hfo => kernel_rfl
      case hsp => kernel_rfl
      case hch => kernel_rfl
      case hfuel => kernel_rfl
      case hsteps =>
       refine ⟨?_, ?_, ?_, ?_, ?_, ?_, ?_, ?_, ?_, ?_, ?_, ?_, ?_, ?_, ?_, ?_, ?_, trivial⟩
       · intro a' w' hA hC hD; have s9 := hA.to 9 (by kernel_rfl) rfl; clear hA hD; refine o7p rfl ?_; intro K hK; gi_wp2; exact hK _ _ rfl (B7 _ _)
       · intro a' w' hA hC hD; have s9 := hA.to 9 (by kernel_rfl) rfl; clear hA hD; refine o7p rfl ?_; intro K hK; gi_wp2; exact hK _ _ rfl (B7 _ _)
       · intro a' w' hA hC hD; obtain ⟨u62, s62, rfl⟩ := hD ⟨4, .data⟩ (by simp) rfl (by simp) _ rfl; clear hA hD; refine o7p rfl ?_; intro K hK; gi_wp2; exact hK _ _ rfl (B7 _ _)
       · intro a' w' hA hC hD; obtain ⟨u63, s63, rfl⟩ := hD ⟨5, .data⟩ (by simp) rfl (by simp) _ rfl; clear hA hD; refine o7p rfl ?_; intro K hK; gi_wp2; exact hK _ _ rfl (B7 _ _)
       · intro a' w' hA hC hD; obtain ⟨u64, s64, rfl⟩ := hD ⟨6, .data⟩ (by simp) rfl (by simp) _ rfl
         have b1 := c7b (k := 7) ((HS.out.below hC).blockAt 0 rfl) rfl
         clear hA hD; refine o7p rfl ?_; intro K hK; gi_wp2; exact hK _ _ rfl (B7 _ _)
       · intro a' w' hA hC hD; have s9 := hA.to 9 (by kernel_rfl) rfl; clear hA hD; refine o7p rfl ?_; intro K hK; gi_wp2; exact hK _ _ rfl (B7 _ _)
       · intro a' w' hA hC hD; obtain ⟨u66, s66, rfl⟩ := hD ⟨8, .data⟩ (by simp) rfl (by simp) _ rfl; clear hA hD; refine o7p rfl ?_; intro K hK; gi_wp2; exact hK _ _ rfl (B7 _ _)
       · intro a' w' hA hC hD; obtain ⟨u67, s67, rfl⟩ := hD ⟨9, .data⟩ (by simp) rfl (by simp) _ rfl; clear hA hD; refine o7p rfl ?_; intro K hK; gi_wp2; exact hK _ _ rfl (B7 _ _)
       · intro a' w' hA hC hD; obtain ⟨u68, s68, rfl⟩ := hD ⟨10, .data⟩ (by simp) rfl (by simp) _ rfl
         have b1 := c7b (k := 6) ((HS.out.below hC).blockAt 0 rfl) rfl
         clear hA hD; refine o7p rfl ?_; intro K hK; gi_wp2; exact hK _ _ rfl (B7 _ _)
       · intro a' w' hA hC hD; have s9 := hA.to 9 (by kernel_rfl) rfl; clear hA hD; refine o7p rfl ?_; intro K hK; gi_wp2; exact hK _ _ rfl (B7 _ _)
       · intro a' w' hA hC hD; obtain ⟨u70, s70, rfl⟩ := hD ⟨12, .data⟩ (by simp) rfl (by simp) _ rfl; clear hA hD; refine o7p rfl ?_; intro K hK; gi_wp2; exact hK _ _ rfl (B7 _ _)
       · intro a' w' hA hC hD; obtain ⟨u71, s71, rfl⟩ := hD ⟨13, .data⟩ (by simp) rfl (by simp) _ rfl; clear hA hD; refine o7p rfl ?_; intro K hK; gi_wp2; exact hK _ _ rfl (B7 _ _)
       · intro a' w' hA hC hD; obtain ⟨u72, s72, rfl⟩ := hD ⟨14, .data⟩ (by simp) rfl (by simp) _ rfl
         have b1 := c7b (k := 4) ((HS.out.below hC).blockAt 0 rfl) rfl; have b2 := c7b (k := 5) ((HS.out.below hC).blockAt 0 rfl) rfl
         clear hA hD; refine o7p rfl ?_; intro K hK; gi_wp2; exact hK _ _ rfl (B7 _ _)
       · intro a' w' hA hC hD; have s9 := hA.to 9 (by kernel_rfl) rfl; clear hA hD; refine o7p rfl ?_; intro K hK; gi_wp2; exact hK _ _ rfl (B7 _ _)
       · intro a' w' hA hC hD; obtain ⟨u74, s74, rfl⟩ := hD ⟨16, .data⟩ (by simp) rfl (by simp) _ rfl; clear hA hD; refine o7p rfl ?_; intro K hK; gi_wp2; exact hK _ _ rfl (B7 _ _)
       · intro a' w' hA hC hD; obtain ⟨u75, s75, rfl⟩ := hD ⟨17, .data⟩ (by simp) rfl (by simp) _ rfl; clear hA hD; refine o7p rfl ?_; intro K hK; gi_wp2; exact hK _ _ rfl (B7 _ _)
       · intro a' w' hA hC hD; obtain ⟨u76, s76, rfl⟩ := hD ⟨18, .data⟩ (by simp) rfl (by simp) _ rfl
         have b1 := c7b (k := 2) ((HS.out.below hC).blockAt 0 rfl) rfl; have b2 := c7b (k := 3) ((HS.out.below hC).blockAt 0 rfl) rfl
         clear hA hD; refine o7p rfl ?_; intro K hK; gi_wp2; exact hK _ _ rfl (B7 _ _)
      case hend =>
       intro w8 hC
       simp only [EndL, pickM, eqv, forall_eq, Act.put, List.setIfInBounds_toArray, List.set_cons_succ, List.set_cons_zero]
       have hs := HS.out.below hC
       clear HS hC
       have HS := H7 hs
       have hq := hs.blockAt 0 rfl
       have b2 := c7b (k := 2) hq rfl
       have b3 := c7b (k := 3) hq rfl
       have b4 := c7b (k := 4) hq rfl
       have b5 := c7b (k := 5) hq rfl
       have b6 := c7b (k := 6) hq rfl
       have b7 := c7b (k := 7) hq rfl
       have f0 := f7b hq
       clear hs hq
       gi_wp2
       clear b2 b3 b4 b5 b6 b7 f0
       have hs : St w [.blk w5.heap.size (.cells #[.int .i64 ax, .int .i64 ay, .int .i64 0, .int .i64 SY, .int .i64 SX, .int .i64 0, .int .i64 Y, .int .i64 X, .int .i64 0] 142), .blk (w.heap.size + 1) (.cells #[.int .i64 bx, .int .i64 by'] 26), .blk w.heap.size (.cells #[.int .i64 ax, .int .i64 ay] 26)] (World.setCell (World.setCell (World.setCell (World.setCell (World.setCell (World.setCell w8 ⟨w5.heap.size, 6, none⟩ (.int .i64 Y)) ⟨w5.heap.size, 7, none⟩ (.int .i64 X)) ⟨w5.heap.size, 2, none⟩ (.int .i64 0)) ⟨w5.heap.size, 3, none⟩ (.int .i64 SY)) ⟨w5.heap.size, 4, none⟩ (.int .i64 SX)) ⟨w5.heap.size, 5, none⟩ (.int .i64 0)) := (St.putAt (pre := []) (St.putAt (pre := []) (St.putAt (pre := []) (St.putAt (pre := []) (St.putAt (pre := []) (St.putAt (pre := []) HS.out (by simp) 6 (.int .i64 Y) rfl) (by simp) 7 (.int .i64 X) rfl) (by simp) 2 (.int .i64 0) rfl) (by simp) 3 (.int .i64 SY) rfl) (by simp) 4 (.int .i64 SX) rfl) (by simp) 5 (.int .i64 0) rfl)
       clear HS
       obtain ⟨w9, hw9⟩ : ∃ w9, (World.setCell (World.setCell (World.setCell (World.setCell (World.setCell (World.setCell w8 ⟨w5.heap.size, 6, none⟩ (.int .i64 Y)) ⟨w5.heap.size, 7, none⟩ (.int .i64 X)) ⟨w5.heap.size, 2, none⟩ (.int .i64 0)) ⟨w5.heap.size, 3, none⟩ (.int .i64 SY)) ⟨w5.heap.size, 4, none⟩ (.int .i64 SX)) ⟨w5.heap.size, 5, none⟩ (.int .i64 0)) = w9 := ⟨_, rfl⟩
       rw [hw9] at hs
       first | rw [hw9] | simp only [hw9]
       clear hw9
       have HS := H7 hs
       have hq := hs.blockAt 0 rfl
       have b7 := c7b (k := 6) hq rfl
       have f0 := f7b hq
       have b8 := c7b (k := 8) hq rfl
       have a0 := c7b (k := 0) (hs.blockAt 2 rfl) rfl
       have a1 := c7b (k := 1) (hs.blockAt 2 rfl) rfl
       clear hq hs
       go_wp2_with fail
       go_step3
       simp only [Exit.then]
       go_at_K
       have hd := lineD_steep (a := PtT.mk ax ay) (b := PtT.mk bx by') (by simp only; rw [HX.out, HY.out]; have := HST.out; omega)
       simp only at hd
       rw [HX.out, HY.out, ← HSM.out.1, ← HSM.out.2.1, HSX.out, HSY.out] at hd
       have ho := StO.one (HS.out.putAt (pre := []) (by simp) 8 (.int .i64 Y) (c' := #[.int .i64 ax, .int .i64 ay, .int .i64 0, .int .i64 SY, .int .i64 SX, .int .i64 0, .int .i64 Y, .int .i64 X, .int .i64 Y]) rfl) 26 encP ⟨ax, ay⟩ rfl
       rw [World.size_setCell] at ho
       refine (‹∀ (a : Act) (w : World), Code.wp _ _ _ a w → _›) _ _ ?_
       refine HPASS.out _ _ ⟨_, 0, .slice (some ⟨w9.heap.size, 0, none⟩) 1 1, w5.heap.size, 0, SY, SX, 0, Y, X, w9.heap.size, rfl, ?_, by have := hd.mle; omega, hd, lineJ_start hd ho, HDa.out, HDb.out⟩
       kernel_rfl
    · have HST := H7 hst
      have hq := HS.out.blockAt 0 rfl
      have b7 := c7b (k := 6) hq rfl
      have f0 := f7b hq
      have b8 := c7b (k := 8) hq rfl
      have a0 := h7c HS 2 0 rfl rfl
      have a1 := h7c HS 2 1 rfl rfl
      clear hq
      go_wp2_with fail
      go_step3
      simp only [Exit.then]
      go_at_K
      have hd := lineD_flat (a := PtT.mk ax ay) (b := PtT.mk bx by') (by simp only; rw [HX.out, HY.out]; have := HST.out; omega)
      simp only at hd
      rw [HX.out, HY.out, ← HSM.out.1, ← HSM.out.2.1, HSX.out, HSY.out] at hd
      have ho := StO.one (HS.out.putAt (pre := []) (by simp) 8 (.int .i64 X) (c' := #[.int .i64 ax, .int .i64 ay, .int .i64 SX, .int .i64 0, .int .i64 0, .int .i64 SY, .int .i64 X, .int .i64 Y, .int .i64 X]) rfl) 26 encP ⟨ax, ay⟩ rfl
      rw [World.size_setCell] at ho
      refine (‹∀ (a : Act) (w : World), Code.wp _ _ _ a w → _›) _ _ ?_
      refine HPASS.out _ _ ⟨_, 0, .slice (some ⟨w7.heap.size, 0, none⟩) 1 1, w5.heap.size, SX, 0, 0, SY, X, Y, w7.heap.size, rfl, ?_, by have := hd.mle; omega, hd, lineJ_start hd ho, HDa.out, HDb.out⟩
      kernel_rfl
end Go.Proofs.YthcdkkmjnglmjaaGreatDoor
/- Layer 6, plain: the spans about a place are the brush's places. -/
namespace Go.Proofs.YthcdkkmjnglmjaaGreatDoor
open Go.RowKit Go.Shelf
theorem wideG_some {size : Int} {round : Bool} {dy : Int} : ∀ {k w : Nat}, wideG size round dy k = some w → inSize size round (w : Int) dy = true ∧ ∀ v : Nat, v < k → inSize size round (v : Int) dy = true → v ≤ w
 | k + 1, w, h => by
  unfold wideG at h
  split at h
  · cases h; exact ⟨by assumption, fun v hv _ => by omega⟩
  · rename_i hn
    obtain ⟨h1, h2⟩ := wideG_some h
    refine ⟨h1, fun v hv hi => ?_⟩
    rcases Nat.lt_or_eq_of_le (Nat.lt_succ_iff.1 hv) with h3 | rfl
    · exact h2 v h3 hi
    · exact absurd hi hn
theorem wideG_none {size : Int} {round : Bool} {dy : Int} : ∀ {k : Nat}, wideG size round dy k = none → ∀ v : Nat, v < k → inSize size round (v : Int) dy = false
 | k + 1, h, v, hv => by
  unfold wideG at h
  split at h
  · cases h
  · rename_i hn
    rcases Nat.lt_or_eq_of_le (Nat.lt_succ_iff.1 hv) with h3 | rfl
    · exact wideG_none h v h3
    · simpa using hn
theorem mem_aboutTo {c : PtT} {size : Int} {round : Bool} {k : Nat} {s : SpT} : s ∈ aboutTo c size round k ↔ ∃ i w : Nat, i < k ∧ wideG size round (-size + (i : Int)) (size.toNat + 1) = some w ∧ s = ⟨c.y + (-size + (i : Int)), c.x - (w : Int), c.x + (w : Int)⟩ := by
 unfold aboutTo aboutRow
 rw [List.mem_flatMap]
 constructor
 · rintro ⟨i, hi, hs⟩
   obtain ⟨w, hw, e⟩ := List.mem_map.1 hs
   exact ⟨i, w, List.mem_range.1 hi, by simpa using hw, e.symm⟩
 · rintro ⟨i, w, hi, hw, e⟩
   exact ⟨i, List.mem_range.2 hi, List.mem_map.2 ⟨w, by simp [hw], e.symm⟩⟩
theorem mem_aboutL {c : PtT} {size : Int} {round : Bool} {s : SpT} (hs0 : 0 ≤ size) (h : s ∈ aboutL c size round) : (c.y - size ≤ s.y ∧ s.y ≤ c.y + size) ∧ (c.x - size ≤ s.f ∧ s.f ≤ s.t ∧ s.t ≤ c.x + size) := by
 obtain ⟨i, w, hi, hw, rfl⟩ := mem_aboutTo.1 h
 have := wideG_lt hw
 simp only
 omega
theorem aboutTo_len (c : PtT) (size : Int) (round : Bool) : ∀ k, (aboutTo c size round k).length ≤ k
 | 0 => by simp [aboutTo]
 | k + 1 => by
  have h := aboutTo_len c size round k
  rw [aboutTo_succ, List.length_append]
  have : (aboutRow c size round (-size + (k : Int))).length ≤ 1 := by
   unfold aboutRow
   cases wideG size round (-size + (k : Int)) (size.toNat + 1) <;> simp
  omega
theorem aboutL_len {c : PtT} {size : Int} {round : Bool} (h : size ≤ 15) : (aboutL c size round).length ≤ 31 := by
 have := aboutTo_len c size round (2 * size + 1).toNat
 unfold aboutL
 omega
theorem sq_le {a b : Int} (h0 : 0 ≤ a) (h : a ≤ b) : a * a ≤ b * b := Int.mul_le_mul h h h0 (by omega)
theorem wayN_sq (a b : Int) : wayN a b * wayN a b = (b - a) * (b - a) := by
 unfold wayN
 split
 · rw [show a - b = -(b - a) by omega, Int.neg_mul_neg]
 · rfl
theorem aboutL_has {c : PtT} {size : Int} {round : Bool} (hs0 : 0 ≤ size) (p : PtT) : hasB (aboutL c size round) p = true ↔ inRef size round c p = true := by
 rw [hasB_iff]
 constructor
 · rintro ⟨s, hs, h1, h2, h3⟩
   obtain ⟨i, w, hi, hw, rfl⟩ := mem_aboutTo.1 hs
   have hlt := wideG_lt hw
   obtain ⟨hin, _⟩ := wideG_some hw
   simp only at h1 h2 h3
   have hX : wayN c.x p.x ≤ (w : Int) := by unfold wayN; split <;> omega
   have hY : wayN c.y p.y ≤ size := by unfold wayN; split <;> omega
   unfold inRef
   cases round
   · simp; omega
   · simp only [cond_true, decide_eq_true_eq]
     have h4 : (w : Int) * w + (-size + (i : Int)) * (-size + (i : Int)) ≤ size * size := by simpa [inSize] using hin
     have h5 := sq_le (wayN_nonneg c.x p.x) hX
     rw [wayN_sq c.y p.y, show p.y - c.y = -size + (i : Int) by omega]
     omega
 · intro h
   obtain ⟨⟨x1, x2⟩, y1, y2⟩ := inRef_in hs0 h
   obtain ⟨X, hX⟩ := Int.eq_ofNat_of_zero_le (wayN_nonneg c.x p.x)
   have hXs : (X : Int) ≤ size := by rw [← hX]; unfold wayN; split <;> omega
   obtain ⟨i, hi⟩ : ∃ i : Nat, p.y - c.y = -size + (i : Int) := ⟨(p.y - c.y + size).toNat, by omega⟩
   have hin : inSize size round (X : Int) (-size + (i : Int)) = true := by
    unfold inSize
    cases round
    · rfl
    · unfold inRef at h
      simp only [cond_true, decide_eq_true_eq] at h
      rw [hX, wayN_sq c.y p.y, hi] at h
      simpa using h
   cases hw : wideG size round (-size + (i : Int)) (size.toNat + 1) with
   | none =>
    have := wideG_none hw X (by omega)
    rw [this] at hin; cases hin
   | some w =>
    have hwx := (wideG_some hw).2 X (by omega) hin
    refine ⟨_, mem_aboutTo.2 ⟨i, w, by omega, hw, rfl⟩, by simp only; omega, ?_, ?_⟩
    · simp only
      have : c.x - p.x ≤ X := by rw [← hX]; unfold wayN; split <;> omega
      omega
    · simp only
      have : p.x - c.x ≤ X := by rw [← hX]; unfold wayN; split <;> omega
      omega
/-- The spans of places. -/
def sweepL (size : Int) (round : Bool) (l : List PtT) : List SpT := l.flatMap fun c => aboutL c size round
theorem sweepL_has {size : Int} {round : Bool} (hs0 : 0 ≤ size) (l : List PtT) (p : PtT) : hasB (sweepL size round l) p = true ↔ SwM size round l p := by
 rw [hasB_iff]
 unfold sweepL SwM
 constructor
 · rintro ⟨s, hs, h⟩
   obtain ⟨c, hc, hs⟩ := List.mem_flatMap.1 hs
   exact ⟨c, hc, (aboutL_has hs0 p).1 ((hasB_iff _ _).2 ⟨s, hs, h⟩)⟩
 · rintro ⟨c, hc, h⟩
   obtain ⟨s, hs, k⟩ := (hasB_iff _ _).1 ((aboutL_has hs0 p).2 h)
   exact ⟨s, List.mem_flatMap.2 ⟨c, hc, hs⟩, k⟩
theorem sweepL_len {size : Int} {round : Bool} (h : size ≤ 15) (l : List PtT) : (sweepL size round l).length ≤ l.length * 31 := by
 induction l with
 | nil => simp [sweepL]
 | cons a l ih =>
  unfold sweepL at *
  rw [List.flatMap_cons, List.length_append, List.length_cons]
  have := aboutL_len (c := a) (round := round) h
  omega
theorem sweepL_in {size : Int} {round : Bool} (hs0 : 0 ≤ size) (hs1 : size ≤ 15) {l : List PtT} (hd : ∀ c ∈ l, drawnB c = true) : ∀ s ∈ sweepL size round l, (-79 ≤ s.y ∧ s.y ≤ 142) ∧ (-79 ≤ s.f ∧ s.f ≤ s.t ∧ s.t ≤ 142) := by
 intro s hs
 obtain ⟨c, hc, hs⟩ := List.mem_flatMap.1 hs
 have h1 := mem_aboutL hs0 hs
 have h2 := (drawn_iff c).1 (hd c hc)
 omega
end Go.Proofs.YthcdkkmjnglmjaaGreatDoor
