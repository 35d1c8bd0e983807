/- Merged texts: RimC Parts EqI. -/
import Derived.Test.YtodpkgbpcpfamaaGreatM15
import Derived.Test.YtodpkgbpcpfamaaGreatM17
import Derived.Test.YtodpkgbpcpfamaaGreatM11
/- Layer 8: the closure of Rim. -/
namespace Go.Proofs.YtodpkgbpcpfamaaGreat
set_option linter.unusedSimpArgs false
set_option linter.unusedVariables false
open Go.RowKit Go.Shelf
attribute [local go_sem] Oper.semAt_some

/-- How many of some places are met. -/
def cntM (m : Nat → Nat) : List PtT → Nat
 | [] => 0
 | q :: l => min (m (ixP q)) 1 + cntM m l
theorem cntM_app (m : Nat → Nat) : ∀ (l : List PtT) (q : PtT), cntM m (l ++ [q]) = cntM m l + min (m (ixP q)) 1
 | [], q => by simp [cntM]
 | a :: l, q => by rw [List.cons_append]; unfold cntM; rw [cntM_app m l q]; omega
theorem cntM_le (m : Nat → Nat) : ∀ l : List PtT, cntM m l ≤ l.length
 | [] => Nat.le_refl _
 | a :: l => by have := cntM_le m l; simp only [cntM, List.length_cons]; omega
theorem nbL_len (W H : Int) (p : PtT) : (nbL W H p).length ≤ 4 := by
 unfold nbL
 exact Nat.le_trans (List.length_filter_le _ _) (by simp [nbs])
def rimB (W H : Int) (m : Nat → Nat) (p : PtT) : Bool := decide (0 < m (ixP p)) && decide (cntM m (nbL W H p) < 4)

theorem KC.setCell {bs : List Nat} {cs : List (Addr × Value)} (A : World) (p k : Nat) (v : Value) (hb : p ∉ bs) (hc : ∀ q ∈ cs, q.1.block ≠ p) : KC bs cs A (A.setCell ⟨p, k, none⟩ v) :=
 ⟨fun b hm => Below.heap_setCell A ⟨p, k, none⟩ v b (by simp only; rintro rfl; exact hb hm), fun q hq hA => by
  rw [← hA]
  exact World.cell?_of_block (Below.heap_setCell A ⟨p, k, none⟩ v q.1.block (hc q hq))⟩

set_option maxRecDepth 100000 in
set_option maxHeartbeats 1000000 in
theorem rim_cl (Bs S c : Nat) (W H : Int) (hW : W ≤ 32) (hH : H ≤ 32) (m : Nat → Nat) (v : Value) (x y : Nat) (hp : onB W H ⟨(x : Int), (y : Int)⟩ = true) (w : World) (hb : w.cell? ⟨Bs, 0, none⟩ = some (.pointer (some ⟨S, 0, none⟩))) (hs : w.heap[S]? = some (seaO c W H m v)) :
 Calls Tryz.prog 45 #[.agg #[.int .i64 x, .int .i64 y], .pointer (some ⟨Bs, 0, none⟩)] w (Gives (.tuple #[.agg #[.int .i64 x, .int .i64 y], .bool (rimB W H m ⟨(x : Int), (y : Int)⟩)]) w) := by
 have HON := Lib.hid hp
 have HWH := Lib.hid (And.intro hW hH)
 have HX := Lib.hid (show x < 32 ∧ y < 32 by have h1 := onB_iff.1 hp; simp only at h1; omega)
 have HB := Lib.hid (And.intro (cell_lt hb) (block_lt hs))
 have HH := Lib.hid (And.intro hb hs)
 have HS := Lib.hid (St.start w)
 obtain ⟨pq, hpq⟩ : ∃ pq, PtT.mk (x : Int) (y : Int) = pq := ⟨_, rfl⟩
 rw [hpq] at HON ⊢
 have HPQ := Lib.hid hpq
 obtain ⟨A, hA⟩ : ∃ A, nbL W H pq = A := ⟨_, rfl⟩
 have HAM := Lib.hid (fun (n : PtT) (hn : n ∈ A) => (nbL_mem (by rw [hA]; exact hn)).2 : ∀ n ∈ A, onB W H n = true)
 have HAL := Lib.hid (show A.length ≤ 4 by rw [← hA]; exact nbL_len _ _ _)
 have HA := Lib.hid hA
 obtain ⟨R, hR⟩ : ∃ R, rimB W H m pq = R := ⟨_, rfl⟩
 have HR := Lib.hid hR
 rw [hR]
 clear hp hW hH hb hs hpq hA hR
 refine (callsIn_wide (n := 10)).1 ?_
 refine callsIn_of_wp_marks Tryz.func45 rfl trivial ?_ rfl
 simp only [Tryz.ntmps45, List.size_toArray, List.length_cons, List.length_nil, Nat.reduceAdd, Nat.reduceSub, Array.replicate_succ, Array.replicate_zero, List.push_toArray, List.append_toArray, List.nil_append, List.cons_append]
 repeat ((fail_if_success (with_reducible refine stop_atI (id := 2) ?_)); (first | go_values | gi_guarded | gi_step | gi_upon | gi_back | (simp only [Int.not_lt, Int.not_le] at *; go_simp) | (go_values <;> (try go_simp)) | (go_ite <;> go_prune <;> (try go_simp)) | (split <;> (first | (rename_i hx; exact (hx _ rfl).elim) | go_prune))))
 have hs_ := (((HS.out.alloc (.cells #[.int .i64 x, .int .i64 y] 33)).alloc (.cells #[.int .i64 0, .int .i64 0] 33)).alloc (.cells #[.int .i64 0] 3))
 obtain ⟨w1, hw_⟩ : ∃ w1 : World, (((w.alloc (.cells #[.int .i64 x, .int .i64 y] 33)).alloc (.cells #[.int .i64 0, .int .i64 0] 33)).alloc (.cells #[.int .i64 0] 3)) = w1 := ⟨_, rfl⟩
 rw [hw_] at hs_
 try simp only [World.size_alloc] at hs_
 have HS := Lib.hid hs_
 rw [hw_]
 clear hw_ hs_
 have b1 := (HS.out.low.cell (p := ⟨Bs, 0, none⟩) HB.out.1).trans HH.out.1
 have k0 := cell_of_block (k := 0) (HS.out.blockAt 2 rfl) rfl
 have k1 := cell_of_block (k := 1) (HS.out.blockAt 2 rfl) rfl
 gi_wp2_with fail
 clear b1 k0 k1
 refine (callsIn_wide.2 (around_any S ⟨(x : Int), (y : Int)⟩ _)).mono ?_
 rintro e w' ⟨rfl, rfl⟩
 obtain ⟨q2, hq2⟩ : ∃ q2, w1.heap.size = q2 := ⟨_, rfl⟩
 have hs_ := ((HS.out.alloc (.cells #[.pointer (some ⟨S, 0, none⟩)] 69)).alloc (.cells #[.int .i64 x, .int .i64 y] 33))
 obtain ⟨w3, hw_⟩ : ∃ w3 : World, ((w1.alloc (.cells #[.pointer (some ⟨S, 0, none⟩)] 69)).alloc (.cells #[.int .i64 x, .int .i64 y] 33)) = w3 := ⟨_, rfl⟩
 rw [hw_] at hs_
 try simp only [World.size_alloc] at hs_
 have HS := Lib.hid hs_
 rw [hw_]
 clear hw_ hs_
 simp only [hq2] at HS ⊢
 gi_wp2_with fail
 have hS3 := (HS.out.low.block S HB.out.2).trans HH.out.2
 have hz3 : q2 + 1 < w3.heap.size := HS.out.lt 0 rfl
 have hz2 : w.heap.size + 1 + 1 < q2 := by have h := HS.out.ord; simp [ItOrd, It.top] at h; omega
 have hit := around_iter w3 (q2 + 1) q2 S [q2 + 1, q2] W H HWH.out.1 HWH.out.2 pq HON.out A HA.out ⟨by simp, by simp⟩ (by intro b hb; simp at hb; omega) (by have := HB.out; omega) (by rw [← HPQ.out]; exact cell_of_block (HS.out.blockAt 0 rfl) rfl) (by rw [← HPQ.out]; exact cell_of_block (HS.out.blockAt 0 rfl) rfl) (cell_of_block (HS.out.blockAt 1 rfl) rfl) (cell_of_block hS3 (seaA_1 _ _ _ _ _)) (cell_of_block hS3 (seaA_2 _ _ _ _ _))
 have HZ := Lib.hid (And.intro hz2 hz3)
 obtain ⟨its, hits⟩ : ∃ its : Nat → List It, its = fun k => [.blk (q2 + 1) (.cells #[.int .i64 x, .int .i64 y] 33 (0, 0)), .blk q2 (.cells #[.pointer (some ⟨S, 0, none⟩)] 69 (0, 0)), .blk (w.heap.size + 1 + 1) (.cells #[.int .i64 (k : Int)] 3 (0, 0)), .blk (w.heap.size + 1) (.cells #[.int .i64 0, .int .i64 0] 33 (0, 0)), .blk w.heap.size (.cells #[.int .i64 x, .int .i64 y] 33 (0, 0))] := ⟨_, rfl⟩
 have HIT := Lib.hid hits
 have HS0 := Lib.hid (show St w (its 0) w3 by rw [HIT.out]; exact HS.out)
 have hcells : ∀ (s : List (Fin A.length)) b o, .blk b o ∈ its (cntM m (s.map fun i => A[i.1])) → o.isCells = true := by
  rw [hits]
  intro s b o hb
  simp at hb
  rcases hb with ⟨_, rfl⟩ | ⟨_, rfl⟩ | ⟨_, rfl⟩ | ⟨_, rfl⟩ | ⟨_, rfl⟩ <;> rfl
 apply with_actIn
 intro a0 ha0
 refine range_iterC hit (by omega) (by rw [ha0]; rfl) (enters_of Tryz.func66 (by kernel_rfl) rfl) (by intro b hb; simp at hb; omega) (Below.refl _ _) (fun _ => rfl) (fun x => [(10, (A[x.1]).val)]) (fun _ => by simp)
  (fun pre X => St w (its (cntM m (pre.map fun i => A[i.1]))) X ∧ w3.heap.size ≤ X.heap.size)
  (fun _ _ _ => False) (OwnFrom.and (ownFrom_St _ (by have := HS.out.size; omega) hcells) (ownFrom_size _)) (fun _ => ownFrom_pure _ _) ⟨HS0.out, Nat.le_refl _⟩
  (fun z a' X => ∃ p, a' = loopAct a0 [(10, (A[z.1]).val), (6, .pointer (some ⟨p, 0, none⟩))] ∧ X.heap[p]? = some (.cells #[.int .i64 (A[z.1]).x, .int .i64 (A[z.1]).y] 33 (0, 0)) ∧ w3.heap.size ≤ p) ?hAx ?assign ?body ?done ?stop
 case hAx =>
  rintro z a' s X Y row ⟨p, e, hp, hl⟩ hg hr
  exact ⟨p, e, (grownBy_keeps_cells hg (fun r e => (hr r e).2) hp rfl).trans hp, hl⟩
 case assign =>
  rintro ly pre z X K ⟨hI, hlt5⟩ hK
  have HK := Lib.hid hK
  have HI := Lib.hid hI
  clear hK hI
  rw [ha0] at HK ⊢
  unfold loopAct at HK ⊢
  simp only [PtT.val, List.foldl, List.setIfInBounds_toArray, List.set_cons_succ, List.set_cons_zero] at HK ⊢
  gi_wp2
  have hb := (Below.refl X.heap.size X).alloc (Nat.le_refl _) (.cells #[.int .i64 (A[z.1]).x, .int .i64 (A[z.1]).y] 33)
  exact HK.out _ _ (keepsFrom_below hb) (KC.of_below hb (fun c hc => by simp at hc; have := HZ.out; omega)) ⟨HI.out.below hb, Nat.le_trans hlt5 hb.size⟩ ⟨X.heap.size, rfl, World.alloc_heap_new X _, hlt5⟩
 case body =>
  rintro ly pre z a' X ⟨hI, hlt5⟩ ⟨p6, rfl, hp6, hpl⟩ hlen
  obtain ⟨nn, hnn⟩ : ∃ nn, A[z.1] = nn := ⟨_, rfl⟩
  have hmemA : nn ∈ A := by rw [← hnn]; exact List.getElem_mem _
  have hon := HAM.out nn hmemA
  obtain ⟨⟨hx0, hxW⟩, hy0, hyH⟩ := onB_iff.1 hon
  obtain ⟨nx, hnx⟩ := Int.eq_ofNat_of_zero_le hx0
  obtain ⟨ny, hny⟩ := Int.eq_ofNat_of_zero_le hy0
  have x1 : nx < 32 := by have := HWH.out; omega
  have x2 : ny < 32 := by have := HWH.out; omega
  have hix : ixP nn = ny * 32 + nx := by unfold ixP; omega
  have hcl := cntM_le m (pre.map fun i => A[i.1])
  have hcn : cntM m ((pre ++ [z]).map fun i => A[i.1]) = cntM m (pre.map fun i => A[i.1]) + min (m (ny * 32 + nx)) 1 := by
   rw [List.map_append, List.map_singleton, cntM_app]
   simp only [hnn, hix]
  rw [List.length_map] at hcl
  have hl4 : pre.length < 4 := Nat.lt_of_lt_of_le hlen HAL.out
  rw [hnn] at hp6 ⊢
  rw [hnx, hny] at hp6
  rw [ha0]
  unfold loopAct
  simp only [PtT.val, List.foldl, List.setIfInBounds_toArray, List.set_cons_succ, List.set_cons_zero]
  rw [hnx, hny]
  obtain ⟨n0, hn0⟩ : ∃ n0, cntM m (pre.map fun i => A[i.1]) = n0 := ⟨_, rfl⟩
  rw [hn0] at hI hcl hcn
  rw [HIT.out] at hI
  have HS := Lib.hid hI
  have HP6 := Lib.hid (And.intro hp6 hpl)
  have HL5 := Lib.hid hlt5
  have HCN := Lib.hid hcn
  have HI := Lib.hid (show ny * 32 + nx < 1024 by omega)
  obtain ⟨mv, hmv⟩ : ∃ mv, m (ny * 32 + nx) = mv := ⟨_, rfl⟩
  have HMV := Lib.hid hmv
  rw [hmv] at HCN
  have E12 := Lib.hid (show wrap64 ((n0 : Int) + min (mv : Int) 1) = ((n0 + min mv 1 : Nat) : Int) by unfold wrap64; omega)
  clear hI hp6 hpl hlt5 hcn hmv hnn hmemA hon hx0 hxW hy0 hyH hnx hny hix hcl hn0 hl4
  repeat ((fail_if_success (with_reducible refine stop_atI (id := 4) ?_)); (first | go_values | gi_guarded | gi_step | gi_upon | gi_back | (simp only [Int.not_lt, Int.not_le] at *; go_simp) | (go_values <;> (try go_simp)) | (go_ite <;> go_prune <;> (try go_simp)) | (split <;> (first | (rename_i hx; exact (hx _ rfl).elim) | go_prune))))
  apply wp_region_vals 13 (Rl := [(eqv _), (eqv _), (eqv _), (eqv _), (eqv _), (eqv _), (eqv _), (eqv _), (eqv _), (eqv _), (eqv _), (eqv _), (eqv _)]) (C := (fun x y => Below x.heap.size x y))
  case hm => kernel_rfl
  case hk => rfl
  case hCr => exact (fun _ => Below.refl _ _)
  case hCt => intro _ _ _; exact (fun h k => grows_trans h k)
  case hst => exact ⟨fun _ _ _ _ h => h, fun _ _ _ _ h => h, fun _ _ _ _ h => h, fun _ _ _ _ h => h, fun _ _ _ _ h => h, fun _ _ _ _ h => h, fun _ _ _ _ h => h, fun _ _ _ _ h => h, fun _ _ _ _ h => h, fun _ _ _ _ h => h, fun _ _ _ _ h => h, fun _ _ _ _ h => h, fun _ _ _ _ h => h, trivial⟩
  case hfo => kernel_rfl
  case ht => kernel_rfl
  case hC0 => exact (grows_drew _)
  case hsteps =>
   refine ⟨?_, ?_, ?_, ?_, ?_, ?_, ?_, ?_, ?_, ?_, ?_, ?_, ?_, trivial⟩
   · intro a' w' hA hC hD; have s5 : a'.tmps[5]? = some _ := (hA.at 5 (by kernel_rfl)).trans rfl
     have h1_ := (HS.out.below hC).blockAt 2 rfl; have c1_0 := cell_of_block (k := 0) h1_ rfl; clear h1_
     clear hA hD; refine stepOk_plain rfl ?_; intro K hK; gi_wp2; exact hK _ _ rfl ((fun _ => Below.refl _ _) _)
   · intro a' w' hA hC hD; have s1 : a'.tmps[1]? = some _ := (hA.at 1 (by kernel_rfl)).trans rfl
     have b1 := ((HS.out.below hC).low.cell (p := ⟨Bs, 0, none⟩) HB.out.1).trans HH.out.1
     clear hA hD; refine stepOk_plain rfl ?_; intro K hK; gi_wp2; exact hK _ _ rfl ((fun _ => Below.refl _ _) _)
   · intro a' w' hA hC hD; have s6 : a'.tmps[6]? = some _ := (hA.at 6 (by kernel_rfl)).trans rfl; clear hA hD; refine stepOk_plain rfl ?_; intro K hK; gi_wp2; exact hK _ _ rfl ((fun _ => Below.refl _ _) _)
   · intro a' w' hA hC hD; obtain ⟨u13, s13, r13⟩ := hD ⟨2, .data⟩ (by simp) rfl _ rfl; replace r13 : u13 = _ := r13; subst r13
     have b1 := cell_of_block (k := 1) ((hC.block p6 (block_lt HP6.out.1)).trans HP6.out.1) rfl
     clear hA hD; refine stepOk_plain rfl ?_; intro K hK; gi_wp2; exact hK _ _ rfl ((fun _ => Below.refl _ _) _)
   · intro a' w' hA hC hD; have s6 : a'.tmps[6]? = some _ := (hA.at 6 (by kernel_rfl)).trans rfl; clear hA hD; refine stepOk_plain rfl ?_; intro K hK; gi_wp2; exact hK _ _ rfl ((fun _ => Below.refl _ _) _)
   · intro a' w' hA hC hD; obtain ⟨u15, s15, r15⟩ := hD ⟨4, .data⟩ (by simp) rfl _ rfl; replace r15 : u15 = _ := r15; subst r15
     have b1 := cell_of_block (k := 0) ((hC.block p6 (block_lt HP6.out.1)).trans HP6.out.1) rfl
     clear hA hD; refine stepOk_plain rfl ?_; intro K hK; gi_wp2; exact hK _ _ rfl ((fun _ => Below.refl _ _) _)
   · intro a' w' hA hC hD; obtain ⟨u12, s12, r12⟩ := hD ⟨1, .data⟩ (by simp) rfl _ rfl; replace r12 : u12 = _ := r12; subst r12; clear hA hD; refine stepOk_plain rfl ?_; intro K hK; gi_wp2; exact hK _ _ rfl ((fun _ => Below.refl _ _) _)
   · intro a' w' hA hC hD; obtain ⟨u17, s17, r17⟩ := hD ⟨6, .data⟩ (by simp) rfl _ rfl; replace r17 : u17 = _ := r17; subst r17; clear hA hD; refine stepOk_plain rfl ?_; intro K hK; gi_wp2; exact hK _ _ rfl ((fun _ => Below.refl _ _) _)
   · intro a' w' hA hC hD; obtain ⟨u18, s18, r18⟩ := hD ⟨7, .data⟩ (by simp) rfl _ rfl; replace r18 : u18 = _ := r18; subst r18; obtain ⟨u14, s14, r14⟩ := hD ⟨3, .data⟩ (by simp) rfl _ rfl; replace r14 : u14 = _ := r14; subst r14; clear hA hD; refine stepOk_plain rfl ?_; intro K hK; gi_wp2; exact hK _ _ rfl ((fun _ => Below.refl _ _) _)
   · intro a' w' hA hC hD; obtain ⟨u19, s19, r19⟩ := hD ⟨8, .data⟩ (by simp) rfl _ rfl; replace r19 : u19 = _ := r19; subst r19; obtain ⟨u16, s16, r16⟩ := hD ⟨5, .data⟩ (by simp) rfl _ rfl; replace r16 : u16 = _ := r16; subst r16; clear hA hD; refine stepOk_plain rfl ?_; intro K hK; gi_wp2; exact hK _ _ rfl ((fun _ => Below.refl _ _) _)
   · intro a' w' hA hC hD; obtain ⟨u20, s20, r20⟩ := hD ⟨9, .data⟩ (by simp) rfl _ rfl; replace r20 : u20 = _ := r20; subst r20
     have b1 := cell_of_block (((HS.out.below hC).low.block S HB.out.2).trans HH.out.2) (seaA_met c W H m v (i := ny * 32 + nx) HI.out); rw [← Nat.add_assoc, HMV.out] at b1
     clear hA hD; refine stepOk_plain rfl ?_; intro K hK; gi_wp2; exact hK _ _ rfl ((fun _ => Below.refl _ _) _)
   · intro a' w' hA hC hD; obtain ⟨u21, s21, r21⟩ := hD ⟨10, .data⟩ (by simp) rfl _ rfl; replace r21 : u21 = _ := r21; subst r21; clear hA hD; refine stepOk_plain rfl ?_; intro K hK; gi_wp2; exact hK _ _ rfl ((fun _ => Below.refl _ _) _)
   · intro a' w' hA hC hD; obtain ⟨u11, s11, r11⟩ := hD ⟨0, .data⟩ (by simp) rfl _ rfl; replace r11 : u11 = _ := r11; subst r11; obtain ⟨u22, s22, r22⟩ := hD ⟨11, .data⟩ (by simp) rfl _ rfl; replace r22 : u22 = _ := r22; subst r22; clear hA hD; refine stepOk_plain rfl ?_; intro K hK; gi_wp2; rw [E12.out]; exact hK _ _ rfl ((fun _ => Below.refl _ _) _)
  case hend =>
   intro X2 hC
   simp only [EndFrom, eqv, forall_eq, Act.put, List.length_cons, List.length_nil, List.drop_succ_cons, List.drop_zero, Nat.reduceAdd, List.setIfInBounds_toArray, List.set_cons_succ, List.set_cons_zero]
   have HB2 := Lib.hid hC
   have HS := Lib.hid (HS.out.below hC)
   clear hC
   have b1 := cell_of_block (k := 0) (HS.out.blockAt 2 rfl) rfl
   have f1 := free_of_block (HS.out.blockAt 2 rfl) 0
   gi_wp2
   refine ⟨((show KeepsOthers X X2 from ⟨HB2.out.size, fun j o hj _ => (HB2.out.block j (block_lt hj)).trans hj⟩).trans (KeepsOthers.setCell _ _ _)).from _, (KC.of_below HB2.out (fun c hc => by simp at hc; have := HZ.out; have := HL5.out; omega)).trans (KC.setCell _ _ _ _ (by have := HZ.out; simp; omega) (by intro z hz; unfold seaCs at hz; simp at hz; have := HB.out; rcases hz with rfl | rfl <;> (simp only; omega))), ?_, ?_⟩
   · rw [HCN.out]
     exact HS.out.putAt (pre := [_, _]) (by intro i hi; simp at hi; rcases hi with rfl | rfl <;> exact ⟨_, _, rfl⟩) 0 _ rfl
   · rw [World.size_setCell]; exact Nat.le_trans HL5.out HB2.out.size
 case done =>
  rintro D X hD ⟨hI, hlt5⟩ hK
  rw [ha0]
  dsimp only
  rw [map_fin] at hI
  have hcnt : cntM m A < 100 := by have h1 := cntM_le m A; have h2 := HAL.out; omega
  have hRR := HR.out
  unfold rimB at hRR
  rw [HA.out] at hRR
  have hix : ixP pq = y * 32 + x := by rw [← HPQ.out]; unfold ixP; simp only; omega
  rw [hix] at hRR
  obtain ⟨ct, hct⟩ : ∃ ct, cntM m A = ct := ⟨_, rfl⟩
  rw [hct] at hI hcnt hRR
  rw [HIT.out] at hI
  have HS := Lib.hid hI
  have HP := Lib.hid (HS.out.blockAt 4 rfl)
  have HZ0 := Lib.hid (HS.out.blockAt 3 rfl)
  have HC5 := Lib.hid (HS.out.blockAt 2 rfl)
  have HDK := Lib.hid hK
  have HD := Lib.hid (show w.heap.size + 1 + 1 < D by have := HZ.out; omega)
  have HL := Lib.hid (fun (w' : World) (hC : Below (w.heap.size + 1) X w') => HS.out.low.trans (hC.mono (by omega)))
  have HCC := Lib.hid (fun (w' : World) (hC : FillC (w.heap.size + 1) (.cells #[.int .i64 0, .int .i64 0] 33 (0, 0)) (.cells #[.int .i64 x, .int .i64 y] 33 (0, 0)) X w') => show w'.cell? ⟨w.heap.size + 1 + 1, 0, none⟩ = some (.int .i64 (ct : Int)) from cell_of_block (k := 0) (FillC.keep hC HC5.out (fun e => by cases e)) rfl)
  have x1 : x < 32 := HX.out.1
  have x2 : y < 32 := HX.out.2
  have HI := Lib.hid (show y * 32 + x < 1024 by omega)
  obtain ⟨mv, hmv⟩ : ∃ mv, m (y * 32 + x) = mv := ⟨_, rfl⟩
  have HMV := Lib.hid hmv
  rw [hmv] at hRR
  clear hI hlt5 hK hix hct hmv hits ha0 hit
  cases mv with
  | zero =>
   obtain rfl : R = false := by rw [← hRR]; rfl
   clear hRR
   repeat ((fail_if_success (with_reducible refine stop_atI (id := 5) ?_)); (first | go_values | gi_guarded | gi_step | gi_upon | gi_back | (simp only [Int.not_lt, Int.not_le] at *; go_simp) | (go_values <;> (try go_simp)) | (go_ite <;> go_prune <;> (try go_simp)) | (split <;> (first | (rename_i hx; exact (hx _ rfl).elim) | go_prune))))
   apply wp_region_vals 17 (Rl := [(eqv _), (eqv _), (eqv _), (eqv _), (eqv _), (eqv _), (eqv _), (eqv _), (eqv _), (eqv _), (eqv _), (eqv _), (eqv _), (fun v_ _ => v_ = (undef : Value)), (fun v_ _ => v_ = (undef : Value)), (eqv _), (fun v_ w_ => w_.heap[w.heap.size + 1]? = some (.cells #[.int .i64 x, .int .i64 y] 33 (0, 0)))]) (C := (fun x' y' => FillC (w.heap.size + 1) (.cells #[.int .i64 0, .int .i64 0] 33 (0, 0)) (.cells #[.int .i64 x, .int .i64 y] 33 (0, 0)) x' y'))
   case hm => kernel_rfl
   case hk => rfl
   case hCr => exact (fun x => FillC.refl _ _ _ x)
   case hCt => intro _ _ _; exact (fun h k => FillC.trans h k)
   case hst => exact ⟨fun _ _ _ _ h => h, fun _ _ _ _ h => h, fun _ _ _ _ h => h, fun _ _ _ _ h => h, fun _ _ _ _ h => h, fun _ _ _ _ h => h, fun _ _ _ _ h => h, fun _ _ _ _ h => h, fun _ _ _ _ h => h, fun _ _ _ _ h => h, fun _ _ _ _ h => h, fun _ _ _ _ h => h, fun _ _ _ _ h => h, fun _ _ _ _ h => h, fun _ _ _ _ h => h, fun _ _ _ _ h => h, fun _ _ _ hC h => FillC.filled hC h, trivial⟩
   case hfo => kernel_rfl
   case ht => kernel_rfl
   case hC0 => exact (FillC.grow (grows_drew _) (Nat.le_of_lt (HS.out.lt 3 rfl)))
   case hsteps =>
    refine ⟨?_, ?_, ?_, ?_, ?_, ?_, ?_, ?_, ?_, ?_, ?_, ?_, ?_, ?_, ?_, ?_, ?_, trivial⟩
    · intro a' w' hA hC hD; have s2 : a'.tmps[2]? = some _ := (hA.at 2 (by kernel_rfl)).trans rfl
      have h1_ := (hC.1.block w.heap.size (by omega)).trans HP.out; have b0 := cell_of_block (k := 0) h1_ rfl; have b1 := cell_of_block (k := 1) h1_ rfl; clear h1_
      clear hA hD; refine stepOk_plain rfl ?_; intro K hK; gi_wp2; exact hK _ _ rfl ((fun x => FillC.refl _ _ _ x) _)
    · intro a' w' hA hC hD; have s1 : a'.tmps[1]? = some _ := (hA.at 1 (by kernel_rfl)).trans rfl
      have b1 := ((HL.out w' hC.1).cell (p := ⟨Bs, 0, none⟩) HB.out.1).trans HH.out.1
      clear hA hD; refine stepOk_plain rfl ?_; intro K hK; gi_wp2; exact hK _ _ rfl ((fun x => FillC.refl _ _ _ x) _)
    · intro a' w' hA hC hD; have s2 : a'.tmps[2]? = some _ := (hA.at 2 (by kernel_rfl)).trans rfl; clear hA hD; refine stepOk_plain rfl ?_; intro K hK; gi_wp2; exact hK _ _ rfl ((fun x => FillC.refl _ _ _ x) _)
    · intro a' w' hA hC hD; obtain ⟨u26, s26, r26⟩ := hD ⟨2, .data⟩ (by simp) rfl _ rfl; replace r26 : u26 = _ := r26; subst r26
      have h1_ := (hC.1.block w.heap.size (by omega)).trans HP.out; have b1 := cell_of_block (k := 1) h1_ rfl; clear h1_
      clear hA hD; refine stepOk_plain rfl ?_; intro K hK; gi_wp2; exact hK _ _ rfl ((fun x => FillC.refl _ _ _ x) _)
    · intro a' w' hA hC hD; have s2 : a'.tmps[2]? = some _ := (hA.at 2 (by kernel_rfl)).trans rfl; clear hA hD; refine stepOk_plain rfl ?_; intro K hK; gi_wp2; exact hK _ _ rfl ((fun x => FillC.refl _ _ _ x) _)
    · intro a' w' hA hC hD; obtain ⟨u28, s28, r28⟩ := hD ⟨4, .data⟩ (by simp) rfl _ rfl; replace r28 : u28 = _ := r28; subst r28
      have h1_ := (hC.1.block w.heap.size (by omega)).trans HP.out; have b1 := cell_of_block (k := 0) h1_ rfl; clear h1_
      clear hA hD; refine stepOk_plain rfl ?_; intro K hK; gi_wp2; exact hK _ _ rfl ((fun x => FillC.refl _ _ _ x) _)
    · intro a' w' hA hC hD; obtain ⟨u25, s25, r25⟩ := hD ⟨1, .data⟩ (by simp) rfl _ rfl; replace r25 : u25 = _ := r25; subst r25; clear hA hD; refine stepOk_plain rfl ?_; intro K hK; gi_wp2; exact hK _ _ rfl ((fun x => FillC.refl _ _ _ x) _)
    · intro a' w' hA hC hD; obtain ⟨u30, s30, r30⟩ := hD ⟨6, .data⟩ (by simp) rfl _ rfl; replace r30 : u30 = _ := r30; subst r30; clear hA hD; refine stepOk_plain rfl ?_; intro K hK; gi_wp2; exact hK _ _ rfl ((fun x => FillC.refl _ _ _ x) _)
    · intro a' w' hA hC hD; obtain ⟨u31, s31, r31⟩ := hD ⟨7, .data⟩ (by simp) rfl _ rfl; replace r31 : u31 = _ := r31; subst r31; obtain ⟨u27, s27, r27⟩ := hD ⟨3, .data⟩ (by simp) rfl _ rfl; replace r27 : u27 = _ := r27; subst r27; clear hA hD; refine stepOk_plain rfl ?_; intro K hK; gi_wp2; exact hK _ _ rfl ((fun x => FillC.refl _ _ _ x) _)
    · intro a' w' hA hC hD; obtain ⟨u32, s32, r32⟩ := hD ⟨8, .data⟩ (by simp) rfl _ rfl; replace r32 : u32 = _ := r32; subst r32; obtain ⟨u29, s29, r29⟩ := hD ⟨5, .data⟩ (by simp) rfl _ rfl; replace r29 : u29 = _ := r29; subst r29; clear hA hD; refine stepOk_plain rfl ?_; intro K hK; gi_wp2; exact hK _ _ rfl ((fun x => FillC.refl _ _ _ x) _)
    · intro a' w' hA hC hD; obtain ⟨u33, s33, r33⟩ := hD ⟨9, .data⟩ (by simp) rfl _ rfl; replace r33 : u33 = _ := r33; subst r33
      have b1 := cell_of_block (((HL.out w' hC.1).block S HB.out.2).trans HH.out.2) (seaA_met c W H m v (i := y * 32 + x) HI.out); rw [← Nat.add_assoc, HMV.out] at b1
      clear hA hD; refine stepOk_plain rfl ?_; intro K hK; gi_wp2; exact hK _ _ rfl ((fun x => FillC.refl _ _ _ x) _)
    · intro a' w' hA hC hD; obtain ⟨u34, s34, r34⟩ := hD ⟨10, .data⟩ (by simp) rfl _ rfl; replace r34 : u34 = _ := r34; subst r34; clear hA hD; refine stepOk_plain rfl ?_; intro K hK; gi_wp2; exact hK _ _ rfl ((fun x => FillC.refl _ _ _ x) _)
    · intro a' w' hA hC hD; obtain ⟨u35, s35, r35⟩ := hD ⟨11, .data⟩ (by simp) rfl _ rfl; replace r35 : u35 = _ := r35; subst r35; clear hA hD; refine stepOk_plain rfl ?_; intro K hK; gi_wp2; exact hK _ _ rfl ((fun x => FillC.refl _ _ _ x) _)
    · intro a' w' hA hC hD; have s5 : a'.tmps[5]? = some _ := (hA.at 5 (by kernel_rfl)).trans rfl; obtain ⟨u36, s36, r36⟩ := hD ⟨12, .guard⟩ (by simp) rfl _ rfl; replace r36 : u36 = _ := r36; subst r36; clear hA hD
      exact stepOk_skip rfl rfl s36 rfl
    · intro a' w' hA hC hD; obtain ⟨u37, s37, r37⟩ := hD ⟨13, .data⟩ (by simp) rfl _ rfl; replace r37 : u37 = undef := r37; subst r37; obtain ⟨u36, s36, r36⟩ := hD ⟨12, .guard⟩ (by simp) rfl _ rfl; replace r36 : u36 = _ := r36; subst r36; clear hA hD
      exact stepOk_skip rfl rfl s36 rfl
    · intro a' w' hA hC hD; obtain ⟨u36, s36, r36⟩ := hD ⟨12, .data⟩ (by simp) rfl _ rfl; replace r36 : u36 = _ := r36; subst r36; obtain ⟨u38, s38, r38⟩ := hD ⟨14, .data⟩ (by simp) rfl _ rfl; replace r38 : u38 = undef := r38; subst r38; clear hA hD; refine stepOk_plain rfl ?_; intro K hK; gi_wp2; exact hK _ _ rfl ((fun x => FillC.refl _ _ _ x) _)
    · intro a' w' hA hC hD; have s3 : a'.tmps[3]? = some _ := (hA.at 3 (by kernel_rfl)).trans rfl; obtain ⟨u24, s24, r24⟩ := hD ⟨0, .data⟩ (by simp) rfl _ rfl; replace r24 : u24 = _ := r24; subst r24
      have he := FillC.either hC (.inl HZ0.out); have HE := Lib.hid he; obtain ⟨y0, y1, hy⟩ := either2 he; have d0 := cell_of_block (k := 0) (v := y0) hy rfl; have d1 := cell_of_block (k := 1) (v := y1) hy rfl; have fr := free_of_block hy; clear he hy
      clear hA hD; refine stepOk_plain rfl ?_; intro K hK; gi_wp2; exact hK undef _ (fill2 (n₀ := w.heap.size + 1) (Nat.le_refl _) HE.out).2 (fill2 (n₀ := w.heap.size + 1) (Nat.le_refl _) HE.out).1
   case hend =>
    intro X5 hC
    simp only [EndFrom, eqv, forall_eq, Act.put, List.length_cons, List.length_nil, List.drop_succ_cons, List.drop_zero, Nat.reduceAdd, List.setIfInBounds_toArray, List.set_cons_succ, List.set_cons_zero]
    intro v3 h1
    have hd5 := FillC.keep hC HDK.out (fun e => by cases e)
    have HX5 := Lib.hid (And.intro (HL.out X5 hC.1) (And.intro h1 hd5))
    clear hC h1 hd5
    gi_wp2
    have hn : w.heap.size + 1 ∉ [D] := by have := HD.out; simp; omega
    refine ret_marks (lo := w.heap.size) (Ds := [D]) (v := .tuple #[.agg #[.int .i64 x, .int .i64 y], .bool false]) rfl ⟨by simp, fun E hE => ?_⟩ (fun W' ht => ⟨?_, rfl, HX5.out.1.trans (ht.below HX5.out.1.size fun k hk => ?_)⟩)
    · rw [List.mem_singleton.1 hE]; exact ⟨by have := HD.out; omega, HX5.out.2.2⟩
    · have hb' := (ht.block _ (block_lt HX5.out.2.1) hn).trans HX5.out.2.1
      have a0 := cell_of_block (k := 0) hb' rfl
      have a1 := cell_of_block (k := 1) hb' rfl
      simp [results, Tryz.results45, go_sem, a0, a1]
    · rw [List.mem_singleton.1 hk]; have := HD.out; omega
  | succ mv =>
   obtain rfl : R = decide ((ct : Int) < 4) := by
    rw [← hRR, show decide (0 < mv + 1) = true by simp, Bool.true_and]
    exact decide_eq_decide.2 (by omega)
   clear hRR
   repeat ((fail_if_success (with_reducible refine stop_atI (id := 5) ?_)); (first | go_values | gi_guarded | gi_step | gi_upon | gi_back | (simp only [Int.not_lt, Int.not_le] at *; go_simp) | (go_values <;> (try go_simp)) | (go_ite <;> go_prune <;> (try go_simp)) | (split <;> (first | (rename_i hx; exact (hx _ rfl).elim) | go_prune))))
   apply wp_region_vals 17 (Rl := [(eqv _), (eqv _), (eqv _), (eqv _), (eqv _), (eqv _), (eqv _), (eqv _), (eqv _), (eqv _), (eqv _), (eqv _), (eqv _), (fun v_ _ => v_ = (.int .i64 (ct : Int) : Value)), (fun v_ _ => v_ = (.bool (decide ((ct : Int) < 4)) : Value)), (eqv _), (fun v_ w_ => w_.heap[w.heap.size + 1]? = some (.cells #[.int .i64 x, .int .i64 y] 33 (0, 0)))]) (C := (fun x' y' => FillC (w.heap.size + 1) (.cells #[.int .i64 0, .int .i64 0] 33 (0, 0)) (.cells #[.int .i64 x, .int .i64 y] 33 (0, 0)) x' y'))
   case hm => kernel_rfl
   case hk => rfl
   case hCr => exact (fun x => FillC.refl _ _ _ x)
   case hCt => intro _ _ _; exact (fun h k => FillC.trans h k)
   case hst => exact ⟨fun _ _ _ _ h => h, fun _ _ _ _ h => h, fun _ _ _ _ h => h, fun _ _ _ _ h => h, fun _ _ _ _ h => h, fun _ _ _ _ h => h, fun _ _ _ _ h => h, fun _ _ _ _ h => h, fun _ _ _ _ h => h, fun _ _ _ _ h => h, fun _ _ _ _ h => h, fun _ _ _ _ h => h, fun _ _ _ _ h => h, fun _ _ _ _ h => h, fun _ _ _ _ h => h, fun _ _ _ _ h => h, fun _ _ _ hC h => FillC.filled hC h, trivial⟩
   case hfo => kernel_rfl
   case ht => kernel_rfl
   case hC0 => exact (FillC.grow (grows_drew _) (Nat.le_of_lt (HS.out.lt 3 rfl)))
   case hsteps =>
    refine ⟨?_, ?_, ?_, ?_, ?_, ?_, ?_, ?_, ?_, ?_, ?_, ?_, ?_, ?_, ?_, ?_, ?_, trivial⟩
    · intro a' w' hA hC hD; have s2 : a'.tmps[2]? = some _ := (hA.at 2 (by kernel_rfl)).trans rfl
      have h1_ := (hC.1.block w.heap.size (by omega)).trans HP.out; have b0 := cell_of_block (k := 0) h1_ rfl; have b1 := cell_of_block (k := 1) h1_ rfl; clear h1_
      clear hA hD; refine stepOk_plain rfl ?_; intro K hK; gi_wp2; exact hK _ _ rfl ((fun x => FillC.refl _ _ _ x) _)
    · intro a' w' hA hC hD; have s1 : a'.tmps[1]? = some _ := (hA.at 1 (by kernel_rfl)).trans rfl
      have b1 := ((HL.out w' hC.1).cell (p := ⟨Bs, 0, none⟩) HB.out.1).trans HH.out.1
      clear hA hD; refine stepOk_plain rfl ?_; intro K hK; gi_wp2; exact hK _ _ rfl ((fun x => FillC.refl _ _ _ x) _)
    · intro a' w' hA hC hD; have s2 : a'.tmps[2]? = some _ := (hA.at 2 (by kernel_rfl)).trans rfl; clear hA hD; refine stepOk_plain rfl ?_; intro K hK; gi_wp2; exact hK _ _ rfl ((fun x => FillC.refl _ _ _ x) _)
    · intro a' w' hA hC hD; obtain ⟨u26, s26, r26⟩ := hD ⟨2, .data⟩ (by simp) rfl _ rfl; replace r26 : u26 = _ := r26; subst r26
      have h1_ := (hC.1.block w.heap.size (by omega)).trans HP.out; have b1 := cell_of_block (k := 1) h1_ rfl; clear h1_
      clear hA hD; refine stepOk_plain rfl ?_; intro K hK; gi_wp2; exact hK _ _ rfl ((fun x => FillC.refl _ _ _ x) _)
    · intro a' w' hA hC hD; have s2 : a'.tmps[2]? = some _ := (hA.at 2 (by kernel_rfl)).trans rfl; clear hA hD; refine stepOk_plain rfl ?_; intro K hK; gi_wp2; exact hK _ _ rfl ((fun x => FillC.refl _ _ _ x) _)
    · intro a' w' hA hC hD; obtain ⟨u28, s28, r28⟩ := hD ⟨4, .data⟩ (by simp) rfl _ rfl; replace r28 : u28 = _ := r28; subst r28
      have h1_ := (hC.1.block w.heap.size (by omega)).trans HP.out; have b1 := cell_of_block (k := 0) h1_ rfl; clear h1_
      clear hA hD; refine stepOk_plain rfl ?_; intro K hK; gi_wp2; exact hK _ _ rfl ((fun x => FillC.refl _ _ _ x) _)
    · intro a' w' hA hC hD; obtain ⟨u25, s25, r25⟩ := hD ⟨1, .data⟩ (by simp) rfl _ rfl; replace r25 : u25 = _ := r25; subst r25; clear hA hD; refine stepOk_plain rfl ?_; intro K hK; gi_wp2; exact hK _ _ rfl ((fun x => FillC.refl _ _ _ x) _)
    · intro a' w' hA hC hD; obtain ⟨u30, s30, r30⟩ := hD ⟨6, .data⟩ (by simp) rfl _ rfl; replace r30 : u30 = _ := r30; subst r30; clear hA hD; refine stepOk_plain rfl ?_; intro K hK; gi_wp2; exact hK _ _ rfl ((fun x => FillC.refl _ _ _ x) _)
    · intro a' w' hA hC hD; obtain ⟨u31, s31, r31⟩ := hD ⟨7, .data⟩ (by simp) rfl _ rfl; replace r31 : u31 = _ := r31; subst r31; obtain ⟨u27, s27, r27⟩ := hD ⟨3, .data⟩ (by simp) rfl _ rfl; replace r27 : u27 = _ := r27; subst r27; clear hA hD; refine stepOk_plain rfl ?_; intro K hK; gi_wp2; exact hK _ _ rfl ((fun x => FillC.refl _ _ _ x) _)
    · intro a' w' hA hC hD; obtain ⟨u32, s32, r32⟩ := hD ⟨8, .data⟩ (by simp) rfl _ rfl; replace r32 : u32 = _ := r32; subst r32; obtain ⟨u29, s29, r29⟩ := hD ⟨5, .data⟩ (by simp) rfl _ rfl; replace r29 : u29 = _ := r29; subst r29; clear hA hD; refine stepOk_plain rfl ?_; intro K hK; gi_wp2; exact hK _ _ rfl ((fun x => FillC.refl _ _ _ x) _)
    · intro a' w' hA hC hD; obtain ⟨u33, s33, r33⟩ := hD ⟨9, .data⟩ (by simp) rfl _ rfl; replace r33 : u33 = _ := r33; subst r33
      have b1 := cell_of_block (((HL.out w' hC.1).block S HB.out.2).trans HH.out.2) (seaA_met c W H m v (i := y * 32 + x) HI.out); rw [← Nat.add_assoc, HMV.out] at b1
      clear hA hD; refine stepOk_plain rfl ?_; intro K hK; gi_wp2; exact hK _ _ rfl ((fun x => FillC.refl _ _ _ x) _)
    · intro a' w' hA hC hD; obtain ⟨u34, s34, r34⟩ := hD ⟨10, .data⟩ (by simp) rfl _ rfl; replace r34 : u34 = _ := r34; subst r34; clear hA hD; refine stepOk_plain rfl ?_; intro K hK; gi_wp2; exact hK _ _ rfl ((fun x => FillC.refl _ _ _ x) _)
    · intro a' w' hA hC hD; obtain ⟨u35, s35, r35⟩ := hD ⟨11, .data⟩ (by simp) rfl _ rfl; replace r35 : u35 = _ := r35; subst r35; clear hA hD; refine stepOk_plain rfl ?_; intro K hK; gi_wp2; exact hK _ _ rfl ((fun x => FillC.refl _ _ _ x) _)
    · intro a' w' hA hC hD; have s5 : a'.tmps[5]? = some _ := (hA.at 5 (by kernel_rfl)).trans rfl; obtain ⟨u36, s36, r36⟩ := hD ⟨12, .guard⟩ (by simp) rfl _ rfl; replace r36 : u36 = _ := r36; subst r36
      have b1 := HCC.out w' hC
      clear hA hD; refine stepOk_want rfl rfl s36 ?_; intro K hK; gi_wp2; exact hK (.int .i64 (ct : Int)) _ rfl ((fun x => FillC.refl _ _ _ x) _)
    · intro a' w' hA hC hD; obtain ⟨u37, s37, r37⟩ := hD ⟨13, .data⟩ (by simp) rfl _ rfl; replace r37 : u37 = .int .i64 (ct : Int) := r37; subst r37; obtain ⟨u36, s36, r36⟩ := hD ⟨12, .guard⟩ (by simp) rfl _ rfl; replace r36 : u36 = _ := r36; subst r36; clear hA hD; refine stepOk_want rfl rfl s36 ?_; intro K hK; gi_wp2; exact hK (.bool (decide ((ct : Int) < 4))) _ rfl ((fun x => FillC.refl _ _ _ x) _)
    · intro a' w' hA hC hD; obtain ⟨u36, s36, r36⟩ := hD ⟨12, .data⟩ (by simp) rfl _ rfl; replace r36 : u36 = _ := r36; subst r36; obtain ⟨u38, s38, r38⟩ := hD ⟨14, .data⟩ (by simp) rfl _ rfl; replace r38 : u38 = .bool (decide ((ct : Int) < 4)) := r38; subst r38; clear hA hD; refine stepOk_plain rfl ?_; intro K hK; gi_wp2; exact hK _ _ rfl ((fun x => FillC.refl _ _ _ x) _)
    · intro a' w' hA hC hD; have s3 : a'.tmps[3]? = some _ := (hA.at 3 (by kernel_rfl)).trans rfl; obtain ⟨u24, s24, r24⟩ := hD ⟨0, .data⟩ (by simp) rfl _ rfl; replace r24 : u24 = _ := r24; subst r24
      have he := FillC.either hC (.inl HZ0.out); have HE := Lib.hid he; obtain ⟨y0, y1, hy⟩ := either2 he; have d0 := cell_of_block (k := 0) (v := y0) hy rfl; have d1 := cell_of_block (k := 1) (v := y1) hy rfl; have fr := free_of_block hy; clear he hy
      clear hA hD; refine stepOk_plain rfl ?_; intro K hK; gi_wp2; exact hK undef _ (fill2 (n₀ := w.heap.size + 1) (Nat.le_refl _) HE.out).2 (fill2 (n₀ := w.heap.size + 1) (Nat.le_refl _) HE.out).1
   case hend =>
    intro X5 hC
    simp only [EndFrom, eqv, forall_eq, Act.put, List.length_cons, List.length_nil, List.drop_succ_cons, List.drop_zero, Nat.reduceAdd, List.setIfInBounds_toArray, List.set_cons_succ, List.set_cons_zero]
    intro v3 h1
    have hd5 := FillC.keep hC HDK.out (fun e => by cases e)
    have HX5 := Lib.hid (And.intro (HL.out X5 hC.1) (And.intro h1 hd5))
    clear hC h1 hd5
    gi_wp2
    have hn : w.heap.size + 1 ∉ [D] := by have := HD.out; simp; omega
    refine ret_marks (lo := w.heap.size) (Ds := [D]) (v := .tuple #[.agg #[.int .i64 x, .int .i64 y], .bool (decide ((ct : Int) < 4))]) rfl ⟨by simp, fun E hE => ?_⟩ (fun W' ht => ⟨?_, rfl, HX5.out.1.trans (ht.below HX5.out.1.size fun k hk => ?_)⟩)
    · rw [List.mem_singleton.1 hE]; exact ⟨by have := HD.out; omega, HX5.out.2.2⟩
    · have hb' := (ht.block _ (block_lt HX5.out.2.1) hn).trans HX5.out.2.1
      have a0 := cell_of_block (k := 0) hb' rfl
      have a1 := cell_of_block (k := 1) hb' rfl
      simp [results, Tryz.results45, go_sem, a0, a1]
    · rw [List.mem_singleton.1 hk]; have := HD.out; omega
 case stop =>
  intro D c pre X _ _ h
  exact h.elim
end Go.Proofs.YtodpkgbpcpfamaaGreat

/- Layer 8: Parts. -/
namespace Go.Proofs.YtodpkgbpcpfamaaGreat
set_option linter.unusedSimpArgs false
set_option linter.unusedVariables false
open Go.RowKit Go.Shelf
attribute [local go_sem] Oper.semAt_some

/-- What Parts keeps behind k places. -/
def partsM (C : CanT) (t : Int) : Nat → Nat → Nat
 | 0 => fun _ => 0
 | k + 1 => partM C t (partsM C t k) (ptK (8 * C.wide) k)
def partsI (C : CanT) (t : Int) (k : Nat) : Bool := decide (partsM C t k (ixP (ptK (8 * C.wide) k)) = 0)
def partsN (C : CanT) (t : Int) : Int := (gathL (8 * C.wide) (partsI C t) (8 * C.high * (8 * C.wide))).length
def partsR (C : CanT) (l : List Int) : List Int := bif l.all tolB then l.map (partsN C) else []
theorem intCells {w : World} {a : Option Addr} {n cap : Nat} {l : List Int} (hn : l.length = n) (h : Elems w (.slice a n cap) n 1 (rowC encI l)) (k : Nat) (x : Int) (hx : l[k]? = some x) :
 ∃ b off, a = some ⟨b, off, none⟩ ∧ b < w.heap.size ∧ w.cell? ⟨b, off + k, none⟩ = some (.int .i64 x) := by
 subst hn
 have hk := (List.getElem?_eq_some_iff.1 hx).1
 obtain ⟨e, h0⟩ | ⟨b, off, cap', e, hlt, hc⟩ := h
 · omega
 · cases e
   refine ⟨b, off, rfl, hlt, ?_⟩
   have h1 := rowElem (enc := encI) encI_len hc hx
   have h2 := h1 0 _ rfl
   simpa using h2

set_option maxRecDepth 100000 in
set_option maxHeartbeats 1000000 in
theorem flParts_any (C : CanT) (c : Nat) (a : Option Addr) (n cap : Nat) (l : List Int) (hl : l.length = n) (hn : n ≤ 1000) (w : World) (hC : CanAt w c C) (he : Elems w (.slice a n cap) n 1 (rowC encI l)) :
 Calls Tryz.prog 16 #[.pointer (some ⟨c, 0, none⟩), .slice a n cap] w (GivesRowE 3 1 (partsR C l).length ((partsR C l).flatMap encI) (errOf (l.all tolB) 2) w) := by
 have HS := Lib.hid ((St.start w).addRow he)
 have HCA := Lib.hid hC
 have HL := Lib.hid hl
 have HN := Lib.hid hn
 clear hC he hl hn
 go_enter Tryz.func16, Tryz.ntmps16
 go_wp2_with fail
 go_loopw [7, 17] (fun _ i wr => ∃ k : Nat, k ≤ n ∧ i = .int .i64 (k : Int) ∧ St w [.row (.slice a n cap) n 1 (rowC encI l) w.heap.size] wr ∧ (l.take k).all tolB = true) (fun _ i _ => n - (intOf i).toNat)
 case atStart => exact ⟨0, by omega, rfl, HS.out, by simp⟩
 case round =>
  obtain ⟨k, hk, rfl, hs, ha⟩ := hrel
  clear HS
  have HS := Lib.hid hs
  have HA := Lib.hid ha
  clear hs ha
  by_cases hlt : k < n
  · obtain ⟨t, ht⟩ : ∃ t, l[k]? = some t := ⟨_, List.getElem?_eq_getElem (by rw [HL.out]; exact hlt)⟩
    have HLT := Lib.hid hlt
    have HTK := Lib.hid ht
    have e3 : wrap64 ((k : Int) + 1) = ((k + 1 : Nat) : Int) := by have := HN.out; unfold wrap64; omega
    obtain ⟨bb, off, rfl, hbb, c0⟩ := intCells HL.out (HS.out.elems 0 rfl) k t ht
    have HT := Lib.hid (fun w' => tolerant_any t w')
    obtain ⟨tb, htb⟩ : ∃ tb, tolB t = tb := ⟨_, rfl⟩
    rw [htb] at HT
    have HTB := Lib.hid htb
    clear ht hbb htb
    go_wp2_with fail
    clear c0
    refine (HT.out _).mono ?_
    rintro e w2 ⟨rfl, hb_⟩
    have HS := Lib.hid (HS.out.below hb_)
    clear hb_
    cases tb
    · have hall : l.all tolB = false := by
       rw [List.all_eq_false]
       exact ⟨t, List.mem_of_getElem? HTK.out, by rw [HTB.out]; simp⟩
      have HAF := Lib.hid hall
      clear hall
      go_wp2_with fail
      refine bodyPost_ret (v := .tuple #[.slice none 0 0, .int .i64 2]) (by simp [results, Tryz.results16, go_sem]) rfl ⟨.slice none 0 0, by rw [HAF.out]; rfl, ?_, HS.out.low⟩
      rw [show partsR C l = [] by unfold partsR; rw [HAF.out]; rfl]
      exact World.ownsRow_nil _ _ _ _
    · have h1 : (l.take (k + 1)).all tolB = true := by
       rw [List.take_add_one, HTK.out, List.all_append, HA.out]
       simp [HTB.out]
      have H1 := Lib.hid h1
      clear h1
      go_wp2_with fail
      go_roundw
      case rel => exact ⟨k + 1, HLT.out, congrArg (Value.int .i64) e3, HS.out, H1.out⟩
      case measure => rw [e3]; have := HLT.out; simp only [intOf]; omega
  · have hkn : k = n := by omega
    have hall : l.all tolB = true := by
     have h1 := HA.out
     rwa [List.take_of_length_le (by rw [HL.out]; omega)] at h1
    have HAT := Lib.hid hall
    subst hkn
    clear hk hlt hall HA
    have HO := Lib.hid (StO.start HS.out 3 1 encI)
    obtain ⟨N1, hN1⟩ : ∃ N1, wr.heap.size = N1 := ⟨_, rfl⟩
    rw [hN1] at HO
    clear HS hN1
    go_wp2_with fail
    go_loopw [8, 27] (fun v i wr => ∃ j : Nat, j ≤ k ∧ i = .int .i64 (j : Int) ∧ StO w [.row (.slice a k cap) k 1 (rowC encI l) w.heap.size] N1 3 1 encI v ((l.take j).map (partsN C)) wr) (fun _ i _ => k - (intOf i).toNat)
    case atStart => exact ⟨0, by omega, rfl, HO.out⟩
    case round =>
     obtain ⟨j, hj, rfl, ho⟩ := hrel
     clear HO
     have HO := Lib.hid ho
     clear ho
     by_cases hlt : j < k
     · obtain ⟨t, ht⟩ : ∃ t, l[j]? = some t := ⟨_, List.getElem?_eq_getElem (by rw [HL.out]; exact hlt)⟩
       have HLT := Lib.hid hlt
       have e3 : wrap64 ((j : Int) + 1) = ((j + 1 : Nat) : Int) := by have := HN.out; unfold wrap64; omega
       obtain ⟨bb, off, rfl, hbb, c0⟩ := intCells HL.out (HO.out.st.elems 0 rfl) j t ht
       have htb : tolB t = true := List.all_eq_true.1 HAT.out t (List.mem_of_getElem? ht)
       have HT0 := Lib.hid (show 0 ≤ t by unfold tolB at htb; simp at htb; omega)
       have HTK := Lib.hid (show (l.take (j + 1)).map (partsN C) = (l.take j).map (partsN C) ++ [partsN C t] by rw [List.take_add_one, ht, List.map_append]; rfl)
       have HLE := Lib.hid (show ((l.take j).map (partsN C)).length < 100000 by rw [List.length_map, List.length_take]; have := HN.out; omega)
       have HW1 := Lib.hid HO.out.st.low
       have HS := Lib.hid (St.start wr)
       clear ht hbb htb
       repeat ((fail_if_success (with_reducible refine stop_at (id := 13) ?_)); (first | go_values | go_skip | go_guarded | go_step | go_upon | go_back | (simp only [Int.not_lt, Int.not_le] at *; go_simp) | (go_values <;> (try go_simp)) | (go_ite <;> go_prune <;> (try go_simp)) | (split <;> (first | (rename_i hx; exact (hx _ rfl).elim) | go_prune))))
       obtain ⟨q10, hq10⟩ : ∃ q10, wr.heap.size = q10 := ⟨_, rfl⟩
       have hs_ := (HS.out.alloc (.cells #[.int .i64 t] 3))
       obtain ⟨w2, hw_⟩ : ∃ w2 : World, (wr.alloc (.cells #[.int .i64 t] 3)) = w2 := ⟨_, rfl⟩
       rw [hw_] at hs_
       try simp only [World.size_alloc] at hs_
       have HS := Lib.hid hs_
       rw [hw_]
       clear hw_ hs_
       clear c0
       have hz2 : wr.heap.size < w2.heap.size := HS.out.lt 0 rfl
       go_wp2_with fail
       refine (of_any C c _ (HCA.out.below (HW1.out.trans (HS.out.low.mono HW1.out.size)))).mono ?_
       rintro e w3 ⟨S, rfl, hSl, hSs, hb⟩
       have HS := Lib.hid ((HS.out.below hb).addB hSs (fun i hi => Nat.le_trans (HS.out.top i hi) hSl) (Nat.le_trans HS.out.size hSl))
       have HSB := Lib.hid (Nat.lt_of_lt_of_le hz2 hSl)
       clear hSl hSs hb hz2
       repeat ((fail_if_success (with_reducible refine stop_at (id := 14) ?_)); (first | go_values | go_skip | go_guarded | go_step | go_upon | go_back | (simp only [Int.not_lt, Int.not_le] at *; go_simp) | (go_values <;> (try go_simp)) | (go_ite <;> go_prune <;> (try go_simp)) | (split <;> (first | (rename_i hx; exact (hx _ rfl).elim) | go_prune))))
       obtain ⟨q11, hq11⟩ : ∃ q11, w3.heap.size = q11 := ⟨_, rfl⟩
       have hs_ := (HS.out.alloc (.cells #[.pointer (some ⟨S, 0, none⟩)] 69))
       obtain ⟨w4, hw_⟩ : ∃ w4 : World, (w3.alloc (.cells #[.pointer (some ⟨S, 0, none⟩)] 69)) = w4 := ⟨_, rfl⟩
       rw [hw_] at hs_
       try simp only [World.size_alloc] at hs_
       have HS := Lib.hid hs_
       rw [hw_]
       clear hw_ hs_
       simp only [hq10, hq11] at HS HSB ⊢
       have hh0 := HS.out.blockAt 0 rfl
       have hh1 := HS.out.blockAt 1 rfl
       have hh2 := HS.out.blockAt 2 rfl
       have hlow4 := HW1.out.trans (HS.out.low.mono HW1.out.size)
       have hcan := HCA.out.cut (S := S) (by have := HW1.out.size; have := HSB.out; omega) hlow4 (Nat.le_of_lt (block_lt hh1))
       have e1 : ((8 * C.wide : Nat) : Int) = 8 * (C.wide : Int) := by omega
       have e2 : ((8 * C.high : Nat) : Int) = 8 * (C.high : Int) := by omega
       have hgath := gath_parts S (8 * C.wide) (8 * C.high) (by have := HCA.out.ok.wide; omega) (by have := HCA.out.ok.high; omega) (.pointer (some ⟨q11, 0, none⟩)) (.pointer (some ⟨q10, 0, none⟩)) (partsI C t)
        (fun i x => (∃ v, x.heap[S]? = some (seaO c (8 * (C.wide : Int)) (8 * (C.high : Int)) (partsM C t i) v)) ∧ x.heap[q11]? = some (.cells #[.pointer (some ⟨S, 0, none⟩)] 69 (0, 0)) ∧ x.heap[q10]? = some (.cells #[.int .i64 t] 3 (0, 0))) w4 (block_lt hh1)
        (fun i x h => by
         obtain ⟨⟨v, h1⟩, -⟩ := h
         rw [e1, e2]
         exact ⟨cell_of_block h1 (seaA_1 _ _ _ _ _), cell_of_block h1 (seaA_2 _ _ _ _ _)⟩)
        (fun i x y h hk => by
         obtain ⟨⟨v, h1⟩, h2, h3⟩ := h
         exact ⟨⟨v, (hk _ (block_lt hh1)).trans h1⟩, (hk _ (block_lt hh0)).trans h2, (hk _ (block_lt hh2)).trans h3⟩)
        (fun x y wr' hx hy h htu => by
         obtain ⟨⟨v, h1⟩, h2, h3⟩ := h
         refine (parts_cl C c S q11 q10 t HT0.out _ v x y hx hy wr' (hcan.recut htu (Nat.le_of_lt (block_lt hh1))) h1 (cell_of_block (k := 0) h2 rfl) (cell_of_block (k := 0) h3 rfl)).mono ?_
         rintro e w' ⟨rfl, ⟨v', hv'⟩, ht'⟩
         have hix : ixP ⟨(x : Int), (y : Int)⟩ = y * 32 + x := by unfold ixP; simp only; omega
         refine ⟨?_, ⟨⟨v', ?_⟩, (ht'.block _ (block_lt h2) ?_).trans h2, (ht'.block _ (block_lt h3) ?_).trans h3⟩, ht'⟩
         · unfold partsI; rw [ptK_at hx, hix]
         · show w'.heap[S]? = some (seaO c _ _ (partM C t (partsM C t (y * (8 * C.wide) + x)) (ptK (8 * C.wide) (y * (8 * C.wide) + x))) v')
           rw [ptK_at hx]; exact hv'
         · intro e; have h_ := HS.out.ord; simp [ItOrd, It.top] at h_; omega
         · intro e; have := HSB.out; omega)
        ⟨⟨_, hh1⟩, hh0, hh2⟩
       have HG := Lib.hid hgath
       have k0 := cell_of_block (k := 0) hh0 rfl
       clear hgath hh0 hh1 hh2 hlow4 hcan e1 e2
       go_wp2_with fail
       clear k0
       refine HG.out.mono ?_
       rintro e w5 ⟨u, rfl, hr, -, htu⟩
       have hbel : Below wr.heap.size wr w5 := HS.out.low.trans (htu.below HS.out.size (fun k hk => by rw [hk]; have := HSB.out; omega))
       have HO := Lib.hid (HO.out.below hbel)
       obtain ⟨ua, ucap, rfl⟩ : ∃ ua ucap, u = .slice ua (gathL (8 * C.wide) (partsI C t) (8 * C.high * (8 * C.wide))).length ucap := by
        rcases hr.2 with ⟨h1, h0⟩ | ⟨g, cp, cur, h1, _⟩
        · exact ⟨none, 0, by rw [h1, h0]⟩
        · exact ⟨_, cp, h1⟩
       have HPN := Lib.hid (show partsN C t = ((gathL (8 * C.wide) (partsI C t) (8 * C.high * (8 * C.wide))).length : Int) from rfl)
       obtain ⟨gl, hgl⟩ : ∃ gl, (gathL (8 * C.wide) (partsI C t) (8 * C.high * (8 * C.wide))).length = gl := ⟨_, rfl⟩
       rw [hgl] at HPN ⊢
       clear hr htu hbel HG hgl
       go_wp2_with (at_builtin; refine wpList_app1 rowI encI_len encI_one HO.out (Below.refl _ _) (gl : Int) _ rfl (by have := HLE.out; omega) (by decide) _ _ rfl rfl rfl _ rfl (by simp) ?_; intro v' w6 ho6 hsh6; have HO6 := Lib.hid ho6; clear ho6 hsh6)
       go_roundw
       case rel => exact ⟨j + 1, HLT.out, congrArg (Value.int .i64) e3, by rw [HTK.out, HPN.out]; exact HO6.out⟩
       case measure => rw [e3]; have := HLT.out; simp only [intOf]; omega
     · have hjk : j = k := by omega
       subst hjk
       have hq : l.take j = l := List.take_of_length_le (by rw [HL.out]; exact Nat.le_refl _)
       rw [hq] at HO
       clear hlt hj hq
       go_wp2
       refine bodyPost_ret (v := .tuple #[u8, .int .i64 0]) (by simp [results, Tryz.results16, go_sem]) rfl ⟨u8, by rw [HAT.out]; rfl, ?_, HO.out.st.low⟩
       rw [show partsR C l = l.map (partsN C) by unfold partsR; rw [HAT.out]; rfl]
       exact ownsRow_mono HO.out.row HO.out.low
end Go.Proofs.YtodpkgbpcpfamaaGreat

/- slices.Equal at numbers. -/
namespace Go.Proofs.YtodpkgbpcpfamaaGreat
set_option linter.unusedSimpArgs false
set_option linter.unusedVariables false
open Go.RowKit Go.Shelf
attribute [local go_sem] Oper.semAt_some

theorem take_eq_succ {l m : List Int} {k : Nat} {x y : Int} (h : l.take k = m.take k) (hx : l[k]? = some x) (hy : m[k]? = some y) : l.take (k + 1) = m.take (k + 1) ↔ x = y := by
 rw [List.take_add_one, List.take_add_one, hx, hy, h]
 simp
set_option maxRecDepth 100000 in
set_option maxHeartbeats 1000000 in
theorem eqI_any (a1 a2 : Option Addr) (n m c d : Nat) (l k : List Int) (hl : l.length = n) (hk : k.length = m) (hn : n ≤ 1000000) (w : World) (h1 : Elems w (.slice a1 n c) n 1 (rowC encI l)) (h2 : Elems w (.slice a2 m d) m 1 (rowC encI k)) :
 Calls Tryz.prog 19 #[.slice a1 n c, .slice a2 m d] w (Gives (.bool (decide (l = k))) w) := by
 have HE := Lib.hid (And.intro h1 h2)
 have HL := Lib.hid (And.intro hl hk)
 have HS := Lib.hid (St.start w)
 by_cases hnm : n = m
 · subst hnm
   clear h1 h2 hl hk
   go_enter Tryz.func19, Tryz.ntmps19
   go_wp2_with fail
   go_loopw [13] (fun i wr => ∃ j : Nat, j ≤ n ∧ i = .int .i64 (j : Int) ∧ l.take j = k.take j ∧ Below w.heap.size w wr) (fun i _ => n - (intOf i).toNat)
   case atStart => exact ⟨0, by omega, rfl, by simp, Below.refl _ _⟩
   case round =>
    obtain ⟨j, hj, rfl, ht, hb⟩ := hrel
    have HT := Lib.hid ht
    have HB := Lib.hid hb
    clear ht hb
    by_cases hlt : j < n
    · obtain ⟨x, hx⟩ : ∃ x, l[j]? = some x := ⟨_, List.getElem?_eq_getElem (by rw [HL.out.1]; exact hlt)⟩
      obtain ⟨y, hy⟩ : ∃ y, k[j]? = some y := ⟨_, List.getElem?_eq_getElem (by rw [HL.out.2]; exact hlt)⟩
      obtain ⟨b1, o1, rfl, hb1, hc1⟩ := intCells HL.out.1 HE.out.1 j x hx
      obtain ⟨b2, o2, rfl, hb2, hc2⟩ := intCells HL.out.2 HE.out.2 j y hy
      have HC1 := Lib.hid (And.intro (Nat.lt_of_lt_of_le hb1 HB.out.size) ((HB.out.cell (p := ⟨b1, o1 + j, none⟩) hb1).trans hc1))
      have HC2 := Lib.hid (And.intro (Nat.lt_of_lt_of_le hb2 HB.out.size) ((HB.out.cell (p := ⟨b2, o2 + j, none⟩) hb2).trans hc2))
      have HXY := Lib.hid (And.intro hx hy)
      clear hb1 hc1 hb2 hc2 hx hy
      repeat ((fail_if_success (with_reducible refine stop_at (id := 6) ?_)); (first | go_values | go_skip | go_guarded | go_step | go_upon | go_back | (simp only [Int.not_lt, Int.not_le] at *; go_simp) | (go_values <;> (try go_simp)) | (go_ite <;> go_prune <;> (try go_simp)) | (split <;> (first | (rename_i hx; exact (hx _ rfl).elim) | go_prune))))
      refine (wpIn_wide (n := 0)).1 ?_
      apply wp_region_vals 9 (Rl := [(eqv _), (eqv _), (eqv _), (eqv _), (eqv _), (eqv _), (eqv _), (eqv _), (eqv _)]) (C := (fun x y => Below x.heap.size x y))
      case hm => kernel_rfl
      case hk => rfl
      case hCr => exact (fun _ => Below.refl _ _)
      case hCt => intro _ _ _; exact (fun h k => grows_trans h k)
      case hst => exact ⟨fun _ _ _ _ h => h, fun _ _ _ _ h => h, fun _ _ _ _ h => h, fun _ _ _ _ h => h, fun _ _ _ _ h => h, fun _ _ _ _ h => h, fun _ _ _ _ h => h, fun _ _ _ _ h => h, fun _ _ _ _ h => h, trivial⟩
      case hfo => kernel_rfl
      case ht => kernel_rfl
      case hC0 => exact (grows_drew _)
      case hsteps =>
       refine ⟨?_, ?_, ?_, ?_, ?_, ?_, ?_, ?_, ?_, trivial⟩
       · intro a' w' hA hC hD; have s0 : a'.tmps[0]? = some _ := (hA.at 0 (by kernel_rfl)).trans rfl; clear hA hD; refine stepOk_plain rfl ?_; intro K hK; gi_wp2; exact hK _ _ rfl ((fun _ => Below.refl _ _) _)
       · intro a' w' hA hC hD; have s5 : a'.tmps[5]? = some _ := (hA.at 5 (by kernel_rfl)).trans rfl; clear hA hD; refine stepOk_plain rfl ?_; intro K hK; gi_wp2; exact hK _ _ rfl ((fun _ => Below.refl _ _) _)
       · intro a' w' hA hC hD; obtain ⟨u16, s16, r16⟩ := hD ⟨0, .data⟩ (by simp) rfl _ rfl; replace r16 : u16 = _ := r16; subst r16; obtain ⟨u17, s17, r17⟩ := hD ⟨1, .data⟩ (by simp) rfl _ rfl; replace r17 : u17 = _ := r17; subst r17; clear hA hD; refine stepOk_plain rfl ?_; intro K hK; gi_wp2; exact hK _ _ rfl ((fun _ => Below.refl _ _) _)
       · intro a' w' hA hC hD; obtain ⟨u18, s18, r18⟩ := hD ⟨2, .data⟩ (by simp) rfl _ rfl; replace r18 : u18 = _ := r18; subst r18
         have c1 := (hC.cell (p := ⟨b1, o1 + j, none⟩) HC1.out.1).trans HC1.out.2
         clear hA hD; refine stepOk_plain rfl ?_; intro K hK; gi_wp2; exact hK _ _ rfl ((fun _ => Below.refl _ _) _)
       · intro a' w' hA hC hD; have s1 : a'.tmps[1]? = some _ := (hA.at 1 (by kernel_rfl)).trans rfl; clear hA hD; refine stepOk_plain rfl ?_; intro K hK; gi_wp2; exact hK _ _ rfl ((fun _ => Below.refl _ _) _)
       · intro a' w' hA hC hD; have s5 : a'.tmps[5]? = some _ := (hA.at 5 (by kernel_rfl)).trans rfl; clear hA hD; refine stepOk_plain rfl ?_; intro K hK; gi_wp2; exact hK _ _ rfl ((fun _ => Below.refl _ _) _)
       · intro a' w' hA hC hD; obtain ⟨u20, s20, r20⟩ := hD ⟨4, .data⟩ (by simp) rfl _ rfl; replace r20 : u20 = _ := r20; subst r20; obtain ⟨u21, s21, r21⟩ := hD ⟨5, .data⟩ (by simp) rfl _ rfl; replace r21 : u21 = _ := r21; subst r21; clear hA hD; refine stepOk_plain rfl ?_; intro K hK; gi_wp2; exact hK _ _ rfl ((fun _ => Below.refl _ _) _)
       · intro a' w' hA hC hD; obtain ⟨u22, s22, r22⟩ := hD ⟨6, .data⟩ (by simp) rfl _ rfl; replace r22 : u22 = _ := r22; subst r22
         have c2 := (hC.cell (p := ⟨b2, o2 + j, none⟩) HC2.out.1).trans HC2.out.2
         clear hA hD; refine stepOk_plain rfl ?_; intro K hK; gi_wp2; exact hK _ _ rfl ((fun _ => Below.refl _ _) _)
       · intro a' w' hA hC hD; obtain ⟨u19, s19, r19⟩ := hD ⟨3, .data⟩ (by simp) rfl _ rfl; replace r19 : u19 = _ := r19; subst r19; obtain ⟨u23, s23, r23⟩ := hD ⟨7, .data⟩ (by simp) rfl _ rfl; replace r23 : u23 = _ := r23; subst r23; clear hA hD; refine stepOk_plain rfl ?_; intro K hK; gi_wp2; exact hK _ _ rfl ((fun _ => Below.refl _ _) _)
      case hend =>
       intro w2 hC
       simp only [EndFrom, eqv, forall_eq, Act.put, List.length_cons, List.length_nil, List.drop_succ_cons, List.drop_zero, Nat.reduceAdd, List.setIfInBounds_toArray, List.set_cons_succ, List.set_cons_zero]
       have HB2 := Lib.hid (HB.out.trans (hC.mono HB.out.size))
       clear hC
       by_cases hxy : x = y
       · have HQ := Lib.hid ((take_eq_succ HT.out HXY.out.1 HXY.out.2).2 hxy)
         gi_wp2_with fail
         go_wp2_with fail
         go_roundw
         case rel => exact ⟨j + 1, hlt, by simp, HQ.out, HB2.out⟩
         case measure => simp [intOf]; omega
       · have HQ := Lib.hid (show ¬ l = k from fun e => hxy (by have h1 := HXY.out.1; rw [e, HXY.out.2] at h1; exact (Option.some.inj h1).symm))
         gi_wp2_with fail
         go_wp2_with fail
         go_ret
         exact ⟨ret_bool (by symm; exact decide_eq_false HQ.out), HB2.out⟩
    · obtain rfl : j = n := by omega
      have HQ := Lib.hid (show l = k by
       have h := HT.out
       rw [List.take_of_length_le (Nat.le_of_eq HL.out.1), List.take_of_length_le (Nat.le_of_eq HL.out.2)] at h
       exact h)
      go_wp2_with fail
      go_ret
      exact ⟨ret_bool (by symm; exact decide_eq_true HQ.out), HB.out⟩
 · have hne : ¬ l = k := fun e => hnm (by rw [← hl, ← hk, e])
   have HQ := Lib.hid hne
   have hnm' : ¬ (n : Int) = (m : Int) := by omega
   clear h1 h2 hl hk hne
   go_enter Tryz.func19, Tryz.ntmps19
   go_wp2_with fail
   go_ret
   exact ⟨ret_bool (by symm; exact decide_eq_false HQ.out), Below.refl _ _⟩
end Go.Proofs.YtodpkgbpcpfamaaGreat
