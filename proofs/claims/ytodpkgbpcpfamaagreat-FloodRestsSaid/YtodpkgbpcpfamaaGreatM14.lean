/- Merged texts: Goes Begun. -/
import Derived.Test.YtodpkgbpcpfamaaGreatM13
/- Layer 8: goes. -/
namespace Go.Proofs.YtodpkgbpcpfamaaGreat
set_option linter.unusedSimpArgs false
set_option linter.unusedVariables false
open Go.RowKit Go.Shelf
attribute [local go_sem] Oper.semAt_some

def goesPre (S c : Nat) (p : PtT) (t : Int) (f : ColT) (Bs Bp Bt Bc Bn Bm : Nat) : List It := [.blk Bm (.cells #[.func (.func 44) #[.pointer (some ⟨S, 0, none⟩)] #[]] 107), .blk Bn (.cells #[.func (.func 65) #[] #[.pointer (some ⟨Bs, 0, none⟩), .pointer (some ⟨Bc, 0, none⟩), .pointer (some ⟨Bt, 0, none⟩)]] 92),
 .blk Bc (.cells #[.int .u8 f.r, .int .u8 f.g, .int .u8 f.b, .int .u8 f.a] 27 (0, 0)), .blk Bt (.cells #[.int .i64 t] 3), .blk Bp (.cells #[.int .i64 p.x, .int .i64 p.y] 33), .blk Bs (.cells #[.pointer (some ⟨S, 0, none⟩)] 69)]
/-- At the label, behind k visits. -/
def GoesJ (C : CanT) (c S : Nat) (m0 : Nat → Nat) (p : PtT) (t : Int) (w : World) (a' : Act) (w' : World) : Prop :=
 ∃ (u : Nat → Value) (k : Nat) (s : Bf) (v : Value) (Ds : List Nat) (Bs Bp Bt Bc Bn Bm base : Nat), (u = fun i => a'.tmps.getD i undef) ∧ a' = ⟨#[u 0, u 1, u 2, .pointer (some ⟨Bs, 0, none⟩), .pointer (some ⟨Bp, 0, none⟩), .pointer (some ⟨Bt, 0, none⟩), u 6, .pointer (some ⟨Bc, 0, none⟩), u 8, .pointer (some ⟨Bn, 0, none⟩), .pointer (some ⟨Bm, 0, none⟩), .int .i64 (k : Int), u 12, u 13, u 14, u 15, u 16, u 17, u 18, u 19, u 20, u 21, u 22, u 23, u 24, u 25, u 26, u 27, u 28, u 29, u 30, u 31, u 32, u 33, u 34, u 35, u 36, u 37, u 38, u 39, u 40, u 41, u 42, u 43, u 44, u 45, u 46, u 47, u 48, u 49, u 50, u 51, u 52, u 53, u 54, u 55, u 56, u 57, u 58, u 59, u 60, u 61, u 62, u 63, u 64, u 65, u 66, u 67, u 68, u 69, u 70, u 71, u 72, u 73, u 74, u 75, u 76, u 77], marksOf Ds⟩ ∧
  BfK (nearP C p t) (8 * (C.wide : Int)) (8 * (C.high : Int)) m0 p k s ∧ SeaS w (goesPre S c p t (colP C p) Bs Bp Bt Bc Bn Bm) [] [] base S c (8 * (C.wide : Int)) (8 * (C.high : Int)) s v w' ∧ Marks w.heap.size Ds w'

set_option maxRecDepth 100000 in
set_option maxHeartbeats 1000000 in
theorem goes_any (C : CanT) (c S : Nat) (m0 : Nat → Nat) (v0 : Value) (p : PtT) (t : Int) (w : World) (hC : CanAt (cutW w S) c C) (hS : w.heap[S]? = some (seaO c (8 * (C.wide : Int)) (8 * (C.high : Int)) m0 v0)) (hp : onB (8 * (C.wide : Int)) (8 * (C.high : Int)) p = true) (h0 : m0 (ixP p) = 0) (ht : 0 ≤ t) :
 Calls Tryz.prog 42 #[.pointer (some ⟨S, 0, none⟩), p.val, .int .i64 t] w fun e w' => (∃ v, e = .returned v) ∧ (∃ v', w'.heap[S]? = some (seaO c (8 * (C.wide : Int)) (8 * (C.high : Int)) (runB (nearP C p t) (8 * (C.wide : Int)) (8 * (C.high : Int)) m0 p).m v')) ∧ Turned (fun k => k = S) w w' := by
 have hSl := block_lt hS
 obtain ⟨⟨hx0, hxW⟩, hy0, hyH⟩ := onB_iff.1 hp
 have HCS := Lib.hid (cutW_size (Nat.le_of_lt hSl))
 have HSL := Lib.hid hSl
 have HCA := Lib.hid hC
 have HS := Lib.hid (St.cut hS)
 have HP := Lib.hid hp
 have HWH := Lib.hid (show 8 * (C.wide : Int) ≤ 32 ∧ 8 * (C.high : Int) ≤ 32 by have h1 := hC.ok.wide; have h2 := hC.ok.high; omega)
 have HST := Lib.hid (BfK.start (N := nearP C p t) hp (nearP_self C p ht) h0)
 have HT := Lib.hid (Turned.refl (fun k => k = S) w)
 obtain ⟨pp, hpp⟩ : ∃ pp, pp = p := ⟨_, rfl⟩
 have HPP := Lib.hid hpp
 rw [← hpp]
 rw [← hpp] at HP HST
 obtain ⟨x, y⟩ := p
 simp only at hx0 hxW hy0 hyH
 obtain ⟨x, rfl⟩ := Int.eq_ofNat_of_zero_le hx0
 obtain ⟨y, rfl⟩ := Int.eq_ofNat_of_zero_le hy0
 have hx : x < 8 * C.wide := by omega
 have hy : y < 8 * C.high := by omega
 have HAT := Lib.hid (fun w' h => at_on C c x y hx hy w' h)
 have hcl : colP C pp = colC C x y := by rw [hpp]; rfl
 obtain ⟨cl, hcl'⟩ : ∃ cl, colC C x y = cl := ⟨_, rfl⟩
 rw [hcl'] at HAT hcl
 have HOK := Lib.hid (show okC (colP C pp) by rw [hpp]; exact colP_ok hC.ok hx hy)
 have HCL := Lib.hid hcl
 have HXY := Lib.hid (show pp.x = (x : Int) ∧ pp.y = (y : Int) by rw [hpp]; exact ⟨rfl, rfl⟩)
 have hpv : pp.val = .agg #[.int .i64 x, .int .i64 y] := by rw [hpp]; rfl
 rw [hpv]
 clear hpv hC hS hp h0 ht hSl hpp hx0 hxW hy0 hyH hx hy hcl hcl'
 refine (callsIn_wide (n := 10)).1 ?_
 refine callsIn_of_wp_marks Tryz.func42 rfl trivial ?_ rfl
 simp only [Tryz.ntmps42, List.size_toArray, List.length_cons, List.length_nil, Nat.reduceAdd, Nat.reduceSub, Array.replicate_succ, Array.replicate_zero, List.push_toArray, List.append_toArray, List.nil_append, List.cons_append]
 refine wpIn_wide.2 ?_
 go_wp2
 refine wp_scope_loop 0 (GoesJ C c S m0 pp t w) (fun a' _ => 1025 - (intOf (a'.tmps.getD 11 undef)).toNat) rfl ?_ ?_
 · rintro a' wr ⟨u, k, s, v, Ds, Bs, Bp, Bt, Bc, Bn, Bm, base, -, rfl, hk, hs, hm⟩
   clear HST HAT HT HS HCL HXY HPP HP
   obtain ⟨a, cap, rfl, hsh⟩ := hs.o.shape
   have hne : s.l.length ≠ 0 := fun e => by have h1 := hk.inv.head; rw [List.eq_nil_of_length_eq_zero e] at h1; cases h1
   obtain ⟨g, rfl⟩ := hsh.resolve_left hne
   have HSS := Lib.hid hs
   have HKK := Lib.hid hk
   have HMK := Lib.hid hm
   have HLN := Lib.hid (hk.inv.len HWH.out.1 HWH.out.2)
   have b1 := cell_of_block (k := 0) (hs.o.st.blockAt 5 rfl) rfl
   have c1 := cell_of_block hs.at_ (seaA_waits _ _ _ _ _)
   obtain ⟨n, hn⟩ : ∃ n, s.l.length = n := ⟨_, rfl⟩
   rw [hn] at c1 HLN HSS
   have HN := Lib.hid hn
   clear hsh hne hs hk hm hn
   refine (wpIn_wide (n := 10)).1 ?_
   by_cases hlt : k < n
   · obtain ⟨q, hq⟩ : ∃ q, s.l[k]? = some q := ⟨_, List.getElem?_eq_getElem (by rw [HN.out]; exact hlt)⟩
     have HLT := Lib.hid hlt
     have HQ := Lib.hid hq
     have c2 := HSS.out.o.cell encP_len k q 0 _ hq rfl
     have c3 := HSS.out.o.cell encP_len k q 1 _ hq rfl
     rw [Nat.add_zero] at c2
     have HS := Lib.hid (St.start wr)
     have e1 : wrap64 ((k : Int) + 1) = ((k + 1 : Nat) : Int) := by have := HLN.out; unfold wrap64; omega
     clear hq
     repeat ((fail_if_success (with_reducible refine stop_atI (id := 9) ?_)); (first | go_values | gi_guarded | gi_step | gi_upon | gi_back | (simp only [Int.not_lt, Int.not_le] at *; go_simp) | (go_values <;> (try go_simp)) | (go_ite <;> go_prune <;> (try go_simp)) | (split <;> (first | (rename_i hx; exact (hx _ rfl).elim) | go_prune))))
     clear c2 c3 c1 b1
     have hqo := (HKK.out.mid HWH.out.1 HWH.out.2 HQ.out [] (by simp)).2.2
     obtain ⟨⟨hx0, hxW⟩, hy0, hyH⟩ := onB_iff.1 hqo
     obtain ⟨qx, hqx⟩ := Int.eq_ofNat_of_zero_le hx0
     obtain ⟨qy, hqy⟩ := Int.eq_ofNat_of_zero_le hy0
     have HQ32 := Lib.hid (show qx < 32 ∧ qy < 32 by have := HWH.out; omega)
     have HQO := Lib.hid hqo
     rw [hqx, hqy]
     have hs_ := (HS.out.alloc (.cells #[.int .i64 qx, .int .i64 qy] 33))
     obtain ⟨w2, hw_⟩ : ∃ w2 : World, (wr.alloc (.cells #[.int .i64 qx, .int .i64 qy] 33)) = w2 := ⟨_, rfl⟩
     rw [hw_] at hs_
     try simp only [World.size_alloc] at hs_
     have HS := Lib.hid hs_
     rw [hw_]
     clear hw_ hs_
     have b1 := cell_of_block (k := 0) ((HSS.out.below HS.out.low).o.st.blockAt 5 rfl) rfl
     have k0 := cell_of_block (k := 0) (HS.out.blockAt 0 rfl) rfl
     have k1 := cell_of_block (k := 1) (HS.out.blockAt 0 rfl) rfl
     have hlt2 : wr.heap.size < w2.heap.size := HS.out.lt 0 rfl
     have hqv : q = ⟨(qx : Int), (qy : Int)⟩ := by rw [← hqx, ← hqy]
     have HQV := Lib.hid hqv
     have HLT2 := Lib.hid hlt2
     have HQI := Lib.hid (show ixP q = qy * 32 + qx by unfold ixP; omega)
     clear hqx hqy hlt2 hqv hqo hx0 hxW hy0 hyH
     gi_wp2_with fail
     clear k0 k1 b1
     refine (callsIn_wide.2 (around_any S ⟨(qx : Int), (qy : Int)⟩ _)).mono ?_
     rintro e w' ⟨rfl, rfl⟩
     obtain ⟨q12, hq12⟩ : ∃ q12, wr.heap.size = q12 := ⟨_, rfl⟩
     obtain ⟨q2, hq2⟩ : ∃ q2, w2.heap.size = q2 := ⟨_, rfl⟩
     have hs_ := ((HS.out.alloc (.cells #[.pointer (some ⟨S, 0, none⟩)] 69)).alloc (.cells #[.int .i64 qx, .int .i64 qy] 33))
     obtain ⟨w3, hw_⟩ : ∃ w3 : World, ((w2.alloc (.cells #[.pointer (some ⟨S, 0, none⟩)] 69)).alloc (.cells #[.int .i64 qx, .int .i64 qy] 33)) = w3 := ⟨_, rfl⟩
     rw [hw_] at hs_
     try simp only [World.size_alloc] at hs_
     have HS := Lib.hid hs_
     rw [hw_]
     clear hw_ hs_
     simp only [hq12, hq2] at HS HLT2 ⊢
     gi_wp2_with fail
     have hz3 : q2 + 1 < w3.heap.size := HS.out.lt 0 rfl
     have hwr3 : wr.heap.size ≤ w3.heap.size := HS.out.size
     have hSw : S < wr.heap.size := block_lt HSS.out.at_
     have hbl : base ≤ wr.heap.size := HSS.out.o.hi
     obtain ⟨bs, hbs⟩ : ∃ bs : List Nat, bs = [q2 + 1, q2, q12] := ⟨_, rfl⟩
     have hbs3 : ∀ b ∈ bs, b < w3.heap.size := by rw [hbs]; intro b hb; have := HLT2.out; simp at hb; omega
     have hSb : S ∉ bs := by rw [hbs]; intro hb; have := HLT2.out; simp at hb; omega
     have hmem : (q2 + 1) ∈ bs ∧ q2 ∈ bs ∧ q12 ∈ bs := by rw [hbs]; simp
     have hS3 : SeaS w (goesPre S c pp t (colP C pp) Bs Bp Bt Bc Bn Bm) [] bs base S c (8 * (C.wide : Int)) (8 * (C.high : Int)) s _ w3 := (HSS.out.more (bs' := bs) (by rw [hbs]; intro b hb; have := HLT2.out; simp at hb; omega)).below HS.out.low
     have hM3 := HMK.out.below HS.out.low
     have hDs : ∀ D ∈ Ds, D < wr.heap.size := fun D hD => block_lt (HMK.out.blk D hD).2
     have hw0 : w.heap.size ≤ wr.heap.size := HSS.out.tu.size
     obtain ⟨A, hA⟩ : ∃ A, nbL (8 * (C.wide : Int)) (8 * (C.high : Int)) q = A := ⟨_, rfl⟩
     have hit := around_iter w3 (q2 + 1) q2 S bs (8 * (C.wide : Int)) (8 * (C.high : Int)) HWH.out.1 HWH.out.2 q HQO.out A hA ⟨hmem.1, hmem.2.1⟩ hbs3 (by omega) (by rw [HQV.out]; exact cell_of_block (HS.out.blockAt 0 rfl) rfl) (by rw [HQV.out]; exact cell_of_block (HS.out.blockAt 0 rfl) rfl) (cell_of_block (HS.out.blockAt 1 rfl) rfl) (cell_of_block hS3.at_ (seaA_1 _ _ _ _ _)) (cell_of_block hS3.at_ (seaA_2 _ _ _ _ _))
     have HAM := Lib.hid (fun (n : PtT) (hn : n ∈ A) => nbL_mem (by rw [hA]; exact hn) : ∀ n ∈ A, n ∈ nbs q ∧ onB (8 * (C.wide : Int)) (8 * (C.high : Int)) n = true)
     have HV := Lib.hid (visit_nbL (nearP C pp t) (8 * (C.wide : Int)) (8 * (C.high : Int)) s q)
     rw [hA] at HV
     have hcells : ∀ b o, .blk b o ∈ goesPre S c pp t (colP C pp) Bs Bp Bt Bc Bn Bm ++ [] → o.isCells = true := by
      unfold goesPre
      intro b o hb
      simp at hb
      rcases hb with ⟨_, rfl⟩ | ⟨_, rfl⟩ | ⟨_, rfl⟩ | ⟨_, rfl⟩ | ⟨_, rfl⟩ | ⟨_, rfl⟩ <;> rfl
     have h12 : w3.heap[q12]? = some (.cells #[.int .i64 qx, .int .i64 qy] 33 (0, 0)) := HS.out.blockAt 2 rfl
     have HFR := Lib.hid hbs
     have hcs : (cutW w S).heap.size ≤ w3.heap.size := by rw [HCS.out]; omega
     have HF := Lib.hid (And.intro hbs3 (And.intro hSb (And.intro hmem (And.intro hDs (And.intro hw0 (And.intro hwr3 hSw))))))
     apply with_actIn
     intro a0 ha0
     refine range_iterC hit (by omega) (by rw [ha0]; rfl) (enters_of Tryz.func66 (by kernel_rfl) rfl) hbs3 (Below.refl _ _) (fun _ => rfl) (fun x => [(54, (A[x.1]).val)]) (fun _ => by simp)
      (fun pre W => (∃ v, SeaS w (goesPre S c pp t (colP C pp) Bs Bp Bt Bc Bn Bm) [] bs base S c (8 * (C.wide : Int)) (8 * (C.high : Int)) ((pre.map (fun i => A[i.1])).foldl (Bf.look (nearP C pp t) (8 * (C.wide : Int)) (8 * (C.high : Int)) q) s) v W) ∧ Marks w.heap.size Ds W ∧ W.heap[q12]? = some (.cells #[.int .i64 qx, .int .i64 qy] 33 (0, 0)) ∧ w3.heap.size ≤ W.heap.size)
      (fun _ _ _ => False) (OwnFrom.and (ownFrom_SeaS _ (by omega) hcs (by omega) hcells) (OwnFrom.and (ownFrom_marks (fun D hD => by have := hDs D hD; omega)) (OwnFrom.and (ownFrom_blk (by have := HLT2.out; omega)) (ownFrom_size _)))) (fun _ => ownFrom_pure _ _) ⟨⟨_, hS3⟩, hM3, h12, Nat.le_refl _⟩
      (fun x a' W => ∃ p, a' = loopAct a0 [(54, (A[x.1]).val), (13, .pointer (some ⟨p, 0, none⟩))] ∧ W.heap[p]? = some (.cells #[.int .i64 (A[x.1]).x, .int .i64 (A[x.1]).y] 33 (0, 0))) ?hAx ?assign ?body ?done ?stop
     case hAx =>
      rintro x a' s X Y row ⟨p, e, hp⟩ hg hr
      exact ⟨p, e, (grownBy_keeps_cells hg (fun r e => (hr r e).2) hp rfl).trans hp⟩
     case assign =>
      rintro ly pre x W K ⟨⟨v', hI⟩, hM, hq, hlt5⟩ hK
      have HK := Lib.hid hK
      have HI := Lib.hid hI
      have HM := Lib.hid hM
      have HQQ := Lib.hid hq
      clear hK hI hM hq
      rw [ha0] at HK ⊢
      unfold loopAct at HK ⊢
      simp only [PtT.val, List.foldl, List.setIfInBounds_toArray, List.set_cons_succ, List.set_cons_zero] at HK ⊢
      gi_wp2
      have hb := (Below.refl W.heap.size W).alloc (Nat.le_refl _) (.cells #[.int .i64 (A[x.1]).x, .int .i64 (A[x.1]).y] 33)
      exact HK.out _ _ (keepsFrom_below hb) (KC.of_below hb (fun c hc => Nat.lt_of_lt_of_le (HF.out.1 c hc) hlt5)) ⟨⟨v', HI.out.below hb⟩, HM.out.below hb, (hb.block _ (block_lt HQQ.out)).trans HQQ.out, Nat.le_trans hlt5 hb.size⟩ ⟨W.heap.size, rfl, World.alloc_heap_new W _⟩
     case body =>
      rintro ly pre x a' W ⟨⟨v', hI⟩, hM, hq, hlt5⟩ ⟨p13, rfl, hp13⟩ hlen
      obtain ⟨nn, hnn⟩ : ∃ nn, A[x.1] = nn := ⟨_, rfl⟩
      have hmemA : nn ∈ A := by rw [← hnn]; exact List.getElem_mem _
      have hmid := HKK.out.mid HWH.out.1 HWH.out.2 HQ.out (pre.map (fun i => A[i.1])) (fun n hn => by
       obtain ⟨i, -, rfl⟩ := List.mem_map.1 hn
       exact (HAM.out _ (List.getElem_mem _)).1)
      obtain ⟨s1, hs1⟩ : ∃ s1, (pre.map (fun i => A[i.1])).foldl (Bf.look (nearP C pp t) (8 * (C.wide : Int)) (8 * (C.high : Int)) q) s = s1 := ⟨_, rfl⟩
      have hnx : ((pre ++ [x]).map (fun i => A[i.1])).foldl (Bf.look (nearP C pp t) (8 * (C.wide : Int)) (8 * (C.high : Int)) q) s = s1.look (nearP C pp t) (8 * (C.wide : Int)) (8 * (C.high : Int)) q nn := by
       rw [List.map_append, List.foldl_append, hs1]
       simp [hnn]
      rw [hs1] at hI hmid
      have HNX := Lib.hid hnx
      rw [hnn] at hp13 ⊢
      rw [ha0]
      unfold loopAct
      simp only [PtT.val, List.foldl, List.setIfInBounds_toArray, List.set_cons_succ, List.set_cons_zero]
      have HON := Lib.hid (HAM.out nn hmemA).2
      have HI := Lib.hid hI
      have HM := Lib.hid hM
      have HQQ := Lib.hid hq
      have HP13 := Lib.hid hp13
      have HMID := Lib.hid hmid
      have HL5 := Lib.hid hlt5
      have NEAR := Lib.hid (near_cl C c S Bs Bc Bt (colP C pp) HOK.out t nn HON.out W (HCA.out.below hI.o.st.low) (cell_of_block (hI.o.st.blockAt 5 rfl) rfl) (cell_of_block hI.at_ (seaA_0 _ _ _ _ _)) (hI.o.st.blockAt 2 rfl) (cell_of_block (hI.o.st.blockAt 3 rfl) rfl))
      have hnp : nearB (colP C pp) (colP C nn) t = nearP C pp t nn := rfl
      rw [hnp] at NEAR
      obtain ⟨nb, hnb⟩ : ∃ nb, nearP C pp t nn = nb := ⟨_, rfl⟩
      rw [hnb] at NEAR
      have HNB := Lib.hid hnb
      unfold PtT.val at NEAR
      have c9 := cell_of_block (k := 0) (hI.o.st.blockAt 1 rfl) rfl
      have k0 := cell_of_block (k := 0) hp13 rfl
      have k1 := cell_of_block (k := 1) hp13 rfl
      clear hnn hmemA hmid hs1 hnx hI hM hq hp13 hlt5 hnp hnb
      gi_wp2_with fail
      clear c9 k0 k1
      refine ((callsIn_wide.2 NEAR.out).inRound ly).mono ?_
      rintro e W2 ⟨rfl, hb⟩
      have HB2 := Lib.hid hb
      have HI2 := Lib.hid (HI.out.below hb)
      have HP2 := Lib.hid ((hb.block _ (block_lt HP13.out)).trans HP13.out)
      have HQ2 := Lib.hid ((hb.block _ (block_lt HQQ.out)).trans HQQ.out)
      clear hb NEAR
      cases nb
      · gi_wp2
        have e : s1.look (nearP C pp t) (8 * (C.wide : Int)) (8 * (C.high : Int)) q nn = s1 := by unfold Bf.look; rw [HNB.out]; simp
        refine ⟨keepsFrom_below HB2.out, KC.of_below HB2.out (fun c hc => Nat.lt_of_lt_of_le (HF.out.1 c hc) HL5.out), ⟨v', by rw [HNX.out, e]; exact HI2.out⟩, HM.out.below HB2.out, HQ2.out, Nat.le_trans HL5.out HB2.out.size⟩
      · have e : s1.look (nearP C pp t) (8 * (C.wide : Int)) (8 * (C.high : Int)) q nn = s1.meet nn (s1.m (qy * 32 + qx)) := by unfold Bf.look; rw [HNB.out, HON.out, HQI.out]; rfl
        have HE := Lib.hid e
        have x1 : qx < 32 := HQ32.out.1
        have x2 : qy < 32 := HQ32.out.2
        have HIX := Lib.hid (show qy * 32 + qx < 1024 by omega)
        clear e
        repeat ((fail_if_success (with_reducible refine stop_atI (id := 13) ?_)); (first | go_values | gi_guarded | gi_step | gi_upon | gi_back | (simp only [Int.not_lt, Int.not_le] at *; go_simp) | (go_values <;> (try go_simp)) | (go_ite <;> go_prune <;> (try go_simp)) | (split <;> (first | (rename_i hx; exact (hx _ rfl).elim) | go_prune))))
        apply wp_region_vals 12 (Rl := [(eqv _), (eqv _), (eqv _), (eqv _), (eqv _), (eqv _), (eqv _), (eqv _), (eqv _), (eqv _), (eqv _), (eqv _)]) (C := (fun x y => Below x.heap.size x y))
        case hm => kernel_rfl
        case hk => rfl
        case hCr => exact (fun _ => Below.refl _ _)
        case hCt => intro _ _ _; exact (fun h k => grows_trans h k)
        case hst => exact ⟨fun _ _ _ _ h => h, fun _ _ _ _ h => h, fun _ _ _ _ h => h, fun _ _ _ _ h => h, fun _ _ _ _ h => h, fun _ _ _ _ h => h, fun _ _ _ _ h => h, fun _ _ _ _ h => h, fun _ _ _ _ h => h, fun _ _ _ _ h => h, fun _ _ _ _ h => h, fun _ _ _ _ h => h, trivial⟩
        case hfo => kernel_rfl
        case ht => kernel_rfl
        case hC0 => exact (grows_drew _)
        case hsteps =>
         refine ⟨?_, ?_, ?_, ?_, ?_, ?_, ?_, ?_, ?_, ?_, ?_, ?_, trivial⟩
         · intro a' w' hA hC hD; have s10 : a'.tmps[10]? = some _ := (hA.at 10 (by kernel_rfl)).trans rfl
           have b1 := cell_of_block (k := 0) ((HI2.out.below hC).o.st.blockAt 0 rfl) rfl
           clear hA hD; refine stepOk_plain rfl ?_; intro K hK; gi_wp2; exact hK _ _ rfl ((fun _ => Below.refl _ _) _)
         · intro a' w' hA hC hD; have s13 : a'.tmps[13]? = some _ := (hA.at 13 (by kernel_rfl)).trans rfl
           have h1_ := (hC.block p13 (block_lt HP2.out)).trans HP2.out; have b1 := cell_of_block (k := 0) h1_ rfl; have b2 := cell_of_block (k := 1) h1_ rfl; clear h1_
           clear hA hD; refine stepOk_plain rfl ?_; intro K hK; gi_wp2; exact hK _ _ rfl ((fun _ => Below.refl _ _) _)
         · intro a' w' hA hC hD; have s3 : a'.tmps[3]? = some _ := (hA.at 3 (by kernel_rfl)).trans rfl
           have b1 := cell_of_block (k := 0) ((HI2.out.below hC).o.st.blockAt 5 rfl) rfl
           clear hA hD; refine stepOk_plain rfl ?_; intro K hK; gi_wp2; exact hK _ _ rfl ((fun _ => Below.refl _ _) _)
         · intro a' w' hA hC hD; have s12 : a'.tmps[12]? = some _ := (hA.at 12 (by kernel_rfl)).trans rfl; clear hA hD; refine stepOk_plain rfl ?_; intro K hK; gi_wp2; exact hK _ _ rfl ((fun _ => Below.refl _ _) _)
         · intro a' w' hA hC hD; obtain ⟨u61, s61, r61⟩ := hD ⟨3, .data⟩ (by simp) rfl _ rfl; replace r61 : u61 = _ := r61; subst r61
           have b1 := cell_of_block (k := 1) ((hC.block q12 (block_lt HQ2.out)).trans HQ2.out) rfl
           clear hA hD; refine stepOk_plain rfl ?_; intro K hK; gi_wp2; exact hK _ _ rfl ((fun _ => Below.refl _ _) _)
         · intro a' w' hA hC hD; have s12 : a'.tmps[12]? = some _ := (hA.at 12 (by kernel_rfl)).trans rfl; clear hA hD; refine stepOk_plain rfl ?_; intro K hK; gi_wp2; exact hK _ _ rfl ((fun _ => Below.refl _ _) _)
         · intro a' w' hA hC hD; obtain ⟨u63, s63, r63⟩ := hD ⟨5, .data⟩ (by simp) rfl _ rfl; replace r63 : u63 = _ := r63; subst r63
           have b1 := cell_of_block (k := 0) ((hC.block q12 (block_lt HQ2.out)).trans HQ2.out) rfl
           clear hA hD; refine stepOk_plain rfl ?_; intro K hK; gi_wp2; exact hK _ _ rfl ((fun _ => Below.refl _ _) _)
         · intro a' w' hA hC hD; obtain ⟨u60, s60, r60⟩ := hD ⟨2, .data⟩ (by simp) rfl _ rfl; replace r60 : u60 = _ := r60; subst r60; clear hA hD; refine stepOk_plain rfl ?_; intro K hK; gi_wp2; exact hK _ _ rfl ((fun _ => Below.refl _ _) _)
         · intro a' w' hA hC hD; obtain ⟨u65, s65, r65⟩ := hD ⟨7, .data⟩ (by simp) rfl _ rfl; replace r65 : u65 = _ := r65; subst r65; clear hA hD; refine stepOk_plain rfl ?_; intro K hK; gi_wp2; exact hK _ _ rfl ((fun _ => Below.refl _ _) _)
         · intro a' w' hA hC hD; obtain ⟨u66, s66, r66⟩ := hD ⟨8, .data⟩ (by simp) rfl _ rfl; replace r66 : u66 = _ := r66; subst r66; obtain ⟨u62, s62, r62⟩ := hD ⟨4, .data⟩ (by simp) rfl _ rfl; replace r62 : u62 = _ := r62; subst r62; clear hA hD; refine stepOk_plain rfl ?_; intro K hK; gi_wp2; exact hK _ _ rfl ((fun _ => Below.refl _ _) _)
         · intro a' w' hA hC hD; obtain ⟨u67, s67, r67⟩ := hD ⟨9, .data⟩ (by simp) rfl _ rfl; replace r67 : u67 = _ := r67; subst r67; obtain ⟨u64, s64, r64⟩ := hD ⟨6, .data⟩ (by simp) rfl _ rfl; replace r64 : u64 = _ := r64; subst r64; clear hA hD; refine stepOk_plain rfl ?_; intro K hK; gi_wp2; exact hK _ _ rfl ((fun _ => Below.refl _ _) _)
         · intro a' w' hA hC hD; obtain ⟨u68, s68, r68⟩ := hD ⟨10, .data⟩ (by simp) rfl _ rfl; replace r68 : u68 = _ := r68; subst r68
           have b1 := cell_of_block ((HI2.out.below hC).at_) (seaA_met c (8 * (C.wide : Int)) (8 * (C.high : Int)) s1.m v' (i := qy * 32 + qx) HIX.out); rw [← Nat.add_assoc] at b1
           clear hA hD; refine stepOk_plain rfl ?_; intro K hK; gi_wp2; exact hK _ _ rfl ((fun _ => Below.refl _ _) _)
        case hend =>
         intro W3 hC
         simp only [EndFrom, eqv, forall_eq, Act.put, List.length_cons, List.length_nil, List.drop_succ_cons, List.drop_zero, Nat.reduceAdd, List.setIfInBounds_toArray, List.set_cons_succ, List.set_cons_zero]
         have HB3 := Lib.hid (grows_trans HB2.out hC)
         have HI3 := Lib.hid (HI2.out.below hC)
         have HQ3 := Lib.hid ((hC.block _ (block_lt HQ2.out)).trans HQ2.out)
         clear hC
         have hbs3' : ∀ b ∈ bs, b < W3.heap.size := fun b hb => Nat.lt_of_lt_of_le (HF.out.1 b hb) (Nat.le_trans HL5.out HB3.out.size)
         have HBS := Lib.hid hbs3'
         have MEET := Lib.hid (meet_any w _ [] bs base S c _ _ s1 v' W3 HI3.out hbs3' HWH.out.1 HWH.out.2 nn HON.out (s1.m (qy * 32 + qx)) (by have := HMID.out.1; rw [HQI.out] at this; exact this) HMID.out.2.1)
         unfold PtT.val at MEET
         clear hbs3'
         gi_wp2_with fail
         refine ((callsIn_wide.2 MEET.out).inRound ly).mono ?_
         rintro e W4 ⟨rfl, ⟨v2, hs2, -⟩, ht2⟩
         obtain ⟨hka, hko⟩ := HI3.out.keeps HBS.out HF.out.2.1 ht2
         have hko' : KeepsOthers W W4 := (show KeepsOthers W W3 from ⟨HB3.out.size, fun j o hj _ => (HB3.out.block j (block_lt hj)).trans hj⟩).trans hko
         have hkc : KC bs (seaCs S (8 * (C.wide : Int)) (8 * (C.high : Int))) W W4 := ⟨(KeepsAt.of_below HB3.out (fun c hc => Nat.lt_of_lt_of_le (HF.out.1 c hc) HL5.out)).trans hka, fun z hz _ => by
          unfold seaCs at hz
          rcases List.mem_cons.1 hz with rfl | hz
          · exact cell_of_block hs2.at_ (seaA_1 _ _ _ _ _)
          · rw [List.mem_singleton.1 hz]
            exact cell_of_block hs2.at_ (seaA_2 _ _ _ _ _)⟩
         have HR := Lib.hid (And.intro hko' (And.intro hkc (And.intro hs2 (hka q12 HF.out.2.2.1.2.2))))
         clear hka hko hko' hkc hs2 ht2 MEET
         gi_wp2
         refine ⟨HR.out.1.from _, HR.out.2.1, ⟨v2, by rw [HNX.out, HE.out]; exact HR.out.2.2.1⟩, HM.out.keep (fun k hk => HR.out.1.same k _ hk rfl), HR.out.2.2.2.trans HQ3.out, Nat.le_trans HL5.out HR.out.1.size⟩
     case done =>
      rintro D W hD ⟨⟨v', hI⟩, hM, hq, hlt5⟩ hK
      rw [ha0]
      dsimp only
      rw [map_fin, ← HV.out] at hI
      have HI := Lib.hid hI.forget
      have HM := Lib.hid (show Marks w.heap.size (D :: Ds) W from ⟨List.nodup_cons.2 ⟨fun hm => by have := hDs D hm; omega, hM.nd⟩, fun E hE => by
       rcases List.mem_cons.1 hE with rfl | hE
       · exact ⟨by omega, hK⟩
       · exact hM.blk E hE⟩)
      have HVI := Lib.hid (HKK.out.visit HWH.out.1 HWH.out.2 HQ.out).1
      clear hI hM hK ha0 hq hlt5
      rw [e1]; gi_wp2
      refine wpIn_wide.2 ?_
      go_step3
      refine ⟨rfl, ⟨_, k + 1, _, v', D :: Ds, Bs, Bp, Bt, Bc, Bn, Bm, base, rfl, ?_, HVI.out, HI.out, HM.out⟩, ?_⟩
      · kernel_rfl
      · have := HLT.out
        have := HLN.out
        show 1025 - ((k + 1 : Nat) : Int).toNat < 1025 - ((k : Int)).toNat
        omega
     case stop =>
      intro D c pre W _ _ h
      exact h.elim
   · have hsd := HKK.out.done (by rw [HN.out]; omega)
     have hkn : k = n := by have h1 := HKK.out.kl; rw [HN.out] at h1; omega
     have hcap : n ≤ cap := by
      rcases HSS.out.o.row.2 with ⟨e1, _⟩ | ⟨g', cap', cur, e1, _, _, h3, _⟩
      · cases e1
      · cases e1; rw [← HN.out]; exact h3
     have HRS := Lib.hid hsd
     subst hkn
     clear hsd hlt
     gi_wp2
     simp only [Exit.jump]
     have hS6 := HSS.out.at_
     rw [HRS.out] at hS6
     refine ret_marks (lo := w.heap.size) (Ds := Ds) (v := .slice (some ⟨g, 0, none⟩) k k) rfl HMK.out (fun W' ht => ⟨by simp [results, Tryz.results42, go_sem], ⟨_, rfl⟩, ⟨_, (ht.block S (block_lt hS6) (HMK.out.notCells hS6)).trans hS6⟩, ?_⟩)
     exact (HSS.out.tu.trans ht).mono fun j hj hd => (by
      rcases hd with hd | hd
      · exact hd
      · have := (HMK.out.blk j hd).1; omega)
 intro hpass
 have HPASS := Lib.hid hpass
 clear hpass
 obtain ⟨r, g, bl, al⟩ := cl
 unfold ColT.val at HAT
 simp only at HAT
 repeat ((fail_if_success (with_reducible refine stop_at (id := 1) ?_)); (first | go_values | go_skip | go_guarded | go_step | go_upon | go_back | (simp only [Int.not_lt, Int.not_le] at *; go_simp) | (go_values <;> (try go_simp)) | (go_ite <;> go_prune <;> (try go_simp)) | (split <;> (first | (rename_i hx; exact (hx _ rfl).elim) | go_prune))))
 have hs_ := (((HS.out.alloc (.cells #[.pointer (some ⟨S, 0, none⟩)] 69)).alloc (.cells #[.int .i64 x, .int .i64 y] 33)).alloc (.cells #[.int .i64 t] 3))
 have ht_ := (((HT.out.alloc (.cells #[.pointer (some ⟨S, 0, none⟩)] 69)).alloc (.cells #[.int .i64 x, .int .i64 y] 33)).alloc (.cells #[.int .i64 t] 3))
 obtain ⟨w3, hw_⟩ : ∃ w3 : World, (((w.alloc (.cells #[.pointer (some ⟨S, 0, none⟩)] 69)).alloc (.cells #[.int .i64 x, .int .i64 y] 33)).alloc (.cells #[.int .i64 t] 3)) = w3 := ⟨_, rfl⟩
 rw [hw_] at hs_ ht_
 try simp only [World.size_alloc] at hs_
 have HS := Lib.hid hs_
 have HT := Lib.hid ht_
 rw [hw_]
 clear hw_ hs_ ht_
 refine (wpIn_wide (n := 0)).1 ?_
 refine wp_region_factsE (by kernel_rfl) [(fun v_ _ _ => v_ = (.pointer (some ⟨S, 0, none⟩) : Value)), (fun v_ _ _ => v_ = (.pointer (some ⟨S, 0, none⟩) : Value)), (fun v_ _ _ => v_ = (.pointer (some ⟨S, 0, none⟩) : Value)), (fun v_ _ _ => v_ = (.pointer (some ⟨c, 0, none⟩) : Value)), (fun v_ _ _ => v_ = (.pointer (some ⟨w.heap.size + 1, 0, none⟩) : Value)), (fun v_ _ _ => v_ = (.int .i64 (x : Int) : Value)), (fun v_ _ _ => v_ = (.pointer (some ⟨w.heap.size + 1, 1, none⟩) : Value)), (fun v_ _ _ => v_ = (.int .i64 (y : Int) : Value)), (fun v_ _ _ => v_ = (.tuple #[.agg #[.int .u8 r, .int .u8 g, .int .u8 bl, .int .u8 al], .bool true] : Value)), (fun v_ _ _ => v_ = (.tuple #[.agg #[.int .u8 r, .int .u8 g, .int .u8 bl, .int .u8 al], .bool true] : Value)), (fun v_ _ _ => v_ = (.agg #[.int .u8 r, .int .u8 g, .int .u8 bl, .int .u8 al] : Value)), (fun v_ _ _ => v_ = (.bool true : Value)), (fun v_ e_ w_ => ∃ q, v_ = .pointer (some ⟨q, 0, none⟩) ∧ w3.heap.size ≤ q ∧ (w_.heap[q]? = some (.cells #[.int .u8 0, .int .u8 0, .int .u8 0, .int .u8 0] 27 (0, 0)) ∨ w_.heap[q]? = some (.cells #[.int .u8 r, .int .u8 g, .int .u8 bl, .int .u8 al] 27 (0, 0)))), (fun v_ e_ w_ => ∀ q, e_ 7 = .pointer (some ⟨q, 0, none⟩) → w_.heap[q]? = some (.cells #[.int .u8 r, .int .u8 g, .int .u8 bl, .int .u8 al] 27 (0, 0)))] (fun x y => FillC w3.heap.size (.cells #[.int .u8 0, .int .u8 0, .int .u8 0, .int .u8 0] 27 (0, 0)) (.cells #[.int .u8 r, .int .u8 g, .int .u8 bl, .int .u8 al] 27 (0, 0)) x y) (fun x => FillC.refl _ _ _ x) (fun h k => FillC.trans h k) ⟨fun _ _ _ _ _ h => h, fun _ _ _ _ _ h => h, fun _ _ _ _ _ h => h, fun _ _ _ _ _ h => h, fun _ _ _ _ _ h => h, fun _ _ _ _ _ h => h, fun _ _ _ _ _ h => h, fun _ _ _ _ _ h => h, fun _ _ _ _ _ h => h, fun _ _ _ _ _ h => h, fun _ _ _ _ _ h => h, fun _ _ _ _ _ h => h, fun _ _ _ _ hC ⟨q, e, h, h2⟩ => ⟨q, e, h, FillC.either hC h2⟩, fun _ _ _ _ hC h q e => FillC.filled hC (h q e), trivial⟩ (by kernel_rfl) (by kernel_rfl) (FillC.grow (grows_drew _) (Nat.le_refl _)) ⟨fun _ _ _ _ _ h => h, fun _ _ _ _ _ h => h, fun _ _ _ _ _ h => h, fun _ _ _ _ _ h => h, fun _ _ _ _ _ h => h, fun _ _ _ _ _ h => h, fun _ _ _ _ _ h => h, fun _ _ _ _ _ h => h, fun _ _ _ _ _ h => h, fun _ _ _ _ _ h => h, fun _ _ _ _ _ h => h, fun _ _ _ _ _ h => h, fun _ _ _ _ _ h => h, fun v env env' x he h q e => h q ((he ⟨12, .data⟩ (by simp) rfl _ _ rfl rfl).trans e), trivial⟩ ?steps ?fin
 case steps =>
  refine ⟨?_, ?_, ?_, ?_, ?_, ?_, ?_, ?_, ?_, ?_, ?_, ?_, ?_, ?_, trivial⟩
  · intro a' w' hA hC hD; have s3 : a'.tmps[3]? = some (.pointer (some ⟨w.heap.size, 0, none⟩)) := (hA.at 3 (by kernel_rfl)).trans rfl
    have hCz := FillC.size hC
    have b1 := cell_of_block (k := 0) ((hC.1.block _ (HS.out.lt 2 rfl)).trans (HS.out.blockAt 2 rfl)) rfl
    clear hA hD; refine stepOk_plain rfl ?_; intro K hK; gi_wp2; exact hK (.pointer (some ⟨S, 0, none⟩)) _ rfl ((fun x => FillC.refl _ _ _ x) _)
  · intro a' w' hA hC hD; obtain ⟨u15, s15, r15⟩ := hD ⟨0, .data⟩ (by simp) rfl _ rfl; replace r15 : u15 = .pointer (some ⟨S, 0, none⟩) := r15; subst r15
    have hCz := FillC.size hC
    clear hA hD; refine stepOk_plain rfl ?_; intro K hK; gi_wp2; exact hK (.pointer (some ⟨S, 0, none⟩)) _ rfl ((fun x => FillC.refl _ _ _ x) _)
  · intro a' w' hA hC hD; obtain ⟨u16, s16, r16⟩ := hD ⟨1, .data⟩ (by simp) rfl _ rfl; replace r16 : u16 = .pointer (some ⟨S, 0, none⟩) := r16; subst r16
    have hCz := FillC.size hC
    clear hA hD; refine stepOk_plain rfl ?_; intro K hK; gi_wp2; exact hK (.pointer (some ⟨S, 0, none⟩)) _ rfl ((fun x => FillC.refl _ _ _ x) _)
  · intro a' w' hA hC hD; obtain ⟨u17, s17, r17⟩ := hD ⟨2, .data⟩ (by simp) rfl _ rfl; replace r17 : u17 = .pointer (some ⟨S, 0, none⟩) := r17; subst r17
    have hCz := FillC.size hC
    have b1 := cell_of_block ((hC.1.block _ (HS.out.lt 3 rfl)).trans (HS.out.blockAt 3 rfl)) (seaA_0 _ _ _ _ _)
    clear hA hD; refine stepOk_plain rfl ?_; intro K hK; gi_wp2; exact hK (.pointer (some ⟨c, 0, none⟩)) _ rfl ((fun x => FillC.refl _ _ _ x) _)
  · intro a' w' hA hC hD; have s4 : a'.tmps[4]? = some (.pointer (some ⟨w.heap.size + 1, 0, none⟩)) := (hA.at 4 (by kernel_rfl)).trans rfl
    have hCz := FillC.size hC
    clear hA hD; refine stepOk_plain rfl ?_; intro K hK; gi_wp2; exact hK (.pointer (some ⟨w.heap.size + 1, 0, none⟩)) _ rfl ((fun x => FillC.refl _ _ _ x) _)
  · intro a' w' hA hC hD; obtain ⟨u19, s19, r19⟩ := hD ⟨4, .data⟩ (by simp) rfl _ rfl; replace r19 : u19 = .pointer (some ⟨w.heap.size + 1, 0, none⟩) := r19; subst r19
    have hCz := FillC.size hC
    have d0 := cell_of_block (k := 0) ((hC.1.block _ (HS.out.lt 1 rfl)).trans (HS.out.blockAt 1 rfl)) rfl
    clear hA hD; refine stepOk_plain rfl ?_; intro K hK; gi_wp2; exact hK (.int .i64 (x : Int)) _ rfl ((fun x => FillC.refl _ _ _ x) _)
  · intro a' w' hA hC hD; have s4 : a'.tmps[4]? = some (.pointer (some ⟨w.heap.size + 1, 0, none⟩)) := (hA.at 4 (by kernel_rfl)).trans rfl
    have hCz := FillC.size hC
    clear hA hD; refine stepOk_plain rfl ?_; intro K hK; gi_wp2; exact hK (.pointer (some ⟨w.heap.size + 1, 1, none⟩)) _ rfl ((fun x => FillC.refl _ _ _ x) _)
  · intro a' w' hA hC hD; obtain ⟨u21, s21, r21⟩ := hD ⟨6, .data⟩ (by simp) rfl _ rfl; replace r21 : u21 = .pointer (some ⟨w.heap.size + 1, 1, none⟩) := r21; subst r21
    have hCz := FillC.size hC
    have d1 := cell_of_block (k := 1) ((hC.1.block _ (HS.out.lt 1 rfl)).trans (HS.out.blockAt 1 rfl)) rfl
    clear hA hD; refine stepOk_plain rfl ?_; intro K hK; gi_wp2; exact hK (.int .i64 (y : Int)) _ rfl ((fun x => FillC.refl _ _ _ x) _)
  · intro a' w' hA hC hD; obtain ⟨u18, s18, r18⟩ := hD ⟨3, .data⟩ (by simp) rfl _ rfl; replace r18 : u18 = .pointer (some ⟨c, 0, none⟩) := r18; subst r18; obtain ⟨u20, s20, r20⟩ := hD ⟨5, .data⟩ (by simp) rfl _ rfl; replace r20 : u20 = .int .i64 (x : Int) := r20; subst r20; obtain ⟨u22, s22, r22⟩ := hD ⟨7, .data⟩ (by simp) rfl _ rfl; replace r22 : u22 = .int .i64 (y : Int) := r22; subst r22
    have hCz := FillC.size hC
    clear hA hD; refine stepOk_plain rfl ?_; intro K hK
    gi_wp2_with fail; refine (callsIn_wide.2 (HAT.out _ (HCA.out.below (HS.out.low.trans (hC.1.mono (HS.out.low.size)))))).mono ?_; rintro e w5 ⟨rfl, hb⟩; exact hK _ _ rfl (FillC.grow hb hCz)
  · intro a' w' hA hC hD; obtain ⟨u23, s23, r23⟩ := hD ⟨8, .data⟩ (by simp) rfl _ rfl; replace r23 : u23 = .tuple #[.agg #[.int .u8 r, .int .u8 g, .int .u8 bl, .int .u8 al], .bool true] := r23; subst r23
    have hCz := FillC.size hC
    clear hA hD; refine stepOk_plain rfl ?_; intro K hK; gi_wp2; exact hK (.tuple #[.agg #[.int .u8 r, .int .u8 g, .int .u8 bl, .int .u8 al], .bool true]) _ rfl ((fun x => FillC.refl _ _ _ x) _)
  · intro a' w' hA hC hD; obtain ⟨u14, s14, r14⟩ := hD ⟨9, .data⟩ (by simp) rfl _ rfl; replace r14 : u14 = .tuple #[.agg #[.int .u8 r, .int .u8 g, .int .u8 bl, .int .u8 al], .bool true] := r14; subst r14
    have hCz := FillC.size hC
    clear hA hD; refine stepOk_plain rfl ?_; intro K hK; gi_wp2; exact hK (.agg #[.int .u8 r, .int .u8 g, .int .u8 bl, .int .u8 al]) _ rfl ((fun x => FillC.refl _ _ _ x) _)
  · intro a' w' hA hC hD; obtain ⟨u14, s14, r14⟩ := hD ⟨9, .data⟩ (by simp) rfl _ rfl; replace r14 : u14 = .tuple #[.agg #[.int .u8 r, .int .u8 g, .int .u8 bl, .int .u8 al], .bool true] := r14; subst r14
    have hCz := FillC.size hC
    clear hA hD; refine stepOk_plain rfl ?_; intro K hK; gi_wp2; exact hK (.bool true) _ rfl ((fun x => FillC.refl _ _ _ x) _)
  · intro a' w' hA hC hD
    have hCz := FillC.size hC
    clear hA hD; refine stepOk_plain rfl ?_; intro K hK; gi_wp2; exact hK (.pointer (some ⟨w'.heap.size, 0, none⟩)) _ ⟨w'.heap.size, rfl, hCz, .inl (World.alloc_heap_new _ _)⟩ (FillC.grow ((Below.refl _ _).alloc (Nat.le_refl _) _) hCz)
  · intro a' w' hA hC hD; obtain ⟨u7, s7, r7⟩ := hD ⟨12, .data⟩ (by simp) rfl _ rfl; replace r7 : (fun v_ e_ w_ => ∃ q, v_ = .pointer (some ⟨q, 0, none⟩) ∧ w3.heap.size ≤ q ∧ (w_.heap[q]? = some (.cells #[.int .u8 0, .int .u8 0, .int .u8 0, .int .u8 0] 27 (0, 0)) ∨ w_.heap[q]? = some (.cells #[.int .u8 r, .int .u8 g, .int .u8 bl, .int .u8 al] 27 (0, 0)))) u7 (envOf a') w' := r7; obtain ⟨u24, s24, r24⟩ := hD ⟨10, .data⟩ (by simp) rfl _ rfl; replace r24 : u24 = .agg #[.int .u8 r, .int .u8 g, .int .u8 bl, .int .u8 al] := r24; subst r24
    have hCz := FillC.size hC
    have henv : envOf a' 7 = u7 := by (unfold envOf; rw [s7]; rfl)
    clear hA hD; refine stepOk_plain rfl ?_; intro K hK
    obtain ⟨q, rfl, hge, hq⟩ := r7; obtain ⟨y0, y1, y2, y3, hy⟩ := either4 hq; have d0 := cell_of_block (k := 0) (v := y0) hy rfl; have d1 := cell_of_block (k := 1) (v := y1) hy rfl; have d2 := cell_of_block (k := 2) (v := y2) hy rfl; have d3 := cell_of_block (k := 3) (v := y3) hy rfl; have fr := free_of_block hy; gi_wp2
    exact hK undef _ (fun q' e => by rw [henv] at e; cases e; exact (fill4 (n₀ := w3.heap.size) hge hq).2) (fill4 (n₀ := w3.heap.size) hge hq).1
 case fin =>
  intro w4 env hC
  simp only [EndFromE, forall_eq, Option.some.injEq, forall_eq', reduceCtorEq, false_implies, implies_true, forall_const, Act.put, List.length_cons, List.length_nil, List.drop_succ_cons, List.drop_zero, Nat.reduceAdd, List.setIfInBounds_toArray, List.set_cons_succ, List.set_cons_zero]
  rintro _ _ _ _ _ _ _ _ _ _ _ _ v7 ⟨q7, rfl, hge, _⟩ he hs
  have h7 := hs q7 he
  have HT := Lib.hid (HT.out.belowT hC.1)
  have HS := Lib.hid ((HS.out.below hC.1).addB h7 (fun i hi => Nat.le_trans (HS.out.top i hi) hge) (by rw [HCS.out]; have := HSL.out; have := (HS.out.low.size : _); rw [HCS.out] at this; exact Nat.le_trans this hge))
  clear hs he h7 hC hge
  gi_wp2
  repeat ((fail_if_success (with_reducible refine stop_at (id := 3) ?_)); (first | go_values | go_skip | go_guarded | go_step | go_upon | go_back | (simp only [Int.not_lt, Int.not_le] at *; go_simp) | (go_values <;> (try go_simp)) | (go_ite <;> go_prune <;> (try go_simp)) | (split <;> (first | (rename_i hx; exact (hx _ rfl).elim) | go_prune))))
  have hs_ := (HS.out.alloc (.cells #[.func (.func 65) #[] #[.pointer (some ⟨w.heap.size, 0, none⟩), .pointer (some ⟨q7, 0, none⟩), .pointer (some ⟨w.heap.size + 1 + 1, 0, none⟩)]] 92))
  have ht_ := (HT.out.alloc (.cells #[.func (.func 65) #[] #[.pointer (some ⟨w.heap.size, 0, none⟩), .pointer (some ⟨q7, 0, none⟩), .pointer (some ⟨w.heap.size + 1 + 1, 0, none⟩)]] 92))
  obtain ⟨w6, hw_⟩ : ∃ w6 : World, (w4.alloc (.cells #[.func (.func 65) #[] #[.pointer (some ⟨w.heap.size, 0, none⟩), .pointer (some ⟨q7, 0, none⟩), .pointer (some ⟨w.heap.size + 1 + 1, 0, none⟩)]] 92)) = w6 := ⟨_, rfl⟩
  rw [hw_] at hs_ ht_
  try simp only [World.size_alloc] at hs_
  have HS := Lib.hid hs_
  have HT := Lib.hid ht_
  rw [hw_]
  clear hw_ hs_ ht_
  have b1 := cell_of_block (k := 0) (HS.out.blockAt 4 rfl) rfl
  have f1 := free_of_block (HS.out.blockAt 5 rfl) 1027
  have c1 := cell_of_block (HS.out.blockAt 5 rfl) (seaA_waits _ _ _ _ _)
  repeat ((fail_if_success (with_reducible refine stop_at (id := 4) ?_)); (first | go_values | go_skip | go_guarded | go_step | go_upon | go_back | (simp only [Int.not_lt, Int.not_le] at *; go_simp) | (go_values <;> (try go_simp)) | (go_ite <;> go_prune <;> (try go_simp)) | (split <;> (first | (rename_i hx; exact (hx _ rfl).elim) | go_prune))))
  have hs := HS.out.putAt (pre := [_, _, _, _, _]) (by intro i hi; simp at hi; rcases hi with rfl | rfl | rfl | rfl | rfl <;> exact ⟨_, _, rfl⟩) 1027 (.slice none 0 0) (seaA_setv _ _ _ _ _ _)
  have ht := HT.out.setNew S 1027 (.inr rfl) (.slice none 0 0)
  simp only [List.cons_append, List.nil_append] at hs
  generalize w6.setCell ⟨S, 1027, none⟩ (.slice none 0 0) = w7 at hs ht ⊢
  have HS := Lib.hid hs
  have HT := Lib.hid ht
  clear hs ht b1 f1 c1
  have b1 := cell_of_block (k := 0) (HS.out.blockAt 4 rfl) rfl
  repeat ((fail_if_success (with_reducible refine stop_at (id := 5) ?_)); (first | go_values | go_skip | go_guarded | go_step | go_upon | go_back | (simp only [Int.not_lt, Int.not_le] at *; go_simp) | (go_values <;> (try go_simp)) | (go_ite <;> go_prune <;> (try go_simp)) | (split <;> (first | (rename_i hx; exact (hx _ rfl).elim) | go_prune))))
  clear b1
  have hs_ := (HS.out.alloc (.cells #[.func (.func 44) #[.pointer (some ⟨S, 0, none⟩)] #[]] 107))
  have ht_ := (HT.out.alloc (.cells #[.func (.func 44) #[.pointer (some ⟨S, 0, none⟩)] #[]] 107))
  obtain ⟨w8, hw_⟩ : ∃ w8 : World, (w7.alloc (.cells #[.func (.func 44) #[.pointer (some ⟨S, 0, none⟩)] #[]] 107)) = w8 := ⟨_, rfl⟩
  rw [hw_] at hs_ ht_
  try simp only [World.size_alloc] at hs_
  have HS := Lib.hid hs_
  have HT := Lib.hid ht_
  rw [hw_]
  clear hw_ hs_ ht_
  have hsea := SeaS.begin (pre := goesPre S c pp t ⟨r, g, bl, al⟩ w.heap.size (w.heap.size + 1) (w.heap.size + 1 + 1) q7 w4.heap.size w7.heap.size) (post := []) (by unfold goesPre; rw [HXY.out.1, HXY.out.2]; exact HS.out) (by unfold goesPre; intro i hi; simp at hi; rcases hi with rfl | rfl | rfl | rfl | rfl | rfl <;> exact ⟨_, _, rfl⟩) HT.out
  have HM := Lib.hid (meet_any w _ [] [] _ S c _ _ _ _ w8 hsea (by simp) HWH.out.1 HWH.out.2 pp HP.out 0 (by decide) (by simp))
  have hpv : pp.val = .agg #[.int .i64 x, .int .i64 y] := by unfold PtT.val; rw [HXY.out.1, HXY.out.2]
  rw [hpv] at HM
  have m0_ := cell_of_block (k := 0) (HS.out.blockAt 0 rfl) rfl
  have p0 := cell_of_block (k := 0) (HS.out.blockAt 4 rfl) rfl
  have p1 := cell_of_block (k := 1) (HS.out.blockAt 4 rfl) rfl
  clear hsea hpv
  go_wp2_with fail
  clear m0_ p0 p1
  refine HM.out.mono ?_
  rintro e w9 ⟨rfl, ⟨v1, hs1, -⟩, ht1⟩
  have H1 := Lib.hid hs1
  clear hs1 ht1 HM
  go_wp2_with fail
  go_step3
  simp only [Exit.then]
  go_at_K
  refine (‹∀ (a : Act) (w : World), Code.wp _ _ _ a w → _›) _ _ ?_
  refine HPASS.out _ _ ⟨_, 0, _, v1, [], w.heap.size, w.heap.size + 1, w.heap.size + 1 + 1, q7, w4.heap.size, w7.heap.size, w8.heap.size, rfl, ?_, HST.out, ?_, marks_nil _ _⟩
  · kernel_rfl
  · rw [HCL.out]; exact H1.out
end Go.Proofs.YtodpkgbpcpfamaaGreat

/- Layer 8: of, tolerant, begun. -/
namespace Go.Proofs.YtodpkgbpcpfamaaGreat
set_option linter.unusedSimpArgs false
set_option linter.unusedVariables false
open Go.RowKit Go.Shelf
attribute [local go_sem] Oper.semAt_some

set_option maxRecDepth 100000 in
set_option maxHeartbeats 1000000 in
theorem of_any (C : CanT) (c : Nat) (w : World) (hC : CanAt w c C) : Calls Tryz.prog 39 #[.pointer (some ⟨c, 0, none⟩)] w fun e w' =>
 ∃ S, e = .returned (.pointer (some ⟨S, 0, none⟩)) ∧ w.heap.size ≤ S ∧ w'.heap[S]? = some (seaO c (8 * (C.wide : Int)) (8 * (C.high : Int)) (fun _ => 0) (.slice none 0 0)) ∧ Below w.heap.size w w' := by
 have HZ := Lib.hid (size_any C c w hC)
 obtain ⟨W, hW⟩ : ∃ W, 8 * (C.wide : Int) = W := ⟨_, rfl⟩
 obtain ⟨H, hH⟩ : ∃ H, 8 * (C.high : Int) = H := ⟨_, rfl⟩
 rw [hW, hH] at HZ ⊢
 have HS := Lib.hid (St.start w)
 clear hC hW hH
 go_enter Tryz.func39, Tryz.ntmps39
 go_wp2_with fail
 refine (HZ.out).mono ?_
 rintro e w2 ⟨rfl, hb_⟩
 have HS := Lib.hid (HS.out.below hb_)
 clear hb_
 repeat ((fail_if_success (with_reducible refine stop_at (id := 2) ?_)); (first | go_values | go_skip | go_guarded | go_step | go_upon | go_back | (simp only [Int.not_lt, Int.not_le] at *; go_simp) | (go_values <;> (try go_simp)) | (go_ite <;> go_prune <;> (try go_simp)) | (split <;> (first | (rename_i hx; exact (hx _ rfl).elim) | go_prune))))
 go_wp2_with fail
 have e : ((Tryz.zeroCells104.setIfInBounds 0 (Value.pointer (some ⟨c, 0, none⟩))).setIfInBounds 1 (Value.int .i64 W)).setIfInBounds 2 (Value.int .i64 H) = seaA c W H (fun _ => 0) (.slice none 0 0) := by kernel_rfl
 rw [e]
 go_ret
 exact ⟨w2.heap.size, rfl, HS.out.size, World.alloc_heap_new _ _, HS.out.low.alloc (by exact HS.out.size) _⟩

theorem CanAt.cut {w w' : World} {c S : Nat} {C : CanT} (h : CanAt w c C) (hl : w.heap.size ≤ S) (hb : Below w.heap.size w w') (hS : S ≤ w'.heap.size) : CanAt (cutW w' S) c C :=
 h.below ⟨hb.os, hb.tape, hb.output, by rw [cutW_size hS]; exact hl, fun k hk => ((cutW_below hS).block k (by omega)).symm.trans (hb.block k hk)⟩

/-- What begun gives where it goes. -/
def GivesSea (c : Nat) (W H : Int) (m : Nat → Nat) (w : World) (e : Ending) (w' : World) : Prop := ∃ S v', e = .returned (.tuple #[.pointer (some ⟨S, 0, none⟩), .int .i64 0]) ∧ w.heap.size ≤ S ∧ w'.heap[S]? = some (seaO c W H m v') ∧ Below w.heap.size w w'

set_option maxRecDepth 100000 in
set_option maxHeartbeats 1000000 in
theorem begun_arg (c : Nat) (p : PtT) (t : Int) (ht : tolB t = false) (w : World) : Calls Tryz.prog 23 #[.pointer (some ⟨c, 0, none⟩), p.val, .int .i64 t] w (Gives (.tuple #[.pointer none, .int .i64 2]) w) := by
 have HT := Lib.hid (fun w => tolerant_any t w)
 rw [ht] at HT
 have HS := Lib.hid (St.start w)
 obtain ⟨x, y⟩ := p
 unfold PtT.val
 clear ht
 go_enter Tryz.func23, Tryz.ntmps23
 repeat ((fail_if_success (with_reducible refine stop_at (id := 1) ?_)); (first | go_values | go_skip | go_guarded | go_step | go_upon | go_back | (simp only [Int.not_lt, Int.not_le] at *; go_simp) | (go_values <;> (try go_simp)) | (go_ite <;> go_prune <;> (try go_simp)) | (split <;> (first | (rename_i hx; exact (hx _ rfl).elim) | go_prune))))
 have hs_ := (HS.out.alloc (.cells #[.int .i64 x, .int .i64 y] 33))
 obtain ⟨w1, hw_⟩ : ∃ w1 : World, (w.alloc (.cells #[.int .i64 x, .int .i64 y] 33)) = w1 := ⟨_, rfl⟩
 rw [hw_] at hs_
 try simp only [World.size_alloc] at hs_
 have HS := Lib.hid hs_
 rw [hw_]
 clear hw_ hs_
 go_wp2_with fail
 refine (HT.out _).mono ?_
 rintro e w2 ⟨rfl, hb_⟩
 have HS := Lib.hid (HS.out.below hb_)
 clear hb_
 go_wp2_with fail
 refine bodyPost_ret (v := .tuple #[.pointer none, .int .i64 2]) (by simp [results, Tryz.results23, go_sem]) rfl ⟨rfl, HS.out.low⟩
set_option maxRecDepth 100000 in
set_option maxHeartbeats 1000000 in
theorem begun_none (C : CanT) (c : Nat) (p : PtT) (t : Int) (ht : tolB t = true) (hp : onB (8 * (C.wide : Int)) (8 * (C.high : Int)) p = false) (w : World) (hC : CanAt w c C) : Calls Tryz.prog 23 #[.pointer (some ⟨c, 0, none⟩), p.val, .int .i64 t] w (Gives (.tuple #[.pointer none, .int .i64 4]) w) := by
 have HT := Lib.hid (fun w => tolerant_any t w)
 rw [ht] at HT
 have HCA := Lib.hid hC
 have HON := Lib.hid (fun S w h1 h2 => on_any S (8 * (C.wide : Int)) (8 * (C.high : Int)) p w h1 h2)
 rw [hp] at HON
 have HS := Lib.hid (St.start w)
 obtain ⟨x, y⟩ := p
 unfold PtT.val at *
 simp only at HON
 clear ht hp hC
 go_enter Tryz.func23, Tryz.ntmps23
 repeat ((fail_if_success (with_reducible refine stop_at (id := 1) ?_)); (first | go_values | go_skip | go_guarded | go_step | go_upon | go_back | (simp only [Int.not_lt, Int.not_le] at *; go_simp) | (go_values <;> (try go_simp)) | (go_ite <;> go_prune <;> (try go_simp)) | (split <;> (first | (rename_i hx; exact (hx _ rfl).elim) | go_prune))))
 have hs_ := (HS.out.alloc (.cells #[.int .i64 x, .int .i64 y] 33))
 obtain ⟨w1, hw_⟩ : ∃ w1 : World, (w.alloc (.cells #[.int .i64 x, .int .i64 y] 33)) = w1 := ⟨_, rfl⟩
 rw [hw_] at hs_
 try simp only [World.size_alloc] at hs_
 have HS := Lib.hid hs_
 rw [hw_]
 clear hw_ hs_
 go_wp2_with fail
 refine (HT.out _).mono ?_
 rintro e w2 ⟨rfl, hb_⟩
 have HS := Lib.hid (HS.out.below hb_)
 clear hb_
 go_wp2_with fail
 refine (of_any C c _ (HCA.out.below HS.out.low)).mono ?_
 rintro e w3 ⟨S, rfl, hS, hs, hb⟩
 have HS := Lib.hid (HS.out.below hb)
 have HO := Lib.hid (HON.out S w3 (cell_of_block hs (seaA_1 _ _ _ _ _)) (cell_of_block hs (seaA_2 _ _ _ _ _)))
 have k0 := cell_of_block (k := 0) (HS.out.blockAt 0 rfl) rfl
 have k1 := cell_of_block (k := 1) (HS.out.blockAt 0 rfl) rfl
 clear hS hs hb
 go_wp2_with fail
 refine (HO.out).mono ?_
 rintro e w4 ⟨rfl, hb_⟩
 have HS := Lib.hid (HS.out.below hb_)
 clear hb_
 go_wp2_with fail
 refine bodyPost_ret (v := .tuple #[.pointer none, .int .i64 4]) (by simp [results, Tryz.results23, go_sem]) rfl ⟨rfl, HS.out.low⟩
set_option maxRecDepth 100000 in
set_option maxHeartbeats 1000000 in
theorem begun_on (C : CanT) (c : Nat) (p : PtT) (t : Int) (ht : tolB t = true) (hp : onB (8 * (C.wide : Int)) (8 * (C.high : Int)) p = true) (w : World) (hC : CanAt w c C) : Calls Tryz.prog 23 #[.pointer (some ⟨c, 0, none⟩), p.val, .int .i64 t] w (GivesSea c (8 * (C.wide : Int)) (8 * (C.high : Int)) (runB (nearP C p t) (8 * (C.wide : Int)) (8 * (C.high : Int)) (fun _ => 0) p).m w) := by
 have HT := Lib.hid (fun w => tolerant_any t w)
 rw [ht] at HT
 have ht0 : 0 ≤ t := by unfold tolB at ht; simp at ht; omega
 have HCA := Lib.hid hC
 have HON := Lib.hid (fun S w h1 h2 => on_any S (8 * (C.wide : Int)) (8 * (C.high : Int)) p w h1 h2)
 rw [hp] at HON
 have HG := Lib.hid (fun S v0 w' h1 h2 => goes_any C c S (fun _ => 0) v0 p t w' h1 h2 hp rfl ht0)
 have HS := Lib.hid (St.start w)
 obtain ⟨M, hM⟩ : ∃ M, (runB (nearP C p t) (8 * (C.wide : Int)) (8 * (C.high : Int)) (fun _ => 0) p).m = M := ⟨_, rfl⟩
 rw [hM] at HG ⊢
 obtain ⟨x, y⟩ := p
 unfold PtT.val at *
 simp only at HON HG
 clear ht hp hC ht0 hM
 go_enter Tryz.func23, Tryz.ntmps23
 repeat ((fail_if_success (with_reducible refine stop_at (id := 1) ?_)); (first | go_values | go_skip | go_guarded | go_step | go_upon | go_back | (simp only [Int.not_lt, Int.not_le] at *; go_simp) | (go_values <;> (try go_simp)) | (go_ite <;> go_prune <;> (try go_simp)) | (split <;> (first | (rename_i hx; exact (hx _ rfl).elim) | go_prune))))
 have hs_ := (HS.out.alloc (.cells #[.int .i64 x, .int .i64 y] 33))
 obtain ⟨w1, hw_⟩ : ∃ w1 : World, (w.alloc (.cells #[.int .i64 x, .int .i64 y] 33)) = w1 := ⟨_, rfl⟩
 rw [hw_] at hs_
 try simp only [World.size_alloc] at hs_
 have HS := Lib.hid hs_
 rw [hw_]
 clear hw_ hs_
 go_wp2_with fail
 refine (HT.out _).mono ?_
 rintro e w2 ⟨rfl, hb_⟩
 have HS := Lib.hid (HS.out.below hb_)
 clear hb_
 go_wp2_with fail
 refine (of_any C c _ (HCA.out.below HS.out.low)).mono ?_
 rintro e w3 ⟨S, rfl, hS, hs, hb⟩
 have hle := HS.out.low.size
 have HS := Lib.hid (HS.out.below hb)
 have HO := Lib.hid (HON.out S w3 (cell_of_block hs (seaA_1 _ _ _ _ _)) (cell_of_block hs (seaA_2 _ _ _ _ _)))
 have k0 := cell_of_block (k := 0) (HS.out.blockAt 0 rfl) rfl
 have k1 := cell_of_block (k := 1) (HS.out.blockAt 0 rfl) rfl
 have HSS := Lib.hid (show w.heap.size ≤ S from Nat.le_trans hle hS)
 have HSB := Lib.hid hs
 clear hS hs hb hle
 go_wp2_with fail
 clear k0 k1
 refine (HO.out).mono ?_
 rintro e w4 ⟨rfl, hb_⟩
 have HS := Lib.hid (HS.out.below hb_)
 have hs4 : w4.heap[S]? = some _ := (hb_.block S (block_lt HSB.out)).trans HSB.out
 have HGG := Lib.hid (HG.out S _ w4 (HCA.out.cut HSS.out HS.out.low (Nat.le_of_lt (block_lt hs4))) hs4)
 have k0 := cell_of_block (k := 0) (HS.out.blockAt 0 rfl) rfl
 have k1 := cell_of_block (k := 1) (HS.out.blockAt 0 rfl) rfl
 clear hs4 hb_
 go_wp2_with fail
 clear k0 k1
 refine HGG.out.mono ?_
 rintro e w5 ⟨⟨v, rfl⟩, ⟨v', hs5⟩, ht5⟩
 have HR := Lib.hid (And.intro hs5 (HS.out.low.trans (ht5.below HS.out.size (fun k hk => by rw [hk]; exact HSS.out))))
 clear hs5 ht5 HGG
 go_wp2_with fail
 refine bodyPost_ret (v := .tuple #[.pointer (some ⟨S, 0, none⟩), .int .i64 0]) (by simp [results, Tryz.results23, go_sem]) rfl ⟨S, v', rfl, HSS.out, HR.out.1, HR.out.2⟩
end Go.Proofs.YtodpkgbpcpfamaaGreat
