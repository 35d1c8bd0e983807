/- Merged texts: Pxl PxlB MadeB New Of Pmap Wop. -/
import Derived.Test.YtgdcfkbimkclaaaGreatDoorM11
import Derived.Test.YtgdcfkbimkclaaaGreatDoorM12
import Derived.Test.YtgdcfkbimkclaaaGreatDoorM4
import Derived.Test.YtgdcfkbimkclaaaGreatDoorM13
import Derived.Test.YtgdcfkbimkclaaaGreatDoorM1
import Derived.Maps.OwnIn
set_option linter.unusedSimpArgs false
set_option linter.unusedVariables false
/- Package draw: pixels, told one by one. -/
namespace Go.Proofs.YtgdcfkbimkclaaaGreatDoor
open Go.RowKit Go.Shelf
attribute [local go_sem] Oper.semAt_some
/-- A canvas stays while the blocks that were there stay. -/
theorem CanAt.agree {w y : World} {d : Nat} {D : CanT} (h : CanAt w d D) (ha : ∀ k, k < w.heap.size → y.heap[k]? = w.heap[k]?) : CanAt y d D := by
 obtain ⟨ok, b, cap, qs, h1, h2, h3, h4, h5⟩ := h
 refine ⟨ok, b, cap, qs, (ha _ (b7t h1)).trans h1, h2, h3, fun i q hq => ?_, fun i q T hq hT => (ha _ (b7t (h5 i q T hq hT))).trans (h5 i q T hq hT)⟩
 have h6 := h4 i q hq
 have hlt := cell_lt h6
 unfold World.cell? at h6 ⊢
 rw [show y.heap[b]? = w.heap[b]? from ha b hlt]
 exact h6
/-- What a round keeps, for an iterator that began later. -/
theorem KO.raise {own : World → Nat → Prop} {bs bs' : List Nat} {N0 N1 : Nat} {A B : World} (h : KO own bs N0 A B) (hN : N0 ≤ N1) (hb : ∀ b ∈ bs', N0 ≤ b ∧ ∃ o, A.heap[b]? = some o ∧ o.isCells = true ∧ ¬ own A b) : KO own bs' N1 A B :=
 ⟨h.size, fun b hm => by obtain ⟨h1, o, h2, h3, h4⟩ := hb b hm; exact (h.rest b o h1 h2 h3 h4).2.trans h2.symm, h.wf, fun q o hq => h.rest q o (Nat.le_trans hN hq)⟩
theorem OwnSt.mono {own : World → Nat → Prop} {N0 N1 : Nat} (h : OwnSt own N0) (hN : N0 ≤ N1) : OwnSt own N1 := fun A B hk q => h A B (fun k h1 => hk k (by omega)) q
theorem ownFrom_KO {β : Type} {own : World → Nat → Prop} {bs : List Nat} {N0 B : Nat} {w : World} (ho : OwnSt own N0) (hb : ∀ b ∈ bs, b < N0) (hN : N0 ≤ w.heap.size) (hB : w.heap.size ≤ B) : OwnFrom B (fun (_ : β) W => KO own bs N0 w W) := by
 intro s X Y row h hg hr
 have hlow : ∀ k, k < B → k < X.heap.size → Y.heap[k]? = X.heap[k]? := fun k hk hx => hg.block k hx (fun e => by have := (hr k e.symm).1; omega)
 have hX : w.heap.size ≤ X.heap.size := h.size
 have e := ho X Y (fun k hk => hlow k (by omega) (by omega))
 refine ⟨Nat.le_trans h.size hg.size, fun b hm => (hlow b (by have := hb b hm; omega) (by have := hb b hm; omega)).trans (h.at_ b hm), fun hw q hq => Nat.lt_of_lt_of_le (h.wf hw q ((e q).1 hq)) hg.size, fun q o hq hqo hc hn => ?_⟩
 obtain ⟨h1, h2⟩ := h.rest q o hq hqo hc hn
 exact ⟨fun h3 => h1 ((e q).1 h3), (hlow q (by have := b7t hqo; omega) (b7t h2)).trans h2⟩
theorem at_onCan (C : CanT) (p : Nat) (q : PtT) (h : onCan C q = true) (w : World) (hC : CanAt w p C) : Calls Tryz.prog 31 #[.pointer (some ⟨p, 0, none⟩), .int .i64 q.x, .int .i64 q.y] w (Gives (.tuple #[(colP C q).val, .bool true]) w) := by
 have h1 := onCan_iff.1 h
 obtain ⟨px, py⟩ := q
 simp only at h1
 obtain ⟨x, rfl⟩ : ∃ x : Nat, px = x := ⟨px.toNat, by omega⟩
 obtain ⟨y, rfl⟩ : ∃ y : Nat, py = y := ⟨py.toNat, by omega⟩
 exact at_on C p x y (by omega) (by omega) w hC
structure LowAt (w0 w : World) : Prop where
 low : Below w0.heap.size w0 w
theorem LowAt.below {w0 w w' : World} (h : LowAt w0 w) (hb : Below w.heap.size w w') : LowAt w0 w' := ⟨h.low.trans (hb.mono h.low.size)⟩
set_option maxRecDepth 100000 in
set_option maxHeartbeats 4000000 in
theorem pixels1_any (n : Nat) (hn : 3 ≤ n) (own : World → Nat → Prop) (N0 : Nat) (ho : OwnSt own N0) (l X Lb E p : Nat) (C : CanT) (a : Option Addr) (m cap : Nat) (L : List SpT) (hlen : L.length = m) (hm : m ≤ 1000000) (hr : rightB L = true)
 (w0 : World) (hn0 : w0.heap.size ≤ N0) (hE : w0.heap[E]? = some (.cells #[.pointer (some ⟨p, 0, none⟩)] 238 (0, 0))) (hC : CanAt w0 p C) (bs : List Nat) (hbs0 : ∀ k, k < w0.heap.size → k ∈ bs) (hXb : X ∈ bs) (hbsN : ∀ b ∈ bs, b < N0)
 (W : World) (hN : N0 + 2 ≤ W.heap.size) (hlow : ∀ k, k < w0.heap.size → W.heap[k]? = w0.heap[k]?) (hX : W.heap[X]? = some (.cells #[.pointer (some ⟨E, 0, none⟩)] 200 (0, 0))) (hL : W.heap[Lb]? = some (.cells #[.slice a m cap] 41 (0, 0))) (he : Elems W (.slice a m cap) m 3 (rowC encS L)) (hwf : ∀ q, own W q → q < W.heap.size)
 (A : List PtT) (hA : ptsC C L = A)
 (J : List (Fin A.length) → World → Prop) (hJ : OwnFrom W.heap.size J)
 (hY : ∀ pre x W1, J pre W1 → pre.length < A.length → YieldAt Fence.wide (n - 1) Tryz.prog l #[(A[x.1]).val, (colP C (A[x.1])).val] W1 fun e W' => e = .returned (.bool true) ∧ J (pre ++ [x]) W' ∧ KO own bs N0 W1 W' ∧ NonKept (N0 + 2) W1 W')
 (h0 : J [] W) :
 CallsIn Fence.wide n Tryz.prog 214 #[.func (.yield l) #[] #[], .pointer (some ⟨X, 0, none⟩), .pointer (some ⟨Lb, 0, none⟩)] W fun e W' => (∃ v, e = .returned v) ∧ J (List.finRange A.length) W' := by
 have HS := H7 (St.start W)
 have HX := H7 (BlkA.mk hX)
 have HLb := H7 (BlkA.mk hL)
 have HCC := H7 (hC.agree hlow)
 have HE := H7 (BlkA.mk ((hlow E (b7t hE)).trans hE))
 have HW := H7 (And.intro hC.ok.wide hC.ok.high)
 have HEL := H7 he
 have hmf : ∀ (fn : Fn) (first cap : Array Value) (w : World), (Instr.makeFunc fn first cap).run Tryz.prog w = .ok (.func fn first cap) w := fun _ _ _ _ => rfl
 refine callsIn_of_wp_marks Tryz.func214 rfl trivial ?_ rfl
 simp only [Tryz.ntmps214, List.size_toArray, List.length_cons, List.length_nil, Nat.reduceAdd, Nat.reduceSub, Array.replicate_succ, Array.replicate_zero, List.push_toArray, List.append_toArray, List.nil_append, List.cons_append]
 repeat ((fail_if_success (with_reducible refine stop_atI (id := 1) ?_)); (first | go_values | gi_guarded | gi_step | gi_upon | gi_back | (simp only [Int.not_lt, Int.not_le] at *; go_simp) | (go_values <;> (try go_simp)) | (go_ite <;> go_prune <;> (try go_simp)) | (split <;> (first | (rename_i hx; exact (hx _ rfl).elim) | go_prune))))
 apply wpIn_scope
 have hs_ := (HS.out.alloc (.cells #[.func (.yield l) #[] #[]] 280))
 have hk_HX := HX.out.below ((B7 _ _).alloc (by exact Nat.le_refl _) (.cells #[.func (.yield l) #[] #[]] 280))
 have hk_HLb := HLb.out.below ((B7 _ _).alloc (by exact Nat.le_refl _) (.cells #[.func (.yield l) #[] #[]] 280))
 have hk_HCC := HCC.out.below ((B7 _ _).alloc (by exact Nat.le_refl _) (.cells #[.func (.yield l) #[] #[]] 280))
 have hk_HE := HE.out.below ((B7 _ _).alloc (by exact Nat.le_refl _) (.cells #[.func (.yield l) #[] #[]] 280))
 have hk_HEL := HEL.out.below ((B7 _ _).alloc (by exact Nat.le_refl _) (.cells #[.func (.yield l) #[] #[]] 280))
 obtain ⟨W1, hw_⟩ : ∃ W1 : World, (W.alloc (.cells #[.func (.yield l) #[] #[]] 280)) = W1 := ⟨_, rfl⟩
 rw [hw_] at hs_ hk_HX hk_HLb hk_HCC hk_HE hk_HEL
 try simp only [World.size_alloc] at hs_
 have HS := H7 hs_
 have HX := H7 hk_HX
 have HLb := H7 hk_HLb
 have HCC := H7 hk_HCC
 have HE := H7 hk_HE
 have HEL := H7 hk_HEL
 rw [hw_]
 clear hw_ hs_ hk_HX hk_HLb hk_HCC hk_HE hk_HEL
 have x0 := c7b (k := 0) HX.out.at_ rfl
 have x1 := c7b (k := 0) HE.out.at_ rfl
 gi_wp2_with fail
 clear x0 x1
 refine (callsIn_wide.2 (size_any C p _ HCC.out)).mono ?_
 rintro e W2 ⟨rfl, hb_⟩
 have HS := H7 (HS.out.below hb_)
 have HX := H7 (HX.out.below hb_)
 have HLb := H7 (HLb.out.below hb_)
 have HCC := H7 (HCC.out.below hb_)
 have HE := H7 (HE.out.below hb_)
 have HEL := H7 (HEL.out.below hb_)
 clear hb_
 have x0 := c7b (k := 0) HLb.out.at_ rfl
 gi_wp2_with fail
 clear x0
 have e1 : wrap64 (8 * (C.wide : Int) - 1) = 8 * (C.wide : Int) - 1 := by have := HW.out; unfold wrap64; omega
 have e2 : wrap64 (8 * (C.high : Int) - 1) = 8 * (C.high : Int) - 1 := by have := HW.out; unfold wrap64; omega
 try rw [e1, e2]
 refine (callsIn_wide.2 (shClip_any a m cap L hlen (by omega) (canBox C) W2 HEL.out)).mono ?_
 rintro e W3 ⟨v, rfl, hrow, hb⟩
 have hlt2 : W.heap.size < W2.heap.size := HS.out.lt 0 rfl
 rw [clipR_right hr (canBox C)] at hrow
 rw [hr]
 simp only [errOf]
 have he2 := ownsRow_rows encS_len hrow
 obtain ⟨a2, c2, rfl, -⟩ := he2.shape
 have hfr : ∀ b ∈ aBlk a2, W2.heap.size ≤ b ∧ ∃ o, W3.heap[b]? = some o ∧ o.isCells = true := by
  intro b hb'
  obtain ⟨-, ⟨h1, -⟩ | ⟨g, cp, cur, h1, h2, h3, -⟩⟩ := hrow
  · simp only [Value.slice.injEq] at h1; rw [h1.1] at hb'; simp [aBlk] at hb'
  · simp only [Value.slice.injEq] at h1; rw [h1.1] at hb'; simp [aBlk] at hb'; subst hb'; exact ⟨h2, _, h3, rfl⟩
 have hA2 : allL (clipL (canBox C) L) = A := by rw [← hA]; exact allL_right (rightB_clip hr _)
 have hn2 : (clipL (canBox C) L).length ≤ 1000000 := by
  have : (clipL (canBox C) L).length ≤ L.length := List.length_filterMap_le _ _
  omega
 obtain ⟨L2, hL2⟩ : ∃ L2, clipL (canBox C) L = L2 := ⟨_, rfl⟩
 rw [hL2] at he2 hA2 hn2 hrow ⊢
 obtain ⟨n2, hn2'⟩ : ∃ n2, L2.length = n2 := ⟨_, rfl⟩
 rw [hn2'] at he2 hn2 hrow ⊢
 have HS := H7 (HS.out.below hb)
 have HX := H7 (HX.out.below hb)
 have HCC := H7 (HCC.out.below hb)
 have HE := H7 (HE.out.below hb)
 have HE2 := H7 he2
 have HFR := H7 hfr
 have HL2 := H7 (And.intro hn2' (And.intro hn2 hA2))
 have HW3 := H7 (show W2.heap.size ≤ W3.heap.size ∧ W.heap.size < W2.heap.size from ⟨hb.size, hlt2⟩)
 clear hb hrow he2 hfr e1 e2 hA2 hn2 hn2' HLb HEL hL2
 gi_wp2_with fail
 refine (callsIn_wide.2 (sureS_ok _ _)).mono ?_
 rintro e w' ⟨rfl, rfl⟩
 gi_wp2_with fail
 apply wpIn_label
 gi_wp2_with fail
 refine (callsIn_wide.2 (all_any a2 n2 c2 W3)).mono ?_
 rintro e w' ⟨rfl, rfl⟩
 have HGR := H7 (LowAt.mk (B7 W3.heap.size W3))
 have hs_ := (HS.out.alloc (.cells #[.slice a2 n2 c2] 41))
 have hk_HX := HX.out.below ((B7 _ _).alloc (by exact Nat.le_refl _) (.cells #[.slice a2 n2 c2] 41))
 have hk_HCC := HCC.out.below ((B7 _ _).alloc (by exact Nat.le_refl _) (.cells #[.slice a2 n2 c2] 41))
 have hk_HE := HE.out.below ((B7 _ _).alloc (by exact Nat.le_refl _) (.cells #[.slice a2 n2 c2] 41))
 have hk_HE2 := HE2.out.below ((B7 _ _).alloc (by exact Nat.le_refl _) (.cells #[.slice a2 n2 c2] 41))
 have hk_HGR := HGR.out.below ((B7 _ _).alloc (by exact Nat.le_refl _) (.cells #[.slice a2 n2 c2] 41))
 obtain ⟨W4, hw_⟩ : ∃ W4 : World, (W3.alloc (.cells #[.slice a2 n2 c2] 41)) = W4 := ⟨_, rfl⟩
 rw [hw_] at hs_ hk_HX hk_HCC hk_HE hk_HE2 hk_HGR
 try simp only [World.size_alloc] at hs_
 have HS := H7 hs_
 have HX := H7 hk_HX
 have HCC := H7 hk_HCC
 have HE := H7 hk_HE
 have HE2 := H7 hk_HE2
 have HGR := H7 hk_HGR
 rw [hw_]
 clear hw_ hs_ hk_HX hk_HCC hk_HE hk_HE2 hk_HGR
 gi_wp2_with fail
 have hz4 : W3.heap.size < W4.heap.size := HS.out.lt 0 rfl
 have hlow4 := HS.out.low
 have hWW : W.heap.size ≤ W4.heap.size := hlow4.size
 have how4 : ∀ q, own W4 q ↔ own W q := ho W W4 (fun k hk => hlow4.block k (by omega))
 have hwf4 : ∀ q, own W4 q → q < W4.heap.size := fun q hq => Nat.lt_of_lt_of_le (hwf q ((how4 q).1 hq)) hWW
 have hbs : ∀ c ∈ W3.heap.size :: aBlk a2, c < W4.heap.size := by
  intro c hc
  rcases List.mem_cons.1 hc with rfl | hc
  · exact hz4
  · obtain ⟨-, o, h1, -⟩ := HFR.out c hc
    have := b7t h1
    omega
 have hbo : ∀ b ∈ W3.heap.size :: aBlk a2, N0 ≤ b ∧ ∃ o, W4.heap[b]? = some o ∧ o.isCells = true ∧ ¬ own W4 b := by
  intro b hb
  have h3 := HW3.out
  have hn : W.heap.size ≤ b → ¬ own W4 b := fun h h' => by have := hwf b ((how4 b).1 h'); omega
  rcases List.mem_cons.1 hb with rfl | hb
  · exact ⟨by omega, _, HS.out.blockAt 0 rfl, rfl, hn (by omega)⟩
  · obtain ⟨h1, o, h2, h4⟩ := HFR.out b hb
    exact ⟨by omega, o, (HGR.out.low.block b (b7t h2)).trans h2, h4, hn (by omega)⟩
 have hq3 : W4.heap[W.heap.size]? = some (.cells #[.func (.yield l) #[] #[]] 280 (0, 0)) := HS.out.blockAt 1 rfl
 have hnq3 : ¬ own W4 W.heap.size := fun h' => by have := hwf _ ((how4 _).1 h'); omega
 have hit := all_iter own W4 (ho.mono (by omega)) hwf4 W3.heap.size (W3.heap.size :: aBlk a2) a2 n2 c2 L2 HL2.out.1 (by have := HL2.out.2.1; omega) A HL2.out.2.2 hbs (by simp) (fun b off e => List.mem_cons_of_mem _ (aBlk_mem e)) (c7b (HS.out.blockAt 0 rfl) rfl) HE2.out
 have hX4 := HX.out.at_
 have hE4 := HE.out.at_
 have hC4 := HCC.out
 have hN4 : N0 + 2 ≤ W4.heap.size := by omega
 have h04 : J [] W4 := hJ _ _ _ none h0 (below_grown hlow4) (by simp)
 have hlw4 : ∀ k, k < w0.heap.size → W4.heap[k]? = w0.heap[k]? := fun k hk => (hlow4.block k (by omega)).trans (hlow k hk)
 clear HS HX HE HCC HE2 HFR HL2 HW3 HGR
 apply with_actIn
 intro a0 ha0
 refine range_iterO hit (by omega) (ho.mono (by omega)) (by rw [ha0]; rfl) (enters_of Tryz.func79 (by kernel_rfl) rfl) hbs (fun _ => rfl) (fun x => [(30, (A[x.1]).val)]) (fun _ => by simp)
  (fun pre V => J pre V ∧ KO own bs N0 W4 V) (fun _ _ _ => False) (OwnFrom.and (fun s X Y row h hg hr => hJ s X Y row h hg (fun r e => ⟨Nat.le_trans hWW (hr r e).1, (hr r e).2⟩)) (ownFrom_KO ho hbsN (by omega) (Nat.le_refl _))) (fun _ => ownFrom_pure _ _) ⟨h04, KO.refl _ _ _ _⟩
  (fun x a' V => ∃ p', a' = loopAct a0 [(30, (A[x.1]).val), (7, .pointer (some ⟨p', 0, none⟩))] ∧ W4.heap.size ≤ p' ∧ V.heap[p']? = some (.cells #[.int .i64 (A[x.1]).x, .int .i64 (A[x.1]).y] 69 (0, 0))) ?hAx ?assign ?body ?done ?stop
 case hAx =>
  rintro x a' s P Y row ⟨p', e, hge, hp⟩ hg hr
  exact ⟨p', e, hge, (grownBy_keeps_cells hg (fun r e => (hr r e).2) hp rfl).trans hp⟩
 case assign =>
  rintro ly pre x V K ⟨hI, hI2⟩ hK
  have HK := H7 hK
  clear hK
  have hlt5 : W4.heap.size ≤ V.heap.size := hI2.size
  rw [ha0] at HK ⊢
  unfold loopAct at HK ⊢
  simp only [PtT.val, List.foldl, List.setIfInBounds_toArray, List.set_cons_succ, List.set_cons_zero] at HK ⊢
  gi_wp2
  have hb := (B7 V.heap.size V).alloc (Nat.le_refl _) (.cells #[.int .i64 (A[x.1]).x, .int .i64 (A[x.1]).y] 69)
  exact HK.out _ _ (keepsFrom_below hb) (KO.of_below (ho.mono (by omega)) hb hlt5 (fun c hc => Nat.lt_of_lt_of_le (hbs c hc) hlt5)) ⟨hJ _ _ _ none hI (below_grown hb) (by simp), hI2.trans (KO.of_below ho hb (by omega) (fun b hb' => by have := hbsN b hb'; omega))⟩ ⟨V.heap.size, rfl, hlt5, World.alloc_heap_new V _⟩
 case body =>
  rintro ly pre x a' V ⟨hI, hI2⟩ ⟨p', rfl, hpp, hp⟩ hlen
  have hlt5 : W4.heap.size ≤ V.heap.size := hI2.size
  have hy0 := hY pre x
  have hon : onCan C (A[x.1]) = true := ((mem_ptsC (C := C) (L := L)).1 (by rw [hA]; exact List.getElem_mem _)).2
  obtain ⟨q, hq⟩ : ∃ q, A[x.1] = q := ⟨_, rfl⟩
  rw [hq] at hy0 hp hon ⊢
  have HAT := H7 (fun w' h => at_onCan C p q hon w' h)
  obtain ⟨cl, hcl⟩ : ∃ cl, colP C q = cl := ⟨_, rfl⟩
  rw [hcl] at HAT hy0
  obtain ⟨cr, cg, cb, ca⟩ := cl
  obtain ⟨qx, qy⟩ := q
  unfold ColT.val at HAT hy0
  simp only [PtT.val] at hp hy0 HAT ⊢
  have HY0 := H7 hy0
  have HX := H7 (BlkA.mk ((hI2.at_ X hXb).trans hX4))
  have HE := H7 (BlkA.mk ((hI2.at_ E (hbs0 E (b7t hE))).trans hE4))
  have HCC := H7 (hC.agree (fun k hk => (hI2.at_ k (hbs0 k hk)).trans (hlw4 k hk)))
  have HQ3 := H7 (BlkA.mk (hI2.rest W.heap.size _ (by omega) hq3 rfl hnq3).2)
  have HP := H7 (BlkA.mk hp)
  have HI := H7 (And.intro hI hI2)
  have HLV := H7 (LowAt.mk (B7 V.heap.size V))
  rw [ha0]
  unfold loopAct
  simp only [List.foldl, List.setIfInBounds_toArray, List.set_cons_succ, List.set_cons_zero]
  clear hy0 hp hon hq hcl hI hI2
  repeat ((fail_if_success (with_reducible refine stop_atI (id := 5) ?_)); (first | go_values | gi_guarded | gi_step | gi_upon | gi_back | (simp only [Int.not_lt, Int.not_le] at *; go_simp) | (go_values <;> (try go_simp)) | (go_ite <;> go_prune <;> (try go_simp)) | (split <;> (first | (rename_i hx; exact (hx _ rfl).elim) | go_prune))))
  apply wp_region_slots 14 [⟨12, 13, 8, .cells #[.int .u8 0, .int .u8 0, .int .u8 0, .int .u8 0] 26 (0, 0), .cells #[.int .u8 cr, .int .u8 cg, .int .u8 cb, .int .u8 ca] 26 (0, 0)⟩] _ (Rl := [(eqv _), (eqv _), (eqv _), (eqv _), (eqv _), (eqv _), (eqv _), (eqv _), (eqv _), (eqv _), (eqv _), (eqv _), (fun _ _ => True), (fun _ _ => True)])
  case hm => kernel_rfl
  case hk => rfl
  case hst => repeat (first | exact trivial | refine ⟨fun _ _ _ _ h => h, ?_⟩)
  case hfo => kernel_rfl
  case ht => kernel_rfl
  case hN => exact Nat.le_refl _
  case hok => kernel_rfl
  case hsk => intro s hs; simp only [List.mem_cons, List.not_mem_nil, or_false] at hs; rcases hs with rfl <;> exact ⟨Nat.le_of_ble_eq_true rfl, Nat.le_of_ble_eq_true rfl⟩
  case hsteps =>
   refine ⟨?_, ?_, ?_, ?_, ?_, ?_, ?_, ?_, ?_, ?_, ?_, ?_, ?_, ?_, trivial⟩
   · intro l_ a' w' hA hC hJ hN hB hD; have s1 := hA.to 1 (by kernel_rfl) rfl
     have z0 := c7b (k := 0) (HX.out.below hC).at_ rfl
     clear hA hD; refine o7t rfl ?_; intro K hK; gi_wp2; exact hK _ _ rfl (B7 _ _) (SlT.plainB rfl (B7 _ _))
   · intro l_ a' w' hA hC hJ hN hB hD; obtain ⟨u32, s32, rfl⟩ := hD ⟨0, .data⟩ (by simp) rfl _ rfl; clear hA hD; refine o7t rfl ?_; intro K hK; gi_wp2; exact hK _ _ rfl (B7 _ _) (SlT.plainB rfl (B7 _ _))
   · intro l_ a' w' hA hC hJ hN hB hD; obtain ⟨u33, s33, rfl⟩ := hD ⟨1, .data⟩ (by simp) rfl _ rfl; clear hA hD; refine o7t rfl ?_; intro K hK; gi_wp2; exact hK _ _ rfl (B7 _ _) (SlT.plainB rfl (B7 _ _))
   · intro l_ a' w' hA hC hJ hN hB hD; obtain ⟨u34, s34, rfl⟩ := hD ⟨2, .data⟩ (by simp) rfl _ rfl
     have z0 := c7b (k := 0) (HE.out.below hC).at_ rfl
     clear hA hD; refine o7t rfl ?_; intro K hK; gi_wp2; exact hK _ _ rfl (B7 _ _) (SlT.plainB rfl (B7 _ _))
   · intro l_ a' w' hA hC hJ hN hB hD; have s7 := hA.to 7 (by kernel_rfl) rfl; clear hA hD; refine o7t rfl ?_; intro K hK; gi_wp2; exact hK _ _ rfl (B7 _ _) (SlT.plainB rfl (B7 _ _))
   · intro l_ a' w' hA hC hJ hN hB hD; obtain ⟨u36, s36, rfl⟩ := hD ⟨4, .data⟩ (by simp) rfl _ rfl
     have z0 := c7b (k := 0) (HP.out.below hC).at_ rfl
     clear hA hD; refine o7t rfl ?_; intro K hK; gi_wp2; exact hK _ _ rfl (B7 _ _) (SlT.plainB rfl (B7 _ _))
   · intro l_ a' w' hA hC hJ hN hB hD; have s7 := hA.to 7 (by kernel_rfl) rfl; clear hA hD; refine o7t rfl ?_; intro K hK; gi_wp2; exact hK _ _ rfl (B7 _ _) (SlT.plainB rfl (B7 _ _))
   · intro l_ a' w' hA hC hJ hN hB hD; obtain ⟨u38, s38, rfl⟩ := hD ⟨6, .data⟩ (by simp) rfl _ rfl
     have z0 := c7b (k := 1) (HP.out.below hC).at_ rfl
     clear hA hD; refine o7t rfl ?_; intro K hK; gi_wp2; exact hK _ _ rfl (B7 _ _) (SlT.plainB rfl (B7 _ _))
   · intro l_ a' w' hA hC hJ hN hB hD; obtain ⟨u35, s35, rfl⟩ := hD ⟨3, .data⟩ (by simp) rfl _ rfl; obtain ⟨u37, s37, rfl⟩ := hD ⟨5, .data⟩ (by simp) rfl _ rfl; obtain ⟨u39, s39, rfl⟩ := hD ⟨7, .data⟩ (by simp) rfl _ rfl; clear hA hD; refine o7t rfl ?_; intro K hK
     gi_wp2_with fail; refine (callsIn_wide.2 (HAT.out _ (HCC.out.below hC))).mono ?_; rintro e w2 ⟨rfl, hb⟩
     exact hK _ _ rfl (hb.mono hC.size) (SlT.plainB rfl hb)
   · intro l_ a' w' hA hC hJ hN hB hD; obtain ⟨u40, s40, rfl⟩ := hD ⟨8, .data⟩ (by simp) rfl _ rfl; clear hA hD; refine o7t rfl ?_; intro K hK; gi_wp2; exact hK _ _ rfl (B7 _ _) (SlT.plainB rfl (B7 _ _))
   · intro l_ a' w' hA hC hJ hN hB hD; obtain ⟨u31, s31, rfl⟩ := hD ⟨9, .data⟩ (by simp) rfl _ rfl; clear hA hD; refine o7t rfl ?_; intro K hK; gi_wp2; exact hK _ _ rfl (B7 _ _) (SlT.plainB rfl (B7 _ _))
   · intro l_ a' w' hA hC hJ hN hB hD; obtain ⟨u31, s31, rfl⟩ := hD ⟨9, .data⟩ (by simp) rfl _ rfl; clear hA hD; refine o7t rfl ?_; intro K hK; gi_wp2; exact hK _ _ rfl (B7 _ _) (SlT.plainB rfl (B7 _ _))
   · intro l_ a' w' hA hC hJ hN hB hD; clear hA hD; refine o7t rfl ?_; intro K hK; gi_wp2; exact hK _ _ trivial ((B7 _ _).alloc hC.size _) (SlT.alloc (by intro t ht e; simp only [List.mem_cons, List.not_mem_nil, or_false] at ht; rcases ht with rfl <;> first | rfl | (exact absurd e (Nat.ne_of_beq_eq_false rfl))) (by intro t ht; simp only [List.mem_cons, List.not_mem_nil, or_false] at ht; rcases ht with rfl <;> exact Nat.ne_of_beq_eq_false rfl))
   · intro l_ a' w' hA hC hJ hN hB hD; obtain ⟨u8, s8, r8⟩ := hD ⟨12, .data⟩ (by simp) rfl _ rfl; replace r8 : (fun _ _ => True) u8 w' := r8; obtain ⟨u41, s41, rfl⟩ := hD ⟨10, .data⟩ (by simp) rfl _ rfl
     obtain ⟨b8, n8, t8, o8⟩ := hJ.at_ _ (List.mem_of_getElem? (i := 0) rfl) (hB ⟨12, .data⟩ (by simp) rfl)
     rw [show l_.getD 13 false = false from hN] at o8
     replace o8 : w'.heap[b8]? = some (.cells #[.int .u8 0, .int .u8 0, .int .u8 0, .int .u8 0] 26 (0, 0)) := o8
     obtain rfl : u8 = ptrB b8 := Option.some.inj (s8.symm.trans t8)
     clear r8
     clear hA hD; refine o7t rfl ?_; intro K hK
     have f8 := f7b o8
     have c8_0 := c7b (k := 0) o8 rfl
     have c8_1 := c7b (k := 1) o8 rfl
     have c8_2 := c7b (k := 2) o8 rfl
     have c8_3 := c7b (k := 3) o8 rfl
     have f8_0 := f8 0
     have f8_1 := f8 1
     have f8_2 := f8 2
     have f8_3 := f8 3
     clear f8; unfold ptrB at s8 t8; gi_wp2; exact hK undef _ trivial (by repeat (first | exact B7 _ _ | refine Below.setCell ?_ (by omega) _)) (SlT.store _ (by intro t ht e; simp only [List.mem_cons, List.not_mem_nil, or_false] at ht; rcases ht with rfl <;> first | rfl | (exact absurd e (Nat.ne_of_beq_eq_false rfl))) (by intro t ht; simp only [List.mem_cons, List.not_mem_nil, or_false] at ht; rcases ht with rfl <;> exact Nat.ne_of_beq_eq_false rfl) (List.mem_of_getElem? (i := 0) rfl) rfl b8 (by unfold envOf; rw [t8]; rfl) (h7s (h7s (h7s (h7s o8 _) _) _) _) (by intro k hk; repeat (first | rfl | refine (Below.heap_setCell _ _ _ k (by simpa using hk)).trans ?_)))
  case hend =>
   intro V2 hC
   simp only [EndFrom, eqv, forall_eq, Act.put, List.length_cons, List.length_nil, List.drop_succ_cons, List.drop_zero, Nat.reduceAdd, List.setIfInBounds_toArray, List.set_cons_succ, List.set_cons_zero]
   intro p12 _ p13 _ hE
   obtain ⟨b12, -, hb12, ho12⟩ := hE.1 _ (List.mem_of_getElem? (i := 0) rfl)
   obtain rfl : p12 = ptrB b12 := Option.some.inj hb12
   have HB := H7 (BlkA.mk ho12)
   clear hE hb12 ho12
   unfold ptrB
   have HQ3 := H7 (HQ3.out.below hC)
   have HP := H7 (HP.out.below hC)
   have HLV := H7 (HLV.out.below hC)
   obtain ⟨fn, tmps, assign, body, hy, hR⟩ := YieldAt.inside (k := ly) (m := n - 1 - 1 - 1) (HY0.out V2 (hJ _ _ _ none HI.out.1 (below_grown hC) (by simp)) hlen)
   clear hC HX HE HCC HY0 HAT
   have q0 := c7b (k := 0) HQ3.out.at_ rfl
   have r0 := c7b (k := 0) HP.out.at_ rfl
   have r1 := c7b (k := 1) HP.out.at_ rfl
   have d0 := c7b (k := 0) HB.out.at_ rfl
   have d1 := c7b (k := 1) HB.out.at_ rfl
   have d2 := c7b (k := 2) HB.out.at_ rfl
   have d3 := c7b (k := 3) HB.out.at_ rfl
   gi_wp2_with fail
   clear q0 r0 r1 d0 d1 d2 d3
   refine hR.mono ?_
   rintro e V3 ⟨rfl, hJ3, hk3, hn3⟩
   have HR3 := H7 (And.intro hJ3 (And.intro hk3 hn3))
   clear hR hy hJ3 hk3 hn3
   gi_wp2_with fail
   have hVs : W4.heap.size ≤ V.heap.size := HI.out.2.size
   have hK : KO own bs N0 V V3 := (KO.of_below ho HLV.out.low (by omega) (fun b hb => by have := hbsN b hb; omega)).trans HR3.out.2.1
   refine ⟨⟨hK.size, fun k o hk ho hc => HR3.out.2.2 k o (by omega) ((HLV.out.low.block k (b7t ho)).trans ho) hc⟩, hK.raise (by omega) (fun b hb => ?_), HR3.out.1, HI.out.2.trans hK⟩
   obtain ⟨h1, o, h2, h3, h4⟩ := hbo b hb
   obtain ⟨h5, h6⟩ := HI.out.2.rest b o h1 h2 h3 h4
   exact ⟨h1, o, h6, h3, h5⟩
 case done =>
  rintro D V hD ⟨hI, -⟩ hK
  rw [ha0]
  change bodyPostM Fence.wide n _ _ _ .ret _ _
  exact ret_marked (v := .tuple #[]) rfl hK (results_none rfl _ _ _) ⟨⟨_, rfl⟩, hJ _ _ _ (some D) hI (grownBy_putObj' V D _) (fun r e => by cases e; exact ⟨by omega, _, hK, rfl⟩)⟩
 case stop =>
  intro D c pre V _ _ h
  exact h.elim
/- Package draw: pixels of a wrong row; the iterator itself. -/
theorem pixels_cl (E : Addr) (a : Option Addr) (n cap : Nat) (w : World) :
 Calls Tryz.prog 204 #[.pointer (some E), .slice a n cap] w fun e w' => e = .returned (.func (.func 214) #[] #[.pointer (some ⟨w.heap.size, 0, none⟩), .pointer (some ⟨w.heap.size + 1, 0, none⟩)]) ∧ (w.alloc (.cells #[.pointer (some E)] 200)).alloc (.cells #[.slice a n cap] 41) = w' := by
 have hmf : ∀ (fn : Fn) (first cap : Array Value) (w : World), (Instr.makeFunc fn first cap).run Tryz.prog w = .ok (.func fn first cap) w := fun _ _ _ _ => rfl
 go_enter Tryz.func204, Tryz.ntmps204
 go_wp2
 go_ret
 exact ⟨rfl, rfl⟩
set_option maxRecDepth 100000 in
set_option maxHeartbeats 2000000 in
theorem pixels1_bad (n : Nat) (l X Lb E p : Nat) (C : CanT) (a : Option Addr) (m cap : Nat) (L : List SpT) (hlen : L.length = m) (hm : m ≤ 1000000) (hr : rightB L = false)
 (W : World) (hX : W.heap[X]? = some (.cells #[.pointer (some ⟨E, 0, none⟩)] 200 (0, 0))) (hE : W.heap[E]? = some (.cells #[.pointer (some ⟨p, 0, none⟩)] 238 (0, 0))) (hC : CanAt W p C) (hL : W.heap[Lb]? = some (.cells #[.slice a m cap] 41 (0, 0))) (he : Elems W (.slice a m cap) m 3 (rowC encS L)) :
 CallsIn Fence.wide n Tryz.prog 214 #[.func (.yield l) #[] #[], .pointer (some ⟨X, 0, none⟩), .pointer (some ⟨Lb, 0, none⟩)] W fun e W' => e = .panicked [{ v := .iface 36 (.int .i64 160), recovered := false }] ∧ Below W.heap.size W W' := by
 have HS := H7 (St.start W)
 have HX := H7 (BlkA.mk hX)
 have HLb := H7 (BlkA.mk hL)
 have HCC := H7 hC
 have HE := H7 (BlkA.mk hE)
 have HW := H7 (And.intro hC.ok.wide hC.ok.high)
 have HEL := H7 he
 clear hX hL hC hE he
 refine callsIn_of_wp_marks Tryz.func214 rfl trivial ?_ rfl
 simp only [Tryz.ntmps214, List.size_toArray, List.length_cons, List.length_nil, Nat.reduceAdd, Nat.reduceSub, Array.replicate_succ, Array.replicate_zero, List.push_toArray, List.append_toArray, List.nil_append, List.cons_append]
 repeat ((fail_if_success (with_reducible refine stop_atI (id := 1) ?_)); (first | go_values | gi_guarded | gi_step | gi_upon | gi_back | (simp only [Int.not_lt, Int.not_le] at *; go_simp) | (go_values <;> (try go_simp)) | (go_ite <;> go_prune <;> (try go_simp)) | (split <;> (first | (rename_i hx; exact (hx _ rfl).elim) | go_prune))))
 apply wpIn_scope
 have hs_ := (HS.out.alloc (.cells #[.func (.yield l) #[] #[]] 280))
 have hk_HX := HX.out.below ((B7 _ _).alloc (by exact Nat.le_refl _) (.cells #[.func (.yield l) #[] #[]] 280))
 have hk_HLb := HLb.out.below ((B7 _ _).alloc (by exact Nat.le_refl _) (.cells #[.func (.yield l) #[] #[]] 280))
 have hk_HCC := HCC.out.below ((B7 _ _).alloc (by exact Nat.le_refl _) (.cells #[.func (.yield l) #[] #[]] 280))
 have hk_HE := HE.out.below ((B7 _ _).alloc (by exact Nat.le_refl _) (.cells #[.func (.yield l) #[] #[]] 280))
 have hk_HEL := HEL.out.below ((B7 _ _).alloc (by exact Nat.le_refl _) (.cells #[.func (.yield l) #[] #[]] 280))
 obtain ⟨W1, hw_⟩ : ∃ W1 : World, (W.alloc (.cells #[.func (.yield l) #[] #[]] 280)) = W1 := ⟨_, rfl⟩
 rw [hw_] at hs_ hk_HX hk_HLb hk_HCC hk_HE hk_HEL
 try simp only [World.size_alloc] at hs_
 have HS := H7 hs_
 have HX := H7 hk_HX
 have HLb := H7 hk_HLb
 have HCC := H7 hk_HCC
 have HE := H7 hk_HE
 have HEL := H7 hk_HEL
 rw [hw_]
 clear hw_ hs_ hk_HX hk_HLb hk_HCC hk_HE hk_HEL
 have x0 := c7b (k := 0) HX.out.at_ rfl
 have x1 := c7b (k := 0) HE.out.at_ rfl
 gi_wp2_with fail
 clear x0 x1
 refine (callsIn_wide.2 (size_any C p _ HCC.out)).mono ?_
 rintro e W2 ⟨rfl, hb_⟩
 have HS := H7 (HS.out.below hb_)
 have HX := H7 (HX.out.below hb_)
 have HLb := H7 (HLb.out.below hb_)
 have HCC := H7 (HCC.out.below hb_)
 have HE := H7 (HE.out.below hb_)
 have HEL := H7 (HEL.out.below hb_)
 clear hb_
 have x0 := c7b (k := 0) HLb.out.at_ rfl
 gi_wp2_with fail
 clear x0
 have e1 : wrap64 (8 * (C.wide : Int) - 1) = 8 * (C.wide : Int) - 1 := by have := HW.out; unfold wrap64; omega
 have e2 : wrap64 (8 * (C.high : Int) - 1) = 8 * (C.high : Int) - 1 := by have := HW.out; unfold wrap64; omega
 try rw [e1, e2]
 refine (callsIn_wide.2 (shClip_any a m cap L hlen (by omega) (canBox C) W2 HEL.out)).mono ?_
 rintro e W3 ⟨v, rfl, hrow, hb⟩
 have HS := H7 (HS.out.below hb)
 rw [hr]
 simp only [errOf]
 clear hrow hb e1 e2
 gi_wp2_with fail
 refine (callsIn_wide.2 (sureS_no v 160 (by omega) _)).mono ?_
 rintro e w' ⟨rfl, rfl⟩
 exact ⟨rfl, HS.out.low⟩
/- Layer 5: what pointers come to: tiles; what places come to: dots. -/
theorem sizeT (T : TileT) : (encT T).toArray.size = 256 := by rw [List.size_toArray, encT_len]
theorem sizeZ : (Tryz.zeroCells54 : Array Value).size = 256 := by kernel_rfl
theorem encD_one : ∀ (d : DotT), ∀ u ∈ encD d, u.oneCell' = true := by
 intro d u hu
 simp only [encD, List.mem_cons, List.not_mem_nil, or_false] at hu
 rcases hu with rfl | rfl | rfl | rfl | rfl | rfl <;> rfl
theorem rowD : RowT Tryz.prog 233 173 6 24 := .of (z := .agg #[.int .i64 0, .int .i64 0, .int .u8 0, .int .u8 0, .int .u8 0, .int .u8 0]) Tryz.underlying233 (by kernel_rfl) rfl (by decide)
/- Layer 5: may, Check. -/
def mayB (wide high : Int) : Bool := decide ((1 ≤ wide ∧ wide ≤ 4) ∧ (1 ≤ high ∧ high ≤ 4))
set_option maxRecDepth 100000 in
set_option maxHeartbeats 1000000 in
theorem may_any (wide high : Int) (w : World) : Calls Tryz.prog 80 #[.agg #[.int .i64 wide, .int .i64 high]] w (Gives (.bool (mayB wide high)) w) := by
 have HS := H7 (St.start w)
 unfold mayB
 by_cases h1 : 1 ≤ wide <;> by_cases h2 : wide ≤ 4 <;> by_cases h3 : 1 ≤ high <;> by_cases h4 : high ≤ 4 <;> first | (exfalso; omega) | (
  go_enter Tryz.func80, Tryz.ntmps80
  repeat ((fail_if_success (with_reducible refine stop_at (id := 1) ?_)); (first | go_values | go_skip | go_guarded | go_step | go_upon | go_back | (simp only [Int.not_lt, Int.not_le] at *; go_simp) | (go_values <;> (try go_simp)) | (go_ite <;> go_prune <;> (try go_simp)) | (split <;> (first | (rename_i hx; exact (hx _ rfl).elim) | go_prune))))
  have hs_ := (HS.out.alloc (.cells #[.int .i64 wide, .int .i64 high] 106))
  obtain ⟨w1, hw_⟩ : ∃ w1 : World, (w.alloc (.cells #[.int .i64 wide, .int .i64 high] 106)) = w1 := ⟨_, rfl⟩
  rw [hw_] at hs_
  try simp only [World.size_alloc] at hs_
  have HS := H7 hs_
  rw [hw_]
  clear hw_ hs_
  have q0 := h7c HS 0 0 rfl rfl
  have q1 := h7c HS 0 1 rfl rfl
  go_wp2_with fail
  go_ret
  exact ⟨ret_bool (by symm; simp [h1, h2, h3, h4]), HS.out.low⟩)
/- Layer 5: Of, Show, New. -/
/-- A row of tiles that is read; it lies at lo or above. -/
def RowGot (lo : Nat) (w : World) (v : Value) (ts : List TileT) : Prop := ∃ a cap, v = .slice a ts.length cap ∧ ts.length ≤ cap ∧ (∀ ad, a = some ad → lo ≤ ad.block) ∧ Elems w (.slice a ts.length cap) ts.length 256 (rowC encT ts)
theorem RowGot.below {lo : Nat} {w w' : World} {v : Value} {ts : List TileT} (h : RowGot lo w v ts) (hb : Below w.heap.size w w') : RowGot lo w' v ts := by
 obtain ⟨a, cap, rfl, h1, h2, h3⟩ := h
 exact ⟨a, cap, rfl, h1, h2, h3.below hb⟩
theorem RowGot.of {lo : Nat} {w : World} {base : Nat} {v : Value} {ts : List TileT} {e : TypeId} (h : w.ownsRow base e 256 v ts.length (ts.flatMap encT)) (hl : lo ≤ base) : RowGot lo w v ts := by
 have he := ownsRow_rows encT_len h
 rcases h.2 with ⟨rfl, h0⟩ | ⟨g, cap, cur, rfl, hg, _, h1, _⟩
 · exact ⟨none, 0, by rw [h0], by omega, fun _ e => (by cases e), by rw [h0] at he ⊢; exact he⟩
 · exact ⟨_, cap, rfl, h1, fun ad e => (by cases e; exact Nat.le_trans hl hg), he⟩
theorem Elems.other {w : World} {a : Option Addr} {n cap k m : Nat} {c : Nat → Value} (h : Elems w (.slice a n cap) m k c) {p : Nat} (hp : ∀ ad, a = some ad → p ≠ ad.block) (j : Nat) (u : Value) : Elems (w.setCell ⟨p, j, none⟩ u) (.slice a n cap) m k c := by
 rcases h with h | ⟨b, off, cap', e, hlt, hc⟩
 · exact .inl h
 · cases e
   refine .inr ⟨b, off, cap, rfl, by rw [World.size_setCell]; exact hlt, fun i hi => ?_⟩
   rw [← hc i hi]
   exact World.cell?_of_block (Below.heap_setCell w ⟨p, j, none⟩ u b (fun e => hp _ rfl e.symm))
/-- A canvas that is made. -/
def GivesCan (C : CanT) (w : World) (e : Ending) (w' : World) : Prop := ∃ p, e = .returned (.tuple #[.pointer (some ⟨p, 0, none⟩), .int .i64 0]) ∧ CanAt w' p C ∧ w.heap.size ≤ p ∧ Below w.heap.size w w'
theorem St.addC {w0 x : World} {its : List It} (h : St w0 its x) {q : Nat} {o : Obj} (hq : x.heap[q]? = some o) (hl : ∀ i ∈ its, i.top ≤ q) (h0 : w0.heap.size ≤ q) : St w0 (.blk q o :: its) x := by
 refine ⟨h.low, fun i hi => ?_, ⟨h0, hl, h.ord⟩, fun i hi => ?_⟩
 · rcases List.mem_cons.1 hi with rfl | hi
   · exact hq
   · exact h.ok i hi
 · rcases List.mem_cons.1 hi with rfl | hi
   · exact b7t hq
   · exact h.top i hi
/-- The empty canvas of one tile. -/
def zeroT : TileT := ⟨List.replicate 64 zeroC, by simp⟩
def canE : CanT := ⟨1, 1, [zeroT]⟩
theorem canE_ok : okCan canE := ⟨by decide, by decide, rfl, fun t ht c hc => by
 simp only [canE, List.mem_singleton] at ht
 subst ht
 simp only [zeroT, List.mem_replicate] at hc
 rw [hc.2]
 unfold okC zeroC
 decide⟩
theorem zeroT_cells : (encT zeroT).toArray = Tryz.zeroCells54 := by kernel_rfl
set_option maxRecDepth 100000 in
set_option maxHeartbeats 1000000 in
theorem new_any (w : World) : Calls Tryz.prog 35 #[.int .i64 1, .int .i64 1] w (GivesCan canE w) := by
 have HS := H7 (St.start w)
 have HM := H7 (may_any 1 1)
 rw [show mayB 1 1 = true by decide] at HM
 go_enter Tryz.func35, Tryz.ntmps35
 repeat ((fail_if_success (with_reducible refine stop_at (id := 2) ?_)); (first | go_values | go_skip | go_guarded | go_step | go_upon | go_back | (simp only [Int.not_lt, Int.not_le] at *; go_simp) | (go_values <;> (try go_simp)) | (go_ite <;> go_prune <;> (try go_simp)) | (split <;> (first | (rename_i hx; exact (hx _ rfl).elim) | go_prune))))
 have hs_ := (HS.out.alloc (.cells #[.int .i64 1, .int .i64 1] 106))
 obtain ⟨w1, hw_⟩ : ∃ w1 : World, (w.alloc (.cells #[.int .i64 1, .int .i64 1] 106)) = w1 := ⟨_, rfl⟩
 rw [hw_] at hs_
 try simp only [World.size_alloc] at hs_
 have HS := H7 hs_
 rw [hw_]
 clear hw_ hs_
 have p0 := h7c HS 0 0 rfl rfl
 have p1 := h7c HS 0 1 rfl rfl
 go_wp2_with fail
 clear p0 p1
 refine (HM.out _).mono ?_
 rintro e w2 ⟨rfl, hb_⟩
 have HS := H7 (HS.out.below hb_)
 clear hb_
 repeat ((fail_if_success (with_reducible refine stop_at (id := 4) ?_)); (first | go_values | go_skip | go_guarded | go_step | go_upon | go_back | (simp only [Int.not_lt, Int.not_le] at *; go_simp) | (go_values <;> (try go_simp)) | (go_ite <;> go_prune <;> (try go_simp)) | (split <;> (first | (rename_i hx; exact (hx _ rfl).elim) | go_prune))))
 have p0 := h7c HS 0 0 rfl rfl
 have p1 := h7c HS 0 1 rfl rfl
 clear p0 p1
 refine (wpIn_wide (n := 0)).1 ?_
 apply w7v 5 (Rl := [(eqv _), (eqv _), (eqv _), (eqv _), (fun v_ w_ => ∃ b, v_ = .slice (some ⟨b, 0, none⟩) 1 1 ∧ w2.heap.size ≤ b ∧ w_.heap[b]? = some (.cells #[.pointer none] 103 (0, 0)))]) (C := (fun x y => Below x.heap.size x y))
 case hm => kernel_rfl
 case hk => rfl
 case hCr => exact (fun _ => B7 _ _)
 case hCt => intro _ _ _; exact (fun h k => g7t h k)
 case hst => exact ⟨fun _ _ _ _ h => h, fun _ _ _ _ h => h, fun _ _ _ _ h => h, fun _ _ _ _ h => h, fun _ _ _ hC ⟨b, e, h1, h2⟩ => ⟨b, e, h1, (hC.block _ (b7t h2)).trans h2⟩, trivial⟩
 case hfo => kernel_rfl
 case ht => kernel_rfl
 case hC0 => exact (g7d _)
 case hsteps =>
  refine ⟨?_, ?_, ?_, ?_, ?_, trivial⟩
  · intro a' w' hA hC hD; have s6 := hA.to 6 (by kernel_rfl) rfl
    have h1_ := (HS.out.below hC).blockAt 0 rfl; have c1_0 := c7b (k := 0) h1_ rfl; have c1_1 := c7b (k := 1) h1_ rfl; clear h1_
    clear hA hD; refine o7p rfl ?_; intro K hK; gi_wp2; exact hK _ _ rfl (B7 _ _)
  · intro a' w' hA hC hD; have s0 := hA.to 0 (by kernel_rfl) rfl; clear hA hD; refine o7p rfl ?_; intro K hK; gi_wp2; exact hK _ _ rfl (B7 _ _)
  · intro a' w' hA hC hD; have s1 := hA.to 1 (by kernel_rfl) rfl; clear hA hD; refine o7p rfl ?_; intro K hK; gi_wp2; exact hK _ _ rfl (B7 _ _)
  · intro a' w' hA hC hD; obtain ⟨u17, s17, rfl⟩ := hD ⟨1, .data⟩ (by simp) rfl _ rfl; obtain ⟨u18, s18, rfl⟩ := hD ⟨2, .data⟩ (by simp) rfl _ rfl; clear hA hD; refine o7p rfl ?_; intro K hK; gi_wp2; exact hK _ _ rfl (B7 _ _)
  · intro a' w' hA hC hD; obtain ⟨u19, s19, rfl⟩ := hD ⟨3, .data⟩ (by simp) rfl _ rfl; clear hA hD; refine o7p rfl ?_; intro K hK; gi_wp2; exact hK (.slice (some ⟨w'.heap.size, 0, none⟩) 1 1) _ ⟨w'.heap.size, rfl, hC.size, Array.getElem?_push_size.trans (by kernel_rfl)⟩ ((B7 _ _).alloc (Nat.le_refl _) _)
 case hend =>
  intro w3 hC
  simp only [EndFrom, eqv, forall_eq, Act.put, List.length_cons, List.length_nil, List.drop_succ_cons, List.drop_zero, Nat.reduceAdd, List.setIfInBounds_toArray, List.set_cons_succ, List.set_cons_zero]
  rintro v4 ⟨b, rfl, hb1, hb2⟩
  have hs3 := (HS.out.below hC).addC hb2 (fun i hi => by rcases List.mem_singleton.1 hi with rfl; have := HS.out.lt 0 rfl; simp only [It.top]; omega) (Nat.le_trans HS.out.size hb1)
  have HS := H7 hs3
  have HS0 := H7 hs3.size
  clear hC hb1 hb2 hs3
  gi_wp2
  repeat ((fail_if_success (with_reducible refine stop_at (id := 6) ?_)); (first | go_values | go_skip | go_guarded | go_step | go_upon | go_back | (simp only [Int.not_lt, Int.not_le] at *; go_simp) | (go_values <;> (try go_simp)) | (go_ite <;> go_prune <;> (try go_simp)) | (split <;> (first | (rename_i hx; exact (hx _ rfl).elim) | go_prune))))
  have hs_ := ((HS.out.alloc (.cells #[.int .i64 1, .int .i64 1, .slice (some ⟨b, 0, none⟩) 1 1] 108)).alloc (.cells Tryz.zeroCells54 54))
  obtain ⟨w4, hw_⟩ : ∃ w4 : World, ((w3.alloc (.cells #[.int .i64 1, .int .i64 1, .slice (some ⟨b, 0, none⟩) 1 1] 108)).alloc (.cells Tryz.zeroCells54 54)) = w4 := ⟨_, rfl⟩
  rw [hw_] at hs_
  try simp only [World.size_alloc] at hs_
  have HS := H7 hs_
  rw [hw_]
  clear hw_ hs_
  have c2 := h7c HS 1 2 rfl rfl
  have b0 := h7c HS 2 0 rfl rfl
  have f0 := f7b (HS.out.blockAt 2 rfl)
  go_wp2_with fail
  refine wp_loop_rounds 2 ?_
  rw [rounds_succ]
  go_wp2_with fail
  rw [rounds_succ]
  go_wp2_with fail
  clear c2 b0 f0
  have hs5 := HS.out.putAt (pre := [.blk (w3.heap.size + 1) (.cells Tryz.zeroCells54 54 (0, 0)), .blk w3.heap.size (.cells #[.int .i64 1, .int .i64 1, .slice (some ⟨b, 0, none⟩) 1 1] 108 (0, 0))]) (by simp) 0 (.pointer (some ⟨w3.heap.size + 1, 0, none⟩)) rfl
  simp only [List.cons_append, List.nil_append] at hs5
  refine bodyPost_ret (v := .tuple #[.pointer (some ⟨w3.heap.size, 0, none⟩), .int .i64 0]) (by simp [results, Tryz.results35, go_sem]) rfl ⟨_, rfl, ⟨canE_ok, b, 1, [w3.heap.size + 1], hs5.blockAt 1 rfl, by decide, rfl, fun i q hq => ?_, fun i q t hq ht => ?_⟩, HS0.out, hs5.low⟩
  · rcases i with _ | i
    · simp only [List.getElem?_cons_zero, Option.some.injEq] at hq
      subst hq
      exact c7b (hs5.blockAt 2 rfl) rfl
    · simp at hq
  · rcases i with _ | i
    · simp only [canE, List.getElem?_cons_zero, Option.some.injEq] at hq ht
      subst hq ht
      rw [zeroT_cells]
      exact hs5.blockAt 0 rfl
    · simp at hq
end Go.Proofs.YtgdcfkbimkclaaaGreatDoor
/- Maps of numbers to pointers: which pointer is where. -/
namespace Go.Proofs.YtgdcfkbimkclaaaGreatDoor
open Go.RowKit Go.Shelf
open Go.Maps (Keyed)
/-- How a pointer reads. -/
def pR : Value → Option (DataW Unit × List MemPlace)
 | .pointer none => some (.lit (.int .i64 (-1)), [])
 | .pointer (some ⟨q, 0, none⟩) => some (.lit (.int .i64 q), [])
 | _ => none
theorem pR_inv {v : Value} {y : DataW Unit × List MemPlace} (h : pR v = some y) : (v = .pointer none ∧ y = (.lit (.int .i64 (-1)), [])) ∨ ∃ q : Nat, v = .pointer (some ⟨q, 0, none⟩) ∧ y = (.lit (.int .i64 q), []) := by
 unfold pR at h
 split at h
 · cases h; exact .inl ⟨rfl, rfl⟩
 · cases h; exact .inr ⟨_, rfl, rfl⟩
 · cases h
/-- What pointer a map of the call's own holds at a number. -/
structure PtrM (P : Program) (k : TypeId) (w : World) (b n : Nat) (f : Nat → Option Nat) (D : DataW Unit) : Prop where
 own : w.ownsMap P k pR b n D
 get : ∀ (i q : Nat), f i = some q → ∀ z, D.atKey (.int .i64 i) z = .lit (.int .i64 q)
 non : ∀ (i : Nat), f i = none → Maps.has D (.int .i64 i) = false
 key : ∀ kl, Maps.has D kl = true → ∃ i q : Nat, kl = .int .i64 i ∧ f i = some q
def PtrMap (P : Program) (k : TypeId) (w : World) (b n : Nat) (f : Nat → Option Nat) : Prop := ∃ D, PtrM P k w b n f D
section
variable {P : Program} {k : TypeId} {w w' : World} {b n : Nat} {f : Nat → Option Nat}
theorem PtrMap.lt (h : PtrMap P k w b n f) : b < w.heap.size := by obtain ⟨D, h⟩ := h; exact h.own.lt
theorem PtrMap.kept {row : Option Nat} (h : PtrMap P k w b n f) (hg : w.grownBy w' row) (hne : some b ≠ row) : PtrMap P k w' b n f := by
 obtain ⟨D, h⟩ := h
 exact ⟨D, h.own.kept hg hne, h.get, h.non, h.key⟩
theorem PtrMap.below (h : PtrMap P k w b n f) (hb : Below w.heap.size w w') : PtrMap P k w' b n f := h.kept (below_grown hb) (by simp)
theorem PtrMap.mono {m : Nat} (h : PtrMap P k w b n f) (hm : n ≤ m) : PtrMap P k w b m f := by
 obtain ⟨D, h⟩ := h
 exact ⟨D, h.own.mono hm, h.get, h.non, h.key⟩
theorem PtrMap.made (w : World) (P : Program) (k : TypeId) : PtrMap P k (w.alloc (.map #[] 0)) w.heap.size 0 (fun _ => none) :=
 ⟨.map [], ⟨World.ownsMap_made w P k pR, fun _ _ h => (by cases h), fun _ _ => rfl, fun _ h => (by cases h)⟩⟩
theorem wf_nat {i : Nat} (h : i < 1000000000) : (Lit.int .i64 (i : Int)).wf = true := WalkArith.wf_i64 (by omega)
theorem PtrM.has {D : DataW Unit} (h : PtrM P k w b n f D) {i q : Nat} (hi : f i = some q) : Maps.has D (.int .i64 i) = true :=
 Maps.has_true_of_atKey (h.get i q hi)
/-- 'm[k]' -/
theorem PtrMap.look {t e : TypeId} (h : PtrMap P k w b n f) (hk : P.underlying k = some (.int .i64)) (ht : P.underlying t = some (.map k e)) (hz : (zeroValue e).run P w = .ok (.pointer none) w) {i : Nat} (hi : i < 1000000000) :
 (Instr.lookup t (.map (some b)) (.int .i64 i) false).run P w = .ok (match f i with | some q => .pointer (some ⟨q, 0, none⟩) | none => .pointer none) w := by
 obtain ⟨D, h⟩ := h
 obtain ⟨v, ps, hr, hv⟩ := h.own.lookup (Go.Maps.int_keyed hk) ht hz (zd := .lit (.int .i64 (-1))) (zp := []) rfl (Maps.keyOf_int_mk hk (wf_nat hi))
 rw [hr]
 cases hf : f i with
 | some q =>
  rw [h.get i q hf] at hv
  rcases pR_inv hv with ⟨rfl, e⟩ | ⟨q', rfl, e⟩
  · simp only [Prod.mk.injEq, DataW.lit.injEq, Lit.int.injEq] at e
    omega
  · simp only [Prod.mk.injEq, DataW.lit.injEq, Lit.int.injEq] at e
    obtain rfl : q = q' := by omega
    rfl
 | none =>
  rw [Maps.atKey_of_not_has (h.non i hf)] at hv
  rcases pR_inv hv with ⟨rfl, e⟩ | ⟨q', rfl, e⟩
  · rfl
  · simp only [Prod.mk.injEq, DataW.lit.injEq, Lit.int.injEq] at e
    omega
theorem isKey_nat (i : Nat) (h : i < 1000000000) (hk : P.underlying k = some (.int .i64)) : WideAt.IsKeyLit (.int .i64 (i : Int)) := (Go.Maps.int_keyed hk).key (Maps.keyOf_int_mk hk (wf_nat h))
/-- 'm[k] = p' -/
theorem PtrMap.store {t e : TypeId} (h : PtrMap P k w b n f) (hk : P.underlying k = some (.int .i64)) (ht : P.underlying t = some (.map k e)) (hn : n < 1000000000) {i : Nat} (hi : i < 1000000000) (q : Nat) :
 ∃ w', (Instr.mapUpdate t (.map (some b)) (.int .i64 i) (.pointer (some ⟨q, 0, none⟩))).run P w = .ok () w' ∧ PtrMap P k w' b (n + 1) (fun j => if j = i then some q else f j) ∧ w.grownBy w' (some b) := by
 obtain ⟨D, h⟩ := h
 obtain ⟨w', hr, ho, hg⟩ := h.own.update (Go.Maps.int_keyed hk) ht (by unfold maxLen; omega) (Maps.keyOf_int_mk hk (wf_nat hi)) (val := .pointer (some ⟨q, 0, none⟩)) (d := .lit (.int .i64 q)) (ps := []) rfl
 have hD := (h.own.tidy (Go.Maps.int_keyed hk)).isMap
 have hne : ∀ {j : Nat}, j ≠ i → (Lit.int .i64 (j : Int)) ≠ .int .i64 (i : Int) := fun {j} hj e => by
  simp only [Lit.int.injEq, true_and] at e
  omega
 refine ⟨w', hr, ⟨_, ho, fun j q' hq z => ?_, fun j hj => ?_, fun kl hkl => ?_⟩, hg⟩
 · by_cases e : j = i
   · subst e
     simp only [if_true, Option.some.injEq] at hq
     subst hq
     exact Maps.atKey_put_same hD (isKey_nat j hi hk) _ _
   · simp only [if_neg e] at hq
     rw [Maps.atKey_put_other (hne e)]
     exact h.get j q' hq z
 · by_cases e : j = i
   · simp [e] at hj
   · simp only [if_neg e] at hj
     rw [Maps.has_put_other (hne e)]
     exact h.non j hj
 · by_cases e : kl = .int .i64 (i : Int)
   · exact ⟨i, q, e, by simp⟩
   · rw [Maps.has_put_other e] at hkl
     obtain ⟨j, q', rfl, hj⟩ := h.key kl hkl
     refine ⟨j, q', rfl, ?_⟩
     have : j ≠ i := fun e' => e (by rw [e'])
     simp only [if_neg this]
     exact hj
/-- A range over it: which are still to come. -/
def PtrRg (P : Program) (k : TypeId) (w : World) (b r n : Nat) (f : Nat → Option Nat) (left : Nat → Bool) (cnt : Nat) : Prop :=
 ∃ D lf, PtrM P k w b n f D ∧ w.ranges P k pR b r n D lf cnt ∧ (∀ i : Nat, left i = lf (.int .i64 i)) ∧ ∀ kl, lf kl = true → Maps.has D kl = true
theorem PtrRg.kept {r : Nat} {left : Nat → Bool} {cnt : Nat} {row : Option Nat} (h : PtrRg P k w b r n f left cnt) (hg : w.grownBy w' row) (hb : some b ≠ row) (hr : some r ≠ row) : PtrRg P k w' b r n f left cnt := by
 obtain ⟨D, lf, h1, h2, h3, h4⟩ := h
 exact ⟨D, lf, ⟨h1.own.kept hg hb, h1.get, h1.non, h1.key⟩, h2.kept hg hb hr, h3, h4⟩
theorem PtrRg.left_eq {r : Nat} {left : Nat → Bool} {cnt : Nat} (h : PtrRg P k w b r n f left cnt) : w.rangeLeft b r = cnt := by
 obtain ⟨D, lf, h1, h2, -⟩ := h
 exact h2.left_eq
theorem PtrRg.lt {r : Nat} {left : Nat → Bool} {cnt : Nat} (h : PtrRg P k w b r n f left cnt) : r < w.heap.size ∧ r ≠ b := by
 obtain ⟨D, lf, h1, h2, -⟩ := h
 exact ⟨h2.lt, h2.ne⟩
/-- 'range m' -/
theorem PtrMap.range {t e : TypeId} (h : PtrMap P k w b n f) (hk : P.underlying k = some (.int .i64)) (ht : P.underlying t = some (.map k e)) :
 ∃ w' left cnt, (Instr.range t (.map (some b))).run P w = .ok (.pointer (some ⟨w.heap.size, 0, none⟩)) w' ∧ PtrRg P k w' b w.heap.size n f left cnt ∧ (∀ i q, f i = some q → left i = true) ∧ w.grownBy w' none ∧ w'.heap.size = w.heap.size + 1 := by
 obtain ⟨D, h⟩ := h
 obtain ⟨w', hr, h1, hg, hs⟩ := h.own.range (Go.Maps.int_keyed hk) ht
 exact ⟨w', fun i => Maps.has D (.int .i64 i), Maps.size D, hr, ⟨D, Maps.has D, ⟨h.own.kept hg (by simp), h.get, h.non, h.key⟩, h1, fun _ => rfl, fun _ h => h⟩, fun i q hi => h.has hi, hg, hs⟩
/-- The step. -/
theorem PtrRg.next {r : Nat} {left : Nat → Bool} {cnt : Nat} (h : PtrRg P k w b r n f left cnt) (hk : P.underlying k = some (.int .i64)) (ty : TypeId) :
 (cnt = 0 ∧ (∀ i, left i = false) ∧ (Instr.next (.pointer (some ⟨r, 0, none⟩)) false ty).run P w = .ok (.tuple #[.bool false]) w) ∨
 ∃ (i q : Nat) (w' : World) (cnt' : Nat), f i = some q ∧ left i = true ∧ (Instr.next (.pointer (some ⟨r, 0, none⟩)) false ty).run P w = .ok (.tuple #[.bool true, .int .i64 i, .pointer (some ⟨q, 0, none⟩)]) w' ∧
  PtrRg P k w' b r n f (fun j => left j && decide (j ≠ i)) cnt' ∧ cnt' < cnt ∧ w.grownBy w' (some r) ∧ w'.heap.size = w.heap.size ∧ (Instr.entry (.pointer (some ⟨r, 0, none⟩))).run P w' = .ok (.tuple #[.int .i64 i, .pointer (some ⟨q, 0, none⟩)]) w' := by
 obtain ⟨D, lf, h1, h2, h3, h4⟩ := h
 rcases h2.next (Go.Maps.int_keyed hk) ty with ⟨h0, hl, hr⟩ | ⟨key, v, kl, y, w', cnt', hkey, hlk, hv, hat, hrun, hrg, hlt, hgr, hsz, hen⟩
 · exact .inl ⟨h0, fun i => (h3 i).trans (hl _), hr⟩
 · obtain ⟨i, q, rfl, hi⟩ := h1.key kl (h4 kl hlk)
   obtain ⟨x, rfl, e, -⟩ := Maps.keyOf_int_inv hk hkey
   simp only [Lit.int.injEq, true_and] at e
   subst e
   have hy := (hat (.lit (.int .i64 0))).symm.trans (h1.get i q hi _)
   have hv' : v = .pointer (some ⟨q, 0, none⟩) := by
    rcases pR_inv hv with ⟨rfl, rfl⟩ | ⟨q', rfl, rfl⟩
    · simp only [DataW.lit.injEq, Lit.int.injEq] at hy
      omega
    · simp only [DataW.lit.injEq, Lit.int.injEq] at hy
      obtain rfl : q' = q := by omega
      rfl
   subst hv'
   refine .inr ⟨i, q, w', cnt', hi, (h3 i).trans hlk, hrun, ⟨D, _, ⟨h1.own.kept hgr (by have := h2.ne; simp; omega), h1.get, h1.non, h1.key⟩, hrg, fun j => ?_, fun kl hkl => ?_⟩, hlt, hgr, hsz, hen⟩
   · show (left j && decide (j ≠ i)) = (lf (.int .i64 j) && !(Lit.int .i64 (j : Int)).sameKey (.int .i64 (i : Int)))
     rw [h3 j]
     by_cases e : j = i
     · subst e
       rw [WideAt.sameKey_self ((Go.Maps.int_keyed hk).key hkey)]
       simp
     · rw [Maps.sameKey_ne (fun e' => e (by simp only [Lit.int.injEq, true_and] at e'; omega))]
       simp [e]
   · simp only [Bool.and_eq_true] at hkl
     exact h4 kl hkl.1
end
end Go.Proofs.YtgdcfkbimkclaaaGreatDoor
/- Operations on maps of pointers, copies, and whether tiles are the same. -/
namespace Go.Proofs.YtgdcfkbimkclaaaGreatDoor
open Go.RowKit Go.Shelf
section
variable {F : Fence} {n : Nat} {P : Program} {w w' : World} {o : Oper} {a : Act} {K : Act → World → Prop} {Q : Exit → Act → World → Prop}
theorem opIn_make (t : TypeId) (l c : Operand) (ho : o.op = .makeSlice t l c) {lv cv v : Value} (hl : a.eval l = lv) (hc : a.eval c = cv) (hr : (Instr.makeSlice t lv cv).run P w = .ok v w') (hK : K (a.put o.dst v) w') : o.wpIn F n P a w K Q := by
 unfold Oper.wpIn
 refine ⟨by simp [Oper.about, ho], ?_⟩
 rw [Oper.semAt_plain F _ _ (by rw [ho]; intro c hc; cases hc)]
 simp [execOp, ho, hl, hc, hr, Result.andThen]
 exact hK
theorem opIn_bin (b : BinOp) (t t' : TypeId) (x y : Operand) (ho : o.op = .binOp b t x y t') {xv yv v : Value} (hx : a.eval x = xv) (hy : a.eval y = yv) (hg : (eqGuard b t x y xv yv).run P w = .ok () w) (hr : (binOp b t xv yv).run P w = .ok v w) (hK : K (a.put o.dst v) w) : o.wpIn F n P a w K Q := by
 unfold Oper.wpIn
 refine ⟨by simp [Oper.about, ho], ?_⟩
 rw [Oper.semAt_plain F _ _ (by rw [ho]; intro c hc; cases hc)]
 simp [execOp, ho, hx, hy, hg, hr, Result.andThen]
 exact hK
end
theorem run_equalIn_rows {α : Type} [DecidableEq α] {P : Program} (w : World) (m t e n K : Nat) (i0 : TypeInfo) (h : P.underlying t = some (.array n e)) (hi : P.info? e = some i0) (hs : i0.size = K)
 (xs ys : Array Value) (f g : Nat → α) (val : α → Value) (hx : ∀ i, i < n → (part e xs (i * K)).run P w = .ok (val (f i)) w) (hy : ∀ i, i < n → (part e ys (i * K)).run P w = .ok (val (g i)) w)
 (he : ∀ a b, (Op.equalIn m e (val a) (val b)).run P w = .ok (decide (a = b)) w) :
 (Op.equalIn (m + 1) t (.agg xs) (.agg ys)).run P w = .ok ((List.range n).all fun k => decide (f k = g k)) w := by
 subst hs
 simp only [Op.equalIn, Sem.run_bind, run_underlying h, Result.andThen_ok, sizeOf, typeInfo, run_program, hi, Sem.run_pure]
 rw [Std.Legacy.Range.forIn_eq_forIn_range']
 simp only [Std.Legacy.Range.size, Nat.sub_zero, Nat.add_sub_cancel, Nat.div_one]
 rw [← List.range_eq_range']
 have key : ∀ l : List Nat, (∀ i ∈ l, i < n) → (forIn l ((none, ()) : Option Bool × Unit) fun i __s => do
  let a ← part e xs (i * i0.size)
  let b ← part e ys (i * i0.size)
  let r ← Op.equalIn m e a b
  if (!r) = true then pure (ForInStep.done (some false, ())) else pure (ForInStep.yield (none, ()))).run P w = .ok (if (l.all fun k => decide (f k = g k)) = true then (none, ()) else (some false, ())) w := by
  intro l
  induction l with
  | nil => intro _; rfl
  | cons i l ih =>
   intro hl
   simp only [List.forIn_cons, Sem.run_bind, hx i (hl i (by simp)), hy i (hl i (by simp)), Result.andThen_ok, he]
   cases hfg : decide (f i = g i)
   · simp [hfg]
   · simp only [Bool.not_true, Bool.false_eq_true, if_false, Sem.run_pure, Result.andThen_ok]
     rw [ih (fun j hj => hl j (by simp [hj]))]
     simp [hfg]
 rw [key (List.range n) (fun i hi => List.mem_range.1 hi)]
 cases (List.range n).all fun k => decide (f k = g k) <;> simp
theorem part_color (T : TileT) (i : Nat) (h : i < 64) (w : World) : (part 26 (encT T).toArray (i * 4)).run Tryz.prog w = .ok ((T.1[i]'(by rw [T.2]; exact h)).val) w := by
 obtain ⟨c, hc⟩ : ∃ c, T.1[i]'(by rw [T.2]; exact h) = c := ⟨_, rfl⟩
 have hc' : T.1[i]? = some c := by rw [← hc]; exact List.getElem?_eq_getElem _
 rw [hc]
 have cell : ∀ r v, r < 4 → (encC c)[r]? = some v → (encT T)[i * 4 + r]? = some v := fun r v hr hv => by rw [encT_get T i r hr, hc']; exact hv
 have e : ((encT T).toArray.extract (i * 4) (i * 4 + 4)) = #[.int .u8 c.r, .int .u8 c.g, .int .u8 c.b, .int .u8 c.a] := by
  refine Array.ext_getElem? fun j => ?_
  have hl := encT_len T
  rw [Array.getElem?_extract]
  by_cases hj : j < 4
  · rw [if_pos (by simp; omega), List.getElem?_toArray]
    rcases (by omega : j = 0 ∨ j = 1 ∨ j = 2 ∨ j = 3) with rfl | rfl | rfl | rfl
    · exact cell 0 _ (by decide) rfl
    · exact cell 1 _ (by decide) rfl
    · exact cell 2 _ (by decide) rfl
    · exact cell 3 _ (by decide) rfl
  · rw [if_neg (by simp; omega), Array.getElem?_eq_none (by simp; omega)]
 unfold ColT.val
 simp [part, go_sem]
 have := congrArg Array.toList e
 simpa using this
theorem colE_deep (a b : ColT) (w : World) : (Op.equalIn 9999 26 a.val b.val).run Tryz.prog w = .ok (decide (a = b)) w := by
 obtain ⟨r, g, b', a'⟩ := a
 obtain ⟨s, h, c, d⟩ := b
 unfold ColT.val
 simp [go_sem]
 by_cases h1 : r = s <;> by_cases h2 : g = h <;> by_cases h3 : b' = c <;> by_cases h4 : a' = d <;> simp [h1, h2, h3, h4]
theorem tile_all (T U : TileT) : ((List.range 64).all fun k => decide (T.1.getD k zeroC = U.1.getD k zeroC)) = decide (T = U) := by
 rw [Bool.eq_iff_iff, List.all_eq_true, decide_eq_true_iff]
 constructor
 · intro h
   refine Subtype.ext (List.ext_getElem (by rw [T.2, U.2]) fun k h1 h2 => ?_)
   have := of_decide_eq_true (h k (List.mem_range.2 (by rw [T.2] at h1; exact h1)))
   rw [List.getD_eq_getElem?_getD, List.getD_eq_getElem?_getD, List.getElem?_eq_getElem h1, List.getElem?_eq_getElem h2] at this
   exact this
 · rintro rfl k _
   simp
theorem infoCol : ∃ i0, Tryz.prog.info? 26 = some i0 ∧ i0.size = 4 := by
 have h : (Tryz.prog.info? 26).map (·.size) = some 4 := by kernel_rfl
 cases hi : Tryz.prog.info? 26 with
 | none => simp [hi] at h
 | some i0 => exact ⟨i0, rfl, by simpa [hi] using h⟩
theorem tileE_run (T U : TileT) (w : World) : (Op.equal 54 (.agg (encT T).toArray) (.agg (encT U).toArray)).run Tryz.prog w = .ok (decide (T = U)) w := by
 obtain ⟨i0, hi, hs⟩ := infoCol
 have hd : ∀ (V : TileT) (k : Nat) (h : k < 64), V.1.getD k zeroC = V.1[k]'(by rw [V.2]; exact h) := fun V k h => by
  rw [List.getD_eq_getElem?_getD, List.getElem?_eq_getElem (by rw [V.2]; exact h)]; rfl
 have := run_equalIn_rows w 9999 54 26 64 4 i0 Tryz.underlying54 hi hs (encT T).toArray (encT U).toArray (fun k => T.1.getD k zeroC) (fun k => U.1.getD k zeroC) ColT.val
  (fun k hk => by rw [hd T k hk]; exact part_color T k hk w) (fun k hk => by rw [hd U k hk]; exact part_color U k hk w) (fun a b => colE_deep a b w)
 rw [tile_all] at this
 exact this
theorem tileNe_run (T U : TileT) (w : World) : (binOp .neq 54 (.agg (encT T).toArray) (.agg (encT U).toArray)).run Tryz.prog w = .ok (.bool (!decide (T = U))) w := by
 simp [binOp, tileE_run T U w]
theorem tileG_run (x y : Operand) (a b : Array Value) (w : World) : (eqGuard .neq 54 x y (.agg a) (.agg b)).run Tryz.prog w = .ok () w := by
 have h : Tryz.prog.eqGuardType Tryz.prog.depth 54 = false := by kernel_rfl
 simp [eqGuard, h]
end Go.Proofs.YtgdcfkbimkclaaaGreatDoor
