/- Merged texts: DrB OverL Over OverB. -/
import Derived.Test.YthcdkkmjnglmjaaGreatDoorM14
import Derived.Test.YthcdkkmjnglmjaaGreatDoorM16
import Derived.Test.YthcdkkmjnglmjaaGreatDoorM2
set_option linter.unusedSimpArgs false
set_option linter.unusedVariables false
/- Package draw: draws. -/
namespace Go.Proofs.YthcdkkmjnglmjaaGreatDoor
open Go.RowKit Go.Shelf
attribute [local go_sem] Oper.semAt_some
section
variable {α : Type} {w0 x y : World} {its : List It} {base : Nat} {e : TypeId} {k : Nat} {enc : α → List Value} {v : Value} {L : List α} {P : Program} {t : TypeId} {bytes : Nat}
/-- append(row, q), the element's block anywhere. -/
theorem wpListIn_app1s {F : Fence} {N : Nat} {ops : Array Oper} {rest : List Oper} {o : Oper} {a : Act} {Q : Exit → Act → World → Prop} (R : RowT P t e k bytes) (hk : ∀ q, (enc q).length = k) (h1 : ∀ q, ∀ u ∈ enc q, u.oneCell' = true)
 (HO : StO w0 its base e k enc v L x) (hb : Below x.heap.size x y) (q : α) (n : Nat) (hn : L.length = n) (hmax : n < 1000000000) (hby : bytes ≤ 1000)
 (s u : Operand) (hgd : o.guard = none) (ho : o.op = .call { callee := .builtin .append, args := #[s, u], argTypes := #[t, t] })
 (hs : a.eval s = v) (g : Nat) (hu : a.eval u = .slice (some ⟨g, 0, none⟩) 1 1) (hg : y.heap[g]? = some (.cells (enc q).toArray e (0, 0)))
 (h : ∀ v' w', StO w0 its base e k enc v' (L ++ [q]) w' → (∃ ad cap, v' = .slice (some ad) (n + 1) cap) → y.grownBy w' v.ownBlock → (v'.ownBlock = v.ownBlock ∨ ∃ b, v'.ownBlock = some b ∧ y.heap.size ≤ b) → wpListIn F N P ops Q rest (a.put o.dst v') w') :
 wpListIn F N P ops Q (o :: rest) a y := by
 obtain ⟨i, z, hi, hz0, hz1, hz2, hz3⟩ := R.info
 subst hn
 have HY := HO.below hb
 have hbytes : (L.length + 1) * bytes ≤ 140737488355328 := Nat.le_trans (Nat.mul_le_mul (show L.length + 1 ≤ 1000000000 by omega) hby) (by omega)
 refine wpListIn_append_own_at _ hgd s u t ho base e i z k bytes R.un hi hz0 hz1 hz2 hz3 R.pos v L.length _ hs HY.row ⟨g, 0, none⟩ 1 1 (enc q) hu (by rw [hk, Nat.one_mul])
  (fun j x hx => cells_of_block hg j x (by simpa using hx)) (h1 q) (by unfold maxLen; omega) hbytes HY.hi ?_
 intro v' w' hown hgrow _ hloc
 refine h v' w' ⟨HY.st.grown (fun j e => (HY.row.lt j e).1) HY.low HY.top hgrow, ?_, HY.low, HY.top, ?_⟩ ?_ hgrow ?_
 · rw [List.length_append, List.flatMap_append]; simpa using hown
 · have := hgrow.size; have := HY.hi; omega
 · rcases hown.2 with ⟨_, h0⟩ | ⟨g, cap, cur, rfl, _⟩
   · omega
   · exact ⟨_, cap, rfl⟩
 · rcases hloc with h | h
   · exact .inl h
   · exact .inr ⟨_, h, by simp⟩
end
theorem CanAt.putObj {w : World} {d D : Nat} {C : CanT} (h : CanAt w d C) {o : Obj} (hD : w.heap[D]? = some o) (hc : o.isCells = false) (o' : Obj) : CanAt (w.putObj D o') d C := by
 obtain ⟨ok, b, cap, qs, h1, h2, h3, h4, h5⟩ := h
 have key : ∀ {k : Nat} {cs t f}, w.heap[k]? = some (.cells cs t f) → (w.putObj D o').heap[k]? = some (.cells cs t f) := by
  intro k cs t f hk
  refine (World.putObj_heap_other ?_).trans hk
  rintro rfl
  rw [hD] at hk
  cases hk
  cases hc
 refine ⟨ok, b, cap, qs, key h1, h2, h3, fun i q hq => ?_, fun i q T hq hT => key (h5 i q T hq hT)⟩
 exact cell_kept (h4 i q hq) (grownBy_putObj' w D o') (fun r e => by cases e; exact ⟨o, hD, hc⟩)
theorem map_finRange {β : Type} (A : List PtT) (h : PtT → β) : ((List.finRange A.length).map fun x => h A[x.1]) = A.map h := by
 refine List.ext_getElem (by simp) fun i h1 h2 => by simp
theorem nodup_ltD : ∀ (n : Nat) (l : List Nat), l.Nodup → (∀ i ∈ l, i < n) → l.length ≤ n
 | 0, [], _, _ => Nat.le_refl _
 | 0, i :: l, _, h => absurd (h i (by simp)) (Nat.not_lt_zero _)
 | n + 1, l, hl, h => by
  have h1 := nodup_ltD n (l.erase n) (hl.erase n) fun i hi => by
   have h2 := (List.Nodup.mem_erase_iff hl).1 hi
   have h3 := h i h2.2
   have := h2.1
   omega
  rw [List.length_erase] at h1
  split at h1 <;> omega
theorem ptsC_len {C : CanT} (hC : okCan C) {L : List SpT} (hr : rightB L = true) : (ptsC C L).length ≤ 1024 := by
 have hn : (ptsC C L).Nodup := ptsL_nodup ((rightB_iff _).1 (rightB_clip hr _)).rowP
 have hw := hC.wide
 have hh := hC.high
 have h1 : ((ptsC C L).map fun p : PtT => p.y.toNat * 32 + p.x.toNat).Nodup := by
  refine List.pairwise_map.2 ((List.Pairwise.and_mem.1 hn).imp fun {a b} hab e => ?_)
  obtain ⟨ha, hb, hne⟩ := hab
  have h2 := onCan_nat (mem_ptsC.1 ha).2
  have h3 := onCan_nat (mem_ptsC.1 hb).2
  obtain ⟨ax, ay⟩ := a
  obtain ⟨bx, b_y⟩ := b
  simp only [ne_eq, PtT.mk.injEq] at *
  omega
 have h2 := nodup_ltD 1024 _ h1 fun i hi => by
  obtain ⟨a, ha, rfl⟩ := List.mem_map.1 hi
  have h3 := onCan_nat (mem_ptsC.1 ha).2
  omega
 rwa [List.length_map] at h2
set_option maxRecDepth 100000 in
set_option maxHeartbeats 4000000 in
theorem draws_any (g : Nat) (caps : Array Value) (f : ColT → ColT) (hf : ∀ c, okC c → okC (f c)) (hg : ∀ args w, (callFunc g args).run Tryz.prog w = .ok (.enter g args) w) (E p : Nat) (C : CanT) (a : Option Addr) (m cap : Nat) (L : List SpT) (hlen : L.length = m) (hm : m ≤ 1000000) (hr : rightB L = true)
 (w : World) (hE : w.heap[E]? = some (.cells #[.pointer (some ⟨p, 0, none⟩)] 127 (0, 0))) (hC : CanAt w p C) (he : Elems w (.slice a m cap) m 3 (rowC encS L))
 (hcl : ∀ c, okC c → ∀ w', Below w.heap.size w w' → Calls Tryz.prog g (#[c.val] ++ caps) w' (Gives (f c).val w')) :
 Calls Tryz.prog 85 #[.pointer (some ⟨E, 0, none⟩), .slice a m cap, .func (.func g) #[] caps] w (Drew E 0 (paintC C L f) w) := by
 have HS := H7 (St.start w)
 refine (callsIn_wide (n := 10)).1 ?_
 refine callsIn_of_wp_marks Tryz.func85 rfl trivial ?_ rfl
 simp only [Tryz.ntmps85, List.size_toArray, List.length_cons, List.length_nil, Nat.reduceAdd, Nat.reduceSub, Array.replicate_succ, Array.replicate_zero, List.push_toArray, List.append_toArray, List.nil_append, List.cons_append]
 repeat ((fail_if_success (with_reducible refine stop_atI (id := 2) ?_)); (first | go_values | gi_guarded | gi_step | gi_upon | gi_back | (simp only [Int.not_lt, Int.not_le] at *; go_simp) | (go_values <;> (try go_simp)) | (go_ite <;> go_prune <;> (try go_simp)) | (split <;> (first | (rename_i hx; exact (hx _ rfl).elim) | go_prune))))
 have hs_ := ((HS.out.alloc (.cells #[.func (.func g) #[] caps] 123)).alloc (.cells #[.slice none 0 0] 151))
 obtain ⟨w2, hw_⟩ : ∃ w2 : World, ((w.alloc (.cells #[.func (.func g) #[] caps] 123)).alloc (.cells #[.slice none 0 0] 151)) = w2 := ⟨_, rfl⟩
 rw [hw_] at hs_
 try simp only [World.size_alloc] at hs_
 have HS := H7 hs_
 rw [hw_]
 clear hw_ hs_
 gi_wp2_with fail
 refine (callsIn_wide.2 (pixels_cl _ _ _ _ _)).mono ?_
 rintro e w' ⟨rfl, rfl⟩
 have hs_ := ((HS.out.alloc (.cells #[.pointer (some ⟨E, 0, none⟩)] 83)).alloc (.cells #[.slice a m cap] 57))
 obtain ⟨w4, hw_⟩ : ∃ w4 : World, ((w2.alloc (.cells #[.pointer (some ⟨E, 0, none⟩)] 83)).alloc (.cells #[.slice a m cap] 57)) = w4 := ⟨_, rfl⟩
 rw [hw_] at hs_
 try simp only [World.size_alloc] at hs_
 have HS := H7 hs_
 rw [hw_]
 clear hw_ hs_
 gi_wp2_with fail
 have hord : w.heap.size + 1 < w2.heap.size ∧ w2.heap.size + 1 < w4.heap.size := by
  have h_ := HS.out.ord
  have h2 := HS.out.lt 0 rfl
  simp [ItOrd, It.top] at h_
  omega
 have hlow4 := HS.out.low
 have hos : OwnSt (ownBox (w.heap.size + 1) 151) w4.heap.size := ownSt_box (by omega)
 have hbx : BoxS w [.blk w.heap.size (.cells #[.func (.func g) #[] caps] 123 (0, 0))] w4.heap.size (w.heap.size + 1) 151 101 6 encD (.slice none 0 0) [] w4 :=
  ⟨StO.start (HS.out.sub (.cons _ (.cons _ (.cons _ (List.Sublist.refl _))))) _ _ _, HS.out.blockAt 2 rfl, by intro i hi; rw [List.mem_singleton.1 hi]; simp [It.top], by omega, by omega⟩
 have hbsN : ∀ b ∈ w2.heap.size :: List.range w.heap.size, b < w4.heap.size ∧ b ≠ w.heap.size + 1 := by
  intro b hb
  rcases List.mem_cons.1 hb with rfl | hb
  · omega
  · have := List.mem_range.1 hb; omega
 have hwf4 := hbx.wf
 have hX4 : w4.heap[w2.heap.size]? = some (.cells #[.pointer (some ⟨E, 0, none⟩)] 83 (0, 0)) := HS.out.blockAt 1 rfl
 have hL4 : w4.heap[w2.heap.size + 1]? = some (.cells #[.slice a m cap] 57 (0, 0)) := HS.out.blockAt 0 rfl
 have he4 : Elems w4 (.slice a m cap) m 3 (rowC encS L) := he.below hlow4
 obtain ⟨A, hA⟩ : ∃ A, ptsC C L = A := ⟨_, rfl⟩
 have hAl : A.length ≤ 1024 := hA ▸ ptsC_len hC.ok hr
 have hAc : ∀ x : Fin A.length, okC (colP C (A[x.1])) := fun x => onCan_col hC.ok ((mem_ptsC (C := C) (L := L)).1 (by rw [hA]; exact List.getElem_mem _)).2
 have HBX := H7 hbx
 clear HS hbx
 apply with_actIn
 intro a0 ha0
 refine wpIn_range_all (encs := fun x : Fin A.length => #[(A[x.1]).val, (colP C (A[x.1])).val]) rfl (by omega) (by rw [ha0]; rfl) trivial (enters_of Tryz.func121 (by kernel_rfl) rfl) (List.finRange A.length) A.length (fun _ => rfl)
  (KO (ownBox (w.heap.size + 1) 151) (w2.heap.size :: List.range w.heap.size) w4.heap.size) (fun h k => h.trans k) (fun W o o' h hc => KO.putObj hos (Nat.le_refl _) (fun b hb => (hbsN b hb).1) W _ o o' (by omega) h hc)
  (fun pre V => (∃ v, BoxS w [.blk w.heap.size (.cells #[.func (.func g) #[] caps] 123 (0, 0))] w4.heap.size (w.heap.size + 1) 151 101 6 encD v (pre.map fun x : Fin A.length => (⟨(A[x.1]).x, (A[x.1]).y, f (colP C (A[x.1]))⟩ : DotT)) V) ∧ w4.heap.size ≤ V.heap.size)
  (OwnFrom.and (ownFrom_BoxS (its := [.blk w.heap.size (.cells #[.func (.func g) #[] caps] 123 (0, 0))]) _ hlow4.size (fun b o hb => by cases List.mem_singleton.1 hb; rfl)) (ownFrom_size _)) ⟨⟨_, HBX.out⟩, Nat.le_refl _⟩
  (fun x a' V => ∃ p', a' = loopAct a0 [(12, (A[x.1]).val), (13, (colP C (A[x.1])).val), (7, .pointer (some ⟨p', 0, none⟩)), (8, .pointer (some ⟨p' + 1, 0, none⟩))] ∧ w4.heap.size ≤ p' ∧ V.heap[p']? = some (.cells #[.int .i64 (A[x.1]).x, .int .i64 (A[x.1]).y] 26 (0, 0)) ∧ V.heap[p' + 1]? = some (.cells #[.int .u8 (colP C (A[x.1])).r, .int .u8 (colP C (A[x.1])).g, .int .u8 (colP C (A[x.1])).b, .int .u8 (colP C (A[x.1])).a] 34 (0, 0))) ?hAx ?hseq ?assign ?body ?done
 case hAx =>
  rintro x a' s P Y row ⟨p', e, hge, hp, hp2⟩ hg hr
  exact ⟨p', e, hge, (grownBy_keeps_cells hg (fun r e => (hr r e).2) hp rfl).trans hp, (grownBy_keeps_cells hg (fun r e => (hr r e).2) hp2 rfl).trans hp2⟩
 case hseq =>
  intro l J W hb hs hJ hY h0
  have how : ∀ q, ownBox (w.heap.size + 1) 151 W q ↔ ownBox (w.heap.size + 1) 151 w4 q := hos w4 W (fun k hk => hb.block k hk)
  exact pixels1_any (10 - 1) (by omega) (ownBox (w.heap.size + 1) 151) w4.heap.size hos l w2.heap.size (w2.heap.size + 1) E p C a m cap L hlen hm hr w hlow4.size hE hC (w2.heap.size :: List.range w.heap.size)
   (fun k hk => List.mem_cons_of_mem _ (List.mem_range.2 hk)) (by simp) (fun b hb => (hbsN b hb).1) W hs (fun k hk => (hb.block k (by have := hlow4.size; omega)).trans (hlow4.block k hk)) ((hb.block _ (b7t hX4)).trans hX4) ((hb.block _ (b7t hL4)).trans hL4) (he4.below hb)
   (fun q hq => Nat.lt_of_lt_of_le (hwf4 q ((how q).1 hq)) hb.size) A hA J hJ hY h0
 case assign =>
  rintro ly pre x V K ⟨⟨v, hI⟩, hlt5⟩ hK
  have HK := H7 hK
  have HI := H7 hI
  clear hK hI
  rw [ha0] at HK ⊢
  unfold loopAct at HK
  unfold ColT.val at HK ⊢
  simp only [PtT.val, List.foldl, List.setIfInBounds_toArray, List.set_cons_succ, List.set_cons_zero, Array.zip, List.zip_toArray, List.foldl_toArray] at HK ⊢
  gi_wp2
  have hb := ((B7 V.heap.size V).alloc (Nat.le_refl _) (.cells #[.int .i64 (A[x.1]).x, .int .i64 (A[x.1]).y] 26)).alloc (by simp) (.cells #[.int .u8 (colP C (A[x.1])).r, .int .u8 (colP C (A[x.1])).g, .int .u8 (colP C (A[x.1])).b, .int .u8 (colP C (A[x.1])).a] 34)
  exact HK.out _ _ (keepsFrom_below hb) (KO.of_below hos hb hlt5 (fun c hc => Nat.lt_of_lt_of_le (hbsN c hc).1 hlt5)) ⟨⟨v, HI.out.below hb⟩, Nat.le_trans hlt5 hb.size⟩ ⟨V.heap.size, rfl, hlt5, heap_alloc_keeps (World.alloc_heap_new V _) _, by have := World.alloc_heap_new (V.alloc (.cells #[.int .i64 (A[x.1]).x, .int .i64 (A[x.1]).y] 26)) (.cells #[.int .u8 (colP C (A[x.1])).r, .int .u8 (colP C (A[x.1])).g, .int .u8 (colP C (A[x.1])).b, .int .u8 (colP C (A[x.1])).a] 34); rwa [World.size_alloc] at this⟩
 case body =>
  rintro ly pre x a' V ⟨⟨v, hI⟩, hlt5⟩ ⟨p', rfl, hpp, hp, hp2⟩ hlen
  have hok := hAc x
  rw [ha0]
  unfold loopAct
  obtain ⟨q, hq⟩ : ∃ q, A[x.1] = q := ⟨_, rfl⟩
  rw [hq] at hp hp2 hok ⊢
  obtain ⟨cl, hcl2⟩ : ∃ cl, colP C q = cl := ⟨_, rfl⟩
  rw [hcl2] at hp2 hok ⊢
  have HCL := H7 (hcl cl hok)
  have hfo := hf cl hok
  obtain ⟨fc, hfc⟩ : ∃ fc, f cl = fc := ⟨_, rfl⟩
  rw [hfc] at HCL hfo
  obtain ⟨n0, hn0⟩ : ∃ n0, (pre.map fun x : Fin A.length => (⟨(A[x.1]).x, (A[x.1]).y, f (colP C (A[x.1]))⟩ : DotT)).length = n0 := ⟨_, rfl⟩
  have HN0 := H7 (And.intro hn0 (show n0 ≤ 1024 by rw [← hn0, List.length_map]; omega))
  have hsn : ((pre ++ [x]).map fun x : Fin A.length => (⟨(A[x.1]).x, (A[x.1]).y, f (colP C (A[x.1]))⟩ : DotT)) = (pre.map fun x : Fin A.length => (⟨(A[x.1]).x, (A[x.1]).y, f (colP C (A[x.1]))⟩ : DotT)) ++ [⟨q.x, q.y, fc⟩] := by
   rw [List.map_append, List.map_singleton, hq, hcl2, hfc]
  obtain ⟨L0, hL0⟩ : ∃ L0, (pre.map fun x : Fin A.length => (⟨(A[x.1]).x, (A[x.1]).y, f (colP C (A[x.1]))⟩ : DotT)) = L0 := ⟨_, rfl⟩
  rw [hL0] at hI hsn HN0
  rw [hsn]
  obtain ⟨cr, cg, cb, ca⟩ := cl
  obtain ⟨fr, fg, fb, fa⟩ := fc
  obtain ⟨qx, qy⟩ := q
  unfold ColT.val at HCL ⊢
  simp only [PtT.val, List.foldl, List.setIfInBounds_toArray, List.set_cons_succ, List.set_cons_zero] at hp hp2 HCL ⊢
  have HBX := H7 hI
  have HP := H7 (BlkA.mk hp)
  have HP2 := H7 (BlkA.mk hp2)
  have HLV := H7 (LowAt.mk (B7 V.heap.size V))
  clear hI hp hp2 hq hcl2 hfc hsn hL0 hok hn0
  repeat ((fail_if_success (with_reducible refine stop_atI (id := 5) ?_)); (first | go_values | gi_guarded | gi_step | gi_upon | gi_back | (simp only [Int.not_lt, Int.not_le] at *; go_simp) | (go_values <;> (try go_simp)) | (go_ite <;> go_prune <;> (try go_simp)) | (split <;> (first | (rename_i hx; exact (hx _ rfl).elim) | go_prune))))
  apply w7v 10 (Rl := [(eqv _), (eqv _), (eqv _), (eqv _), (eqv _), (eqv _), (eqv _), (eqv _), (eqv _), (fun v_ w_ => ∃ b, v_ = .slice (some ⟨b, 0, none⟩) 1 1 ∧ w_.heap[b]? = some (.cells #[.int .i64 qx, .int .i64 qy, .int .u8 fr, .int .u8 fg, .int .u8 fb, .int .u8 fa] 101 (0, 0)))]) (C := (fun x y => Below x.heap.size x y))
  case hm => kernel_rfl
  case hk => rfl
  case hCr => exact (fun _ => B7 _ _)
  case hCt => intro _ _ _; exact (fun h k => g7t h k)
  case hst => exact ⟨fun _ _ _ _ h => h, fun _ _ _ _ h => h, fun _ _ _ _ h => h, fun _ _ _ _ h => h, fun _ _ _ _ h => h, fun _ _ _ _ h => h, fun _ _ _ _ h => h, fun _ _ _ _ h => h, fun _ _ _ _ h => h, fun _ _ _ hC ⟨b, e, h⟩ => ⟨b, e, (hC.block _ (b7t h)).trans h⟩, trivial⟩
  case hfo => kernel_rfl
  case ht => kernel_rfl
  case hC0 => exact (g7d _)
  case hsteps =>
   refine ⟨?_, ?_, ?_, ?_, ?_, ?_, ?_, ?_, ?_, ?_, trivial⟩
   · intro a' w' hA hC hD; have s6 := hA.to 6 (by kernel_rfl) rfl
     have z0 := c7b (k := 0) (HBX.out.below hC).at_ rfl
     clear hA hD; refine o7p rfl ?_; intro K hK; gi_wp2; exact hK _ _ rfl (B7 _ _)
   · intro a' w' hA hC hD; have s7 := hA.to 7 (by kernel_rfl) rfl; clear hA hD; refine o7p rfl ?_; intro K hK; gi_wp2; exact hK _ _ rfl (B7 _ _)
   · intro a' w' hA hC hD; obtain ⟨u15, s15, rfl⟩ := hD ⟨1, .data⟩ (by simp) rfl _ rfl
     have z0 := c7b (k := 0) (HP.out.below hC).at_ rfl
     clear hA hD; refine o7p rfl ?_; intro K hK; gi_wp2; exact hK _ _ rfl (B7 _ _)
   · intro a' w' hA hC hD; have s7 := hA.to 7 (by kernel_rfl) rfl; clear hA hD; refine o7p rfl ?_; intro K hK; gi_wp2; exact hK _ _ rfl (B7 _ _)
   · intro a' w' hA hC hD; obtain ⟨u17, s17, rfl⟩ := hD ⟨3, .data⟩ (by simp) rfl _ rfl
     have z0 := c7b (k := 1) (HP.out.below hC).at_ rfl
     clear hA hD; refine o7p rfl ?_; intro K hK; gi_wp2; exact hK _ _ rfl (B7 _ _)
   · intro a' w' hA hC hD; have s5 := hA.to 5 (by kernel_rfl) rfl
     have z0 := c7b (k := 0) ((HBX.out.below hC).o.st.blockAt 0 rfl) rfl
     clear hA hD; refine o7p rfl ?_; intro K hK; gi_wp2; exact hK _ _ rfl (B7 _ _)
   · intro a' w' hA hC hD; have s8 := hA.to 8 (by kernel_rfl) rfl
     have z0 := c7b (k := 0) (HP2.out.below hC).at_ rfl; have z1 := c7b (k := 1) (HP2.out.below hC).at_ rfl; have z2 := c7b (k := 2) (HP2.out.below hC).at_ rfl; have z3 := c7b (k := 3) (HP2.out.below hC).at_ rfl
     clear hA hD; refine o7p rfl ?_; intro K hK; gi_wp2; exact hK _ _ rfl (B7 _ _)
   · intro a' w' hA hC hD; obtain ⟨u19, s19, rfl⟩ := hD ⟨5, .data⟩ (by simp) rfl _ rfl; obtain ⟨u20, s20, rfl⟩ := hD ⟨6, .data⟩ (by simp) rfl _ rfl; clear hA hD; refine o7p rfl ?_; intro K hK
     gi_wp2_with fail; refine (callsIn_wide.2 (HCL.out _ (HBX.out.below hC).o.st.low)).mono ?_; rintro e w2 ⟨rfl, hb⟩
     exact hK _ _ rfl hb
   · intro a' w' hA hC hD; obtain ⟨u16, s16, rfl⟩ := hD ⟨2, .data⟩ (by simp) rfl _ rfl; obtain ⟨u18, s18, rfl⟩ := hD ⟨4, .data⟩ (by simp) rfl _ rfl; obtain ⟨u21, s21, rfl⟩ := hD ⟨7, .data⟩ (by simp) rfl _ rfl; clear hA hD; refine o7p rfl ?_; intro K hK; gi_wp2; exact hK _ _ rfl (B7 _ _)
   · intro a' w' hA hC hD; obtain ⟨u22, s22, rfl⟩ := hD ⟨8, .data⟩ (by simp) rfl _ rfl; clear hA hD; refine o7p rfl ?_; intro K hK; gi_wp2; exact hK (.slice (some ⟨w'.heap.size, 0, none⟩) 1 1) _ ⟨w'.heap.size, rfl, World.alloc_heap_new _ _⟩ ((B7 _ _).alloc (Nat.le_refl _) _)
  case hend =>
   intro V2 hC
   simp only [EndFrom, eqv, forall_eq, Act.put, List.length_cons, List.length_nil, List.drop_succ_cons, List.drop_zero, Nat.reduceAdd, List.setIfInBounds_toArray, List.set_cons_succ, List.set_cons_zero]
   rintro v9 ⟨b9, rfl, hb9⟩
   have HBX2 := H7 (HBX.out.below hC)
   have HLV := H7 (HLV.out.below hC)
   clear hC
   refine wpListIn_app1s rowD encD_len encD_one HBX2.out.o (B7 _ _) ⟨qx, qy, ⟨fr, fg, fb, fa⟩⟩ n0 HN0.out.1 (by have := HN0.out.2; omega) (by decide) _ _ rfl rfl rfl b9 rfl hb9 ?_
   intro v' V3 ho3 hsh hg3 hl3
   obtain ⟨ad3, cp3, rfl⟩ := hsh
   have hB3 := (hg3.block _ (b7t HBX2.out.at_) (fun e => HBX2.out.nb e.symm)).trans HBX2.out.at_
   have c3 := c7b (k := 0) hB3 rfl
   have f3 := f7b hB3
   have HO3 := H7 ho3
   have HG3 := H7 hg3
   have HL3 := H7 hl3
   clear ho3 hg3 hl3 hB3 hb9
   gi_wp2
   clear c3 f3
   have hVs : V.heap.size ≤ V2.heap.size := HLV.out.low.size
   refine ⟨(keepsFrom_below HLV.out.low).trans (HBX2.out.keepsFrom (B7 _ _) HG3.out), (KO.of_below hos HLV.out.low hlt5 (fun c hc => Nat.lt_of_lt_of_le (hbsN c hc).1 hlt5)).trans (HBX2.out.ko (B7 _ _) HO3.out HG3.out HL3.out (by omega) (Nat.le_refl _) (by omega) hbsN), ⟨.slice (some ad3) (n0 + 1) cp3, HBX2.out.push (B7 _ _) HO3.out HG3.out⟩, ?_⟩
   rw [World.size_setCell]
   exact Nat.le_trans (Nat.le_trans hlt5 hVs) HG3.out.size
 case done =>
  rintro D V hD ⟨⟨v, hI⟩, -⟩ hK
  rw [map_finRange A (fun p => (⟨p.x, p.y, f (colP C p)⟩ : DotT))] at hI
  have hall : A.map (fun p => (⟨p.x, p.y, f (colP C p)⟩ : DotT)) = dotsF (ptsC C L) (fun p => f (colP C p)) := by rw [hA]; rfl
  have hdc : ∀ d ∈ dotsF (ptsC C L) (fun p => f (colP C p)), okC d.c := dotsF_ok hC.ok L hf
  have hdl : (dotsF (ptsC C L) (fun p => f (colP C p))).length ≤ 1000000 := by rw [← hall, List.length_map]; omega
  have hpc : paintC C L f = withL C (dotsF (ptsC C L) (fun p => f (colP C p))) := rfl
  rw [hall] at hI
  obtain ⟨ds, hds⟩ : ∃ ds, dotsF (ptsC C L) (fun p => f (colP C p)) = ds := ⟨_, rfl⟩
  rw [hds] at hI hdc hdl hpc
  have HPC := H7 hpc
  obtain ⟨nd, hnd⟩ : ∃ nd, ds.length = nd := ⟨_, rfl⟩
  have hel := ownsRow_rows encD_len hI.o.row
  obtain ⟨ad, cp, rfl, -⟩ := hI.o.shape
  rw [hnd] at hel hdl
  have c6 := hI.at_
  rw [hnd] at c6
  have HI := H7 (LowAt.mk hI.o.st.low)
  have HB6 := H7 (BlkA.mk c6)
  have HEL := H7 hel
  have HE := H7 (BlkA.mk ((hI.o.st.low.block E (b7t hE)).trans hE))
  have HCC := H7 (hC.below hI.o.st.low)
  have HK := H7 (BlkA.mk hK)
  have HDD := H7 (And.intro hdc (And.intro hdl hnd))
  have HD := H7 (show w.heap.size ≤ D by omega)
  rw [ha0]
  dsimp only
  clear hI hK hall hD hel c6 hds hdc hdl hnd hpc
  repeat ((fail_if_success (with_reducible refine stop_atI (id := 6) ?_)); (first | go_values | gi_guarded | gi_step | gi_upon | gi_back | (simp only [Int.not_lt, Int.not_le] at *; go_simp) | (go_values <;> (try go_simp)) | (go_ite <;> go_prune <;> (try go_simp)) | (split <;> (first | (rename_i hx; exact (hx _ rfl).elim) | go_prune))))
  apply w7v 7 (Rl := [(eqv _), (eqv _), (eqv _), (eqv _), (eqv _), (eqv _), (fun v_ w_ => ∃ d, v_ = .pointer (some ⟨d, 0, none⟩) ∧ CanAt w_ d (withL C ds))]) (C := (fun x y => Below x.heap.size x y))
  case hm => kernel_rfl
  case hk => rfl
  case hCr => exact (fun _ => B7 _ _)
  case hCt => intro _ _ _; exact (fun h k => g7t h k)
  case hst => exact ⟨fun _ _ _ _ h => h, fun _ _ _ _ h => h, fun _ _ _ _ h => h, fun _ _ _ _ h => h, fun _ _ _ _ h => h, fun _ _ _ _ h => h, fun _ _ _ hC ⟨d, e, h⟩ => ⟨d, e, h.below hC⟩, trivial⟩
  case hfo => kernel_rfl
  case ht => kernel_rfl
  case hC0 => exact (g7d _)
  case hsteps =>
   refine ⟨?_, ?_, ?_, ?_, ?_, ?_, ?_, trivial⟩
   · intro a' w' hA hC hD; have s0 := hA.to 0 (by kernel_rfl) rfl; clear hA hD; refine o7p rfl ?_; intro K hK; gi_wp2; exact hK _ _ rfl (B7 _ _)
   · intro a' w' hA hC hD; have s0 := hA.to 0 (by kernel_rfl) rfl; clear hA hD; refine o7p rfl ?_; intro K hK; gi_wp2; exact hK _ _ rfl (B7 _ _)
   · intro a' w' hA hC hD; obtain ⟨u26, s26, rfl⟩ := hD ⟨1, .data⟩ (by simp) rfl _ rfl; clear hA hD; refine o7p rfl ?_; intro K hK; gi_wp2; exact hK _ _ rfl (B7 _ _)
   · intro a' w' hA hC hD; obtain ⟨u27, s27, rfl⟩ := hD ⟨2, .data⟩ (by simp) rfl _ rfl; clear hA hD; refine o7p rfl ?_; intro K hK; gi_wp2; exact hK _ _ rfl (B7 _ _)
   · intro a' w' hA hC hD; obtain ⟨u28, s28, rfl⟩ := hD ⟨3, .data⟩ (by simp) rfl _ rfl
     have z0 := c7b (k := 0) (HE.out.below hC).at_ rfl
     clear hA hD; refine o7p rfl ?_; intro K hK; gi_wp2; exact hK _ _ rfl (B7 _ _)
   · intro a' w' hA hC hD; have s6 := hA.to 6 (by kernel_rfl) rfl
     have z0 := c7b (k := 0) (HB6.out.below hC).at_ rfl
     clear hA hD; refine o7p rfl ?_; intro K hK; gi_wp2; exact hK _ _ rfl (B7 _ _)
   · intro a' w' hA hC hD; obtain ⟨u29, s29, rfl⟩ := hD ⟨4, .data⟩ (by simp) rfl _ rfl; obtain ⟨u30, s30, rfl⟩ := hD ⟨5, .data⟩ (by simp) rfl _ rfl; clear hA hD; refine o7p rfl ?_; intro K hK; gi_wp2
     refine (callsIn_wide.2 (canWith_any C p ad nd cp ds HDD.out.2.2 HDD.out.2.1 HDD.out.1 _ (HCC.out.below hC) (HEL.out.below hC))).mono ?_; rintro e w5 ⟨d, rfl, h1, h2, h3⟩; exact hK _ _ ⟨d, rfl, h1⟩ h3
  case hend =>
   intro V2 hC
   simp only [EndFrom, eqv, forall_eq, Act.put, List.length_cons, List.length_nil, List.drop_succ_cons, List.drop_zero, Nat.reduceAdd, List.setIfInBounds_toArray, List.set_cons_succ, List.set_cons_zero]
   rintro v6 ⟨d, rfl, hd⟩
   have HE := H7 (HE.out.below hC)
   have HK := H7 (HK.out.below hC)
   have HI := H7 (HI.out.below hC)
   have HCC := H7 (HCC.out.below hC)
   have HD2 := H7 hd
   clear hC hd
   have f0 := f7b HE.out.at_
   have k0 := c7b (k := 0) HE.out.at_ rfl
   gi_wp2; clear f0 k0
   have hED : E ≠ D := by
    intro e
    have h1 := HE.out.at_
    rw [e, HK.out.at_] at h1
    cases h1
   have hK5 := h7o (k := 0) HK.out.at_ hED (.pointer (some ⟨d, 0, none⟩))
   have hE5 := h7s (k := 0) HE.out.at_ (.pointer (some ⟨d, 0, none⟩))
   have hT5 : Turned (fun k => k = E) w (V2.setCell ⟨E, 0, none⟩ (.pointer (some ⟨d, 0, none⟩))) := ((Turned.refl (fun k => k = E) w).belowT HI.out.low).setNew E 0 (.inr rfl) _
   have hC5 : CanAt (V2.setCell ⟨E, 0, none⟩ (.pointer (some ⟨d, 0, none⟩))) d (withL C ds) := HD2.out.turnedOne ((Turned.refl (fun k => k = E) V2).setNew E 0 (.inr rfl) _) HE.out.at_ (fun q cs e hq => by
    cases e
    obtain ⟨-, b, cap, qs, h1, -⟩ := HCC.out
    rw [h1] at hq
    simp at hq)
   change bodyPostM Fence.wide 10 _ _ _ .ret _ _
   refine ret_marked (v := .tuple #[]) rfl hK5 (results_none rfl _ _ _) ⟨(hT5.trans (Turned.of_grown (grownBy_putObj' _ D _))).mono (fun k hk hs => ?_), fun _ => ⟨rfl, d, ?_, ?_⟩, fun h => absurd rfl h⟩
   · rcases hs with hs | hs
     · exact hs
     · cases hs; have := HD.out; omega
   · exact (World.putObj_heap_other hED).trans hE5
   · rw [HPC.out]; exact hC5.putObj hK5 rfl _
end Go.Proofs.YthcdkkmjnglmjaaGreatDoor
/- Layer 3: a colour over another one, plain. -/
namespace Go.Proofs.YthcdkkmjnglmjaaGreatDoor
open Go.RowKit Go.Shelf
/-- What is left of two numbers, by how much of the second there is. -/
def shI (x y p : Int) : Int := (x * (255 - p) + y * p + 127) / 255
theorem sh_parts {x p : Int} (hx : 0 ≤ x ∧ x < 256) (hp : 0 ≤ p ∧ p < 256) : 0 ≤ x * (255 - p) ∧ x * (255 - p) ≤ 255 * (255 - p) ∧ 0 ≤ x * p ∧ x * p ≤ 255 * p :=
 ⟨Int.mul_nonneg hx.1 (by omega), Int.mul_le_mul_of_nonneg_right (by omega) (by omega), Int.mul_nonneg hx.1 hp.1, Int.mul_le_mul_of_nonneg_right (by omega) hp.1⟩
theorem sh_sum {x y p : Int} (hx : 0 ≤ x ∧ x < 256) (hy : 0 ≤ y ∧ y < 256) (hp : 0 ≤ p ∧ p < 256) : 0 ≤ x * (255 - p) ∧ x * (255 - p) ≤ 65025 ∧ 0 ≤ y * p ∧ y * p ≤ 65025 ∧ x * (255 - p) + y * p ≤ 65025 := by
 have h1 := sh_parts hx hp
 have h2 := sh_parts hy hp
 omega
theorem shI_ok {x y p : Int} (hx : 0 ≤ x ∧ x < 256) (hy : 0 ≤ y ∧ y < 256) (hp : 0 ≤ p ∧ p < 256) : 0 ≤ shI x y p ∧ shI x y p < 256 := by
 have h := sh_sum hx hy hp
 unfold shI
 omega
/-- A colour over another one. -/
def overC (u o : ColT) : ColT := ⟨shI u.r o.r o.a, shI u.g o.g o.a, shI u.b o.b o.a, o.a + shI u.a 0 o.a⟩
theorem over_a {x p : Int} (hx : 0 ≤ x ∧ x < 256) (hp : 0 ≤ p ∧ p < 256) : 0 ≤ p + shI x 0 p ∧ p + shI x 0 p < 256 := by
 have h := sh_parts hx hp
 unfold shI
 rw [Int.zero_mul]
 omega
theorem overC_ok {u o : ColT} (hu : okC u) (ho : okC o) : okC (overC u o) :=
 ⟨⟨shI_ok hu.1.1 ho.1.1 ho.2.2, shI_ok hu.1.2 ho.1.2 ho.2.2⟩, shI_ok hu.2.1 ho.2.1 ho.2.2, over_a hu.2.2 ho.2.2⟩
end Go.Proofs.YthcdkkmjnglmjaaGreatDoor
/- Layer 3: Over. -/
namespace Go.Proofs.YthcdkkmjnglmjaaGreatDoor
open Go.RowKit Go.Shelf
attribute [local go_sem] Oper.semAt_some
def overI (c d : ColT) (al : Int) (k : Nat) : Int := shI (partC c k) (partC d k) al
def laidB (f : Nat → Int) (pre : List (Fin 4)) : Array Value := pre.foldl (fun c x => c.setIfInBounds x.1 (.int .u8 (f x.1))) #[.int .u8 0, .int .u8 0, .int .u8 0, .int .u8 0]
theorem laidB_push (f : Nat → Int) (pre : List (Fin 4)) (x : Fin 4) : laidB f (pre ++ [x]) = (laidB f pre).setIfInBounds x.1 (.int .u8 (f x.1)) := by unfold laidB; rw [List.foldl_append]; rfl
theorem laidB_size (f : Nat → Int) (pre : List (Fin 4)) : (laidB f pre).size = 4 := by
 unfold laidB
 obtain ⟨a, ha⟩ : ∃ a : Array Value, #[Value.int .u8 0, .int .u8 0, .int .u8 0, .int .u8 0] = a := ⟨_, rfl⟩
 have hs : a.size = 4 := by rw [← ha]; rfl
 rw [ha]
 clear ha
 induction pre generalizing a with
 | nil => exact hs
 | cons x pre ih => exact ih _ (by rw [Array.size_setIfInBounds]; exact hs)
theorem laidB_all (f : Nat → Int) : laidB f (List.finRange 4) = #[.int .u8 (f 0), .int .u8 (f 1), .int .u8 (f 2), .int .u8 (f 3)] := rfl
set_option maxRecDepth 100000 in
theorem share_any (x y p : Int) (hx : 0 ≤ x ∧ x < 256) (hy : 0 ≤ y ∧ y < 256) (hp : 0 ≤ p ∧ p < 256) (w : World) : Calls Tryz.prog 119 #[.int .i64 x, .int .i64 y, .int .i64 p] w (Gives (.int .i64 (shI x y p)) w) := by
 have h := sh_sum hx hy hp
 have hs := shI_ok hx hy hp
 unfold shI at hs ⊢
 obtain ⟨a, ha⟩ : ∃ a, x * (255 - p) = a := ⟨_, rfl⟩
 obtain ⟨b, hb⟩ : ∃ b, y * p = b := ⟨_, rfl⟩
 rw [ha, hb] at h hs ⊢
 have e0 : wrap64 (255 - p) = 255 - p := by unfold wrap64; omega
 have e1 : wrap64 (x * (255 - p)) = a := by rw [ha]; unfold wrap64; omega
 have e2 : wrap64 (y * p) = b := by rw [hb]; unfold wrap64; omega
 have e3 : wrap64 (a + b) = a + b := by unfold wrap64; omega
 have e4 : wrap64 (a + b + 127) = a + b + 127 := by unfold wrap64; omega
 have e5 : wrap64 ((a + b + 127) / 255) = (a + b + 127) / 255 := by unfold wrap64; omega
 go_enter Tryz.func119, Tryz.ntmps119
 go_wp2
 go_ret
 exact ⟨rfl, B7 _ _⟩
set_option maxRecDepth 100000 in
theorem over1_any (x y : Int) (hx : 0 ≤ x ∧ x < 256) (hy : 0 ≤ y ∧ y < 256) (p : Nat) (al : Int) (hal : 0 ≤ al ∧ al < 256) (w : World) (hp : w.heap[p]? = some (.cells #[.int .i64 al] 3 (0, 0))) : Calls Tryz.prog 118 #[.int .i64 x, .int .i64 y, .pointer (some ⟨p, 0, none⟩)] w (Gives (.int .u8 (shI x y al)) w) := by
 have c0 := c7b (k := 0) hp rfl
 have hs := shI_ok hx hy hal
 have HSH := H7 (share_any x y al hx hy hal)
 obtain ⟨v, hv⟩ : ∃ v, shI x y al = v := ⟨_, rfl⟩
 rw [hv] at hs HSH ⊢
 clear hv hp hx hy hal
 go_enter Tryz.func118, Tryz.ntmps118
 go_wp2_with fail
 refine (HSH.out _).mono ?_
 rintro e w2 ⟨rfl, hb⟩
 have HB := H7 hb
 clear hb c0
 go_wp2_with fail
 go_ret
 exact ⟨rfl, HB.out⟩
set_option maxRecDepth 100000 in
set_option maxHeartbeats 4000000 in
theorem bothB_any (c d : ColT) (hc : okC c) (hd : okC d) (p : Nat) (al : Int) (hal : 0 ≤ al ∧ al < 256) (w : World) (hp : w.heap[p]? = some (.cells #[.int .i64 al] 3 (0, 0))) : Calls Tryz.prog 117 #[c.val, d.val, .func (.func 118) #[] #[.pointer (some ⟨p, 0, none⟩)]] w
 (Gives (.agg #[.int .u8 (overI c d al 0), .int .u8 (overI c d al 1), .int .u8 (overI c d al 2), .int .u8 (overI c d al 3)]) w) := by
 have HO := H7 (And.intro hc hd)
 have HAL := H7 hal
 have HPP := H7 (BlkA.mk hp)
 clear hc hd hal hp
 have HS := H7 (St.start w)
 unfold ColT.val
 refine (callsIn_wide (n := 10)).1 ?_
 refine callsIn_of_wp_marks Tryz.func117 rfl trivial ?_ rfl
 simp only [Tryz.ntmps117, List.size_toArray, List.length_cons, List.length_nil, Nat.reduceAdd, Nat.reduceSub, Array.replicate_succ, Array.replicate_zero, List.push_toArray, List.append_toArray, List.nil_append, List.cons_append]
 gi_wp2_with fail
 have hs_ := ((((((HS.out.alloc (.cells #[.int .u8 c.r, .int .u8 c.g, .int .u8 c.b, .int .u8 c.a] 34)).alloc (.cells #[.int .u8 d.r, .int .u8 d.g, .int .u8 d.b, .int .u8 d.a] 34)).alloc (.cells #[.func (.func 118) #[] #[.pointer (some ⟨p, 0, none⟩)]] 164)).alloc (.cells #[.int .u8 0, .int .u8 0, .int .u8 0, .int .u8 0] 161)).alloc (.cells #[.int .u8 0, .int .u8 0, .int .u8 0, .int .u8 0] 161)).alloc (.cells #[.int .i64 0, .int .i64 0, .int .i64 0, .int .i64 0] 143))
 obtain ⟨w1, hw_⟩ : ∃ w1 : World, ((((((w.alloc (.cells #[.int .u8 c.r, .int .u8 c.g, .int .u8 c.b, .int .u8 c.a] 34)).alloc (.cells #[.int .u8 d.r, .int .u8 d.g, .int .u8 d.b, .int .u8 d.a] 34)).alloc (.cells #[.func (.func 118) #[] #[.pointer (some ⟨p, 0, none⟩)]] 164)).alloc (.cells #[.int .u8 0, .int .u8 0, .int .u8 0, .int .u8 0] 161)).alloc (.cells #[.int .u8 0, .int .u8 0, .int .u8 0, .int .u8 0] 161)).alloc (.cells #[.int .i64 0, .int .i64 0, .int .i64 0, .int .i64 0] 143)) = w1 := ⟨_, rfl⟩
 rw [hw_] at hs_
 try simp only [World.size_alloc] at hs_
 have HS := H7 hs_
 rw [hw_]
 clear hw_ hs_
 refine (callsIn_wide.2 (parts_any _ _)).mono ?_
 rintro e w' ⟨rfl, rfl⟩
 have hs_ := (HS.out.alloc (.cells #[.int .u8 d.r, .int .u8 d.g, .int .u8 d.b, .int .u8 d.a] 166))
 obtain ⟨w2, hw_⟩ : ∃ w2 : World, (w1.alloc (.cells #[.int .u8 d.r, .int .u8 d.g, .int .u8 d.b, .int .u8 d.a] 166)) = w2 := ⟨_, rfl⟩
 rw [hw_] at hs_
 try simp only [World.size_alloc] at hs_
 have HS := H7 hs_
 rw [hw_]
 clear hw_ hs_
 gi_wp2_with fail
 have hz2 : w1.heap.size < w2.heap.size := HS.out.lt 0 rfl
 refine range_iter (parts_iter w1.heap.size d HO.out.2 w2 (HS.out.blockAt 0 rfl)) (by omega) rfl (enters_of Tryz.func141 (by kernel_rfl) rfl) (by simpa using HS.out.lt 0 rfl) (B7 _ _) (fun _ => rfl)
  (fun x => [(16, .int .i64 (x.1 : Int)), (17, .int .i64 (partC d x.1))]) (fun _ => by simp [partArgs])
  (fun pre W => St w [.blk w1.heap.size (.cells #[.int .u8 d.r, .int .u8 d.g, .int .u8 d.b, .int .u8 d.a] 166 (0, 0)), .blk (w.heap.size + 1 + 1 + 1 + 1 + 1) (.cells (laidA (partC d) pre) 143 (0, 0)), .blk (w.heap.size + 1 + 1 + 1 + 1) (.cells (#[.int .u8 0, .int .u8 0, .int .u8 0, .int .u8 0]) 161 (0, 0)), .blk (w.heap.size + 1 + 1 + 1) (.cells #[.int .u8 0, .int .u8 0, .int .u8 0, .int .u8 0] 161 (0, 0)), .blk (w.heap.size + 1 + 1) (.cells #[.func (.func 118) #[] #[.pointer (some ⟨p, 0, none⟩)]] 164 (0, 0)), .blk (w.heap.size + 1) (.cells #[.int .u8 d.r, .int .u8 d.g, .int .u8 d.b, .int .u8 d.a] 34 (0, 0)), .blk w.heap.size (.cells #[.int .u8 c.r, .int .u8 c.g, .int .u8 c.b, .int .u8 c.a] 34 (0, 0))] W)
  (fun _ _ _ => False) (ownFrom_St _ HS.out.size (by intro s b o hb; simp at hb; rcases hb with ⟨_, rfl⟩ | ⟨_, rfl⟩ | ⟨_, rfl⟩ | ⟨_, rfl⟩ | ⟨_, rfl⟩ | ⟨_, rfl⟩ | ⟨_, rfl⟩ <;> rfl)) (fun _ => ownFrom_pure _ _) HS.out
  (fun x => [(9, .int .i64 (x.1 : Int)), (10, .int .i64 (partC d x.1))]) ?assign ?body ?done ?stop
 case assign =>
  intro l x W K hK
  have HK := H7 hK
  clear hK
  unfold loopAct at *
  gi_wp2
  exact HK.out
 case body =>
  intro l pre x W hI hlt
  have HI := H7 hI
  have hx := x.2
  obtain ⟨v0, hv0⟩ : ∃ v0, (laidA (partC d) pre)[x.1]? = some v0 := ⟨_, Array.getElem?_eq_getElem (by rw [laidA_size]; exact hx)⟩
  have c1 := c7b (hI.blockAt 1 rfl) hv0
  have f1 := f7b (hI.blockAt 1 rfl) x.1
  clear hI
  simp only [loopAct, List.foldl, List.cons_append, List.nil_append, List.setIfInBounds_toArray, List.set_cons_succ, List.set_cons_zero]
  gi_wp2
  refine ⟨KeepsOthers.setCell W _ _, ?_, ?_⟩
  · intro b hb
    rw [List.mem_singleton.1 hb]
    exact heap_setCell_other _ _ _ _ (by have := HI.out.ord; simp [ItOrd, It.top] at this; simp; omega)
  · change St w _ _
    rw [laidA_push]
    exact HI.out.putAt (pre := [_]) (by intro i hi; simp at hi; exact ⟨_, _, hi⟩) x.1 _ rfl
 case done =>
  intro D1 W3 hD1 hI hK1
  rw [laidA_all] at hI
  have HS := H7 hI
  have HK1 := H7 (And.intro hD1 hK1)
  have a0 := h7c HS 6 0 rfl rfl
  have a1 := h7c HS 6 1 rfl rfl
  have a2 := h7c HS 6 2 rfl rfl
  have a3 := h7c HS 6 3 rfl rfl
  clear hI hK1 hD1
  gi_wp2_with fail
  refine (callsIn_wide.2 (parts_any _ _)).mono ?_
  rintro e w' ⟨rfl, rfl⟩
  have HS := H7 (HS.out.alloc (.cells #[.int .u8 c.r, .int .u8 c.g, .int .u8 c.b, .int .u8 c.a] 166))
  have HM := H7 (heap_alloc_keeps HK1.out.2 (.cells #[.int .u8 c.r, .int .u8 c.g, .int .u8 c.b, .int .u8 c.a] 166))
  have hD1 : D1 < W3.heap.size := b7t HK1.out.2
  obtain ⟨w3, hw3⟩ : ∃ w3, W3.alloc (.cells #[.int .u8 c.r, .int .u8 c.g, .int .u8 c.b, .int .u8 c.a] 166) = w3 := ⟨_, rfl⟩
  rw [hw3] at HS HM ⊢
  have hz3 : W3.heap.size < w3.heap.size := HS.out.lt 0 rfl
  clear a0 a1 a2 a3 hw3
  gi_wp2_with fail
  refine range_iter (parts_iter W3.heap.size c HO.out.1 w3 (HS.out.blockAt 0 rfl)) (by omega) rfl (enters_of Tryz.func141 (by kernel_rfl) rfl) (by simpa using hz3) (B7 _ _) (fun _ => rfl)
   (fun x => [(24, .int .i64 (x.1 : Int)), (25, .int .i64 (partC c x.1))]) (fun _ => by simp [partArgs])
   (fun pre W => St w [.blk W3.heap.size (.cells #[.int .u8 c.r, .int .u8 c.g, .int .u8 c.b, .int .u8 c.a] 166 (0, 0)), .blk w1.heap.size (.cells #[.int .u8 d.r, .int .u8 d.g, .int .u8 d.b, .int .u8 d.a] 166 (0, 0)), .blk (w.heap.size + 1 + 1 + 1 + 1 + 1) (.cells (#[.int .i64 (partC d 0), .int .i64 (partC d 1), .int .i64 (partC d 2), .int .i64 (partC d 3)]) 143 (0, 0)), .blk (w.heap.size + 1 + 1 + 1 + 1) (.cells (laidB (overI c d al) pre) 161 (0, 0)), .blk (w.heap.size + 1 + 1 + 1) (.cells #[.int .u8 0, .int .u8 0, .int .u8 0, .int .u8 0] 161 (0, 0)), .blk (w.heap.size + 1 + 1) (.cells #[.func (.func 118) #[] #[.pointer (some ⟨p, 0, none⟩)]] 164 (0, 0)), .blk (w.heap.size + 1) (.cells #[.int .u8 d.r, .int .u8 d.g, .int .u8 d.b, .int .u8 d.a] 34 (0, 0)), .blk w.heap.size (.cells #[.int .u8 c.r, .int .u8 c.g, .int .u8 c.b, .int .u8 c.a] 34 (0, 0))] W ∧ W.heap[D1]? = some (.deferred (some [])))
   (fun _ _ _ => False) (OwnFrom.and (ownFrom_St _ HS.out.size (by intro s b o hb; simp at hb; rcases hb with ⟨_, rfl⟩ | ⟨_, rfl⟩ | ⟨_, rfl⟩ | ⟨_, rfl⟩ | ⟨_, rfl⟩ | ⟨_, rfl⟩ | ⟨_, rfl⟩ | ⟨_, rfl⟩ <;> rfl)) (ownFrom_blk (by omega))) (fun _ => ownFrom_pure _ _) ⟨HS.out, HM.out⟩
   (fun x => [(11, .int .i64 (x.1 : Int)), (12, .int .i64 (partC c x.1))]) ?assign2 ?body2 ?done2 ?stop2
  case assign2 =>
   intro l x W K hK
   have HK := H7 hK
   clear hK
   unfold loopAct at *
   gi_wp2
   exact HK.out
  case body2 =>
   rintro l pre x W ⟨hI, hm⟩ hlt
   have HS := H7 hI
   have HM := H7 hm
   have HX := H7 x.2
   have HPC := H7 (part_ok HO.out.1 x.1)
   have HPD := H7 (part_ok HO.out.2 x.1)
   obtain ⟨v0, hv0⟩ : ∃ v0, (laidB (overI c d al) pre)[x.1]? = some v0 := ⟨_, Array.getElem?_eq_getElem (by rw [laidB_size]; exact x.2)⟩
   have HV := H7 hv0
   clear hI hv0 hm
   simp only [loopAct, List.foldl, List.cons_append, List.nil_append, List.setIfInBounds_toArray, List.set_cons_succ, List.set_cons_zero]
   repeat ((fail_if_success (with_reducible refine stop_atI (id := 10) ?_)); (first | go_values | gi_guarded | gi_step | gi_upon | gi_back | (simp only [Int.not_lt, Int.not_le] at *; go_simp) | (go_values <;> (try go_simp)) | (go_ite <;> go_prune <;> (try go_simp)) | (split <;> (first | (rename_i hx; exact (hx _ rfl).elim) | go_prune))))
   apply w7v 8 (Rl := [(eqv _), (eqv _), (eqv _), (eqv _), (eqv _), (eqv _), (eqv _), (eqv _)]) (C := (fun x y => Below x.heap.size x y))
   case hm => kernel_rfl
   case hk => rfl
   case hCr => exact (fun _ => B7 _ _)
   case hCt => intro _ _ _; exact (fun h k => g7t h k)
   case hst => repeat (first | exact trivial | refine ⟨fun _ _ _ _ h => h, ?_⟩)
   case hfo => kernel_rfl
   case ht => kernel_rfl
   case hC0 => exact (g7d _)
   case hsteps =>
    refine ⟨?_, ?_, ?_, ?_, ?_, ?_, ?_, ?_, trivial⟩
    · intro a' w' hA hC hD; have s11 := hA.to 11 (by kernel_rfl) rfl; clear hA hD; refine o7p rfl ?_; intro K hK; gi_wp2; exact hK _ _ rfl (B7 _ _)
    · intro a' w' hA hC hD; have s5 := hA.to 5 (by kernel_rfl) rfl
      have h1_ := (HS.out.below hC).blockAt 5 rfl; have c1_0 := c7b (k := 0) h1_ rfl; clear h1_
      clear hA hD; refine o7p rfl ?_; intro K hK; gi_wp2; exact hK _ _ rfl (B7 _ _)
    · intro a' w' hA hC hD; have s12 := hA.to 12 (by kernel_rfl) rfl; clear hA hD; refine o7p rfl ?_; intro K hK; gi_wp2; exact hK _ _ rfl (B7 _ _)
    · intro a' w' hA hC hD; have s11 := hA.to 11 (by kernel_rfl) rfl; clear hA hD; refine o7p rfl ?_; intro K hK; gi_wp2; exact hK _ _ rfl (B7 _ _)
    · intro a' w' hA hC hD; have s8 := hA.to 8 (by kernel_rfl) rfl; obtain ⟨u29, s29, rfl⟩ := hD ⟨3, .data⟩ (by simp) rfl _ rfl; clear hA hD; refine o7p rfl ?_; intro K hK; gi_wp2; exact hK _ _ rfl (B7 _ _)
    · intro a' w' hA hC hD; obtain ⟨u30, s30, rfl⟩ := hD ⟨4, .data⟩ (by simp) rfl _ rfl
      have b5 := c7b ((HS.out.below hC).blockAt 2 rfl) (laid4_get (partC d) x)
      clear hA hD; refine o7p rfl ?_; intro K hK; gi_wp2; exact hK _ _ rfl (B7 _ _)
    · intro a' w' hA hC hD; obtain ⟨u27, s27, rfl⟩ := hD ⟨1, .data⟩ (by simp) rfl _ rfl; obtain ⟨u28, s28, rfl⟩ := hD ⟨2, .data⟩ (by simp) rfl _ rfl; obtain ⟨u31, s31, rfl⟩ := hD ⟨5, .data⟩ (by simp) rfl _ rfl; clear hA hD; refine o7p rfl ?_; intro K hK
      gi_wp2_with fail; refine (callsIn_wide.2 (over1_any _ _ HPC.out HPD.out p al HAL.out _ (HPP.out.below (HS.out.below hC).low).at_)).mono ?_; rintro e w2 ⟨rfl, hb⟩
      exact hK _ _ rfl hb
    · intro a' w' hA hC hD; have s7 := hA.to 7 (by kernel_rfl) rfl; obtain ⟨u26, s26, rfl⟩ := hD ⟨0, .data⟩ (by simp) rfl _ rfl; clear hA hD; refine o7p rfl ?_; intro K hK; gi_wp2; exact hK _ _ rfl (B7 _ _)
   case hend =>
    intro w4 hC
    simp only [EndFrom, eqv, forall_eq, Act.put, List.length_cons, List.length_nil, List.drop_succ_cons, List.drop_zero, Nat.reduceAdd, List.setIfInBounds_toArray, List.set_cons_succ, List.set_cons_zero]
    have HC := H7 (And.intro (show KeepsOthers W w4 from ⟨hC.size, fun j o hj _ => (hC.block j (b7t hj)).trans hj⟩) (And.intro ((hC.block W3.heap.size (HS.out.lt 0 rfl)) : w4.heap[W3.heap.size]? = W.heap[W3.heap.size]?) ((hC.block D1 (b7t HM.out)).trans HM.out)))
    have HO4 := H7 (show W3.heap.size ≠ w.heap.size + 1 + 1 + 1 + 1 by have h_ := HS.out.ord; simp [ItOrd, It.top] at h_; omega)
    have HS := H7 (HS.out.below hC)
    have c1 := c7b (HS.out.blockAt 3 rfl) HV.out
    have f1 := f7b (HS.out.blockAt 3 rfl) x.1
    clear hC
    gi_wp2
    refine ⟨HC.out.1.trans (KeepsOthers.setCell _ _ _), ?_, ?_, ?_⟩
    · intro b hb
      rw [List.mem_singleton.1 hb]
      exact (heap_setCell_other _ _ _ _ (by have := HO4.out; simpa using this)).trans HC.out.2.1
    · change St w _ _
      rw [laidB_push]
      exact HS.out.putAt (pre := [_, _, _]) (by intro i hi; simp at hi; rcases hi with rfl | rfl | rfl <;> exact ⟨_, _, rfl⟩) x.1 _ rfl
    · exact (heap_setCell_other _ _ _ _ (by intro e; have h1 := HC.out.2.2; have h2 := HS.out.blockAt 3 rfl; rw [e] at h1; simp at h1; rw [h2] at h1; cases h1)).trans HC.out.2.2
  case done2 =>
   rintro D2 W4 hD2 ⟨hI, hm⟩ hK2
   rw [laidB_all] at hI
   have HS := H7 hI
   have HD := H7 (And.intro hm (And.intro hK2 hD2))
   have HDN := H7 (show D1 < w3.heap.size ∧ w.heap.size ≤ D1 by have h1 := b7t HM.out; exact ⟨h1, Nat.le_trans (by have h_ := HS.out.ord; simp [ItOrd, It.top] at h_; omega) HK1.out.1⟩)
   clear hI hm hK2 hD2
   have a0 := h7c HS 3 0 rfl rfl
   have a1 := h7c HS 3 1 rfl rfl
   have a2 := h7c HS 3 2 rfl rfl
   have a3 := h7c HS 3 3 rfl rfl
   have b0 := h7c HS 4 0 rfl rfl
   have b1 := h7c HS 4 1 rfl rfl
   have b2 := h7c HS 4 2 rfl rfl
   have b3 := h7c HS 4 3 rfl rfl
   have fz := f7b (HS.out.blockAt 4 rfl)
   gi_wp2
   clear a0 a1 a2 a3 b0 b1 b2 b3 fz
   have H5 := (((HS.out.putAt (pre := [_, _, _, _]) (by intro i hi; simp at hi; rcases hi with rfl | rfl | rfl | rfl <;> exact ⟨_, _, rfl⟩) 0 (.int .u8 (overI c d al 0)) rfl).putAt (pre := [_, _, _, _]) (by intro i hi; simp at hi; rcases hi with rfl | rfl | rfl | rfl <;> exact ⟨_, _, rfl⟩) 1 (.int .u8 (overI c d al 1)) rfl).putAt (pre := [_, _, _, _]) (by intro i hi; simp at hi; rcases hi with rfl | rfl | rfl | rfl <;> exact ⟨_, _, rfl⟩) 2 (.int .u8 (overI c d al 2)) rfl).putAt (pre := [_, _, _, _]) (by intro i hi; simp at hi; rcases hi with rfl | rfl | rfl | rfl <;> exact ⟨_, _, rfl⟩) 3 (.int .u8 (overI c d al 3)) rfl
   have hk := (((KeepsOthers.setCell W4 ⟨w.heap.size + 1 + 1 + 1, 0, none⟩ (.int .u8 (overI c d al 0))).trans (KeepsOthers.setCell _ ⟨w.heap.size + 1 + 1 + 1, 1, none⟩ (.int .u8 (overI c d al 1)))).trans (KeepsOthers.setCell _ ⟨w.heap.size + 1 + 1 + 1, 2, none⟩ (.int .u8 (overI c d al 2)))).trans (KeepsOthers.setCell _ ⟨w.heap.size + 1 + 1 + 1, 3, none⟩ (.int .u8 (overI c d al 3)))
   generalize (((W4.setCell ⟨w.heap.size + 1 + 1 + 1, 0, none⟩ (.int .u8 (overI c d al 0))).setCell ⟨w.heap.size + 1 + 1 + 1, 1, none⟩ (.int .u8 (overI c d al 1))).setCell ⟨w.heap.size + 1 + 1 + 1, 2, none⟩ (.int .u8 (overI c d al 2))).setCell ⟨w.heap.size + 1 + 1 + 1, 3, none⟩ (.int .u8 (overI c d al 3)) = W5 at H5 hk ⊢
   have hm1 := hk.same D1 _ HD.out.1 rfl
   have hm2 := hk.same D2 _ HD.out.2.1 rfl
   have hb5 := H5.blockAt 4 rfl
   have hn : w.heap.size + 1 + 1 + 1 ∉ [D2, D1] := fun hm => by
    rcases List.mem_cons.1 hm with e | hm
    · rw [← e, hb5] at hm2; cases hm2
    · rw [← List.mem_singleton.1 hm, hb5] at hm1; cases hm1
   refine ret_marks (lo := w.heap.size) (Ds := [D2, D1]) (v := .agg #[.int .u8 (overI c d al 0), .int .u8 (overI c d al 1), .int .u8 (overI c d al 2), .int .u8 (overI c d al 3)]) rfl ⟨by have := HDN.out; have := HD.out.2.2; simp; omega, fun D hD => ?_⟩ (fun W' ht => ⟨?_, rfl, H5.low.trans (ht.below H5.low.size fun k hk => ?_)⟩)
   · rcases List.mem_cons.1 hD with rfl | hD
     · exact ⟨by have := HDN.out; have := HD.out.2.2; omega, hm2⟩
     · rw [List.mem_singleton.1 hD]; exact ⟨HDN.out.2, hm1⟩
   · have hb' := (ht.block _ (b7t hb5) hn).trans hb5
     have a0 := c7b (k := 0) hb' rfl
     have a1 := c7b (k := 1) hb' rfl
     have a2 := c7b (k := 2) hb' rfl
     have a3 := c7b (k := 3) hb' rfl
     simp [results, Tryz.results117, go_sem, a0, a1, a2, a3]
   · have := HDN.out; have := HD.out.2.2
     rcases List.mem_cons.1 hk with rfl | hk
     · omega
     · rw [List.mem_singleton.1 hk]; omega
  case stop2 =>
   intro D c pre W _ _ h
   exact h.elim
 case stop =>
  intro D c pre W _ _ h
  exact h.elim
/- Layer 3: Over. -/
set_option maxRecDepth 100000 in
theorem pxof_any (r g b a : Int) (w : World) : Calls Tryz.prog 116 #[.agg #[.int .u8 r, .int .u8 g, .int .u8 b, .int .u8 a]] w (Gives (.agg #[.int .u8 r, .int .u8 g, .int .u8 b, .int .u8 a]) w) := by
 have HS := H7 (St.start w)
 go_enter Tryz.func116, Tryz.ntmps116
 repeat ((fail_if_success (with_reducible refine stop_at (id := 1) ?_)); (first | go_values | go_skip | go_guarded | go_step | go_upon | go_back | (simp only [Int.not_lt, Int.not_le] at *; go_simp) | (go_values <;> (try go_simp)) | (go_ite <;> go_prune <;> (try go_simp)) | (split <;> (first | (rename_i hx; exact (hx _ rfl).elim) | go_prune))))
 have hs_ := ((HS.out.alloc (.cells #[.int .u8 r, .int .u8 g, .int .u8 b, .int .u8 a] 161)).alloc (.cells #[.int .u8 0, .int .u8 0, .int .u8 0, .int .u8 0] 34))
 obtain ⟨w2, hw_⟩ : ∃ w2 : World, ((w.alloc (.cells #[.int .u8 r, .int .u8 g, .int .u8 b, .int .u8 a] 161)).alloc (.cells #[.int .u8 0, .int .u8 0, .int .u8 0, .int .u8 0] 34)) = w2 := ⟨_, rfl⟩
 rw [hw_] at hs_
 try simp only [World.size_alloc] at hs_
 have HS := H7 hs_
 rw [hw_]
 clear hw_ hs_
 have c0 := h7c HS 1 0 rfl rfl
 have c1 := h7c HS 1 1 rfl rfl
 have c2 := h7c HS 1 2 rfl rfl
 have c3 := h7c HS 1 3 rfl rfl
 have f0 := f7b (HS.out.blockAt 0 rfl)
 have k0 := h7c HS 0 0 rfl rfl
 have k1 := h7c HS 0 1 rfl rfl
 have k2 := h7c HS 0 2 rfl rfl
 have k3 := h7c HS 0 3 rfl rfl
 go_wp2_with fail
 refine bodyPost_ret (v := .agg #[.int .u8 r, .int .u8 g, .int .u8 b, .int .u8 a]) (by simp [results, Tryz.results116, go_sem, k0, k1, k2, k3]) rfl ⟨rfl, ?_⟩
 have h0 := HS.out.low
 (repeat (first | exact B7 _ _ | assumption | refine Below.alloc ?_ (by first | omega | (simp; done) | (simp; omega)) _ | refine Below.setCell ?_ (by first | omega | (simp; done) | (simp; omega)) _ | refine Below.drew ?_))
set_option maxRecDepth 100000 in
set_option maxHeartbeats 2000000 in
theorem over_any (u o : ColT) (hu : okC u) (ho : okC o) (w : World) : Calls Tryz.prog 101 #[u.val, o.val] w (Gives (overC u o).val w) := by
 have HO := H7 (And.intro hu ho)
 have HA := H7 (over_a hu.2.2 ho.2.2)
 have HSH := H7 (fun w' => share_any u.a 0 o.a hu.2.2 ⟨by omega, by omega⟩ ho.2.2 w')
 have HB := H7 (fun p w' h => bothB_any u o hu ho p o.a ho.2.2 w' h)
 have HE := H7 (show wrap64 (o.a + shI u.a 0 o.a) = o.a + shI u.a 0 o.a by have := over_a hu.2.2 ho.2.2; unfold wrap64; omega)
 have EA := H7 (show wrap64 o.a = o.a by have := ho.2.2; unfold wrap64; omega)
 have EU := H7 (show wrap64 u.a = u.a by have := hu.2.2; unfold wrap64; omega)
 clear hu ho
 have HS := H7 (St.start w)
 unfold ColT.val at *
 go_enter Tryz.func101, Tryz.ntmps101
 repeat ((fail_if_success (with_reducible refine stop_at (id := 1) ?_)); (first | go_values | go_skip | go_guarded | go_step | go_upon | go_back | (simp only [Int.not_lt, Int.not_le] at *; go_simp) | (go_values <;> (try go_simp)) | (go_ite <;> go_prune <;> (try go_simp)) | (split <;> (first | (rename_i hx; exact (hx _ rfl).elim) | go_prune))))
 have hs_ := (((HS.out.alloc (.cells #[.int .u8 u.r, .int .u8 u.g, .int .u8 u.b, .int .u8 u.a] 34)).alloc (.cells #[.int .u8 o.r, .int .u8 o.g, .int .u8 o.b, .int .u8 o.a] 34)).alloc (.cells #[.int .u8 0, .int .u8 0, .int .u8 0, .int .u8 0] 34))
 obtain ⟨w2, hw_⟩ : ∃ w2 : World, (((w.alloc (.cells #[.int .u8 u.r, .int .u8 u.g, .int .u8 u.b, .int .u8 u.a] 34)).alloc (.cells #[.int .u8 o.r, .int .u8 o.g, .int .u8 o.b, .int .u8 o.a] 34)).alloc (.cells #[.int .u8 0, .int .u8 0, .int .u8 0, .int .u8 0] 34)) = w2 := ⟨_, rfl⟩
 rw [hw_] at hs_
 try simp only [World.size_alloc] at hs_
 have HS := H7 hs_
 rw [hw_]
 clear hw_ hs_
 have c3 := h7c HS 1 3 rfl rfl
 repeat ((fail_if_success (with_reducible refine stop_at (id := 2) ?_)); (first | go_values | go_skip | go_guarded | go_step | go_upon | go_back | (simp only [Int.not_lt, Int.not_le] at *; go_simp) | (go_values <;> (try go_simp)) | (go_ite <;> go_prune <;> (try go_simp)) | (split <;> (first | (rename_i hx; exact (hx _ rfl).elim) | go_prune))))
 clear c3
 rw [EA.out]
 have hs_ := (HS.out.alloc (.cells #[.int .i64 o.a] 3))
 obtain ⟨w3, hw_⟩ : ∃ w3 : World, (w2.alloc (.cells #[.int .i64 o.a] 3)) = w3 := ⟨_, rfl⟩
 rw [hw_] at hs_
 try simp only [World.size_alloc] at hs_
 have HS := H7 hs_
 rw [hw_]
 clear hw_ hs_
 have a0 := h7c HS 3 0 rfl rfl
 have a1 := h7c HS 3 1 rfl rfl
 have a2 := h7c HS 3 2 rfl rfl
 have a3 := h7c HS 3 3 rfl rfl
 have b0 := h7c HS 2 0 rfl rfl
 have b1 := h7c HS 2 1 rfl rfl
 have b2 := h7c HS 2 2 rfl rfl
 have b3 := h7c HS 2 3 rfl rfl
 have hmf : ∀ (fn : Fn) (first cap : Array Value) (w : World), (Instr.makeFunc fn first cap).run Tryz.prog w = .ok (.func fn first cap) w := fun _ _ _ _ => rfl
 go_wp2_with fail
 clear a0 a1 a2 a3 b0 b1 b2 b3 hmf
 refine (HB.out _ _ (HS.out.blockAt 0 rfl)).mono ?_
 rintro e w4 ⟨rfl, hb_⟩
 have HS := H7 (HS.out.below hb_)
 clear hb_
 go_wp2_with fail
 refine (pxof_any _ _ _ _ _).mono ?_
 rintro e w5 ⟨rfl, hb_⟩
 have HS := H7 (HS.out.below hb_)
 clear hb_
 repeat ((fail_if_success (with_reducible refine stop_at (id := 3) ?_)); (first | go_values | go_skip | go_guarded | go_step | go_upon | go_back | (simp only [Int.not_lt, Int.not_le] at *; go_simp) | (go_values <;> (try go_simp)) | (go_ite <;> go_prune <;> (try go_simp)) | (split <;> (first | (rename_i hx; exact (hx _ rfl).elim) | go_prune))))
 have hs_ := (HS.out.alloc (.cells #[.int .u8 (overI u o o.a 0), .int .u8 (overI u o o.a 1), .int .u8 (overI u o o.a 2), .int .u8 (overI u o o.a 3)] 166))
 obtain ⟨w6, hw_⟩ : ∃ w6 : World, (w5.alloc (.cells #[.int .u8 (overI u o o.a 0), .int .u8 (overI u o o.a 1), .int .u8 (overI u o o.a 2), .int .u8 (overI u o o.a 3)] 166)) = w6 := ⟨_, rfl⟩
 rw [hw_] at hs_
 try simp only [World.size_alloc] at hs_
 have HS := H7 hs_
 rw [hw_]
 clear hw_ hs_
 refine (wpIn_wide (n := 0)).1 ?_
 apply w7v 8 (Rl := [(eqv _), (eqv _), (eqv _), (eqv _), (eqv _), (eqv _), (eqv _), (eqv _)]) (C := (fun x y => Below x.heap.size x y))
 case hm => kernel_rfl
 case hk => rfl
 case hCr => exact (fun _ => B7 _ _)
 case hCt => intro _ _ _; exact (fun h k => g7t h k)
 case hst => repeat (first | exact trivial | refine ⟨fun _ _ _ _ h => h, ?_⟩)
 case hfo => kernel_rfl
 case ht => kernel_rfl
 case hC0 => exact (g7d _)
 case hsteps =>
  refine ⟨?_, ?_, ?_, ?_, ?_, ?_, ?_, ?_, trivial⟩
  · intro a' w' hA hC hD; have s5 := hA.to 5 (by kernel_rfl) rfl
    have b5 := c7b (k := 0) ((HS.out.below hC).blockAt 1 rfl) rfl
    clear hA hD; refine o7p rfl ?_; intro K hK; gi_wp2; exact hK _ _ rfl (B7 _ _)
  · intro a' w' hA hC hD; have s2 := hA.to 2 (by kernel_rfl) rfl; clear hA hD; refine o7p rfl ?_; intro K hK; gi_wp2; exact hK _ _ rfl (B7 _ _)
  · intro a' w' hA hC hD; obtain ⟨u17, s17, rfl⟩ := hD ⟨1, .data⟩ (by simp) rfl _ rfl
    have b5 := c7b (k := 3) ((HS.out.below hC).blockAt 4 rfl) rfl
    clear hA hD; refine o7p rfl ?_; intro K hK; gi_wp2; exact hK _ _ rfl (B7 _ _)
  · intro a' w' hA hC hD; obtain ⟨u18, s18, rfl⟩ := hD ⟨2, .data⟩ (by simp) rfl _ rfl; clear hA hD; refine o7p rfl ?_; intro K hK; gi_wp2; rw [EU.out]; exact hK _ _ rfl (B7 _ _)
  · intro a' w' hA hC hD; have s5 := hA.to 5 (by kernel_rfl) rfl
    have b5 := c7b (k := 0) ((HS.out.below hC).blockAt 1 rfl) rfl
    clear hA hD; refine o7p rfl ?_; intro K hK; gi_wp2; exact hK _ _ rfl (B7 _ _)
  · intro a' w' hA hC hD; obtain ⟨u19, s19, rfl⟩ := hD ⟨3, .data⟩ (by simp) rfl _ rfl; obtain ⟨u20, s20, rfl⟩ := hD ⟨4, .data⟩ (by simp) rfl _ rfl; clear hA hD; refine o7p rfl ?_; intro K hK
    gi_wp2_with fail; refine (callsIn_wide.2 (HSH.out _)).mono ?_; rintro e w2 ⟨rfl, hb⟩
    exact hK _ _ rfl hb
  · intro a' w' hA hC hD; obtain ⟨u16, s16, rfl⟩ := hD ⟨0, .data⟩ (by simp) rfl _ rfl; obtain ⟨u21, s21, rfl⟩ := hD ⟨5, .data⟩ (by simp) rfl _ rfl; clear hA hD; refine o7p rfl ?_; intro K hK; gi_wp2; rw [HE.out]; exact hK _ _ rfl (B7 _ _)
  · intro a' w' hA hC hD; obtain ⟨u22, s22, rfl⟩ := hD ⟨6, .data⟩ (by simp) rfl _ rfl; clear hA hD; refine o7p rfl ?_; intro K hK; gi_wp2; exact hK _ _ rfl (B7 _ _)
 case hend =>
  intro w7 hC
  simp only [EndFrom, eqv, forall_eq, Act.put, List.length_cons, List.length_nil, List.drop_succ_cons, List.drop_zero, Nat.reduceAdd, List.setIfInBounds_toArray, List.set_cons_succ, List.set_cons_zero]
  have HS := H7 (HS.out.below hC)
  clear hC
  have em : (o.a + shI u.a 0 o.a) % 256 = o.a + shI u.a 0 o.a := by have := HA.out; omega
  have c3 := h7c HS 0 3 rfl rfl
  have f0 := f7b (HS.out.blockAt 0 rfl)
  gi_wp2
  clear c3 f0
  rw [em]
  clear em
  have H5 := HS.out.putAt (pre := []) (by intro i hi; simp at hi) 3 (.int .u8 (o.a + shI u.a 0 o.a)) rfl
  obtain ⟨w8, hw8⟩ : ∃ w8, w7.setCell ⟨w5.heap.size, 3, none⟩ (.int .u8 (o.a + shI u.a 0 o.a)) = w8 := ⟨_, rfl⟩
  rw [hw8] at H5 ⊢
  have HS := H7 H5
  clear H5 hw8
  have c0 := h7c HS 0 0 rfl rfl
  have c1 := h7c HS 0 1 rfl rfl
  have c2 := h7c HS 0 2 rfl rfl
  have c3 := h7c HS 0 3 rfl rfl
  have g0 := f7b (HS.out.blockAt 2 rfl)
  have k0 := h7c HS 2 0 rfl rfl
  have k1 := h7c HS 2 1 rfl rfl
  have k2 := h7c HS 2 2 rfl rfl
  have k3 := h7c HS 2 3 rfl rfl
  go_wp2_with fail
  refine bodyPost_ret (v := .agg #[.int .u8 (overI u o o.a 0), .int .u8 (overI u o o.a 1), .int .u8 (overI u o o.a 2), .int .u8 (o.a + shI u.a 0 o.a)]) (by simp [results, Tryz.results101, go_sem, k0, k1, k2, k3]) rfl ⟨rfl, ?_⟩
  have h0 := HS.out.low
  (repeat (first | exact B7 _ _ | assumption | refine Below.alloc ?_ (by first | omega | (simp; done) | (simp; omega)) _ | refine Below.setCell ?_ (by first | omega | (simp; done) | (simp; omega)) _ | refine Below.drew ?_))
end Go.Proofs.YthcdkkmjnglmjaaGreatDoor
