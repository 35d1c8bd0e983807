/- Merged texts: DrB OverL Over OverB DrC DrD DrE DrF DrG DrH DrI DrJ DrK. -/
import Derived.Test.YtgdcfkbimkclaaaGreatDoorM14
import Derived.Test.YtgdcfkbimkclaaaGreatDoorM15
import Derived.Test.YtgdcfkbimkclaaaGreatDoorM2
import Derived.Test.YtgdcfkbimkclaaaGreatDoorM13
import Derived.Test.YtgdcfkbimkclaaaGreatDoorM10
import Derived.Test.YtgdcfkbimkclaaaGreatDoorM11
set_option linter.unusedSimpArgs false
set_option linter.unusedVariables false
/- Package draw: draws. -/
namespace Go.Proofs.YtgdcfkbimkclaaaGreatDoor
open Go.RowKit Go.Shelf
attribute [local go_sem] Oper.semAt_some
section
variable {α : Type} {w0 x y : World} {its : List It} {base : Nat} {e : TypeId} {k : Nat} {enc : α → List Value} {v : Value} {L : List α} {P : Program} {t : TypeId} {bytes : Nat}
/-- append(row, q), the element's block anywhere. -/
theorem wpListIn_app1s {F : Fence} {N : Nat} {ops : Array Oper} {rest : List Oper} {o : Oper} {a : Act} {Q : Exit → Act → World → Prop} (R : RowT P t e k bytes) (hk : ∀ q, (enc q).length = k) (h1 : ∀ q, ∀ u ∈ enc q, u.oneCell' = true)
 (HO : StO w0 its base e k enc v L x) (hb : Below x.heap.size x y) (q : α) (n : Nat) (hn : L.length = n) (hmax : n < 1000000000) (hby : bytes ≤ 1000)
 (s u : Operand) (hgd : o.guard = none) (ho : o.op = .call { callee := .builtin .append, args := #[s, u], argTypes := #[t, t] })
 (hs : a.eval s = v) (g : Nat) (hu : a.eval u = .slice (some ⟨g, 0, none⟩) 1 1) (hg : y.heap[g]? = some (.cells (enc q).toArray e (0, 0)))
 (h : ∀ v' w', StO w0 its base e k enc v' (L ++ [q]) w' → (∃ ad cap, v' = .slice (some ad) (n + 1) cap) → y.grownBy w' v.ownBlock → (v'.ownBlock = v.ownBlock ∨ ∃ b, v'.ownBlock = some b ∧ y.heap.size ≤ b) → wpListIn F N P ops Q rest (a.put o.dst v') w') :
 wpListIn F N P ops Q (o :: rest) a y := by
 obtain ⟨i, z, hi, hz0, hz1, hz2, hz3⟩ := R.info
 subst hn
 have HY := HO.below hb
 have hbytes : (L.length + 1) * bytes ≤ 140737488355328 := Nat.le_trans (Nat.mul_le_mul (show L.length + 1 ≤ 1000000000 by omega) hby) (by omega)
 refine wpListIn_append_own_at _ hgd s u t ho base e i z k bytes R.un hi hz0 hz1 hz2 hz3 R.pos v L.length _ hs HY.row ⟨g, 0, none⟩ 1 1 (enc q) hu (by rw [hk, Nat.one_mul])
  (fun j x hx => cells_of_block hg j x (by simpa using hx)) (h1 q) (by unfold maxLen; omega) hbytes HY.hi ?_
 intro v' w' hown hgrow _ hloc
 refine h v' w' ⟨HY.st.grown (fun j e => (HY.row.lt j e).1) HY.low HY.top hgrow, ?_, HY.low, HY.top, ?_⟩ ?_ hgrow ?_
 · rw [List.length_append, List.flatMap_append]; simpa using hown
 · have := hgrow.size; have := HY.hi; omega
 · rcases hown.2 with ⟨_, h0⟩ | ⟨g, cap, cur, rfl, _⟩
   · omega
   · exact ⟨_, cap, rfl⟩
 · rcases hloc with h | h
   · exact .inl h
   · exact .inr ⟨_, h, by simp⟩
end
theorem CanAt.putObj {w : World} {d D : Nat} {C : CanT} (h : CanAt w d C) {o : Obj} (hD : w.heap[D]? = some o) (hc : o.isCells = false) (o' : Obj) : CanAt (w.putObj D o') d C := by
 obtain ⟨ok, b, cap, qs, h1, h2, h3, h4, h5⟩ := h
 have key : ∀ {k : Nat} {cs t f}, w.heap[k]? = some (.cells cs t f) → (w.putObj D o').heap[k]? = some (.cells cs t f) := by
  intro k cs t f hk
  refine (World.putObj_heap_other ?_).trans hk
  rintro rfl
  rw [hD] at hk
  cases hk
  cases hc
 refine ⟨ok, b, cap, qs, key h1, h2, h3, fun i q hq => ?_, fun i q T hq hT => key (h5 i q T hq hT)⟩
 exact cell_kept (h4 i q hq) (grownBy_putObj' w D o') (fun r e => by cases e; exact ⟨o, hD, hc⟩)
theorem map_finRange {β : Type} (A : List PtT) (h : PtT → β) : ((List.finRange A.length).map fun x => h A[x.1]) = A.map h := by
 refine List.ext_getElem (by simp) fun i h1 h2 => by simp
theorem nodup_ltD : ∀ (n : Nat) (l : List Nat), l.Nodup → (∀ i ∈ l, i < n) → l.length ≤ n
 | 0, [], _, _ => Nat.le_refl _
 | 0, i :: l, _, h => absurd (h i (by simp)) (Nat.not_lt_zero _)
 | n + 1, l, hl, h => by
  have h1 := nodup_ltD n (l.erase n) (hl.erase n) fun i hi => by
   have h2 := (List.Nodup.mem_erase_iff hl).1 hi
   have h3 := h i h2.2
   have := h2.1
   omega
  rw [List.length_erase] at h1
  split at h1 <;> omega
theorem ptsC_len {C : CanT} (hC : okCan C) {L : List SpT} (hr : rightB L = true) : (ptsC C L).length ≤ 1024 := by
 have hn : (ptsC C L).Nodup := ptsL_nodup ((rightB_iff _).1 (rightB_clip hr _)).rowP
 have hw := hC.wide
 have hh := hC.high
 have h1 : ((ptsC C L).map fun p : PtT => p.y.toNat * 32 + p.x.toNat).Nodup := by
  refine List.pairwise_map.2 ((List.Pairwise.and_mem.1 hn).imp fun {a b} hab e => ?_)
  obtain ⟨ha, hb, hne⟩ := hab
  have h2 := onCan_nat (mem_ptsC.1 ha).2
  have h3 := onCan_nat (mem_ptsC.1 hb).2
  obtain ⟨ax, ay⟩ := a
  obtain ⟨bx, b_y⟩ := b
  simp only [ne_eq, PtT.mk.injEq] at *
  omega
 have h2 := nodup_ltD 1024 _ h1 fun i hi => by
  obtain ⟨a, ha, rfl⟩ := List.mem_map.1 hi
  have h3 := onCan_nat (mem_ptsC.1 ha).2
  omega
 rwa [List.length_map] at h2
set_option maxRecDepth 100000 in
set_option maxHeartbeats 4000000 in
theorem draws_any (g : Nat) (caps : Array Value) (f : ColT → ColT) (hf : ∀ c, okC c → okC (f c)) (hg : ∀ args w, (callFunc g args).run Tryz.prog w = .ok (.enter g args) w) (E p : Nat) (C : CanT) (a : Option Addr) (m cap : Nat) (L : List SpT) (hlen : L.length = m) (hm : m ≤ 1000000) (hr : rightB L = true)
 (w : World) (hE : w.heap[E]? = some (.cells #[.pointer (some ⟨p, 0, none⟩)] 238 (0, 0))) (hC : CanAt w p C) (he : Elems w (.slice a m cap) m 3 (rowC encS L))
 (hcl : ∀ c, okC c → ∀ w', Below w.heap.size w w' → Calls Tryz.prog g (#[c.val] ++ caps) w' (Gives (f c).val w')) :
 Calls Tryz.prog 180 #[.pointer (some ⟨E, 0, none⟩), .slice a m cap, .func (.func g) #[] caps] w (Drew E 0 (paintC C L f) w) := by
 have HS := H7 (St.start w)
 refine (callsIn_wide (n := 10)).1 ?_
 refine callsIn_of_wp_marks Tryz.func180 rfl trivial ?_ rfl
 simp only [Tryz.ntmps180, List.size_toArray, List.length_cons, List.length_nil, Nat.reduceAdd, Nat.reduceSub, Array.replicate_succ, Array.replicate_zero, List.push_toArray, List.append_toArray, List.nil_append, List.cons_append]
 repeat ((fail_if_success (with_reducible refine stop_atI (id := 2) ?_)); (first | go_values | gi_guarded | gi_step | gi_upon | gi_back | (simp only [Int.not_lt, Int.not_le] at *; go_simp) | (go_values <;> (try go_simp)) | (go_ite <;> go_prune <;> (try go_simp)) | (split <;> (first | (rename_i hx; exact (hx _ rfl).elim) | go_prune))))
 have hs_ := ((HS.out.alloc (.cells #[.func (.func g) #[] caps] 240)).alloc (.cells #[.slice none 0 0] 233))
 obtain ⟨w2, hw_⟩ : ∃ w2 : World, ((w.alloc (.cells #[.func (.func g) #[] caps] 240)).alloc (.cells #[.slice none 0 0] 233)) = w2 := ⟨_, rfl⟩
 rw [hw_] at hs_
 try simp only [World.size_alloc] at hs_
 have HS := H7 hs_
 rw [hw_]
 clear hw_ hs_
 gi_wp2_with fail
 refine (callsIn_wide.2 (pixels_cl _ _ _ _ _)).mono ?_
 rintro e w' ⟨rfl, rfl⟩
 have hs_ := ((HS.out.alloc (.cells #[.pointer (some ⟨E, 0, none⟩)] 200)).alloc (.cells #[.slice a m cap] 41))
 obtain ⟨w4, hw_⟩ : ∃ w4 : World, ((w2.alloc (.cells #[.pointer (some ⟨E, 0, none⟩)] 200)).alloc (.cells #[.slice a m cap] 41)) = w4 := ⟨_, rfl⟩
 rw [hw_] at hs_
 try simp only [World.size_alloc] at hs_
 have HS := H7 hs_
 rw [hw_]
 clear hw_ hs_
 gi_wp2_with fail
 have hord : w.heap.size + 1 < w2.heap.size ∧ w2.heap.size + 1 < w4.heap.size := by
  have h_ := HS.out.ord
  have h2 := HS.out.lt 0 rfl
  simp [ItOrd, It.top] at h_
  omega
 have hlow4 := HS.out.low
 have hos : OwnSt (ownBox (w.heap.size + 1) 233) w4.heap.size := ownSt_box (by omega)
 have hbx : BoxS w [.blk w.heap.size (.cells #[.func (.func g) #[] caps] 240 (0, 0))] w4.heap.size (w.heap.size + 1) 233 173 6 encD (.slice none 0 0) [] w4 :=
  ⟨StO.start (HS.out.sub (.cons _ (.cons _ (.cons _ (List.Sublist.refl _))))) _ _ _, HS.out.blockAt 2 rfl, by intro i hi; rw [List.mem_singleton.1 hi]; simp [It.top], by omega, by omega⟩
 have hbsN : ∀ b ∈ w2.heap.size :: List.range w.heap.size, b < w4.heap.size ∧ b ≠ w.heap.size + 1 := by
  intro b hb
  rcases List.mem_cons.1 hb with rfl | hb
  · omega
  · have := List.mem_range.1 hb; omega
 have hwf4 := hbx.wf
 have hX4 : w4.heap[w2.heap.size]? = some (.cells #[.pointer (some ⟨E, 0, none⟩)] 200 (0, 0)) := HS.out.blockAt 1 rfl
 have hL4 : w4.heap[w2.heap.size + 1]? = some (.cells #[.slice a m cap] 41 (0, 0)) := HS.out.blockAt 0 rfl
 have he4 : Elems w4 (.slice a m cap) m 3 (rowC encS L) := he.below hlow4
 obtain ⟨A, hA⟩ : ∃ A, ptsC C L = A := ⟨_, rfl⟩
 have hAl : A.length ≤ 1024 := hA ▸ ptsC_len hC.ok hr
 have hAc : ∀ x : Fin A.length, okC (colP C (A[x.1])) := fun x => onCan_col hC.ok ((mem_ptsC (C := C) (L := L)).1 (by rw [hA]; exact List.getElem_mem _)).2
 have HBX := H7 hbx
 clear HS hbx
 apply with_actIn
 intro a0 ha0
 refine wpIn_range_all (encs := fun x : Fin A.length => #[(A[x.1]).val, (colP C (A[x.1])).val]) rfl (by omega) (by rw [ha0]; rfl) trivial (enters_of Tryz.func214 (by kernel_rfl) rfl) (List.finRange A.length) A.length (fun _ => rfl)
  (KO (ownBox (w.heap.size + 1) 233) (w2.heap.size :: List.range w.heap.size) w4.heap.size) (fun h k => h.trans k) (fun W o o' h hc => KO.putObj hos (Nat.le_refl _) (fun b hb => (hbsN b hb).1) W _ o o' (by omega) h hc)
  (fun pre V => (∃ v, BoxS w [.blk w.heap.size (.cells #[.func (.func g) #[] caps] 240 (0, 0))] w4.heap.size (w.heap.size + 1) 233 173 6 encD v (pre.map fun x : Fin A.length => (⟨(A[x.1]).x, (A[x.1]).y, f (colP C (A[x.1]))⟩ : DotT)) V) ∧ w4.heap.size ≤ V.heap.size)
  (OwnFrom.and (ownFrom_BoxS (its := [.blk w.heap.size (.cells #[.func (.func g) #[] caps] 240 (0, 0))]) _ hlow4.size (fun b o hb => by cases List.mem_singleton.1 hb; rfl)) (ownFrom_size _)) ⟨⟨_, HBX.out⟩, Nat.le_refl _⟩
  (fun x a' V => ∃ p', a' = loopAct a0 [(12, (A[x.1]).val), (13, (colP C (A[x.1])).val), (7, .pointer (some ⟨p', 0, none⟩)), (8, .pointer (some ⟨p' + 1, 0, none⟩))] ∧ w4.heap.size ≤ p' ∧ V.heap[p']? = some (.cells #[.int .i64 (A[x.1]).x, .int .i64 (A[x.1]).y] 69 (0, 0)) ∧ V.heap[p' + 1]? = some (.cells #[.int .u8 (colP C (A[x.1])).r, .int .u8 (colP C (A[x.1])).g, .int .u8 (colP C (A[x.1])).b, .int .u8 (colP C (A[x.1])).a] 26 (0, 0))) ?hAx ?hseq ?assign ?body ?done
 case hAx =>
  rintro x a' s P Y row ⟨p', e, hge, hp, hp2⟩ hg hr
  exact ⟨p', e, hge, (grownBy_keeps_cells hg (fun r e => (hr r e).2) hp rfl).trans hp, (grownBy_keeps_cells hg (fun r e => (hr r e).2) hp2 rfl).trans hp2⟩
 case hseq =>
  intro l J W hb hs hJ hY h0
  have how : ∀ q, ownBox (w.heap.size + 1) 233 W q ↔ ownBox (w.heap.size + 1) 233 w4 q := hos w4 W (fun k hk => hb.block k hk)
  exact pixels1_any (10 - 1) (by omega) (ownBox (w.heap.size + 1) 233) w4.heap.size hos l w2.heap.size (w2.heap.size + 1) E p C a m cap L hlen hm hr w hlow4.size hE hC (w2.heap.size :: List.range w.heap.size)
   (fun k hk => List.mem_cons_of_mem _ (List.mem_range.2 hk)) (by simp) (fun b hb => (hbsN b hb).1) W hs (fun k hk => (hb.block k (by have := hlow4.size; omega)).trans (hlow4.block k hk)) ((hb.block _ (b7t hX4)).trans hX4) ((hb.block _ (b7t hL4)).trans hL4) (he4.below hb)
   (fun q hq => Nat.lt_of_lt_of_le (hwf4 q ((how q).1 hq)) hb.size) A hA J hJ hY h0
 case assign =>
  rintro ly pre x V K ⟨⟨v, hI⟩, hlt5⟩ hK
  have HK := H7 hK
  have HI := H7 hI
  clear hK hI
  rw [ha0] at HK ⊢
  unfold loopAct at HK
  unfold ColT.val at HK ⊢
  simp only [PtT.val, List.foldl, List.setIfInBounds_toArray, List.set_cons_succ, List.set_cons_zero, Array.zip, List.zip_toArray, List.foldl_toArray] at HK ⊢
  gi_wp2
  have hb := ((B7 V.heap.size V).alloc (Nat.le_refl _) (.cells #[.int .i64 (A[x.1]).x, .int .i64 (A[x.1]).y] 69)).alloc (by simp) (.cells #[.int .u8 (colP C (A[x.1])).r, .int .u8 (colP C (A[x.1])).g, .int .u8 (colP C (A[x.1])).b, .int .u8 (colP C (A[x.1])).a] 26)
  exact HK.out _ _ (keepsFrom_below hb) (KO.of_below hos hb hlt5 (fun c hc => Nat.lt_of_lt_of_le (hbsN c hc).1 hlt5)) ⟨⟨v, HI.out.below hb⟩, Nat.le_trans hlt5 hb.size⟩ ⟨V.heap.size, rfl, hlt5, heap_alloc_keeps (World.alloc_heap_new V _) _, by have := World.alloc_heap_new (V.alloc (.cells #[.int .i64 (A[x.1]).x, .int .i64 (A[x.1]).y] 69)) (.cells #[.int .u8 (colP C (A[x.1])).r, .int .u8 (colP C (A[x.1])).g, .int .u8 (colP C (A[x.1])).b, .int .u8 (colP C (A[x.1])).a] 26); rwa [World.size_alloc] at this⟩
 case body =>
  rintro ly pre x a' V ⟨⟨v, hI⟩, hlt5⟩ ⟨p', rfl, hpp, hp, hp2⟩ hlen
  have hok := hAc x
  rw [ha0]
  unfold loopAct
  obtain ⟨q, hq⟩ : ∃ q, A[x.1] = q := ⟨_, rfl⟩
  rw [hq] at hp hp2 hok ⊢
  obtain ⟨cl, hcl2⟩ : ∃ cl, colP C q = cl := ⟨_, rfl⟩
  rw [hcl2] at hp2 hok ⊢
  have HCL := H7 (hcl cl hok)
  have hfo := hf cl hok
  obtain ⟨fc, hfc⟩ : ∃ fc, f cl = fc := ⟨_, rfl⟩
  rw [hfc] at HCL hfo
  obtain ⟨n0, hn0⟩ : ∃ n0, (pre.map fun x : Fin A.length => (⟨(A[x.1]).x, (A[x.1]).y, f (colP C (A[x.1]))⟩ : DotT)).length = n0 := ⟨_, rfl⟩
  have HN0 := H7 (And.intro hn0 (show n0 ≤ 1024 by rw [← hn0, List.length_map]; omega))
  have hsn : ((pre ++ [x]).map fun x : Fin A.length => (⟨(A[x.1]).x, (A[x.1]).y, f (colP C (A[x.1]))⟩ : DotT)) = (pre.map fun x : Fin A.length => (⟨(A[x.1]).x, (A[x.1]).y, f (colP C (A[x.1]))⟩ : DotT)) ++ [⟨q.x, q.y, fc⟩] := by
   rw [List.map_append, List.map_singleton, hq, hcl2, hfc]
  obtain ⟨L0, hL0⟩ : ∃ L0, (pre.map fun x : Fin A.length => (⟨(A[x.1]).x, (A[x.1]).y, f (colP C (A[x.1]))⟩ : DotT)) = L0 := ⟨_, rfl⟩
  rw [hL0] at hI hsn HN0
  rw [hsn]
  obtain ⟨cr, cg, cb, ca⟩ := cl
  obtain ⟨fr, fg, fb, fa⟩ := fc
  obtain ⟨qx, qy⟩ := q
  unfold ColT.val at HCL ⊢
  simp only [PtT.val, List.foldl, List.setIfInBounds_toArray, List.set_cons_succ, List.set_cons_zero] at hp hp2 HCL ⊢
  have HBX := H7 hI
  have HP := H7 (BlkA.mk hp)
  have HP2 := H7 (BlkA.mk hp2)
  have HLV := H7 (LowAt.mk (B7 V.heap.size V))
  clear hI hp hp2 hq hcl2 hfc hsn hL0 hok hn0
  repeat ((fail_if_success (with_reducible refine stop_atI (id := 5) ?_)); (first | go_values | gi_guarded | gi_step | gi_upon | gi_back | (simp only [Int.not_lt, Int.not_le] at *; go_simp) | (go_values <;> (try go_simp)) | (go_ite <;> go_prune <;> (try go_simp)) | (split <;> (first | (rename_i hx; exact (hx _ rfl).elim) | go_prune))))
  apply w7v 10 (Rl := [(eqv _), (eqv _), (eqv _), (eqv _), (eqv _), (eqv _), (eqv _), (eqv _), (eqv _), (fun v_ w_ => ∃ b, v_ = .slice (some ⟨b, 0, none⟩) 1 1 ∧ w_.heap[b]? = some (.cells #[.int .i64 qx, .int .i64 qy, .int .u8 fr, .int .u8 fg, .int .u8 fb, .int .u8 fa] 173 (0, 0)))]) (C := (fun x y => Below x.heap.size x y))
  case hm => kernel_rfl
  case hk => rfl
  case hCr => exact (fun _ => B7 _ _)
  case hCt => intro _ _ _; exact (fun h k => g7t h k)
  case hst => exact ⟨fun _ _ _ _ h => h, fun _ _ _ _ h => h, fun _ _ _ _ h => h, fun _ _ _ _ h => h, fun _ _ _ _ h => h, fun _ _ _ _ h => h, fun _ _ _ _ h => h, fun _ _ _ _ h => h, fun _ _ _ _ h => h, fun _ _ _ hC ⟨b, e, h⟩ => ⟨b, e, (hC.block _ (b7t h)).trans h⟩, trivial⟩
  case hfo => kernel_rfl
  case ht => kernel_rfl
  case hC0 => exact (g7d _)
  case hsteps =>
   refine ⟨?_, ?_, ?_, ?_, ?_, ?_, ?_, ?_, ?_, ?_, trivial⟩
   · intro a' w' hA hC hD; have s6 := hA.to 6 (by kernel_rfl) rfl
     have z0 := c7b (k := 0) (HBX.out.below hC).at_ rfl
     clear hA hD; refine o7p rfl ?_; intro K hK; gi_wp2; exact hK _ _ rfl (B7 _ _)
   · intro a' w' hA hC hD; have s7 := hA.to 7 (by kernel_rfl) rfl; clear hA hD; refine o7p rfl ?_; intro K hK; gi_wp2; exact hK _ _ rfl (B7 _ _)
   · intro a' w' hA hC hD; obtain ⟨u15, s15, rfl⟩ := hD ⟨1, .data⟩ (by simp) rfl _ rfl
     have z0 := c7b (k := 0) (HP.out.below hC).at_ rfl
     clear hA hD; refine o7p rfl ?_; intro K hK; gi_wp2; exact hK _ _ rfl (B7 _ _)
   · intro a' w' hA hC hD; have s7 := hA.to 7 (by kernel_rfl) rfl; clear hA hD; refine o7p rfl ?_; intro K hK; gi_wp2; exact hK _ _ rfl (B7 _ _)
   · intro a' w' hA hC hD; obtain ⟨u17, s17, rfl⟩ := hD ⟨3, .data⟩ (by simp) rfl _ rfl
     have z0 := c7b (k := 1) (HP.out.below hC).at_ rfl
     clear hA hD; refine o7p rfl ?_; intro K hK; gi_wp2; exact hK _ _ rfl (B7 _ _)
   · intro a' w' hA hC hD; have s5 := hA.to 5 (by kernel_rfl) rfl
     have z0 := c7b (k := 0) ((HBX.out.below hC).o.st.blockAt 0 rfl) rfl
     clear hA hD; refine o7p rfl ?_; intro K hK; gi_wp2; exact hK _ _ rfl (B7 _ _)
   · intro a' w' hA hC hD; have s8 := hA.to 8 (by kernel_rfl) rfl
     have z0 := c7b (k := 0) (HP2.out.below hC).at_ rfl; have z1 := c7b (k := 1) (HP2.out.below hC).at_ rfl; have z2 := c7b (k := 2) (HP2.out.below hC).at_ rfl; have z3 := c7b (k := 3) (HP2.out.below hC).at_ rfl
     clear hA hD; refine o7p rfl ?_; intro K hK; gi_wp2; exact hK _ _ rfl (B7 _ _)
   · intro a' w' hA hC hD; obtain ⟨u19, s19, rfl⟩ := hD ⟨5, .data⟩ (by simp) rfl _ rfl; obtain ⟨u20, s20, rfl⟩ := hD ⟨6, .data⟩ (by simp) rfl _ rfl; clear hA hD; refine o7p rfl ?_; intro K hK
     gi_wp2_with fail; refine (callsIn_wide.2 (HCL.out _ (HBX.out.below hC).o.st.low)).mono ?_; rintro e w2 ⟨rfl, hb⟩
     exact hK _ _ rfl hb
   · intro a' w' hA hC hD; obtain ⟨u16, s16, rfl⟩ := hD ⟨2, .data⟩ (by simp) rfl _ rfl; obtain ⟨u18, s18, rfl⟩ := hD ⟨4, .data⟩ (by simp) rfl _ rfl; obtain ⟨u21, s21, rfl⟩ := hD ⟨7, .data⟩ (by simp) rfl _ rfl; clear hA hD; refine o7p rfl ?_; intro K hK; gi_wp2; exact hK _ _ rfl (B7 _ _)
   · intro a' w' hA hC hD; obtain ⟨u22, s22, rfl⟩ := hD ⟨8, .data⟩ (by simp) rfl _ rfl; clear hA hD; refine o7p rfl ?_; intro K hK; gi_wp2; exact hK (.slice (some ⟨w'.heap.size, 0, none⟩) 1 1) _ ⟨w'.heap.size, rfl, World.alloc_heap_new _ _⟩ ((B7 _ _).alloc (Nat.le_refl _) _)
  case hend =>
   intro V2 hC
   simp only [EndFrom, eqv, forall_eq, Act.put, List.length_cons, List.length_nil, List.drop_succ_cons, List.drop_zero, Nat.reduceAdd, List.setIfInBounds_toArray, List.set_cons_succ, List.set_cons_zero]
   rintro v9 ⟨b9, rfl, hb9⟩
   have HBX2 := H7 (HBX.out.below hC)
   have HLV := H7 (HLV.out.below hC)
   clear hC
   refine wpListIn_app1s rowD encD_len encD_one HBX2.out.o (B7 _ _) ⟨qx, qy, ⟨fr, fg, fb, fa⟩⟩ n0 HN0.out.1 (by have := HN0.out.2; omega) (by decide) _ _ rfl rfl rfl b9 rfl hb9 ?_
   intro v' V3 ho3 hsh hg3 hl3
   obtain ⟨ad3, cp3, rfl⟩ := hsh
   have hB3 := (hg3.block _ (b7t HBX2.out.at_) (fun e => HBX2.out.nb e.symm)).trans HBX2.out.at_
   have c3 := c7b (k := 0) hB3 rfl
   have f3 := f7b hB3
   have HO3 := H7 ho3
   have HG3 := H7 hg3
   have HL3 := H7 hl3
   clear ho3 hg3 hl3 hB3 hb9
   gi_wp2
   clear c3 f3
   have hVs : V.heap.size ≤ V2.heap.size := HLV.out.low.size
   refine ⟨(keepsFrom_below HLV.out.low).trans (HBX2.out.keepsFrom (B7 _ _) HG3.out), (KO.of_below hos HLV.out.low hlt5 (fun c hc => Nat.lt_of_lt_of_le (hbsN c hc).1 hlt5)).trans (HBX2.out.ko (B7 _ _) HO3.out HG3.out HL3.out (by omega) (Nat.le_refl _) (by omega) hbsN), ⟨.slice (some ad3) (n0 + 1) cp3, HBX2.out.push (B7 _ _) HO3.out HG3.out⟩, ?_⟩
   rw [World.size_setCell]
   exact Nat.le_trans (Nat.le_trans hlt5 hVs) HG3.out.size
 case done =>
  rintro D V hD ⟨⟨v, hI⟩, -⟩ hK
  rw [map_finRange A (fun p => (⟨p.x, p.y, f (colP C p)⟩ : DotT))] at hI
  have hall : A.map (fun p => (⟨p.x, p.y, f (colP C p)⟩ : DotT)) = dotsF (ptsC C L) (fun p => f (colP C p)) := by rw [hA]; rfl
  have hdc : ∀ d ∈ dotsF (ptsC C L) (fun p => f (colP C p)), okC d.c := dotsF_ok hC.ok L hf
  have hdl : (dotsF (ptsC C L) (fun p => f (colP C p))).length ≤ 1000000 := by rw [← hall, List.length_map]; omega
  have hpc : paintC C L f = withL C (dotsF (ptsC C L) (fun p => f (colP C p))) := rfl
  rw [hall] at hI
  obtain ⟨ds, hds⟩ : ∃ ds, dotsF (ptsC C L) (fun p => f (colP C p)) = ds := ⟨_, rfl⟩
  rw [hds] at hI hdc hdl hpc
  have HPC := H7 hpc
  obtain ⟨nd, hnd⟩ : ∃ nd, ds.length = nd := ⟨_, rfl⟩
  have hel := ownsRow_rows encD_len hI.o.row
  obtain ⟨ad, cp, rfl, -⟩ := hI.o.shape
  rw [hnd] at hel hdl
  have c6 := hI.at_
  rw [hnd] at c6
  have HI := H7 (LowAt.mk hI.o.st.low)
  have HB6 := H7 (BlkA.mk c6)
  have HEL := H7 hel
  have HE := H7 (BlkA.mk ((hI.o.st.low.block E (b7t hE)).trans hE))
  have HCC := H7 (hC.below hI.o.st.low)
  have HK := H7 (BlkA.mk hK)
  have HDD := H7 (And.intro hdc (And.intro hdl hnd))
  have HD := H7 (show w.heap.size ≤ D by omega)
  rw [ha0]
  dsimp only
  clear hI hK hall hD hel c6 hds hdc hdl hnd hpc
  repeat ((fail_if_success (with_reducible refine stop_atI (id := 6) ?_)); (first | go_values | gi_guarded | gi_step | gi_upon | gi_back | (simp only [Int.not_lt, Int.not_le] at *; go_simp) | (go_values <;> (try go_simp)) | (go_ite <;> go_prune <;> (try go_simp)) | (split <;> (first | (rename_i hx; exact (hx _ rfl).elim) | go_prune))))
  apply w7v 7 (Rl := [(eqv _), (eqv _), (eqv _), (eqv _), (eqv _), (eqv _), (fun v_ w_ => ∃ d, v_ = .pointer (some ⟨d, 0, none⟩) ∧ CanAt w_ d (withL C ds))]) (C := (fun x y => Below x.heap.size x y))
  case hm => kernel_rfl
  case hk => rfl
  case hCr => exact (fun _ => B7 _ _)
  case hCt => intro _ _ _; exact (fun h k => g7t h k)
  case hst => exact ⟨fun _ _ _ _ h => h, fun _ _ _ _ h => h, fun _ _ _ _ h => h, fun _ _ _ _ h => h, fun _ _ _ _ h => h, fun _ _ _ _ h => h, fun _ _ _ hC ⟨d, e, h⟩ => ⟨d, e, h.below hC⟩, trivial⟩
  case hfo => kernel_rfl
  case ht => kernel_rfl
  case hC0 => exact (g7d _)
  case hsteps =>
   refine ⟨?_, ?_, ?_, ?_, ?_, ?_, ?_, trivial⟩
   · intro a' w' hA hC hD; have s0 := hA.to 0 (by kernel_rfl) rfl; clear hA hD; refine o7p rfl ?_; intro K hK; gi_wp2; exact hK _ _ rfl (B7 _ _)
   · intro a' w' hA hC hD; have s0 := hA.to 0 (by kernel_rfl) rfl; clear hA hD; refine o7p rfl ?_; intro K hK; gi_wp2; exact hK _ _ rfl (B7 _ _)
   · intro a' w' hA hC hD; obtain ⟨u26, s26, rfl⟩ := hD ⟨1, .data⟩ (by simp) rfl _ rfl; clear hA hD; refine o7p rfl ?_; intro K hK; gi_wp2; exact hK _ _ rfl (B7 _ _)
   · intro a' w' hA hC hD; obtain ⟨u27, s27, rfl⟩ := hD ⟨2, .data⟩ (by simp) rfl _ rfl; clear hA hD; refine o7p rfl ?_; intro K hK; gi_wp2; exact hK _ _ rfl (B7 _ _)
   · intro a' w' hA hC hD; obtain ⟨u28, s28, rfl⟩ := hD ⟨3, .data⟩ (by simp) rfl _ rfl
     have z0 := c7b (k := 0) (HE.out.below hC).at_ rfl
     clear hA hD; refine o7p rfl ?_; intro K hK; gi_wp2; exact hK _ _ rfl (B7 _ _)
   · intro a' w' hA hC hD; have s6 := hA.to 6 (by kernel_rfl) rfl
     have z0 := c7b (k := 0) (HB6.out.below hC).at_ rfl
     clear hA hD; refine o7p rfl ?_; intro K hK; gi_wp2; exact hK _ _ rfl (B7 _ _)
   · intro a' w' hA hC hD; obtain ⟨u29, s29, rfl⟩ := hD ⟨4, .data⟩ (by simp) rfl _ rfl; obtain ⟨u30, s30, rfl⟩ := hD ⟨5, .data⟩ (by simp) rfl _ rfl; clear hA hD; refine o7p rfl ?_; intro K hK; gi_wp2
     refine (callsIn_wide.2 (canWith_any C p ad nd cp ds HDD.out.2.2 HDD.out.2.1 HDD.out.1 _ (HCC.out.below hC) (HEL.out.below hC))).mono ?_; rintro e w5 ⟨d, rfl, h1, h2, h3⟩; exact hK _ _ ⟨d, rfl, h1⟩ h3
  case hend =>
   intro V2 hC
   simp only [EndFrom, eqv, forall_eq, Act.put, List.length_cons, List.length_nil, List.drop_succ_cons, List.drop_zero, Nat.reduceAdd, List.setIfInBounds_toArray, List.set_cons_succ, List.set_cons_zero]
   rintro v6 ⟨d, rfl, hd⟩
   have HE := H7 (HE.out.below hC)
   have HK := H7 (HK.out.below hC)
   have HI := H7 (HI.out.below hC)
   have HCC := H7 (HCC.out.below hC)
   have HD2 := H7 hd
   clear hC hd
   have f0 := f7b HE.out.at_
   have k0 := c7b (k := 0) HE.out.at_ rfl
   gi_wp2; clear f0 k0
   have hED : E ≠ D := by
    intro e
    have h1 := HE.out.at_
    rw [e, HK.out.at_] at h1
    cases h1
   have hK5 := h7o (k := 0) HK.out.at_ hED (.pointer (some ⟨d, 0, none⟩))
   have hE5 := h7s (k := 0) HE.out.at_ (.pointer (some ⟨d, 0, none⟩))
   have hT5 : Turned (fun k => k = E) w (V2.setCell ⟨E, 0, none⟩ (.pointer (some ⟨d, 0, none⟩))) := ((Turned.refl (fun k => k = E) w).belowT HI.out.low).setNew E 0 (.inr rfl) _
   have hC5 : CanAt (V2.setCell ⟨E, 0, none⟩ (.pointer (some ⟨d, 0, none⟩))) d (withL C ds) := HD2.out.turnedOne ((Turned.refl (fun k => k = E) V2).setNew E 0 (.inr rfl) _) HE.out.at_ (fun q cs e hq => by
    cases e
    obtain ⟨-, b, cap, qs, h1, -⟩ := HCC.out
    rw [h1] at hq
    simp at hq)
   change bodyPostM Fence.wide 10 _ _ _ .ret _ _
   refine ret_marked (v := .tuple #[]) rfl hK5 (results_none rfl _ _ _) ⟨(hT5.trans (Turned.of_grown (grownBy_putObj' _ D _))).mono (fun k hk hs => ?_), fun _ => ⟨rfl, d, ?_, ?_⟩, fun h => absurd rfl h⟩
   · rcases hs with hs | hs
     · exact hs
     · cases hs; have := HD.out; omega
   · exact (World.putObj_heap_other hED).trans hE5
   · rw [HPC.out]; exact hC5.putObj hK5 rfl _
end Go.Proofs.YtgdcfkbimkclaaaGreatDoor
/- Layer 3: a colour over another one, plain. -/
namespace Go.Proofs.YtgdcfkbimkclaaaGreatDoor
open Go.RowKit Go.Shelf
end Go.Proofs.YtgdcfkbimkclaaaGreatDoor
/- Layer 3: Over. -/
namespace Go.Proofs.YtgdcfkbimkclaaaGreatDoor
open Go.RowKit Go.Shelf
attribute [local go_sem] Oper.semAt_some
/- Layer 3: Over. -/
/- Package draw: draws of a wrong row; paint and wash. -/
set_option maxRecDepth 100000 in
set_option maxHeartbeats 2000000 in
theorem draws_bad (fv : Value) (hfv : ∃ g caps, fv = .func (.func g) #[] caps) (E p : Nat) (C D : CanT) (a : Option Addr) (m cap : Nat) (L : List SpT) (hlen : L.length = m) (hm : m ≤ 1000000) (hr : rightB L = false)
 (w : World) (hE : w.heap[E]? = some (.cells #[.pointer (some ⟨p, 0, none⟩)] 238 (0, 0))) (hC : CanAt w p C) (he : Elems w (.slice a m cap) m 3 (rowC encS L)) :
 Calls Tryz.prog 180 #[.pointer (some ⟨E, 0, none⟩), .slice a m cap, fv] w (Drew E 160 D w) := by
 obtain ⟨g, caps, rfl⟩ := hfv
 have HS := H7 (St.start w)
 refine (callsIn_wide (n := 10)).1 ?_
 refine callsIn_of_wp_marks Tryz.func180 rfl trivial ?_ rfl
 simp only [Tryz.ntmps180, List.size_toArray, List.length_cons, List.length_nil, Nat.reduceAdd, Nat.reduceSub, Array.replicate_succ, Array.replicate_zero, List.push_toArray, List.append_toArray, List.nil_append, List.cons_append]
 repeat ((fail_if_success (with_reducible refine stop_atI (id := 2) ?_)); (first | go_values | gi_guarded | gi_step | gi_upon | gi_back | (simp only [Int.not_lt, Int.not_le] at *; go_simp) | (go_values <;> (try go_simp)) | (go_ite <;> go_prune <;> (try go_simp)) | (split <;> (first | (rename_i hx; exact (hx _ rfl).elim) | go_prune))))
 have hs_ := ((HS.out.alloc (.cells #[.func (.func g) #[] caps] 240)).alloc (.cells #[.slice none 0 0] 233))
 obtain ⟨w2, hw_⟩ : ∃ w2 : World, ((w.alloc (.cells #[.func (.func g) #[] caps] 240)).alloc (.cells #[.slice none 0 0] 233)) = w2 := ⟨_, rfl⟩
 rw [hw_] at hs_
 try simp only [World.size_alloc] at hs_
 have HS := H7 hs_
 rw [hw_]
 clear hw_ hs_
 gi_wp2_with fail
 refine (callsIn_wide.2 (pixels_cl _ _ _ _ _)).mono ?_
 rintro e w' ⟨rfl, rfl⟩
 have hs_ := ((HS.out.alloc (.cells #[.pointer (some ⟨E, 0, none⟩)] 200)).alloc (.cells #[.slice a m cap] 41))
 obtain ⟨w4, hw_⟩ : ∃ w4 : World, ((w2.alloc (.cells #[.pointer (some ⟨E, 0, none⟩)] 200)).alloc (.cells #[.slice a m cap] 41)) = w4 := ⟨_, rfl⟩
 rw [hw_] at hs_
 try simp only [World.size_alloc] at hs_
 have HS := H7 hs_
 rw [hw_]
 clear hw_ hs_
 gi_wp2_with fail
 have hlow4 := HS.out.low
 have hX4 : w4.heap[w2.heap.size]? = some (.cells #[.pointer (some ⟨E, 0, none⟩)] 200 (0, 0)) := HS.out.blockAt 1 rfl
 have hL4 : w4.heap[w2.heap.size + 1]? = some (.cells #[.slice a m cap] 41 (0, 0)) := HS.out.blockAt 0 rfl
 have he4 : Elems w4 (.slice a m cap) m 3 (rowC encS L) := he.below hlow4
 clear HS
 apply with_actIn
 intro a0 ha0
 refine wpIn_range_panics (chain := [{ v := .iface 36 (.int .i64 160), recovered := false }]) rfl (by omega) (by rw [ha0]; rfl) trivial (enters_of Tryz.func214 (by kernel_rfl) rfl) ?h ?hd
 case h =>
  intro l W1 hb
  exact pixels1_bad (10 - 1) l w2.heap.size (w2.heap.size + 1) E p C a m cap L hlen hm hr W1 ((hb.block _ (b7t hX4)).trans hX4) ((hb.block E (by have := b7t hE; have := hlow4.size; omega)).trans ((hlow4.block E (b7t hE)).trans hE)) ((hC.below hlow4).below hb) ((hb.block _ (b7t hL4)).trans hL4) (he4.below hb)
 rintro M W hM hb hK
 rw [ha0]
 change bodyPostM Fence.wide 10 _ _ _ (.panic _) _ _
 have hbw : Below w.heap.size w W := hlow4.trans (hb.mono hlow4.size)
 refine panic_marked rfl hK ⟨((Turned.refl (fun k => k = E) w).belowT hbw |>.trans (Turned.of_grown (grownBy_putObj' W M _))).mono (fun k hk hs => ?_), fun h => absurd h (by decide), fun _ => rfl⟩ (by intro e he; rw [List.mem_singleton.1 he])
 rcases hs with hs | hs
 · exact hs
 · cases hs; have := hlow4.size; omega
/-- The colour that paint comes to. -/
theorem paint1_any (q : Nat) (c u : ColT) (w : World) (hq : w.heap[q]? = some (.cells #[.int .u8 c.r, .int .u8 c.g, .int .u8 c.b, .int .u8 c.a] 26 (0, 0))) :
 Calls Tryz.prog 181 #[u.val, .pointer (some ⟨q, 0, none⟩)] w (Gives c.val w) := by
 have HQ := H7 (BlkA.mk hq)
 have HS := H7 (St.start w)
 clear hq
 unfold ColT.val
 go_enter Tryz.func181, Tryz.ntmps181
 repeat ((fail_if_success (with_reducible refine stop_at (id := 1) ?_)); (first | go_values | go_skip | go_guarded | go_step | go_upon | go_back | (simp only [Int.not_lt, Int.not_le] at *; go_simp) | (go_values <;> (try go_simp)) | (go_ite <;> go_prune <;> (try go_simp)) | (split <;> (first | (rename_i hx; exact (hx _ rfl).elim) | go_prune))))
 have hs_ := ((HS.out.alloc (.cells #[.int .u8 u.r, .int .u8 u.g, .int .u8 u.b, .int .u8 u.a] 26)).alloc (.cells #[.int .u8 0, .int .u8 0, .int .u8 0, .int .u8 0] 26))
 have hk_HQ := HQ.out.below (((B7 _ _).alloc (by exact Nat.le_refl _) (.cells #[.int .u8 u.r, .int .u8 u.g, .int .u8 u.b, .int .u8 u.a] 26)).alloc (by simp only [World.size_alloc]; omega) (.cells #[.int .u8 0, .int .u8 0, .int .u8 0, .int .u8 0] 26))
 obtain ⟨w2, hw_⟩ : ∃ w2 : World, ((w.alloc (.cells #[.int .u8 u.r, .int .u8 u.g, .int .u8 u.b, .int .u8 u.a] 26)).alloc (.cells #[.int .u8 0, .int .u8 0, .int .u8 0, .int .u8 0] 26)) = w2 := ⟨_, rfl⟩
 rw [hw_] at hs_ hk_HQ
 try simp only [World.size_alloc] at hs_
 have HS := H7 hs_
 have HQ := H7 hk_HQ
 rw [hw_]
 clear hw_ hs_ hk_HQ
 have c0 := c7b (k := 0) HQ.out.at_ rfl
 have c1 := c7b (k := 1) HQ.out.at_ rfl
 have c2 := c7b (k := 2) HQ.out.at_ rfl
 have c3 := c7b (k := 3) HQ.out.at_ rfl
 have f0 := f7b (HS.out.blockAt 0 rfl)
 have k0 := h7c HS 0 0 rfl rfl
 have k1 := h7c HS 0 1 rfl rfl
 have k2 := h7c HS 0 2 rfl rfl
 have k3 := h7c HS 0 3 rfl rfl
 go_wp2_with fail
 refine bodyPost_ret (v := .agg #[.int .u8 c.r, .int .u8 c.g, .int .u8 c.b, .int .u8 c.a]) (by simp [results, Tryz.results181, go_sem, k0, k1, k2, k3]) rfl ⟨rfl, ?_⟩
 have h0 := HS.out.low
 (repeat (first | exact B7 _ _ | assumption | refine Below.alloc ?_ (by first | omega | (simp; done) | (simp; omega)) _ | refine Below.setCell ?_ (by first | omega | (simp; done) | (simp; omega)) _ | refine Below.drew ?_))
/- Package draw: an easel's paint and wash. -/
theorem Drew.of_below {E : Nat} {er : Int} {D : CanT} {w w1 w' : World} {e : Ending} (h : Drew E er D w1 e w') (hb : Below w.heap.size w w1) : Drew E er D w e w' :=
 ⟨(((Turned.refl (fun k => k = E) w).belowT hb).trans h.1).mono (fun k _ hs => hs.elim id id), h.2⟩
theorem Drew.is {E : Nat} {er er' : Int} {D D' : CanT} {w w' : World} {e : Ending} (h : Drew E er D w e w') (h1 : er = er') (h2 : D = D') : Drew E er' D' w e w' := by subst h1; subst h2; exact h
theorem Drawn.of_below {er : Int} {D : CanT} {w w1 w' : World} {e : Ending} (h : Drawn er D w1 e w') (hb : Below w.heap.size w w1) : Drawn er D w e w' := ⟨hb.trans (h.1.mono hb.size), h.2⟩
/-- What painting, and washing, makes of a colour. -/
def fpaint (c : ColT) : ColT → ColT := fun _ => c
theorem fpaint_ok {c : ColT} (hc : okC c) : ∀ u, okC u → okC (fpaint c u) := fun _ _ => hc
theorem fpaint_call (c : ColT) (_ : okC c) (u : ColT) (_ : okC u) (q : Nat) (w : World) (hq : BlkA q (.cells #[.int .u8 c.r, .int .u8 c.g, .int .u8 c.b, .int .u8 c.a] 26 (0, 0)) w) : Calls Tryz.prog 181 #[u.val, .pointer (some ⟨q, 0, none⟩)] w (Gives (fpaint c u).val w) := paint1_any q c u w hq.at_
set_option maxRecDepth 100000 in
set_option maxHeartbeats 1000000 in
theorem epaint_any (c : ColT) (hc : okC c) (E p : Nat) (C : CanT) (a : Option Addr) (m cap : Nat) (L : List SpT) (hlen : L.length = m) (hm : m ≤ 1000000)
 (w : World) (hE : w.heap[E]? = some (.cells #[.pointer (some ⟨p, 0, none⟩)] 238 (0, 0))) (hC : CanAt w p C) (he : Elems w (.slice a m cap) m 3 (rowC encS L)) :
 Calls Tryz.prog 149 #[.pointer (some ⟨E, 0, none⟩), .slice a m cap, c.val] w (Drew E (errOf (rightB L) 160) (paintC C L (fpaint c)) w) := by
 have HS := H7 (St.start w)
 have HD : Hid (∀ w1 q, Below w.heap.size w w1 → BlkA q (.cells #[.int .u8 c.r, .int .u8 c.g, .int .u8 c.b, .int .u8 c.a] 26 (0, 0)) w1 → Calls Tryz.prog 180 #[.pointer (some ⟨E, 0, none⟩), .slice a m cap, .func (.func 181) #[] #[.pointer (some ⟨q, 0, none⟩)]] w1 (Drew E (errOf (rightB L) 160) (paintC C L (fpaint c)) w1)) := H7 fun w1 q hb hq => by
  have hE1 := (hb.block E (b7t hE)).trans hE
  have hC1 := hC.below hb
  have he1 := he.below hb
  cases hr : rightB L with
  | true => exact draws_any _ #[.pointer (some ⟨q, 0, none⟩)] (fpaint c) (fpaint_ok hc) (fun _ _ => by simp [go_sem]) E p C a m cap L hlen hm hr w1 hE1 hC1 he1 (fun u hu w' h => fpaint_call c hc u hu q w' (hq.below h))
  | false => exact draws_bad _ ⟨_, _, rfl⟩ E p C _ a m cap L hlen hm hr w1 hE1 hC1 he1
 have hmf : ∀ (fn : Fn) (first cap : Array Value) (w : World), (Instr.makeFunc fn first cap).run Tryz.prog w = .ok (.func fn first cap) w := fun _ _ _ _ => rfl
 unfold ColT.val
 obtain ⟨D, hD⟩ : ∃ D, paintC C L (fpaint c) = D := ⟨_, rfl⟩
 obtain ⟨er, her⟩ : ∃ er, errOf (rightB L) 160 = er := ⟨_, rfl⟩
 rw [hD, her] at HD ⊢
 clear hE hC he hlen hm hc hD her
 go_enter Tryz.func149, Tryz.ntmps149
 repeat ((fail_if_success (with_reducible refine stop_at (id := 1) ?_)); (first | go_values | go_skip | go_guarded | go_step | go_upon | go_back | (simp only [Int.not_lt, Int.not_le] at *; go_simp) | (go_values <;> (try go_simp)) | (go_ite <;> go_prune <;> (try go_simp)) | (split <;> (first | (rename_i hx; exact (hx _ rfl).elim) | go_prune))))
 have hs_ := (HS.out.alloc (.cells #[.int .u8 c.r, .int .u8 c.g, .int .u8 c.b, .int .u8 c.a] 26))
 obtain ⟨w1, hw_⟩ : ∃ w1 : World, (w.alloc (.cells #[.int .u8 c.r, .int .u8 c.g, .int .u8 c.b, .int .u8 c.a] 26)) = w1 := ⟨_, rfl⟩
 rw [hw_] at hs_
 try simp only [World.size_alloc] at hs_
 have HS := H7 hs_
 rw [hw_]
 clear hw_ hs_
 go_wp2_with fail
 refine (HD.out w1 w.heap.size HS.out.low ⟨HS.out.blockAt 0 rfl⟩).mono ?_
 intro e w2 h
 have HR := H7 (h.of_below HS.out.low)
 clear h
 rcases Classical.em (er = 0) with h0 | h0
 · obtain ⟨rfl, -⟩ := HR.out.2.1 h0
   go_wp2_with fail
   go_end0
   exact HR.out
 · have hp := HR.out.2.2 h0
   unfold PanicE at hp
   subst hp
   exact ⟨rfl, HR.out⟩
/- Package draw: Paint and Wash. -/
/- Package draw: tries where the row is not known ahead; what a sweep's row is. -/
theorem rightB_ofD {l : List SpT} (h : RowP l) (hb : ∀ s ∈ l, (-256 ≤ s.y ∧ s.y ≤ 255) ∧ (-256 ≤ s.f ∧ s.f ≤ 255) ∧ (-256 ≤ s.t ∧ s.t ≤ 255)) : rightB l = true := by
 rw [rightB_iff]
 refine ⟨fun k hk => ?_, fun k hk => ?_⟩
 · have h1 := hb _ (List.getElem_mem hk)
   have h2 := h.sp _ (List.getElem_mem hk)
   exact (spB_iff _).2 ⟨h1.1, h1.2.1, h1.2.2, h2⟩
 · exact decide_eq_true (List.pairwise_iff_getElem.1 h.ord k (k + 1) (by omega) hk (by omega))
/-- A row whose places lie within reach is right. -/
theorem SetRow.rightB {Q : PtT → Prop} {M : List SpT} (h : SetRow Q M) (hq : ∀ p, Q p → (-256 ≤ p.x ∧ p.x ≤ 255) ∧ (-256 ≤ p.y ∧ p.y ≤ 255)) : rightB M = true := by
 refine rightB_ofD h.row fun s hs => ?_
 have h1 := h.row.sp s hs
 have h2 := hq ⟨s.f, s.y⟩ ((h.has _).1 ((hasB_iff _ _).2 ⟨s, hs, rfl, Int.le_refl _, h1⟩))
 have h3 := hq ⟨s.t, s.y⟩ ((h.has _).1 ((hasB_iff _ _).2 ⟨s, hs, rfl, h1, Int.le_refl _⟩))
 simp only at h2 h3
 omega
/-- As Drew, the canvas one of many. -/
def DrewP (E : Nat) (er : Int) (S : CanT → Prop) (w : World) (e : Ending) (w' : World) : Prop :=
 Turned (fun k => k = E) w w' ∧ (er = 0 → e = .returned (.tuple #[]) ∧ ∃ d, w'.heap[E]? = some (.cells #[.pointer (some ⟨d, 0, none⟩)] 238 (0, 0)) ∧ ∃ D, S D ∧ CanAt w' d D) ∧ (er ≠ 0 → PanicE er e)
def DrawnP (er : Int) (S : CanT → Prop) (w : World) (e : Ending) (w' : World) : Prop :=
 Below w.heap.size w w' ∧ (er = 0 → ∃ d, e = .returned (.tuple #[.pointer (some ⟨d, 0, none⟩), .int .i64 0]) ∧ ∃ D, S D ∧ CanAt w' d D) ∧ (er ≠ 0 → e = .returned (.tuple #[.pointer none, .int .i64 er]))
theorem DrawnP.of_below {er : Int} {S : CanT → Prop} {w w1 w' : World} {e : Ending} (h : DrawnP er S w1 e w') (hb : Below w.heap.size w w1) : DrawnP er S w e w' := ⟨hb.trans (h.1.mono hb.size), h.2⟩
theorem DrawnP.is {er : Int} {S : CanT → Prop} {w w' : World} {e : Ending} (h : DrawnP er S w e w') {D : CanT} (hS : ∀ D', S D' → D' = D) : Drawn er D w e w' :=
 ⟨h.1, fun h0 => by obtain ⟨d, he, D', h1, h2⟩ := h.2.1 h0; exact ⟨d, he, hS D' h1 ▸ h2⟩, h.2.2⟩
theorem Drew.P {E : Nat} {er : Int} {D : CanT} {S : CanT → Prop} {w w' : World} {e : Ending} (h : Drew E er D w e w') (hS : er = 0 → S D) : DrewP E er S w e w' :=
 ⟨h.1, fun h0 => by obtain ⟨he, d, h1, h2⟩ := h.2.1 h0; exact ⟨he, d, h1, D, hS h0, h2⟩, h.2.2⟩
theorem DrewP.of_below {E : Nat} {er : Int} {S : CanT → Prop} {w w1 w' : World} {e : Ending} (h : DrewP E er S w1 e w') (hb : Below w.heap.size w w1) : DrewP E er S w e w' :=
 ⟨(((Turned.refl (fun k => k = E) w).belowT hb).trans h.1).mono (fun k _ hs => hs.elim id id), h.2⟩
theorem drewP_panic {E : Nat} {er : Int} (he : er ≠ 0) {S : CanT → Prop} {w w' : World} (hb : Below w.heap.size w w') : DrewP E er S w (.panicked [{ v := .iface 36 (.int .i64 er), recovered := false }]) w' :=
 ⟨(Turned.refl (fun k => k = E) w).belowT hb, fun h => absurd h he, fun _ => rfl⟩
set_option maxRecDepth 100000 in
set_option maxHeartbeats 2000000 in
theorem dTriesP_any (g : Nat) (caps : Array Value) (c : Nat) (er : Int) (S : CanT → Prop) (w : World) (hg : ∀ args w, (callFunc g args).run Tryz.prog w = .ok (.enter g args) w)
 (h : ∀ w1 E, w.heap.size ≤ E → Below w.heap.size w w1 → w1.heap[E]? = some (.cells #[.pointer (some ⟨c, 0, none⟩)] 238 (0, 0)) → Calls Tryz.prog g (#[.pointer (some ⟨E, 0, none⟩)] ++ caps) w1 (DrewP E er S w1)) :
 Calls Tryz.prog 146 #[.pointer (some ⟨c, 0, none⟩), .func (.func g) #[] caps] w (DrawnP er S w) := by
 have hmf : ∀ (fn : Fn) (first cap : Array Value) (w : World), (Instr.makeFunc fn first cap).run Tryz.prog w = .ok (.func fn first cap) w := fun _ _ _ _ => rfl
 have HS := H7 (St.start w)
 have Hx := H7 h
 clear h
 go_enter_defers Tryz.func146, Tryz.ntmps146
 go_wp2_with fail
 refine (dNeed_ok _ _).mono ?_
 rintro e w2 ⟨rfl, rfl⟩
 have hs_ := ((HS.out.alloc (.cells #[.pointer none] 55)).alloc (.cells #[.int .i64 0] 36))
 obtain ⟨w1, hw_⟩ : ∃ w1 : World, ((w.alloc (.cells #[.pointer none] 55)).alloc (.cells #[.int .i64 0] 36)) = w1 := ⟨_, rfl⟩
 rw [hw_] at hs_
 try simp only [World.size_alloc] at hs_
 have HS := H7 hs_
 rw [hw_]
 clear hw_ hs_
 go_wp2_with fail
 have hs_ := (HS.out.alloc (.cells #[.pointer (some ⟨c, 0, none⟩)] 238))
 obtain ⟨w3, hw_⟩ : ∃ w3 : World, (w1.alloc (.cells #[.pointer (some ⟨c, 0, none⟩)] 238)) = w3 := ⟨_, rfl⟩
 rw [hw_] at hs_
 try simp only [World.size_alloc] at hs_
 have HS := H7 hs_
 rw [hw_]
 clear hw_ hs_
 refine (Hx.out w3 w1.heap.size ?_ HS.out.low (HS.out.blockAt 0 rfl)).mono ?_
 · have := HS.out.lt 1 rfl
   have h_ := HS.out.ord
   simp [ItOrd, It.top] at h_
   omega
 have HL := H7 (show w.heap.size + 1 < w1.heap.size by have h_ := HS.out.ord; simp [ItOrd, It.top] at h_; omega)
 intro e w4 hh
 obtain ⟨ht, hok, hno⟩ := hh
 have HT := H7 ht
 have t0 := H7 ((ht.block w.heap.size (HS.out.lt 2 rfl) (by have := HL.out; omega)).trans (HS.out.blockAt 2 rfl))
 have t1 := H7 ((ht.block (w.heap.size + 1) (HS.out.lt 1 rfl) (by have := HL.out; omega)).trans (HS.out.blockAt 1 rfl))
 have kB := H7 (show Below w.heap.size w w4 from HS.out.low.trans (ht.below HS.out.low.size (fun k hk => by rw [hk]; have := HL.out; omega)))
 generalize hH : w1.heap.size = H at *
 clear ht Hx hg
 by_cases her : er = 0
 · obtain ⟨rfl, d, hd, D, hSD, hD⟩ := hok her
   have HD := H7 hD
   have b0 := c7b (k := 0) hd rfl
   have f0 := f7b t0.out
   have f1 := f7b t1.out
   have q0 := c7b (k := 0) t0.out rfl
   have q1 := c7b (k := 0) t1.out rfl
   clear hok hno hd hH hD
   go_wp2_with fail
   clear b0 f0 f1 q0 q1
   have g0 := h7o (b' := w.heap.size + 1) (k := 0) (h7s (k := 0) t0.out (.pointer (some ⟨d, 0, none⟩))) (by omega) (.int .i64 0)
   have g1 := h7s (k := 0) (h7o (b' := w.heap.size) (k := 0) t1.out (by omega) (.pointer (some ⟨d, 0, none⟩))) (.int .i64 0)
   have hD5 : CanAt (w4.setCell ⟨w.heap.size, 0, none⟩ (.pointer (some ⟨d, 0, none⟩))) d D := HD.out.turnedOne ((Turned.refl (fun k => k = w.heap.size) w4).setNew w.heap.size 0 (.inr rfl) _) t0.out (fun q cs e => by cases e)
   have hD6 : CanAt ((w4.setCell ⟨w.heap.size, 0, none⟩ (.pointer (some ⟨d, 0, none⟩))).setCell ⟨w.heap.size + 1, 0, none⟩ (.int .i64 0)) d D := hD5.turnedOne ((Turned.refl (fun k => k = w.heap.size + 1) _).setNew (w.heap.size + 1) 0 (.inr rfl) _) (h7o (b' := w.heap.size) (k := 0) t1.out (by omega) (.pointer (some ⟨d, 0, none⟩))) (fun q cs e => by cases e)
   have gb : Below w.heap.size w ((w4.setCell ⟨w.heap.size, 0, none⟩ (.pointer (some ⟨d, 0, none⟩))).setCell ⟨w.heap.size + 1, 0, none⟩ (.int .i64 0)) := (kB.out.setCell (p := ⟨w.heap.size, 0, none⟩) (Nat.le_refl _) _).setCell (p := ⟨w.heap.size + 1, 0, none⟩) (by simp) _
   clear hD5
   revert g0 g1 hD6 gb
   generalize World.setCell _ _ (Value.int IntKind.i64 0) = W2
   intro g0 g1 hD6 gb
   refine leaves_cons (f := 178) (args := #[.pointer (some ⟨w.heap.size, 0, none⟩), .pointer (some ⟨w.heap.size + 1, 0, none⟩)]) (by simp) (by simp [go_sem]) ?_
   refine (dCatch_idle _ _ _).mono ?_
   rintro e u' w'' ⟨rfl, rfl, rfl⟩
   have c0 := c7b (k := 0) g0 rfl
   have d0 := c7b (k := 0) g1 rfl
   clear g0 g1
   exact ⟨.tuple #[.pointer (some ⟨d, 0, none⟩), .int .i64 0], by simp [results, Tryz.results146, go_sem, c0, d0], gb, fun _ => ⟨d, rfl, D, hSD, hD6⟩, fun h => absurd her h⟩
 · have he2 := hno her
   unfold PanicE at he2
   subst he2
   clear hok hno hH
   refine leaves_cons (f := 178) (args := #[.pointer (some ⟨w.heap.size, 0, none⟩), .pointer (some ⟨w.heap.size + 1, 0, none⟩)]) (by simp) (by simp [go_sem]) ?_
   refine (dCatch_panicking _ _ (by omega) _ _ _ _ _ t0.out t1.out).mono ?_
   rintro e u' W2 ⟨rfl, rfl, g0, g1, hb2⟩
   have gb : Below w.heap.size w W2 := kB.out.trans (hb2 _ (Nat.le_refl _) (by omega))
   have c0 := c7b (k := 0) g0 rfl
   have d0 := c7b (k := 0) g1 rfl
   clear g0 g1 hb2
   exact ⟨.tuple #[.pointer none, .int .i64 er], by simp [results, Tryz.results146, go_sem, c0, d0], gb, fun h => absurd h her, fun _ => rfl⟩
/- Package draw: Stroke. -/
/-- A row of spans whose places are told. -/
def SpV (Q : PtT → Prop) (v : Value) (w : World) : Prop := ∃ a n cap M, v = .slice a n cap ∧ SetRow Q M ∧ M.length = n ∧ n ≤ 1000000 ∧ Elems w (.slice a n cap) n 3 (rowC encS M)
theorem SpV.below {Q : PtT → Prop} {v : Value} {w w' : World} (h : SpV Q v w) (hb : Below w.heap.size w w') : SpV Q v w' := by
 obtain ⟨a, n, cap, M, h1, h2, h3, h4, h5⟩ := h
 exact ⟨a, n, cap, M, h1, h2, h3, h4, h5.below hb⟩
/-- What is painted: the row's places are told. -/
def Painted (C : CanT) (Q : PtT → Prop) (f : ColT → ColT) (D : CanT) : Prop := ∃ M, SetRow Q M ∧ D = paintC C M f
theorem epaint_spv (c : ColT) (hc : okC c) (E p : Nat) (C : CanT) (Q : PtT → Prop) (hQ : ∀ q, Q q → (-256 ≤ q.x ∧ q.x ≤ 255) ∧ (-256 ≤ q.y ∧ q.y ≤ 255)) (v : Value) (w : World) (hE : w.heap[E]? = some (.cells #[.pointer (some ⟨p, 0, none⟩)] 238 (0, 0))) (hC : CanAt w p C) (hv : SpV Q v w) :
 Calls Tryz.prog 149 #[.pointer (some ⟨E, 0, none⟩), v, c.val] w (DrewP E 0 (Painted C Q (fpaint c)) w) := by
 obtain ⟨a, n, cap, M, rfl, h1, h2, h3, h4⟩ := hv
 have hr := h1.rightB hQ
 refine (epaint_any c hc E p C a n cap M h2 h3 w hE hC h4).mono fun e w' h => ?_
 rw [hr] at h
 exact Drew.P h fun _ => ⟨M, h1, rfl⟩
structure BrT where
 c : ColT
 size : Int
 round : Bool
def BrT.val (b : BrT) : Value := .agg #[.int .u8 b.c.r, .int .u8 b.c.g, .int .u8 b.c.b, .int .u8 b.c.a, .int .i64 b.size, .bool b.round]
def BrT.obj (b : BrT) : Obj := .cells #[.int .u8 b.c.r, .int .u8 b.c.g, .int .u8 b.c.b, .int .u8 b.c.a, .int .i64 b.size, .bool b.round] 181 (0, 0)
/- Package draw: Stroke itself, Line. -/
/- Package draw: Line. -/
theorem DrewP.to {E : Nat} {er er' : Int} {S S' : CanT → Prop} {w w' : World} {e : Ending} (h : DrewP E er S w e w') (h1 : er = er') (h2 : S = S') : DrewP E er' S' w e w' := by subst h1; subst h2; exact h
/- Package draw: Line itself; Rect and Veil. -/
set_option maxRecDepth 100000 in
theorem dRect1_any (E : Addr) (w : World) : Calls Tryz.prog 161 #[.pointer (some E)] w (Gives (.func (.func 149) #[.pointer (some E)] #[]) w) := by
 have hmf : ∀ (fn : Fn) (first cap : Array Value) (w : World), (Instr.makeFunc fn first cap).run Tryz.prog w = .ok (.func fn first cap) w := fun _ _ _ _ => rfl
 go_enter Tryz.func161, Tryz.ntmps161
 go_wp2_with fail
 go_ret
 exact ⟨rfl, B7 _ _⟩
/- Package draw: Rect and Veil. -/
theorem rect_near {f t : PtT} (hok : (drawnB f && drawnB t) = true) : ∀ q, RectP f t q → (-256 ≤ q.x ∧ q.x ≤ 255) ∧ (-256 ≤ q.y ∧ q.y ≤ 255) := by
 have hd := Bool.and_eq_true_iff.1 hok
 have h1 := of_decide_eq_true hd.1
 have h2 := of_decide_eq_true hd.2
 intro q h
 unfold RectP at h
 omega
theorem rect_spv {f t : PtT} {w w' : World} {e : Ending} (hok : (drawnB f && drawnB t) = true) (h : GivesRowE 47 3 (rectL f t).length ((rectL f t).flatMap encS) (errOf (drawnB f && drawnB t) 2) w e w') : ∃ v, e = .returned (.tuple #[v, .int .i64 0]) ∧ SpV (RectP f t) v w' ∧ Below w.heap.size w w' := by
 have hd := Bool.and_eq_true_iff.1 hok
 have hs := rectL_small hd.1 hd.2
 have h1 := rectL_set hd.1 hd.2
 rw [hok] at h
 obtain ⟨h2, a, cap, he, hel, hb⟩ := h.got encS_len
 exact ⟨_, he, ⟨a, _, cap, rectL f t, rfl, h1, rfl, by omega, hel⟩, hb⟩
theorem rect_bad {f t : PtT} {w w' : World} {e : Ending} (hok : (drawnB f && drawnB t) = false) (h : GivesRowE 47 3 (rectL f t).length ((rectL f t).flatMap encS) (errOf (drawnB f && drawnB t) 2) w e w') : ∃ v, e = .returned (.tuple #[v, .int .i64 2]) ∧ Below w.heap.size w w' := by
 rw [hok] at h
 obtain ⟨v, he, -, hb⟩ := h
 exact ⟨v, he, hb⟩
set_option maxRecDepth 100000 in
set_option maxHeartbeats 2000000 in
theorem dRectc_any (c : ColT) (hc : okC c) (f t : PtT) (E p qn qf qt qc : Nat) (C : CanT)
 (w : World) (hE : w.heap[E]? = some (.cells #[.pointer (some ⟨p, 0, none⟩)] 238 (0, 0))) (hC : CanAt w p C)
 (hn : BlkA qn (.cells #[.func (.func 161) #[] #[]] 220 (0, 0)) w) (hf : BlkA qf (.cells #[.int .i64 f.x, .int .i64 f.y] 69 (0, 0)) w) (ht : BlkA qt (.cells #[.int .i64 t.x, .int .i64 t.y] 69 (0, 0)) w) (hq : BlkA qc (.cells #[.int .u8 c.r, .int .u8 c.g, .int .u8 c.b, .int .u8 c.a] 26 (0, 0)) w) :
 Calls Tryz.prog 187 #[.pointer (some ⟨E, 0, none⟩), .pointer (some ⟨qn, 0, none⟩), .pointer (some ⟨qf, 0, none⟩), .pointer (some ⟨qt, 0, none⟩), .pointer (some ⟨qc, 0, none⟩)] w (DrewP E (errOf (drawnB f && drawnB t) 2) (Painted C (RectP f t) (fpaint c)) w) := by
 have HEA := H7 (BlkA.mk hE)
 have HCC := H7 hC
 have HN := H7 hn
 have HF := H7 hf
 have HT := H7 ht
 have HQ := H7 hq
 have HRC := H7 (fun w' => shRect_any f t w')
 unfold PtT.val at HRC
 cases hok : (drawnB f && drawnB t) with
 | true =>
  have HOK := H7 hok
  have HP := H7 (fun v w' h1 h2 h3 => epaint_spv c hc E p C (RectP f t) (rect_near hok) v w' h1 h2 h3)
  unfold ColT.val at HP
  simp only [errOf]
  clear hE hC hn hf ht hq hc hok
  go_enter Tryz.func187, Tryz.ntmps187
  refine (wpIn_wide (n := 0)).1 ?_
  apply w7v 10 (Rl := [(eqv _), (eqv _), (eqv _), (eqv _), (eqv _), (fun v_ w_ => ∃ v, v_ = .tuple #[v, .int .i64 0] ∧ SpV (RectP f t) v w_), (fun v_ w_ => SpV (RectP f t) v_ w_), (fun v_ _ => v_ = (.int .i64 0 : Value)), (fun v_ w_ => SpV (RectP f t) v_ w_), (eqv _)]) (C := (fun x y => Below x.heap.size x y))
  case hm => kernel_rfl
  case hk => rfl
  case hCr => exact (fun _ => B7 _ _)
  case hCt => intro _ _ _; exact (fun h k => g7t h k)
  case hst => exact ⟨fun _ _ _ _ h => h, fun _ _ _ _ h => h, fun _ _ _ _ h => h, fun _ _ _ _ h => h, fun _ _ _ _ h => h, fun _ _ _ hC ⟨v, e, h⟩ => ⟨v, e, h.below hC⟩, fun _ _ _ hC h => h.below hC, fun _ _ _ _ h => h, fun _ _ _ hC h => h.below hC, fun _ _ _ _ h => h, trivial⟩
  case hfo => kernel_rfl
  case ht => kernel_rfl
  case hC0 => exact (g7d _)
  case hsteps =>
   refine ⟨?_, ?_, ?_, ?_, ?_, ?_, ?_, ?_, ?_, ?_, trivial⟩
   · intro a' w' hA hC hD; have s1 := hA.to 1 (by kernel_rfl) rfl
     have z0 := c7b (k := 0) (HN.out.below hC).at_ rfl
     clear hA hD; refine o7p rfl ?_; intro K hK; gi_wp2; exact hK _ _ rfl (B7 _ _)
   · intro a' w' hA hC hD; have s0 := hA.to 0 (by kernel_rfl) rfl; clear hA hD; refine o7p rfl ?_; intro K hK; gi_wp2; exact hK _ _ rfl (B7 _ _)
   · intro a' w' hA hC hD; obtain ⟨u6, s6, rfl⟩ := hD ⟨0, .data⟩ (by simp) rfl _ rfl; obtain ⟨u7, s7, rfl⟩ := hD ⟨1, .data⟩ (by simp) rfl _ rfl; clear hA hD; refine o7p rfl ?_; intro K hK
     gi_wp2_with fail; refine (callsIn_wide.2 (dRect1_any _ _)).mono ?_; rintro e w2 ⟨rfl, hb⟩
     exact hK _ _ rfl hb
   · intro a' w' hA hC hD; have s2 := hA.to 2 (by kernel_rfl) rfl
     have z0 := c7b (k := 0) (HF.out.below hC).at_ rfl; have z1 := c7b (k := 1) (HF.out.below hC).at_ rfl
     clear hA hD; refine o7p rfl ?_; intro K hK; gi_wp2; exact hK _ _ rfl (B7 _ _)
   · intro a' w' hA hC hD; have s3 := hA.to 3 (by kernel_rfl) rfl
     have z0 := c7b (k := 0) (HT.out.below hC).at_ rfl; have z1 := c7b (k := 1) (HT.out.below hC).at_ rfl
     clear hA hD; refine o7p rfl ?_; intro K hK; gi_wp2; exact hK _ _ rfl (B7 _ _)
   · intro a' w' hA hC hD; obtain ⟨u9, s9, rfl⟩ := hD ⟨3, .data⟩ (by simp) rfl _ rfl; obtain ⟨u10, s10, rfl⟩ := hD ⟨4, .data⟩ (by simp) rfl _ rfl; clear hA hD; refine o7p rfl ?_; intro K hK; gi_wp2
     refine (callsIn_wide.2 (HRC.out _)).mono ?_; intro e w5 h; obtain ⟨v, rfl, h1, h2⟩ := rect_spv HOK.out h; exact hK _ _ ⟨v, rfl, h1⟩ h2
   · intro a' w' hA hC hD; obtain ⟨u11, s11, r11⟩ := hD ⟨5, .data⟩ (by simp) rfl _ rfl; replace r11 : (fun v_ w_ => ∃ v, v_ = .tuple #[v, .int .i64 0] ∧ SpV (RectP f t) v w_) u11 w' := r11
     obtain ⟨v6, rfl, h6⟩ := r11
     clear hA hD; refine o7p rfl ?_; intro K hK; gi_wp2; exact hK _ _ h6 (B7 _ _)
   · intro a' w' hA hC hD; obtain ⟨u11, s11, r11⟩ := hD ⟨5, .data⟩ (by simp) rfl _ rfl; replace r11 : (fun v_ w_ => ∃ v, v_ = .tuple #[v, .int .i64 0] ∧ SpV (RectP f t) v w_) u11 w' := r11
     obtain ⟨v6, rfl, h6⟩ := r11
     clear hA hD; refine o7p rfl ?_; intro K hK; gi_wp2; exact hK (.int .i64 0) _ rfl (B7 _ _)
   · intro a' w' hA hC hD; obtain ⟨u12, s12, r12⟩ := hD ⟨6, .data⟩ (by simp) rfl _ rfl; replace r12 : (fun v_ w_ => SpV (RectP f t) v_ w_) u12 w' := r12; obtain ⟨u13, s13, r13⟩ := hD ⟨7, .data⟩ (by simp) rfl _ rfl; replace r13 : u13 = .int .i64 0 := r13; subst r13; clear hA hD; refine o7p rfl ?_; intro K hK; gi_wp2
     refine (callsIn_wide.2 (sureS_ok _ _)).mono ?_; rintro e w5 ⟨rfl, rfl⟩; exact hK _ _ r12 (B7 _ _)
   · intro a' w' hA hC hD; have s4 := hA.to 4 (by kernel_rfl) rfl
     have z0 := c7b (k := 0) (HQ.out.below hC).at_ rfl; have z1 := c7b (k := 1) (HQ.out.below hC).at_ rfl; have z2 := c7b (k := 2) (HQ.out.below hC).at_ rfl; have z3 := c7b (k := 3) (HQ.out.below hC).at_ rfl
     clear hA hD; refine o7p rfl ?_; intro K hK; gi_wp2; exact hK _ _ rfl (B7 _ _)
  case hend =>
   intro w4 hC
   simp only [EndFrom, eqv, forall_eq, Act.put, List.length_cons, List.length_nil, List.drop_succ_cons, List.drop_zero, Nat.reduceAdd, List.setIfInBounds_toArray, List.set_cons_succ, List.set_cons_zero]
   rintro v6 - v7 - v9 h9
   have HS9 := H7 h9
   have HCC := H7 (HCC.out.below hC)
   have HEA := H7 (HEA.out.below hC)
   have HLW := H7 (LowAt.mk hC)
   clear h9 hC
   gi_wp2_with fail
   refine (callsIn_wide.2 (HP.out v9 _ HEA.out.at_ HCC.out HS9.out)).mono ?_
   intro e w5 h
   have HR := H7 (h.of_below HLW.out.low)
   obtain ⟨rfl, -⟩ := HR.out.2.1 rfl
   clear h
   gi_wp2_with fail
   go_end0
   exact HR.out
 | false =>
  have HOK := H7 hok
  simp only [errOf]
  clear hE hC hn hf ht hq hc hok
  go_enter Tryz.func187, Tryz.ntmps187
  refine (wpIn_wide (n := 0)).1 ?_
  apply w7v 10 (Rl := [(eqv _), (eqv _), (eqv _), (eqv _), (eqv _), (fun v_ w_ => ∃ v, v_ = .tuple #[v, .int .i64 2]), (fun v_ w_ => True), (fun v_ _ => v_ = (.int .i64 2 : Value)), (fun v_ w_ => False), (eqv _)]) (C := (fun x y => Below x.heap.size x y))
  case hm => kernel_rfl
  case hk => rfl
  case hCr => exact (fun _ => B7 _ _)
  case hCt => intro _ _ _; exact (fun h k => g7t h k)
  case hst => exact ⟨fun _ _ _ _ h => h, fun _ _ _ _ h => h, fun _ _ _ _ h => h, fun _ _ _ _ h => h, fun _ _ _ _ h => h, fun _ _ _ hC h => h, fun _ _ _ hC h => h, fun _ _ _ _ h => h, fun _ _ _ hC h => h, fun _ _ _ _ h => h, trivial⟩
  case hfo => kernel_rfl
  case ht => kernel_rfl
  case hC0 => exact (g7d _)
  case hsteps =>
   refine ⟨?_, ?_, ?_, ?_, ?_, ?_, ?_, ?_, ?_, ?_, trivial⟩
   · intro a' w' hA hC hD; have s1 := hA.to 1 (by kernel_rfl) rfl
     have z0 := c7b (k := 0) (HN.out.below hC).at_ rfl
     clear hA hD; refine o7p rfl ?_; intro K hK; gi_wp2; exact hK _ _ rfl (B7 _ _)
   · intro a' w' hA hC hD; have s0 := hA.to 0 (by kernel_rfl) rfl; clear hA hD; refine o7p rfl ?_; intro K hK; gi_wp2; exact hK _ _ rfl (B7 _ _)
   · intro a' w' hA hC hD; obtain ⟨u6, s6, rfl⟩ := hD ⟨0, .data⟩ (by simp) rfl _ rfl; obtain ⟨u7, s7, rfl⟩ := hD ⟨1, .data⟩ (by simp) rfl _ rfl; clear hA hD; refine o7p rfl ?_; intro K hK
     gi_wp2_with fail; refine (callsIn_wide.2 (dRect1_any _ _)).mono ?_; rintro e w2 ⟨rfl, hb⟩
     exact hK _ _ rfl hb
   · intro a' w' hA hC hD; have s2 := hA.to 2 (by kernel_rfl) rfl
     have z0 := c7b (k := 0) (HF.out.below hC).at_ rfl; have z1 := c7b (k := 1) (HF.out.below hC).at_ rfl
     clear hA hD; refine o7p rfl ?_; intro K hK; gi_wp2; exact hK _ _ rfl (B7 _ _)
   · intro a' w' hA hC hD; have s3 := hA.to 3 (by kernel_rfl) rfl
     have z0 := c7b (k := 0) (HT.out.below hC).at_ rfl; have z1 := c7b (k := 1) (HT.out.below hC).at_ rfl
     clear hA hD; refine o7p rfl ?_; intro K hK; gi_wp2; exact hK _ _ rfl (B7 _ _)
   · intro a' w' hA hC hD; obtain ⟨u9, s9, rfl⟩ := hD ⟨3, .data⟩ (by simp) rfl _ rfl; obtain ⟨u10, s10, rfl⟩ := hD ⟨4, .data⟩ (by simp) rfl _ rfl; clear hA hD; refine o7p rfl ?_; intro K hK; gi_wp2
     refine (callsIn_wide.2 (HRC.out _)).mono ?_; intro e w5 h; obtain ⟨v, rfl, h2⟩ := rect_bad HOK.out h; exact hK _ _ ⟨v, rfl⟩ h2
   · intro a' w' hA hC hD; obtain ⟨u11, s11, r11⟩ := hD ⟨5, .data⟩ (by simp) rfl _ rfl; replace r11 : (fun v_ w_ => ∃ v, v_ = .tuple #[v, .int .i64 2]) u11 w' := r11
     obtain ⟨v6, rfl⟩ := r11
     clear hA hD; refine o7p rfl ?_; intro K hK; gi_wp2; exact hK _ _ trivial (B7 _ _)
   · intro a' w' hA hC hD; obtain ⟨u11, s11, r11⟩ := hD ⟨5, .data⟩ (by simp) rfl _ rfl; replace r11 : (fun v_ w_ => ∃ v, v_ = .tuple #[v, .int .i64 2]) u11 w' := r11
     obtain ⟨v6, rfl⟩ := r11
     clear hA hD; refine o7p rfl ?_; intro K hK; gi_wp2; exact hK (.int .i64 2) _ rfl (B7 _ _)
   · intro a' w' hA hC hD; obtain ⟨u12, s12, r12⟩ := hD ⟨6, .data⟩ (by simp) rfl _ rfl; replace r12 : (fun v_ w_ => True) u12 w' := r12; obtain ⟨u13, s13, r13⟩ := hD ⟨7, .data⟩ (by simp) rfl _ rfl; replace r13 : u13 = .int .i64 2 := r13; subst r13
     have hdf := hA.defers
     clear hA hD; refine o7p rfl ?_; intro K hK; gi_wp2
     refine (callsIn_wide.2 (sureS_no _ 2 (by decide) _)).mono ?_; rintro e w5 ⟨h1, rfl⟩; unfold PanicE at h1; subst h1; exact ⟨hdf, drewP_panic (by decide) hC⟩
   · intro a' w' hA hC hD; have s4 := hA.to 4 (by kernel_rfl) rfl
     have z0 := c7b (k := 0) (HQ.out.below hC).at_ rfl; have z1 := c7b (k := 1) (HQ.out.below hC).at_ rfl; have z2 := c7b (k := 2) (HQ.out.below hC).at_ rfl; have z3 := c7b (k := 3) (HQ.out.below hC).at_ rfl
     clear hA hD; refine o7p rfl ?_; intro K hK; gi_wp2; exact hK _ _ rfl (B7 _ _)
  case hend =>
   intro w4 hC
   simp only [EndFrom, eqv, forall_eq, Act.put, List.length_cons, List.length_nil, List.drop_succ_cons, List.drop_zero, Nat.reduceAdd, List.setIfInBounds_toArray, List.set_cons_succ, List.set_cons_zero]
   rintro v6 - v7 - v9 h9
   exact h9.elim
end Go.Proofs.YtgdcfkbimkclaaaGreatDoor
