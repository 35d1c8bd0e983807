/- Merged texts: RimP DocR DocN. -/
import Derived.Test.YtodpkgbpcpfamaaM19
import Derived.Test.YtodpkgbpcpfamaaM17
/- Layer 8: rims, plain: by the document, and by the program. -/
namespace Go.Proofs.Ytodpkgbpcpfamaa
set_option linter.unusedSimpArgs false
set_option linter.unusedVariables false
open Go.RowKit Go.Shelf
def ptLt (a b : PtT) : Prop := a.y < b.y ∨ (a.y = b.y ∧ a.x < b.x)
theorem ptLt_asymm {a b : PtT} (h : ptLt a b) (k : ptLt b a) : False := by unfold ptLt at *; omega
theorem ptLt_irrefl {a : PtT} (h : ptLt a a) : False := ptLt_asymm h h
theorem pt_sorted_unique : ∀ (l m : List PtT), l.Pairwise ptLt → m.Pairwise ptLt → (∀ x, x ∈ l ↔ x ∈ m) → l = m
 | [], [], _, _, _ => rfl
 | [], b :: m, _, _, h => by have := (h b).2 (by simp); simp at this
 | a :: l, [], _, _, h => by have := (h a).1 (by simp); simp at this
 | a :: l, b :: m, hl, hm, h => by
  have hl' := List.pairwise_cons.1 hl
  have hm' := List.pairwise_cons.1 hm
  have hab : a = b := by
   rcases List.mem_cons.1 ((h a).1 (by simp)) with e | e
   · exact e
   · rcases List.mem_cons.1 ((h b).2 (by simp)) with e2 | e2
     · exact e2.symm
     · exact (ptLt_asymm (hl'.1 b e2) (hm'.1 a e)).elim
  subst hab
  rw [pt_sorted_unique l m hl'.2 hm'.2 fun x => ?_]
  constructor
  · intro hx
    rcases List.mem_cons.1 ((h x).1 (List.mem_cons_of_mem _ hx)) with e | e
    · subst e; exact (ptLt_irrefl (hl'.1 x hx)).elim
    · exact e
  · intro hx
    rcases List.mem_cons.1 ((h x).2 (List.mem_cons_of_mem _ hx)) with e | e
    · subst e; exact (ptLt_irrefl (hm'.1 x hx)).elim
    · exact e
theorem gathL_sorted (W : Nat) (is : Nat → Bool) (k : Nat) : (gathL W is k).Pairwise ptLt := by
 unfold gathL
 refine List.pairwise_map.2 ((List.Pairwise.filter _ (List.pairwise_lt_range (n := k))).imp fun {a b} hab => ?_)
 unfold ptLt ptK
 simp only
 have h1 := Nat.div_add_mod a W
 have h2 := Nat.div_add_mod b W
 have h3 : a / W ≤ b / W := Nat.div_le_div_right (Nat.le_of_lt hab)
 rcases Nat.lt_or_ge (a / W) (b / W) with h | h
 · left; omega
 · have e : a / W = b / W := by omega
   rw [e] at h1
   right
   constructor
   · omega
   · omega
theorem ptsL_sorted {l : List SpT} (h : RowP l) : (ptsL l).Pairwise ptLt := by
 refine List.pairwise_flatMap.2 ⟨fun s _ => ?_, h.ord.imp ?_⟩
 · unfold spPts
   refine List.pairwise_map.2 (List.pairwise_lt_range.imp ?_)
   intro i j hij
   exact .inr ⟨rfl, by simp only; omega⟩
 · intro a b hab x hx y hy
   have h1 := mem_spPts.1 hx
   have h2 := mem_spPts.1 hy
   unfold ordP at hab
   unfold ptLt
   omega
theorem metF_m (i : Nat) : ∀ (pts : List PtT) (s : Bf), (pts.foldl (fun s p => s.meet p 0) s).m i = if s.m i = 0 then (if pts.any (fun p => decide (ixP p = i)) = true then 1 else 0) else s.m i
 | [], s => by simp
 | p :: pts, s => by
  rw [List.foldl_cons, metF_m i pts]
  have hm : (s.meet p 0).m i = if s.m i = 0 then (if ixP p = i then 1 else 0) else s.m i := by
   unfold Bf.meet
   by_cases h0 : s.m (ixP p) = 0
   · rw [if_pos h0]
     simp only
     by_cases hi : i = ixP p
     · subst hi; rw [if_pos rfl, if_pos h0, if_pos rfl]
     · rw [if_neg hi]
       by_cases h1 : s.m i = 0
       · rw [if_pos h1, if_neg (fun e => hi e.symm), h1]
       · rw [if_neg h1]
   · rw [if_neg h0]
     by_cases h1 : s.m i = 0
     · rw [if_pos h1, if_neg (fun e => h0 (by rw [e]; exact h1)), h1]
     · rw [if_neg h1]
  rw [hm, List.any_cons]
  by_cases h1 : s.m i = 0
  · rw [if_pos h1, if_pos h1]
    by_cases h2 : ixP p = i
    · simp [h2]
    · simp [h2]
  · rw [if_neg h1, if_neg h1]
    simp [h1]
theorem metAll_m (pts : List PtT) (i : Nat) : (metAll pts).m i = if pts.any (fun p => decide (ixP p = i)) = true then 1 else 0 := by
 unfold metAll
 rw [metF_m]
 simp
theorem metAll_on {W H : Int} (hW : W ≤ 32) {l : List SpT} (hp : (ptsL l).all (onB W H) = true) {q : PtT} (hq : onB W H q = true) : (metAll (ptsL l)).m (ixP q) = if hasB l q = true then 1 else 0 := by
 rw [metAll_m]
 by_cases h : hasB l q = true
 · rw [if_pos h, if_pos]
   exact List.any_eq_true.2 ⟨q, mem_ptsL.2 h, by simp⟩
 · rw [if_neg h, if_neg]
   intro ha
   obtain ⟨p, hpm, he⟩ := List.any_eq_true.1 ha
   have hpo := List.all_eq_true.1 hp p hpm
   have e := ixP_inj hW hpo hq (of_decide_eq_true he)
   subst e
   exact h (mem_ptsL.1 hpm)
/-- How many neighbours are in a row. -/
def cntH (W H : Int) (l : List SpT) (p : PtT) : Nat := (nbL W H p).countP (hasB l)
theorem cntM_H {W H : Int} (hW : W ≤ 32) {l : List SpT} (hp : (ptsL l).all (onB W H) = true) : ∀ ns : List PtT, (∀ q ∈ ns, onB W H q = true) → cntM (metAll (ptsL l)).m ns = ns.countP (hasB l)
 | [], _ => rfl
 | q :: ns, h => by
  unfold cntM
  rw [cntM_H hW hp ns fun x hx => h x (List.mem_cons_of_mem _ hx), metAll_on hW hp (h q (by simp)), List.countP_cons]
  by_cases hh : hasB l q = true
  · rw [if_pos hh]; omega
  · rw [if_neg hh]; omega
def rimD (W H : Int) (l : List SpT) : List PtT := (ptsL l).filter fun p => decide (cntH W H l p < 4)
theorem rim_plain {C : CanT} (hC : okCan C) {l : List SpT} (h : rimOk C l = true) : rimR C l = rimD (8 * (C.wide : Int)) (8 * (C.high : Int)) l := by
 have hr := (Bool.and_eq_true_iff.1 h).1
 have ho : (ptsL l).all (onB (8 * (C.wide : Int)) (8 * (C.high : Int))) = true := (Bool.and_eq_true_iff.1 h).2
 have hW : 8 * (C.wide : Int) ≤ 32 := by have := hC.wide; omega
 unfold rimR rimD
 rw [h, cond_true]
 refine pt_sorted_unique _ _ (gathL_sorted _ _ _) ((ptsL_sorted ((rightB_iff l).1 hr).rowP).filter _) fun p => ?_
 rw [mem_gathL, List.mem_filter, mem_ptsL]
 have hon : (((0 ≤ p.x ∧ p.x < ((8 * C.wide : Nat) : Int)) ∧ (0 ≤ p.y ∧ p.y < ((8 * C.high : Nat) : Int))) ↔ onB (8 * (C.wide : Int)) (8 * (C.high : Int)) p = true) := by
  rw [onB_iff]; omega
 rw [hon]
 have key : onB (8 * (C.wide : Int)) (8 * (C.high : Int)) p = true → (rimI C l (p.y.toNat * (8 * C.wide) + p.x.toNat) = true ↔ hasB l p = true ∧ decide (cntH (8 * (C.wide : Int)) (8 * (C.high : Int)) l p < 4) = true) := by
  intro hp
  have hp2 := hon.2 hp
  unfold rimI
  rw [ptK_at (by omega)]
  have e : (⟨((p.x.toNat : Nat) : Int), ((p.y.toNat : Nat) : Int)⟩ : PtT) = p := by
   obtain ⟨x, y⟩ := p
   simp only [PtT.mk.injEq] at hp2 ⊢
   omega
  rw [e]
  unfold rimB cntH
  rw [metAll_on hW ho hp, cntM_H hW ho (nbL _ _ p) fun q hq => (List.mem_filter.1 hq).2, Bool.and_eq_true]
  by_cases hh : hasB l p = true
  · simp [hh]
  · simp [hh]
 constructor
 · rintro ⟨a, b⟩
   exact (key a).1 b
 · rintro ⟨a, b⟩
   have hp := List.all_eq_true.1 ho p (mem_ptsL.2 a)
   exact ⟨hp, (key hp).2 ⟨a, b⟩⟩
end Go.Proofs.Ytodpkgbpcpfamaa

/- Layer 8: the document's Rim. -/
namespace Go.Proofs.Ytodpkgbpcpfamaa
set_option linter.unusedSimpArgs false
set_option linter.unusedVariables false
open Go.RowKit Go.Shelf
attribute [local go_sem] Oper.semAt_some

/-- A row that grows, beside a block that is not its own. -/
structure StB {α : Type} (w0 : World) (its : List It) (base : Nat) (e : TypeId) (k : Nat) (enc : α → List Value) (B : Nat) (ob : Obj) (v : Value) (L : List α) (x : World) : Prop where
 o : StO w0 its base e k enc v L x
 at_ : x.heap[B]? = some ob
 nb : ∀ b, v.ownBlock = some b → b ≠ B
theorem StB.below {α : Type} {w0 : World} {its : List It} {base : Nat} {e : TypeId} {k : Nat} {enc : α → List Value} {B : Nat} {ob : Obj} {v : Value} {L : List α} {x y : World} (h : StB w0 its base e k enc B ob v L x) (hb : Below x.heap.size x y) : StB w0 its base e k enc B ob v L y :=
 ⟨h.o.below hb, (hb.block B (block_lt h.at_)).trans h.at_, h.nb⟩
theorem StB.app {α : Type} {w0 : World} {its : List It} {base : Nat} {e : TypeId} {k : Nat} {enc : α → List Value} {B : Nat} {ob : Obj} {v v' : Value} {L L' : List α} {x y : World} (h : StB w0 its base e k enc B ob v L x) (ho : StO w0 its base e k enc v' L' y) (hg : x.grownBy y v.ownBlock) (hl : v'.ownBlock = v.ownBlock ∨ ∃ b, v'.ownBlock = some b ∧ x.heap.size < b) : StB w0 its base e k enc B ob v' L' y := by
 refine ⟨ho, ((Turned.of_grown hg).block B (block_lt h.at_) fun hd => h.nb B hd.symm rfl).trans h.at_, fun b hb => ?_⟩
 rcases hl with e1 | ⟨c, e1, hc⟩
 · rw [e1] at hb
   exact h.nb b hb
 · rw [e1] at hb
   cases hb
   have := block_lt h.at_
   omega
def KpR (w0 w1 : World) : Prop := Below w0.heap.size w0 w1
theorem KpR.below {a b c : World} (h : KpR a b) (hb : Below b.heap.size b c) : KpR a c := Below.trans h (hb.mono (Below.size h))
theorem ptsL_take_succ {l : List SpT} {k : Nat} {s : SpT} (h : l[k]? = some s) : ptsL (l.take (k + 1)) = ptsL (l.take k) ++ spPts s := by
 unfold ptsL
 rw [List.take_add_one, h, List.flatMap_append]
 simp
theorem spPts_at {s : SpT} {i : Nat} (h : i < (s.t - s.f + 1).toNat) : (spPts s)[i]? = some ⟨s.f + (i : Int), s.y⟩ := by
 unfold spPts
 rw [List.getElem?_map, List.getElem?_range h]
 rfl
set_option maxRecDepth 100000 in
set_option maxHeartbeats 4000000 in
theorem refRim_any (C : CanT) (hC : okCan C) (v : Value) (la : Option Addr) (n lc : Nat) (l : List SpT) (hl : l.length = n) (hn : n ≤ 1000) (hr : rightB l = true) (ho : (ptsL l).all (onC C) = true) (w : World) (hv : CanV w C v) (he : Elems w (.slice la n lc) n 3 (rowC encS l)) :
 Calls Try.prog 11 #[v, .slice la n lc] w (GivesRow 41 2 (rimD (8 * (C.wide : Int)) (8 * (C.high : Int)) l).length ((rimD (8 * (C.wide : Int)) (8 * (C.high : Int)) l).flatMap encP) w) := by
 have HNB := Lib.hid (fun p hp w' h => refNbs_any C hC v p hp w' h)
 have HHA := Lib.hid (fun p w' h => refHas_any la n lc l hl (by omega) p w' h)
 have HV := Lib.hid hv
 have HON := Lib.hid (fun p (hp : p ∈ ptsL l) => (show onB (8 * (C.wide : Int)) (8 * (C.high : Int)) p = true from List.all_eq_true.1 ho p hp))
 have HPL := Lib.hid (ptsL_le hr)
 have HL := Lib.hid (And.intro hl hn)
 have HR := Lib.hid ((rightB_iff l).1 hr)
 obtain ⟨W, hW⟩ : ∃ W, 8 * (C.wide : Int) = W := ⟨_, rfl⟩
 obtain ⟨H, hH⟩ : ∃ H, 8 * (C.high : Int) = H := ⟨_, rfl⟩
 have HWH := Lib.hid (show W ≤ 32 ∧ H ≤ 32 by have h1 := hC.wide; have h2 := hC.high; omega)
 rw [hW, hH] at HNB HON
 rw [hW, hH]
 obtain ⟨a, cap, rfl, -, -⟩ := id hv
 have HS := Lib.hid ((St.start w).addRow he)
 obtain ⟨F, hF⟩ : ∃ F : PtT → Bool, (fun p => decide (cntH W H l p < 4)) = F := ⟨_, rfl⟩
 have HF := Lib.hid hF
 have HRD := Lib.hid (show (ptsL l).filter F = rimD W H l by rw [← hF]; rfl)
 clear hC hv hl hn hr ho he hW hH hF
 go_enter Try.func11, Try.ntmps11
 repeat ((fail_if_success (with_reducible refine stop_at (id := 1) ?_)); (first | go_values | go_skip | go_guarded | go_step | go_upon | go_back | (simp only [Int.not_lt, Int.not_le] at *; go_simp) | (go_values <;> (try go_simp)) | (go_ite <;> go_prune <;> (try go_simp)) | (split <;> (first | (rename_i hx; exact (hx _ rfl).elim) | go_prune))))
 have hs_ := (HS.out.alloc (.cells #[.int .i64 C.wide, .int .i64 C.high, .slice a C.tiles.length cap] 24))
 obtain ⟨w1, hw_⟩ : ∃ w1 : World, (w.alloc (.cells #[.int .i64 C.wide, .int .i64 C.high, .slice a C.tiles.length cap] 24)) = w1 := ⟨_, rfl⟩
 rw [hw_] at hs_
 try simp only [World.size_alloc] at hs_
 have HS := Lib.hid hs_
 rw [hw_]
 clear hw_ hs_
 go_wp2_with fail
 have HO := Lib.hid (StO.start HS.out 41 2 encP)
 obtain ⟨N1, hN1⟩ : ∃ N1, w1.heap.size = N1 := ⟨_, rfl⟩
 rw [hN1] at HO
 clear HS hN1
 go_loopw [5, 15] (fun out i wx => ∃ j : Nat, j ≤ n ∧ i = .int .i64 (j : Int) ∧ StO w [.blk w.heap.size (.cells #[.int .i64 C.wide, .int .i64 C.high, .slice a C.tiles.length cap] 24 (0, 0)), .row (.slice la n lc) n 3 (rowC encS l) w.heap.size] N1 41 2 encP out ((ptsL (l.take j)).filter F) wx) (fun _ i _ => n - (intOf i).toNat)
 case atStart => exact ⟨0, by omega, rfl, HO.out⟩
 case round =>
  obtain ⟨j, hj, rfl, ho⟩ := hrel
  clear HO
  have HO := Lib.hid ho
  clear ho
  by_cases hlt : j < n
  · obtain ⟨s, hs⟩ : ∃ s, l[j]? = some s := ⟨_, List.getElem?_eq_getElem (by rw [HL.out.1]; exact hlt)⟩
    obtain ⟨bb, off, rfl, hbb, c0, c1, c2⟩ := spCells HL.out.1 (HO.out.st.elems 1 rfl) j s hs
    have HJ := Lib.hid hlt
    have HE := Lib.hid (wrap_succ (n := j) (by have := HL.out.2; omega))
    have hts := ptsL_take_succ hs
    have hsb : spB s = true := by
     have h1 := HR.out.sp j (by rw [HL.out.1]; exact hlt)
     have h2 := (List.getElem?_eq_some_iff.1 hs).2
     rw [h2] at h1
     exact h1
    have hsp := (spB_iff s).1 hsb
    have hsub : ∀ p ∈ spPts s, onB W H p = true := fun p hp => HON.out p (by
     unfold ptsL
     exact List.mem_flatMap.2 ⟨s, List.mem_of_getElem? hs, hp⟩)
    obtain ⟨PP, hPP⟩ : ∃ PP, ptsL (l.take j) = PP := ⟨_, rfl⟩
    rw [hPP] at hts
    rw [hPP] at HO
    obtain ⟨m, hm⟩ : ∃ m, (s.t - s.f + 1).toNat = m := ⟨_, rfl⟩
    have hlen : PP.length ≤ 512000 := by
     have h1 := HPL.out
     have h2 : PP.length ≤ (ptsL l).length := by
      rw [← hPP]
      have h3 := ptsL_split hs
      rw [h3, List.length_append]
      omega
     have := HL.out
     rw [this.1] at h1
     omega
    have HSP := Lib.hid (And.intro hts (And.intro hsub (And.intro hm (And.intro hlen hsp))))
    have hsl := spPts_len s
    have hsa := fun i (h : i < m) => spPts_at (s := s) (i := i) (by rw [hm]; exact h)
    rw [hm] at hsl
    have HSA := Lib.hid (And.intro hsl hsa)
    obtain ⟨sy, sf, st⟩ := s
    simp only at c0 c1 c2
    have HS := Lib.hid (St.start wr)
    clear hs hlt hbb hts hsb hsub hm hPP hlen hsl hsa hsp
    repeat ((fail_if_success (with_reducible refine stop_at (id := 5) ?_)); (first | go_values | go_skip | go_guarded | go_step | go_upon | go_back | (simp only [Int.not_lt, Int.not_le] at *; go_simp) | (go_values <;> (try go_simp)) | (go_ite <;> go_prune <;> (try go_simp)) | (split <;> (first | (rename_i hx; exact (hx _ rfl).elim) | go_prune))))
    clear c0 c1 c2
    have hs_ := (HS.out.alloc (.cells #[.int .i64 sy, .int .i64 sf, .int .i64 st] 33))
    obtain ⟨w4, hw_⟩ : ∃ w4 : World, (wr.alloc (.cells #[.int .i64 sy, .int .i64 sf, .int .i64 st] 33)) = w4 := ⟨_, rfl⟩
    rw [hw_] at hs_
    try simp only [World.size_alloc] at hs_
    have HS := Lib.hid hs_
    rw [hw_]
    clear hw_ hs_
    obtain ⟨B7, hB7⟩ : ∃ b, wr.heap.size = b := ⟨_, rfl⟩
    have hob : StB w [.blk w.heap.size (.cells #[.int .i64 C.wide, .int .i64 C.high, .slice a C.tiles.length cap] 24 (0, 0)), .row (.slice (some ⟨bb, off, none⟩) n lc) n 3 (rowC encS l) w.heap.size] N1 41 2 encP B7 (.cells #[.int .i64 sy, .int .i64 sf, .int .i64 st] 33 (0, 0)) u5 (PP.filter F) w4 := ⟨HO.out.below HS.out.low, by rw [← hB7]; exact HS.out.blockAt 0 rfl, fun b hb e => by have := (HO.out.row.lt b hb).2; omega⟩
    simp only [hB7]
    have HO := Lib.hid hob
    clear hob hB7 HS
    have c0 := cell_of_block (k := 0) HO.out.at_ rfl
    have c1 := cell_of_block (k := 1) HO.out.at_ rfl
    have c2 := cell_of_block (k := 2) HO.out.at_ rfl
    go_wp2_with fail
    clear c0 c1 c2
    go_loopw [5, 8] (fun out x wx => ∃ i : Nat, i ≤ m ∧ x = .int .i64 (sf + (i : Int)) ∧ StB w [.blk w.heap.size (.cells #[.int .i64 C.wide, .int .i64 C.high, .slice a C.tiles.length cap] 24 (0, 0)), .row (.slice (some ⟨bb, off, none⟩) n lc) n 3 (rowC encS l) w.heap.size] N1 41 2 encP B7 (.cells #[.int .i64 sy, .int .i64 sf, .int .i64 st] 33 (0, 0)) out ((PP ++ (spPts ⟨sy, sf, st⟩).take i).filter F) wx) (fun _ x _ => m - (intOf x - sf).toNat)
    case atStart => exact ⟨0, by omega, by rw [show sf + ((0 : Nat) : Int) = sf by omega], by rw [List.take_zero, List.append_nil]; exact HO.out⟩
    case round =>
     obtain ⟨i, hi, rfl, ho⟩ := hrel
     clear HO
     have HO := Lib.hid ho
     clear ho
     have hsp := HSP.out.2.2
     have c0 := cell_of_block (k := 0) HO.out.at_ rfl
     have c1 := cell_of_block (k := 1) HO.out.at_ rfl
     have c2 := cell_of_block (k := 2) HO.out.at_ rfl
     by_cases hlt : sf + (i : Int) ≤ st
     · have him : i < m := by omega
       have hpa := HSA.out.2 i him
       have hon := HSP.out.2.1 _ (List.mem_of_getElem? hpa)
       have HP := Lib.hid (And.intro him (And.intro hpa hon))
       have e3 : wrap64 (sf + (i : Int) + 1) = sf + ((i + 1 : Nat) : Int) := by unfold wrap64; omega
       have HE3 := Lib.hid e3
       have HTK := Lib.hid (show (PP ++ (spPts ⟨sy, sf, st⟩).take (i + 1)).filter F = (PP ++ (spPts ⟨sy, sf, st⟩).take i).filter F ++ (if F ⟨sf + (i : Int), sy⟩ = true then [⟨sf + (i : Int), sy⟩] else []) by
        rw [List.take_add_one, hpa, ← List.append_assoc, List.filter_append]
        simp [List.filter_cons])
       have HLL := Lib.hid (show ((PP ++ (spPts ⟨sy, sf, st⟩).take i).filter F).length < 1000000000 by
        refine Nat.lt_of_le_of_lt (List.length_filter_le _ _) ?_
        rw [List.length_append, List.length_take]
        have := HSP.out.2.2.2.1
        omega)
       obtain ⟨O, hO⟩ : ∃ O, (PP ++ (spPts ⟨sy, sf, st⟩).take i).filter F = O := ⟨_, rfl⟩
       rw [hO] at HO HTK HLL
       have hb1 := HO.out.o.st.blockAt 0 rfl
       have v0 := cell_of_block (k := 0) hb1 rfl
       have v1 := cell_of_block (k := 1) hb1 rfl
       have v2 := cell_of_block (k := 2) hb1 rfl
       have hNB := HNB.out ⟨sf + (i : Int), sy⟩ hon
       obtain ⟨px, hpx⟩ : ∃ px, sf + (i : Int) = px := ⟨_, rfl⟩
       rw [hpx] at hNB HP HTK hlt hon
       rw [hpx] at HE3
       have HPX := Lib.hid hpx
       have HNP := Lib.hid hNB
       have HS := Lib.hid (St.start wr)
       rw [hpx]
       clear him hpa hon e3 hO hb1 hNB hpx hsp hi
       repeat ((fail_if_success (with_reducible refine stop_at (id := 9) ?_)); (first | go_values | go_skip | go_guarded | go_step | go_upon | go_back | (simp only [Int.not_lt, Int.not_le] at *; go_simp) | (go_values <;> (try go_simp)) | (go_ite <;> go_prune <;> (try go_simp)) | (split <;> (first | (rename_i hx; exact (hx _ rfl).elim) | go_prune))))
       clear hlt
       have hs_ := (HS.out.alloc (.cells #[.int .i64 px, .int .i64 sy] 41))
       obtain ⟨w5, hw_⟩ : ∃ w5 : World, (wr.alloc (.cells #[.int .i64 px, .int .i64 sy] 41)) = w5 := ⟨_, rfl⟩
       rw [hw_] at hs_
       try simp only [World.size_alloc] at hs_
       have HS := Lib.hid hs_
       rw [hw_]
       clear hw_ hs_
       have HO5 := Lib.hid (HO.out.below HS.out.low)
       clear c0 c1 c2 v0 v1 v2
       have hb1 := HO5.out.o.st.blockAt 0 rfl
       have v0 := cell_of_block (k := 0) hb1 rfl
       have v1 := cell_of_block (k := 1) hb1 rfl
       have v2 := cell_of_block (k := 2) hb1 rfl
       have p0 := cell_of_block (k := 0) (HS.out.blockAt 0 rfl) rfl
       have p1 := cell_of_block (k := 1) (HS.out.blockAt 0 rfl) rfl
       clear hb1
       go_wp2_with fail
       clear v0 v1 v2 p0 p1
       refine (HNP.out _ (HV.out.below HO5.out.o.st.low)).mono ?_
       rintro e w6 ⟨vn, rfl, hrn, hbn⟩
       have hn2 := ownsRow_rows encP_len hrn
       obtain ⟨na, nc, rfl⟩ : ∃ na nc, vn = .slice na (nbL W H ⟨px, sy⟩).length nc := by
        rcases hrn.2 with ⟨h1, h0⟩ | ⟨g', cp, cur, h1, _⟩
        · exact ⟨none, 0, by rw [h1, h0]⟩
        · exact ⟨_, cp, h1⟩
       have HN4 := Lib.hid (nbL_len W H ⟨px, sy⟩)
       have HCN := Lib.hid (show cntH W H l ⟨px, sy⟩ = (nbL W H ⟨px, sy⟩).countP (hasB l) from rfl)
       obtain ⟨NB, hNB⟩ : ∃ NB, nbL W H ⟨px, sy⟩ = NB := ⟨_, rfl⟩
       obtain ⟨nn, hnn⟩ : ∃ nn, NB.length = nn := ⟨_, rfl⟩
       rw [hNB] at hn2 HN4 HCN ⊢
       rw [hnn] at hn2 HN4 ⊢
       have HNN := Lib.hid hnn
       have HS := Lib.hid ((HS.out.below hbn).addRow hn2)
       have HO6 := Lib.hid (HO5.out.below hbn)
       clear hNB hnn hrn hn2 hbn HO5
       go_wp2_with fail
       have HK := Lib.hid (show KpR w6 w6 from Below.refl _ _)
       go_loopw [10, 35] (fun c x wx => ∃ k : Nat, k ≤ nn ∧ x = .int .i64 (k : Int) ∧ c = .int .i64 (((NB.take k).countP (hasB l) : Nat) : Int) ∧ KpR w6 wx) (fun _ x _ => nn - (intOf x).toNat)
       case atStart => exact ⟨0, by omega, rfl, rfl, HK.out⟩
       case round =>
        obtain ⟨k, hk, rfl, rfl, hb⟩ := hrel
        have HS := Lib.hid (HS.out.below hb)
        have HO6 := Lib.hid (HO6.out.below hb)
        have HK := Lib.hid hb
        clear hb
        by_cases hlt : k < nn
        · obtain ⟨q, hq⟩ : ∃ q, NB[k]? = some q := ⟨_, List.getElem?_eq_getElem (by rw [HNN.out]; exact hlt)⟩
          obtain ⟨b3, o3, rfl, hbb, c0, c1⟩ := ptCells HNN.out (HS.out.elems 0 rfl) k q hq
          have HLT := Lib.hid hlt
          have HE5 := Lib.hid (wrap_succ (n := k) (by have := HN4.out; omega))
          have hct : (NB.take (k + 1)).countP (hasB l) = (NB.take k).countP (hasB l) + (if hasB l q = true then 1 else 0) := by
           rw [List.take_add_one, hq, List.countP_append]
           simp [List.countP_cons]
          obtain ⟨cn, hcn⟩ : ∃ cn, (NB.take k).countP (hasB l) = cn := ⟨_, rfl⟩
          have hcl : cn ≤ 4 := by
           rw [← hcn]
           refine Nat.le_trans List.countP_le_length ?_
           rw [List.length_take, HNN.out]
           have := HN4.out
           omega
          have HE6 := Lib.hid (wrap_succ (n := cn) (by omega))
          rw [hcn] at hct ⊢
          have HCT := Lib.hid hct
          obtain ⟨hh, hhh⟩ : ∃ hh, hasB l q = hh := ⟨_, rfl⟩
          have HHQ := Lib.hid (HHA.out q)
          rw [hhh] at HHQ HCT
          obtain ⟨qx, qy⟩ := q
          simp only at c0 c1
          simp only [PtT.val] at HHQ
          clear hq hlt hbb hct hcn hcl hhh
          repeat ((fail_if_success (with_reducible refine stop_at (id := 13) ?_)); (first | go_values | go_skip | go_guarded | go_step | go_upon | go_back | (simp only [Int.not_lt, Int.not_le] at *; go_simp) | (go_values <;> (try go_simp)) | (go_ite <;> go_prune <;> (try go_simp)) | (split <;> (first | (rename_i hx; exact (hx _ rfl).elim) | go_prune))))
          clear c0 c1
          have hs_ := HS.out.alloc (.cells #[.int .i64 qx, .int .i64 qy] 41)
          have hk_HO6 := HO6.out.below ((Below.refl _ _).alloc (Nat.le_refl _) (.cells #[.int .i64 qx, .int .i64 qy] 41))
          have hk_HK := HK.out.below ((Below.refl _ _).alloc (Nat.le_refl _) (.cells #[.int .i64 qx, .int .i64 qy] 41))
          obtain ⟨w7, hw_⟩ : ∃ w7 : World, wr.alloc (.cells #[.int .i64 qx, .int .i64 qy] 41) = w7 := ⟨_, rfl⟩
          rw [hw_] at hs_ hk_HO6 hk_HK
          have HS := Lib.hid hs_
          have HO6 := Lib.hid hk_HO6
          have HK := Lib.hid hk_HK
          rw [hw_]
          clear hw_ hs_ hk_HO6 hk_HK
          have q0 := cell_of_block (k := 0) (HS.out.blockAt 0 rfl) rfl
          have q1 := cell_of_block (k := 1) (HS.out.blockAt 0 rfl) rfl
          go_wp2_with fail
          clear q0 q1
          refine (HHQ.out _ (HO6.out.o.st.elems 1 rfl)).mono ?_
          rintro e w8 ⟨rfl, hb_⟩
          have HS := Lib.hid (HS.out.below hb_)
          have HO6 := Lib.hid (HO6.out.below hb_)
          have HK := Lib.hid (HK.out.below hb_)
          clear hb_
          cases hh with
          | true =>
           go_wp2_with fail
           go_roundw
           case rel => exact ⟨k + 1, HLT.out, congrArg (Value.int .i64) HE5.out, by rw [HCT.out]; exact congrArg (Value.int .i64) HE6.out, HK.out⟩
           case measure => rw [HE5.out]; have := HLT.out; simp only [intOf]; omega
          | false =>
           go_wp2_with fail
           go_roundw
           case rel => exact ⟨k + 1, HLT.out, congrArg (Value.int .i64) HE5.out, by rw [HCT.out]; rfl, HK.out⟩
           case measure => rw [HE5.out]; have := HLT.out; simp only [intOf]; omega
        · have hkn : k = nn := by omega
          rw [hkn, List.take_of_length_le (by rw [HNN.out]; exact Nat.le_refl _), ← HCN.out]
          have hF : F ⟨px, sy⟩ = decide (cntH W H l ⟨px, sy⟩ < 4) := by rw [← HF.out]
          obtain ⟨cn, hcn⟩ : ∃ cn, cntH W H l ⟨px, sy⟩ = cn := ⟨_, rfl⟩
          rw [hcn] at hF ⊢
          have HFF := Lib.hid hF
          have p0 := cell_of_block (k := 0) (HS.out.blockAt 1 rfl) rfl
          have p1 := cell_of_block (k := 1) (HS.out.blockAt 1 rfl) rfl
          by_cases h4 : cn < 4
          · have hft : F ⟨px, sy⟩ = true := by rw [HFF.out]; exact decide_eq_true h4
            rw [if_pos hft] at HTK
            clear hft hF hcn hkn hk
            go_wp2_with (at_builtin; refine wpList_app1l rowP encP_len encP_one HO6.out.o (Below.refl _ _) ⟨px, sy⟩ _ rfl HLL.out (by decide) _ _ rfl rfl rfl _ rfl (by simp) ?_; intro v' w9 ho9 hsh9 hgr9 hloc9; have HO9 := Lib.hid (HO6.out.app ho9 hgr9 hloc9); clear ho9 hsh9 hgr9 hloc9)
            go_roundw
            case rel => exact ⟨i + 1, HP.out.1, congrArg (Value.int .i64) HE3.out, by rw [HTK.out]; exact HO9.out⟩
            case measure => rw [HE3.out]; have := HP.out.1; have := HPX.out; simp only [intOf]; omega
          · have hff : F ⟨px, sy⟩ = false := by rw [HFF.out]; exact decide_eq_false h4
            rw [if_neg (by rw [hff]; decide), List.append_nil] at HTK
            clear hff hF hcn hkn hk
            go_wp2_with fail
            clear h4
            go_roundw
            case rel => exact ⟨i + 1, HP.out.1, congrArg (Value.int .i64) HE3.out, by rw [HTK.out]; exact HO6.out⟩
            case measure => rw [HE3.out]; have := HP.out.1; have := HPX.out; simp only [intOf]; omega
     · have him : i = m := by omega
       clear hsp
       go_wp2_with fail
       clear c0 c1 c2 hlt
       go_roundw
       case rel =>
        refine ⟨j + 1, HJ.out, congrArg (Value.int .i64) HE.out, ?_⟩
        rw [HSP.out.1]
        have h := HO.out.o
        rw [him, List.take_of_length_le (by rw [HSA.out.1]; exact Nat.le_refl _)] at h
        exact h
       case measure => rw [HE.out]; have := HJ.out; simp only [intOf]; omega
  · have hjn : j = n := by omega
    have hfin := HO.out
    rw [hjn, List.take_of_length_le (by rw [HL.out.1]; exact Nat.le_refl _), HRD.out] at hfin
    have HFN := Lib.hid hfin
    clear hfin hjn hj
    go_wp2
    go_ret
    exact ⟨_, rfl, ownsRow_mono HFN.out.row HFN.out.low, HFN.out.st.low⟩
end Go.Proofs.Ytodpkgbpcpfamaa

/- Layer 8: no canvas; wrong rows; a span on a canvas. -/
namespace Go.Proofs.Ytodpkgbpcpfamaa
set_option linter.unusedSimpArgs false
set_option linter.unusedVariables false
open Go.RowKit Go.Shelf
attribute [local go_sem] Oper.semAt_some
set_option maxRecDepth 100000 in
theorem steps_nil (p q : PtT) (t : Int) (w : World) : Calls Try.prog 13 #[.pointer none, p.val, q.val, .int .i64 t] w (Gives (.tuple #[.int .i64 0, .int .i64 1]) w) := by
 have HS := Lib.hid (St.start w)
 have HB := Lib.hid (fun w => begun_nil p t w)
 obtain ⟨x, y⟩ := p
 obtain ⟨x2, y2⟩ := q
 unfold PtT.val at *
 simp only at HB
 go_enter Try.func13, Try.ntmps13
 repeat ((fail_if_success (with_reducible refine stop_at (id := 1) ?_)); (first | go_values | go_skip | go_guarded | go_step | go_upon | go_back | (simp only [Int.not_lt, Int.not_le] at *; go_simp) | (go_values <;> (try go_simp)) | (go_ite <;> go_prune <;> (try go_simp)) | (split <;> (first | (rename_i hx; exact (hx _ rfl).elim) | go_prune))))
 have hs_ := ((HS.out.alloc (.cells #[.int .i64 x, .int .i64 y] 41)).alloc (.cells #[.int .i64 x2, .int .i64 y2] 41))
 obtain ⟨w1, hw_⟩ : ∃ w1 : World, ((w.alloc (.cells #[.int .i64 x, .int .i64 y] 41)).alloc (.cells #[.int .i64 x2, .int .i64 y2] 41)) = w1 := ⟨_, rfl⟩
 rw [hw_] at hs_
 try simp only [World.size_alloc] at hs_
 have HS := Lib.hid hs_
 rw [hw_]
 clear hw_ hs_
 have k0 := cell_of_block (k := 0) (HS.out.blockAt 1 rfl) rfl
 have k1 := cell_of_block (k := 1) (HS.out.blockAt 1 rfl) rfl
 go_wp2_with fail
 refine (HB.out _).mono ?_
 rintro e w2 ⟨rfl, hb_⟩
 have HS := Lib.hid (HS.out.below hb_)
 clear hb_
 go_wp2_with fail
 refine bodyPost_ret (v := .tuple #[.int .i64 0, .int .i64 1]) (by simp [results, Try.results13, go_sem]) rfl ⟨rfl, HS.out.low⟩
set_option maxRecDepth 100000 in
theorem rim_wrong (c : Nat) (a : Option Addr) (n cap : Nat) (l : List SpT) (hl : l.length = n) (hn : n ≤ 1000000) (hr : rightB l = false) (w : World) (he : Elems w (.slice a n cap) n 3 (rowC encS l)) :
 Calls Try.prog 8 #[.pointer (some ⟨c, 0, none⟩), .slice a n cap] w (Gives (.tuple #[.slice none 0 0, .int .i64 160]) w) := by
 have HCK := Lib.hid (fun w' h => check_any a n cap l hl (by omega) w' h)
 have HE := Lib.hid he
 have HS := Lib.hid (St.start w)
 rw [hr] at HCK
 clear he hl hn hr
 refine (callsIn_wide (n := 10)).1 ?_
 refine callsIn_of_wp_marks Try.func8 rfl trivial ?_ rfl
 simp only [Try.ntmps8, List.size_toArray, List.length_cons, List.length_nil, Nat.reduceAdd, Nat.reduceSub, Array.replicate_succ, Array.replicate_zero, List.push_toArray, List.append_toArray, List.nil_append, List.cons_append]
 repeat ((fail_if_success (with_reducible refine stop_atI (id := 1) ?_)); (first | go_values | gi_guarded | gi_step | gi_upon | gi_back | (simp only [Int.not_lt, Int.not_le] at *; go_simp) | (go_values <;> (try go_simp)) | (go_ite <;> go_prune <;> (try go_simp)) | (split <;> (first | (rename_i hx; exact (hx _ rfl).elim) | go_prune))))
 have hs_ := ((HS.out.alloc (.cells #[.slice none 0 0] 34)).alloc (.cells #[.int .i64 0] 35))
 obtain ⟨w1, hw_⟩ : ∃ w1 : World, ((w.alloc (.cells #[.slice none 0 0] 34)).alloc (.cells #[.int .i64 0] 35)) = w1 := ⟨_, rfl⟩
 rw [hw_] at hs_
 try simp only [World.size_alloc] at hs_
 have HS := Lib.hid hs_
 rw [hw_]
 clear hw_ hs_
 gi_wp2_with fail
 refine (callsIn_wide.2 (HCK.out _ (HE.out.below HS.out.low))).mono ?_
 rintro e w2 ⟨rfl, hb_⟩
 have HS := Lib.hid (HS.out.below hb_)
 clear hb_ HCK
 have a0 := cell_of_block (k := 0) (HS.out.blockAt 1 rfl) rfl
 have fa := free_of_block (HS.out.blockAt 1 rfl) 0
 have b0 := cell_of_block (k := 0) (HS.out.blockAt 0 rfl) rfl
 have fb := free_of_block (HS.out.blockAt 0 rfl) 0
 gi_wp2_with fail
 have h1 := HS.out.putAt (pre := [_]) (by intro i hi; simp at hi; exact ⟨_, _, hi⟩) 0 (.slice none 0 0) rfl
 have h2 := St.putAt (pre := []) h1 (by simp) 0 (.int .i64 160) rfl
 simp only [List.nil_append, List.cons_append] at h2
 have k0 := cell_of_block (k := 0) (h2.blockAt 1 rfl) rfl
 have k1 := cell_of_block (k := 0) (h2.blockAt 0 rfl) rfl
 refine ⟨.tuple #[.slice none 0 0, .int .i64 160], by simp [results, Try.results8, go_sem, k0, k1], rfl, h2.low⟩
/-- A span's ends. -/
def endsB (C : CanT) (s : SpT) : Bool := onC C ⟨s.f, s.y⟩ && onC C ⟨s.t, s.y⟩
theorem ends_all {C : CanT} {l : List SpT} (hr : rightB l = true) : l.all (endsB C) = (ptsL l).all (onC C) := by
 rw [Bool.eq_iff_iff, List.all_eq_true, List.all_eq_true]
 have hsp := ((rightB_iff l).1 hr).rowP.sp
 constructor
 · intro h p hp
   unfold ptsL at hp
   obtain ⟨s, hs, hps⟩ := List.mem_flatMap.1 hp
   have h1 := Bool.and_eq_true_iff.1 (h s hs)
   have h2 := onB_iff.1 h1.1
   have h3 := onB_iff.1 h1.2
   have h4 := mem_spPts.1 hps
   refine onB_iff.2 ?_
   simp only at h2 h3
   omega
 · intro h s hs
   have h4 := hsp s hs
   refine Bool.and_eq_true_iff.2 ⟨h _ ?_, h _ ?_⟩
   · unfold ptsL
     exact List.mem_flatMap.2 ⟨s, hs, mem_spPts.2 ⟨rfl, Int.le_refl _, h4⟩⟩
   · unfold ptsL
     exact List.mem_flatMap.2 ⟨s, hs, mem_spPts.2 ⟨rfl, h4, Int.le_refl _⟩⟩
end Go.Proofs.Ytodpkgbpcpfamaa
