/- Merged texts: ClipL Clips Sweeps LinesA StepsA UnionsA DrL Met Pla Nbs Sea Near Meet Around GoesL DrA. -/
import Derived.Test.YtgdcfkbimkclaaaGreatDoorM10
import Derived.Test.YtgdcfkbimkclaaaGreatDoorM9
import Derived.Shelf.SlicesQ.Contains
import Derived.Test.YtgdcfkbimkclaaaGreatDoorM7
import Derived.Test.YtgdcfkbimkclaaaGreatDoorM2
import Derived.RangeFuncNested
import Derived.Deep.QuietTactic
import Derived.Laws.EntriesVeiled
set_option linter.unusedSimpArgs false
set_option linter.unusedVariables false
/- The plain law: clipped twice. -/
namespace Go.Proofs.YtgdcfkbimkclaaaGreatDoor
open Go.RowKit Go.Shelf
theorem RightP.of {l : List SpT} (h1 : ∀ s ∈ l, spB s = true) (h2 : l.Pairwise ordP) : RightP l :=
 ⟨fun k h => h1 _ (List.getElem_mem h), fun k h => by
  have := List.pairwise_iff_getElem.1 h2 k (k + 1) (by omega) h (by omega)
  unfold ordB
  unfold ordP at this
  simpa using this⟩
theorem RightP.mem {l : List SpT} (h : RightP l) {s : SpT} (hs : s ∈ l) : spB s = true := by
 obtain ⟨k, hk, rfl⟩ := List.getElem_of_mem hs
 exact h.sp k hk
theorem clip1_some {b : BxT} {s t : SpT} (h : clip1 b s = some t) : (max s.f b.x ≤ min s.t b.x2 ∧ b.y ≤ s.y ∧ s.y ≤ b.y2) ∧ t = ⟨s.y, max s.f b.x, min s.t b.x2⟩ := by
 unfold clip1 at h
 split at h
 · rename_i hc
   exact ⟨hc, (Option.some.inj h).symm⟩
 · cases h
theorem right_clip {l : List SpT} (h : RightP l) (b : BxT) : RightP (clipL b l) := by
 refine RightP.of (fun t ht => ?_) ?_
 · obtain ⟨s, hs, hst⟩ := List.mem_filterMap.1 ht
   have := h.mem hs
   obtain ⟨h1, rfl⟩ := clip1_some hst
   unfold spB reachB at *
   simp at this ⊢
   omega
 · refine List.Pairwise.filterMap (clip1 b) (R := ordP) (fun a a' haa c hc c' hc' => ?_) h.rowP.ord
   obtain ⟨h1, rfl⟩ := clip1_some hc
   obtain ⟨h2, rfl⟩ := clip1_some hc'
   unfold ordP at *
   simp only
   omega
theorem clipR_right {l : List SpT} (h : rightB l = true) (b : BxT) : clipR b l = clipL b l := by unfold clipR; rw [h]; rfl
theorem rightB_clip {l : List SpT} (h : rightB l = true) (b : BxT) : rightB (clipL b l) = true := (rightB_iff _).2 (right_clip ((rightB_iff _).1 h) b)
/- ShapeClips: the walk. -/
/- ShapeSweeps: the walk. -/
theorem GivesRow.got {α : Type} {k : Nat} {enc : α → List Value} (hk : ∀ q, (enc q).length = k) {E : TypeId} {L : List α} {w : World} {e : Ending} {w' : World} (h : GivesRow E k L.length (L.flatMap enc) w e w') : ∃ a cap, e = .returned (.slice a L.length cap) ∧ Elems w' (.slice a L.length cap) L.length k (rowC enc L) ∧ Below w.heap.size w w' := by
 obtain ⟨v, rfl, hr, hb⟩ := h
 have he := ownsRow_rows hk hr
 obtain ⟨a, cap, rfl, -⟩ := he.shape
 exact ⟨a, cap, rfl, he, hb⟩
/- ShapeLines: contracts of the calls, as rows that are read; pairs of places. -/
theorem GivesSet.good {P : PtT → Prop} {er : Int} {w : World} {e : Ending} {w' : World} (h : GivesSet true P er w e w') : ∃ M, SetRow P M ∧ M.length ≤ 1000000 ∧ Got 3 encS M M.length 0 w e w' := by
 obtain ⟨M, h1, -, h3, h4⟩ := h.got
 exact ⟨M, h1 rfl, h3, h4⟩
theorem rectL_set {a b : PtT} (ha : drawnB a = true) (hb : drawnB b = true) : SetRow (RectP a b) (rectL a b) := by
 have e : rectL a b = rectN a b (max a.y b.y - min a.y b.y + 1).toNat := by unfold rectL; rw [ha, hb]; rfl
 rw [e]
 refine ⟨⟨fun s hs => ?_, ?_⟩, fun p => ?_⟩
 · unfold rectN at hs
   obtain ⟨i, -, rfl⟩ := List.mem_map.1 hs
   simp only
   omega
 · unfold rectN
   refine List.pairwise_map.2 (List.Pairwise.imp ?_ (List.pairwise_lt_range))
   intro i j hij
   unfold ordP
   simp only
   omega
 · rw [hasB_iff]
   unfold RectP rectN
   constructor
   · rintro ⟨s, hs, h1, h2, h3⟩
     obtain ⟨i, hi, rfl⟩ := List.mem_map.1 hs
     have := List.mem_range.1 hi
     simp only at h1 h2 h3
     omega
   · rintro ⟨⟨h1, h2⟩, h3, h4⟩
     refine ⟨⟨min a.y b.y + ((p.y - min a.y b.y).toNat : Int), min a.x b.x, max a.x b.x⟩, List.mem_map.2 ⟨(p.y - min a.y b.y).toNat, List.mem_range.2 (by omega), rfl⟩, by simp only; omega, h1, h2⟩
theorem rectL_small {a b : PtT} (ha : drawnB a = true) (hb : drawnB b = true) : (rectL a b).length ≤ 1000 := by
 have e : rectL a b = rectN a b (max a.y b.y - min a.y b.y + 1).toNat := by unfold rectL; rw [ha, hb]; rfl
 rw [e, rectN_len]
 have h1 := (drawn_iff a).1 ha
 have h2 := (drawn_iff b).1 hb
 omega
/- ShapeSteps: the plain law of lines; slices.Contains at places. -/
/- ShapeUnions: the plain law. -/
theorem mem_spPts {s : SpT} {p : PtT} : p ∈ spPts s ↔ s.y = p.y ∧ s.f ≤ p.x ∧ p.x ≤ s.t := by
 unfold spPts
 rw [List.mem_map]
 constructor
 · rintro ⟨i, hi, rfl⟩
   have := List.mem_range.1 hi
   exact ⟨rfl, by simp only; omega, by simp only; omega⟩
 · rintro ⟨h1, h2, h3⟩
   refine ⟨(p.x - s.f).toNat, List.mem_range.2 (by omega), ?_⟩
   obtain ⟨x, y⟩ := p
   simp only at *
   rw [h1]
   congr 1
   omega
theorem mem_ptsL {l : List SpT} {p : PtT} : p ∈ ptsL l ↔ hasB l p = true := by
 rw [hasB_iff]
 unfold ptsL
 rw [List.mem_flatMap]
 constructor
 · rintro ⟨s, hs, hp⟩; exact ⟨s, hs, mem_spPts.1 hp⟩
 · rintro ⟨s, hs, hp⟩; exact ⟨s, hs, mem_spPts.2 hp⟩
theorem ptsL_nodup {l : List SpT} (h : RowP l) : (ptsL l).Nodup := by
 refine List.pairwise_flatMap.2 ⟨fun s _ => ?_, h.ord.imp ?_⟩
 · unfold spPts
   refine List.pairwise_map.2 (List.pairwise_lt_range.imp ?_)
   intro i j hij he
   have := congrArg PtT.x he
   simp only at this
   omega
 · intro a b hab x hx y hy he
   subst he
   have h1 := mem_spPts.1 hx
   have h2 := mem_spPts.1 hy
   unfold ordP at hab
   omega
theorem allL_right {l : List SpT} (h : rightB l = true) : allL l = ptsL l := by unfold allL; rw [h]; rfl
/- Layer 7: painting, plain. -/
/-- The box of a canvas. -/
def canBox (C : CanT) : BxT := ⟨0, 0, 8 * (C.wide : Int) - 1, 8 * (C.high : Int) - 1⟩
theorem hasB_clip {b : BxT} {l : List SpT} {p : PtT} : hasB (clipL b l) p = true ↔ hasB l p = true ∧ (b.x ≤ p.x ∧ p.x ≤ b.x2) ∧ (b.y ≤ p.y ∧ p.y ≤ b.y2) := by
 rw [hasB_iff, hasB_iff]
 constructor
 · rintro ⟨t, ht, h1, h2, h3⟩
   obtain ⟨s, hs, hst⟩ := List.mem_filterMap.1 ht
   obtain ⟨h4, rfl⟩ := clip1_some hst
   simp only at h1 h2 h3
   exact ⟨⟨s, hs, h1, by omega, by omega⟩, by omega, by omega⟩
 · rintro ⟨⟨s, hs, h1, h2, h3⟩, h4, h5⟩
   refine ⟨⟨s.y, max s.f b.x, min s.t b.x2⟩, List.mem_filterMap.2 ⟨s, hs, ?_⟩, h1, by simp only; omega, by simp only; omega⟩
   unfold clip1
   rw [if_pos (by omega)]
/-- The places of a row that are on a canvas. -/
def ptsC (C : CanT) (L : List SpT) : List PtT := ptsL (clipL (canBox C) L)
theorem mem_ptsC {C : CanT} {L : List SpT} {p : PtT} : p ∈ ptsC C L ↔ hasB L p = true ∧ onCan C p = true := by
 unfold ptsC
 rw [mem_ptsL, hasB_clip, onCan_iff]
 unfold canBox
 simp only
 constructor
 · rintro ⟨h1, h2, h3⟩; exact ⟨h1, by omega, by omega⟩
 · rintro ⟨h1, h2, h3⟩; exact ⟨h1, by omega, by omega⟩
/-- Dots whose colours hang on their places. -/
def dotsF (ps : List PtT) (f : PtT → ColT) : List DotT := ps.map fun p => ⟨p.x, p.y, f p⟩
theorem colC_withF : ∀ (ps : List PtT) {C : CanT} (_ : okCan C) (f : PtT → ColT) (_ : ∀ p ∈ ps, okC (f p)) {x y : Nat} (_ : x < 8 * C.wide) (_ : y < 8 * C.high), colC (withL C (dotsF ps f)) x y = if (⟨(x : Int), (y : Int)⟩ : PtT) ∈ ps then f ⟨(x : Int), (y : Int)⟩ else colC C x y
 | [], C, h, f, hf, x, y, hx, hy => by simp [withL, dotsF]
 | p :: ps, C, h, f, hf, x, y, hx, hy => by
  have e : withL C (dotsF (p :: ps) f) = withL (dotC C ⟨p.x, p.y, f p⟩) (dotsF ps f) := rfl
  rw [e, colC_withF ps (h.dotC (d := ⟨p.x, p.y, f p⟩) (hf p (by simp))) f (fun q hq => hf q (by simp [hq])) (by rw [dotC_wide]; exact hx) (by rw [dotC_high]; exact hy), colC_dotC h hx hy]
  by_cases h1 : (⟨(x : Int), (y : Int)⟩ : PtT) ∈ ps
  · rw [if_pos h1, if_pos (List.mem_cons_of_mem _ h1)]
  · rw [if_neg h1]
    by_cases h2 : p = ⟨(x : Int), (y : Int)⟩
    · subst h2
      simp
    · obtain ⟨px, py⟩ := p
      simp only [PtT.mk.injEq] at h2
      rw [if_neg (by simp only; exact h2), if_neg]
      intro h3
      rcases List.mem_cons.1 h3 with h4 | h4
      · simp only [PtT.mk.injEq] at h4
        exact h2 ⟨h4.1.symm, h4.2.symm⟩
      · exact h1 h4
/-- A row painted on a canvas: each place comes to something, by what is there. -/
def paintC (C : CanT) (L : List SpT) (f : ColT → ColT) : CanT := withL C (dotsF (ptsC C L) fun p => f (colP C p))
theorem paintC_wide (C : CanT) (L : List SpT) (f : ColT → ColT) : (paintC C L f).wide = C.wide := withL_wide _ _
theorem paintC_high (C : CanT) (L : List SpT) (f : ColT → ColT) : (paintC C L f).high = C.high := withL_high _ _
theorem onCan_col {C : CanT} (hC : okCan C) {p : PtT} (h : onCan C p = true) : okC (colP C p) := by
 obtain ⟨h1, h2, _, _⟩ := onCan_nat h
 exact (hC.tile h1 h2).choose_spec.2.2
theorem dotsF_ok {C : CanT} (hC : okCan C) (L : List SpT) {f : ColT → ColT} (hf : ∀ c, okC c → okC (f c)) : ∀ d ∈ dotsF (ptsC C L) (fun p => f (colP C p)), okC d.c := fun d hd => by
 obtain ⟨p, hp, rfl⟩ := List.mem_map.1 hd
 exact hf _ (onCan_col hC (mem_ptsC.1 hp).2)
theorem paintC_col {C : CanT} (hC : okCan C) (L : List SpT) {f : ColT → ColT} (hf : ∀ c, okC c → okC (f c)) {x y : Nat} (hx : x < 8 * C.wide) (hy : y < 8 * C.high) : colC (paintC C L f) x y = if hasB L ⟨(x : Int), (y : Int)⟩ = true then f (colC C x y) else colC C x y := by
 unfold paintC
 rw [colC_withF _ hC _ (fun p hp => hf _ (onCan_col hC (mem_ptsC.1 hp).2)) hx hy]
 have ho : onCan C ⟨(x : Int), (y : Int)⟩ = true := onCan_iff.2 (by simp only; omega)
 by_cases h : hasB L ⟨(x : Int), (y : Int)⟩ = true
 · rw [if_pos (mem_ptsC.2 ⟨h, ho⟩), if_pos h]; rfl
 · rw [if_neg (fun h2 => h (mem_ptsC.1 h2).1), if_neg h]
/- Layer 8: what a search keeps of each pixel; the search by the document, and by the program. -/
/-- Of each place a number. -/
def mvL (m : Nat → Nat) : List Value := (List.range 1024).map fun i => .int .i64 (m i)
theorem mvL_len (m : Nat → Nat) : (mvL m).length = 1024 := by simp [mvL]
theorem mvL_get (m : Nat → Nat) {i : Nat} (h : i < 1024) : (mvL m)[i]? = some (.int .i64 (m i)) := by simp [mvL, h]
theorem mvL_set (m : Nat → Nat) (k v : Nat) : (mvL m).set k (.int .i64 v) = mvL fun i => if i = k then v else m i := by
 refine List.ext_getElem? fun i => ?_
 rw [List.getElem?_set]
 by_cases h : k = i
 · subst h
   by_cases hl : k < 1024
   · rw [if_pos rfl, if_pos (by rw [mvL_len]; exact hl), mvL_get _ hl, if_pos rfl]
   · rw [if_pos rfl, if_neg (by rw [mvL_len]; exact hl), List.getElem?_eq_none (by rw [mvL_len]; omega)]
 · have h' : i ≠ k := fun e => h e.symm
   by_cases hl : i < 1024
   · simp [h, h', mvL_get _ hl]
   · rw [List.getElem?_eq_none (by rw [mvL_len]; omega), List.getElem?_eq_none (by rw [mvL_len]; omega)]
     simp [h]
/-- By the document: from nothing, past what is barred. -/
structure BfP (m0 : Nat → Nat) (s t : Bf) : Prop where
 l : s.l = t.l
 m : ∀ i, s.m i = m0 i + t.m i
 new : ∀ q ∈ t.l, m0 (ixP q) = 0
 off : ∀ i, m0 i = 0 ∨ t.m i = 0
theorem BfP.meet {m0 : Nat → Nat} {s t : Bf} (h : BfP m0 s t) (n : PtT) (v : Nat) (hn : m0 (ixP n) = 0) : BfP m0 (s.meet n v) (t.meet n v) := by
 unfold Bf.meet
 have e : s.m (ixP n) = t.m (ixP n) := by rw [h.m, hn, Nat.zero_add]
 by_cases h0 : t.m (ixP n) = 0
 · rw [if_pos (e.trans h0), if_pos h0]
   refine ⟨by simp only [h.l], fun i => ?_, fun q hq => ?_, fun i => ?_⟩
   · show (if i = ixP n then v + 1 else s.m i) = m0 i + (if i = ixP n then v + 1 else t.m i)
     by_cases hi : i = ixP n
     · simp [hi, hn]
     · simp [hi, h.m]
   · rcases List.mem_append.1 hq with hq | hq
     · exact h.new q hq
     · rw [List.mem_singleton.1 hq]; exact hn
   · show _ ∨ (if i = ixP n then v + 1 else t.m i) = 0
     by_cases hi : i = ixP n
     · subst hi; exact .inl hn
     · rw [if_neg hi]; exact h.off i
 · rw [if_neg (by rw [e]; exact h0), if_neg h0]
   exact h
/-- What may be gone to past what is barred. -/
def pastB (N : PtT → Bool) (m0 : Nat → Nat) (q : PtT) : Bool := decide (m0 (ixP q) = 0) && N q
theorem BfP.look {N : PtT → Bool} {W H : Int} {m0 : Nat → Nat} {s t : Bf} (h : BfP m0 s t) {q : PtT} (hq : q ∈ t.l) (n : PtT) : BfP m0 (s.look N W H q n) (t.look (pastB N m0) W H q n) := by
 unfold Bf.look pastB
 by_cases hm : m0 (ixP n) = 0
 · rw [decide_eq_true hm, Bool.true_and]
   have e : s.m (ixP q) = t.m (ixP q) := by rw [h.m, h.new q hq, Nat.zero_add]
   rw [e]
   split
   · exact h.meet n _ hm
   · exact h
 · rw [decide_eq_false hm, Bool.false_and, Bool.and_false]
   have e : s.meet n (s.m (ixP q)) = s := by
    unfold Bf.meet
    rw [if_neg (by rw [h.m]; omega)]
   rw [e]
   simpa using h
theorem look_mem {N : PtT → Bool} {W H : Int} {t : Bf} {q n a : PtT} (ha : a ∈ t.l) : a ∈ (t.look N W H q n).l := by
 unfold Bf.look Bf.meet
 split
 · split
   · exact List.mem_append.2 (.inl ha)
   · exact ha
 · exact ha
theorem BfP.looks {N : PtT → Bool} {W H : Int} {m0 : Nat → Nat} {q : PtT} : ∀ (ns : List PtT) {s t : Bf}, BfP m0 s t → q ∈ t.l → BfP m0 (ns.foldl (Bf.look N W H q) s) (ns.foldl (Bf.look (pastB N m0) W H q) t)
 | [], _, _, h, _ => h
 | n :: ns, _, _, h, hq => BfP.looks ns (h.look hq n) (look_mem hq)
theorem BfP.goes {N : PtT → Bool} {W H : Int} {m0 : Nat → Nat} : ∀ (f k : Nat) {s t : Bf}, BfP m0 s t → BfP m0 (goB N W H f k s) (goB (pastB N m0) W H f k t)
 | 0, _, _, _, h => h
 | f + 1, k, s, t, h => by
  unfold goB
  rw [h.l]
  cases hq : t.l[k]? with
  | none => exact h
  | some q => exact BfP.goes f (k + 1) (BfP.looks (nbs q) h (List.mem_of_getElem? hq))
/-- A whole search. -/
def runB (N : PtT → Bool) (W H : Int) (m0 : Nat → Nat) (p : PtT) : Bf := goB N W H 1025 0 ((Bf.mk m0 []).meet p 0)
theorem goB_end {N : PtT → Bool} {W H : Int} (f k : Nat) (s : Bf) (h : s.l.length ≤ k) : goB N W H f k s = s := by
 cases f with
 | zero => rfl
 | succ f => unfold goB; rw [List.getElem?_eq_none h]
theorem goB_step {N : PtT → Bool} {W H : Int} (f k : Nat) (s : Bf) {q : PtT} (hq : s.l[k]? = some q) : goB N W H (f + 1) k s = goB N W H f (k + 1) (s.visit N W H q) := by
 show (match s.l[k]? with | none => s | some q => goB N W H f (k + 1) (s.visit N W H q)) = _
 rw [hq]
/-- A search under way: k have been visited. -/
structure BfK (N : PtT → Bool) (W H : Int) (m0 : Nat → Nat) (p : PtT) (k : Nat) (s : Bf) : Prop where
 inv : BfI N W H m0 p k s
 run : goB N W H (1025 - k) k s = runB N W H m0 p
 kl : k ≤ s.l.length
theorem BfK.start {N : PtT → Bool} {W H : Int} {m0 : Nat → Nat} {p : PtT} (hp : onB W H p = true) (hn : N p = true) (h0 : m0 (ixP p) = 0) : BfK N W H m0 p 0 ((Bf.mk m0 []).meet p 0) := ⟨BfI.start N W H m0 p hp hn h0, rfl, Nat.zero_le _⟩
theorem BfK.visit {N : PtT → Bool} {W H : Int} {m0 : Nat → Nat} {p : PtT} {k : Nat} {s : Bf} (h : BfK N W H m0 p k s) (hW : W ≤ 32) (hH : H ≤ 32) {q : PtT} (hq : s.l[k]? = some q) : BfK N W H m0 p (k + 1) (s.visit N W H q) ∧ BfG s (s.visit N W H q) := by
 obtain ⟨h1, h2⟩ := h.inv.visit hW hq
 have hl := h.inv.len hW hH
 have hk := (List.getElem?_eq_some_iff.1 hq).1
 refine ⟨⟨h1, ?_, ?_⟩, h2⟩
 · rw [← h.run, show 1025 - k = (1025 - (k + 1)) + 1 by omega, goB_step _ _ _ hq]
 · obtain ⟨e, he⟩ := h2.l
   rw [he, List.length_append]; omega
theorem BfK.done {N : PtT → Bool} {W H : Int} {m0 : Nat → Nat} {p : PtT} {k : Nat} {s : Bf} (h : BfK N W H m0 p k s) (hk : s.l.length ≤ k) : s = runB N W H m0 p := by
 rw [← h.run, goB_end _ _ _ hk]
end Go.Proofs.YtgdcfkbimkclaaaGreatDoor
/- Layer 5: place, Size, At. -/
namespace Go.Proofs.YtgdcfkbimkclaaaGreatDoor
open Go.RowKit Go.Shelf
attribute [local go_sem] Oper.semAt_some
theorem place_nums {x y wide high i : Nat} (hi : y / 8 * wide + x / 8 = i) (hx : x < 8 * wide) (hy : y < 8 * high) (hw : wide ≤ 4) (hh : high ≤ 4) :
 ∃ qy m qx : Nat, wrap64 ((y : Int) / 8) = (qy : Int) ∧ wrap64 ((qy : Int) * wide) = (m : Int) ∧ wrap64 ((x : Int) / 8) = (qx : Int) ∧ wrap64 ((m : Int) + qx) = (i : Int) ∧ wrap64 (8 * (wide : Int)) = 8 * (wide : Int) ∧ wrap64 (8 * (high : Int)) = 8 * (high : Int) := by
 obtain ⟨e1, e2, e3, e4, -⟩ := at_nums rfl rfl rfl hi rfl hx hy hw hh
 refine ⟨_, _, _, e1, e2, e3, e4, ?_, ?_⟩
 · unfold wrap64; omega
 · unfold wrap64; omega
set_option maxRecDepth 100000 in
set_option maxHeartbeats 2000000 in
theorem place_on (wide high x y i : Nat) (hi : y / 8 * wide + x / 8 = i) (hx : x < 8 * wide) (hy : y < 8 * high) (hw : wide ≤ 4) (hh : high ≤ 4) (w : World) :
 Calls Tryz.prog 75 #[.agg #[.int .i64 wide, .int .i64 high], .int .i64 x, .int .i64 y] w (Gives (.tuple #[.int .i64 i, .agg #[.int .i64 (x % 8 : Nat), .int .i64 (y % 8 : Nat)], .bool true]) w) := by
 obtain ⟨qy, m, qx, e1, e2, e3, e4, e5, e6⟩ := place_nums hi hx hy hw hh
 have g1 : (x : Int) < 8 * (wide : Int) := by omega
 have g2 : (y : Int) < 8 * (high : Int) := by omega
 clear hi hx hy hw hh
 have HS := H7 (St.start w)
 go_enter Tryz.func75, Tryz.ntmps75
 repeat ((fail_if_success (with_reducible refine stop_at (id := 1) ?_)); (first | go_values | go_skip | go_guarded | go_step | go_upon | go_back | (simp only [Int.not_lt, Int.not_le] at *; go_simp) | (go_values <;> (try go_simp)) | (go_ite <;> go_prune <;> (try go_simp)) | (split <;> (first | (rename_i hx; exact (hx _ rfl).elim) | go_prune))))
 have hs_ := ((HS.out.alloc (.cells #[.int .i64 wide, .int .i64 high] 106)).alloc (.cells #[.int .i64 0, .int .i64 0] 69))
 obtain ⟨w1, hw_⟩ : ∃ w1 : World, ((w.alloc (.cells #[.int .i64 wide, .int .i64 high] 106)).alloc (.cells #[.int .i64 0, .int .i64 0] 69)) = w1 := ⟨_, rfl⟩
 rw [hw_] at hs_
 try simp only [World.size_alloc] at hs_
 have HS := H7 hs_
 rw [hw_]
 clear hw_ hs_
 have s0 := h7c HS 1 0 rfl rfl
 have s1 := h7c HS 1 1 rfl rfl
 have p0 := h7c HS 0 0 rfl rfl
 have p1 := h7c HS 0 1 rfl rfl
 have f0 := f7b (HS.out.blockAt 0 rfl)
 go_wp2_with fail
 refine bodyPost_ret (v := .tuple #[.int .i64 i, .agg #[.int .i64 (x % 8 : Nat), .int .i64 (y % 8 : Nat)], .bool true]) (by simp [results, Tryz.results75, go_sem, p0, p1, e4]) rfl ⟨rfl, ?_⟩
 have h0 := HS.out.low
 (repeat (first | exact B7 _ _ | assumption | refine Below.alloc ?_ (by first | omega | (simp; done) | (simp; omega)) _ | refine Below.setCell ?_ (by first | omega | (simp; done) | (simp; omega)) _ | refine Below.drew ?_))
set_option maxRecDepth 100000 in
set_option maxHeartbeats 4000000 in
theorem place_off (wide high : Nat) (x y : Int) (hon : onB (8 * (wide : Int)) (8 * (high : Int)) ⟨x, y⟩ = false) (hw : wide ≤ 4) (hh : high ≤ 4) (w : World) :
 Calls Tryz.prog 75 #[.agg #[.int .i64 wide, .int .i64 high], .int .i64 x, .int .i64 y] w (Gives (.tuple #[.int .i64 0, .agg #[.int .i64 0, .int .i64 0], .bool false]) w) := by
 have e5 : wrap64 (8 * (wide : Int)) = 8 * (wide : Int) := by unfold wrap64; omega
 have e6 : wrap64 (8 * (high : Int)) = 8 * (high : Int) := by unfold wrap64; omega
 unfold onB at hon
 have hon := of_decide_eq_false hon
 simp only at hon
 clear hw hh
 have HS := H7 (St.start w)
 by_cases h1 : 0 ≤ x <;> by_cases h2 : 0 ≤ y <;> by_cases h3 : x < 8 * (wide : Int) <;> by_cases h4 : y < 8 * (high : Int) <;> (try (exfalso; first | exact hon ⟨⟨h1, h3⟩, h2, h4⟩ | omega)) <;> clear hon <;> (
  go_enter Tryz.func75, Tryz.ntmps75
  repeat ((fail_if_success (with_reducible refine stop_at (id := 1) ?_)); (first | go_values | go_skip | go_guarded | go_step | go_upon | go_back | (simp only [Int.not_lt, Int.not_le] at *; go_simp) | (go_values <;> (try go_simp)) | (go_ite <;> go_prune <;> (try go_simp)) | (split <;> (first | (rename_i hx; exact (hx _ rfl).elim) | go_prune))))
  have hs_ := ((HS.out.alloc (.cells #[.int .i64 wide, .int .i64 high] 106)).alloc (.cells #[.int .i64 0, .int .i64 0] 69))
  obtain ⟨w1, hw_⟩ : ∃ w1 : World, ((w.alloc (.cells #[.int .i64 wide, .int .i64 high] 106)).alloc (.cells #[.int .i64 0, .int .i64 0] 69)) = w1 := ⟨_, rfl⟩
  rw [hw_] at hs_
  try simp only [World.size_alloc] at hs_
  have HS := H7 hs_
  rw [hw_]
  clear hw_ hs_
  have s0 := h7c HS 1 0 rfl rfl
  have s1 := h7c HS 1 1 rfl rfl
  have p0 := h7c HS 0 0 rfl rfl
  have p1 := h7c HS 0 1 rfl rfl
  have f0 := f7b (HS.out.blockAt 0 rfl)
  go_wp2_with fail
  refine bodyPost_ret (v := .tuple #[.int .i64 0, .agg #[.int .i64 0, .int .i64 0], .bool false]) (by simp [results, Tryz.results75, go_sem, p0, p1]) rfl ⟨rfl, ?_⟩
  have h0 := HS.out.low
  (repeat (first | exact B7 _ _ | assumption | refine Below.alloc ?_ (by first | omega | (simp; done) | (simp; omega)) _ | refine Below.setCell ?_ (by first | omega | (simp; done) | (simp; omega)) _ | refine Below.drew ?_)))
set_option maxRecDepth 100000 in
set_option maxHeartbeats 4000000 in
theorem at_on (C : CanT) (p : Nat) (x y : Nat) (hx : x < 8 * C.wide) (hy : y < 8 * C.high) (w : World) (hC : CanAt w p C) :
 Calls Tryz.prog 31 #[.pointer (some ⟨p, 0, none⟩), .int .i64 x, .int .i64 y] w (Gives (.tuple #[(colC C x y).val, .bool true]) w) := by
 obtain ⟨ok, b, cap, qs, h1, h2, h3, h4, h5⟩ := hC
 obtain ⟨T, hT, hcT, hok⟩ := ok.tile hx hy
 have hlt := tile_lt hx hy
 rw [← ok.many, ← h3] at hlt
 obtain ⟨q, hq⟩ : ∃ q, qs[y / 8 * C.wide + x / 8]? = some q := ⟨_, List.getElem?_eq_getElem hlt⟩
 have k4 := h4 _ _ hq
 have k5 := h5 _ _ _ hq hT
 have HTA := H7 (tileAtT_any T (x % 8) (y % 8) (by omega) (by omega) _ hcT)
 have HPL := H7 (place_on C.wide C.high x y _ rfl hx hy ok.wide.2 ok.high.2)
 obtain ⟨i, hi⟩ : ∃ i, y / 8 * C.wide + x / 8 = i := ⟨_, rfl⟩
 obtain ⟨rx, hrx⟩ : ∃ rx, x % 8 = rx := ⟨_, rfl⟩
 obtain ⟨ry, hry⟩ : ∃ ry, y % 8 = ry := ⟨_, rfl⟩
 obtain ⟨cl, hcl⟩ : ∃ cl, colC C x y = cl := ⟨_, rfl⟩
 rw [hrx, hry, hcl] at HTA
 rw [hi, hrx, hry] at HPL
 rw [hi] at k4
 rw [hcl]
 obtain ⟨wide, high, tiles⟩ := C
 simp only at *
 obtain ⟨n, hn⟩ : ∃ n, tiles.length = n := ⟨_, rfl⟩
 rw [hn] at h1 h3
 have hin : i < n := by rw [← h3, ← hi]; exact hlt
 have HIN := H7 hin
 have HB := H7 (And.intro (b7t h1) (And.intro (b7t k5) (cell_lt k4)))
 have HH := H7 (And.intro h1 (And.intro k4 k5))
 have HS := H7 (St.start w)
 clear ok h1 h2 h3 h4 h5 hT hcT hok hlt hq k4 k5 hi hrx hry hcl hn hx hy hin
 obtain ⟨r, g, bl, al⟩ := cl
 unfold ColT.val at *
 go_enter Tryz.func31, Tryz.ntmps31
 repeat ((fail_if_success (with_reducible refine stop_at (id := 3) ?_)); (first | go_values | go_skip | go_guarded | go_step | go_upon | go_back | (simp only [Int.not_lt, Int.not_le] at *; go_simp) | (go_values <;> (try go_simp)) | (go_ite <;> go_prune <;> (try go_simp)) | (split <;> (first | (rename_i hx; exact (hx _ rfl).elim) | go_prune))))
 have hs_ := (HS.out.alloc (.cells #[.int .u8 0, .int .u8 0, .int .u8 0, .int .u8 0] 26))
 obtain ⟨w1, hw_⟩ : ∃ w1 : World, (w.alloc (.cells #[.int .u8 0, .int .u8 0, .int .u8 0, .int .u8 0] 26)) = w1 := ⟨_, rfl⟩
 rw [hw_] at hs_
 try simp only [World.size_alloc] at hs_
 have HS := H7 hs_
 rw [hw_]
 clear hw_ hs_
 have hb1 := (HS.out.low.block _ HB.out.1).trans HH.out.1
 have s0 := c7b (k := 0) hb1 rfl
 have s1 := c7b (k := 1) hb1 rfl
 clear hb1
 go_wp2_with fail
 clear s0 s1
 refine (HPL.out _).mono ?_
 rintro e w2 ⟨rfl, hb_⟩
 have HS := H7 (HS.out.below hb_)
 clear hb_
 repeat ((fail_if_success (with_reducible refine stop_at (id := 6) ?_)); (first | go_values | go_skip | go_guarded | go_step | go_upon | go_back | (simp only [Int.not_lt, Int.not_le] at *; go_simp) | (go_values <;> (try go_simp)) | (go_ite <;> go_prune <;> (try go_simp)) | (split <;> (first | (rename_i hx; exact (hx _ rfl).elim) | go_prune))))
 have hs_ := (HS.out.alloc (.cells #[.int .i64 rx, .int .i64 ry] 69))
 obtain ⟨w3, hw_⟩ : ∃ w3 : World, (w2.alloc (.cells #[.int .i64 rx, .int .i64 ry] 69)) = w3 := ⟨_, rfl⟩
 rw [hw_] at hs_
 try simp only [World.size_alloc] at hs_
 have HS := H7 hs_
 rw [hw_]
 clear hw_ hs_
 refine (wpIn_wide (n := 0)).1 ?_
 refine wp_region_factsE (by kernel_rfl) [(fun v_ _ _ => v_ = (.pointer (some ⟨p, 0, none⟩) : Value)), (fun v_ _ _ => v_ = (.pointer (some ⟨p, 0, none⟩) : Value)), (fun v_ _ _ => v_ = (.pointer (some ⟨p, 2, none⟩) : Value)), (fun v_ _ _ => v_ = (.slice (some ⟨b, 0, none⟩) n cap : Value)), (fun v_ _ _ => v_ = (.int .i64 (i : Int) : Value)), (fun v_ _ _ => v_ = (.pointer (some ⟨b, i, none⟩) : Value)), (fun v_ _ _ => v_ = (.pointer (some ⟨q, 0, none⟩) : Value)), (fun v_ _ _ => v_ = (.pointer (some ⟨q, 0, none⟩) : Value)), (fun v_ _ _ => v_ = (.agg (encT T).toArray : Value)), (fun v_ _ _ => v_ = (.pointer (some ⟨w2.heap.size, 0, none⟩) : Value)), (fun v_ _ _ => v_ = (.int .i64 (rx : Int) : Value)), (fun v_ _ _ => v_ = (.pointer (some ⟨w2.heap.size, 1, none⟩) : Value)), (fun v_ _ _ => v_ = (.int .i64 (ry : Int) : Value)), (fun v_ _ _ => v_ = (.tuple #[.agg #[.int .u8 r, .int .u8 g, .int .u8 bl, .int .u8 al], .int .i64 0] : Value)), (fun v_ _ _ => v_ = (.tuple #[.agg #[.int .u8 r, .int .u8 g, .int .u8 bl, .int .u8 al], .int .i64 0] : Value)), (fun v_ _ _ => v_ = (.agg #[.int .u8 r, .int .u8 g, .int .u8 bl, .int .u8 al] : Value)), (fun v_ _ _ => v_ = (.int .i64 0 : Value)), (fun v_ e_ w_ => ∃ q, v_ = .pointer (some ⟨q, 0, none⟩) ∧ w3.heap.size ≤ q ∧ (w_.heap[q]? = some (.cells #[.int .u8 0, .int .u8 0, .int .u8 0, .int .u8 0] 26 (0, 0)) ∨ w_.heap[q]? = some (.cells #[.int .u8 r, .int .u8 g, .int .u8 bl, .int .u8 al] 26 (0, 0)))), (fun v_ e_ w_ => ∀ q, e_ 11 = .pointer (some ⟨q, 0, none⟩) → w_.heap[q]? = some (.cells #[.int .u8 r, .int .u8 g, .int .u8 bl, .int .u8 al] 26 (0, 0)))] (fun x y => FillC w3.heap.size (.cells #[.int .u8 0, .int .u8 0, .int .u8 0, .int .u8 0] 26 (0, 0)) (.cells #[.int .u8 r, .int .u8 g, .int .u8 bl, .int .u8 al] 26 (0, 0)) x y) (fun x => FillC.refl _ _ _ x) (fun h k => FillC.trans h k) ⟨fun _ _ _ _ _ h => h, fun _ _ _ _ _ h => h, fun _ _ _ _ _ h => h, fun _ _ _ _ _ h => h, fun _ _ _ _ _ h => h, fun _ _ _ _ _ h => h, fun _ _ _ _ _ h => h, fun _ _ _ _ _ h => h, fun _ _ _ _ _ h => h, fun _ _ _ _ _ h => h, fun _ _ _ _ _ h => h, fun _ _ _ _ _ h => h, fun _ _ _ _ _ h => h, fun _ _ _ _ _ h => h, fun _ _ _ _ _ h => h, fun _ _ _ _ _ h => h, fun _ _ _ _ _ h => h, fun _ _ _ _ hC ⟨q, e, h, h2⟩ => ⟨q, e, h, FillC.either hC h2⟩, fun _ _ _ _ hC h q e => FillC.filled hC (h q e), trivial⟩ (by kernel_rfl) (by kernel_rfl) (FillC.grow (g7d _) (Nat.le_refl _)) ⟨fun _ _ _ _ _ h => h, fun _ _ _ _ _ h => h, fun _ _ _ _ _ h => h, fun _ _ _ _ _ h => h, fun _ _ _ _ _ h => h, fun _ _ _ _ _ h => h, fun _ _ _ _ _ h => h, fun _ _ _ _ _ h => h, fun _ _ _ _ _ h => h, fun _ _ _ _ _ h => h, fun _ _ _ _ _ h => h, fun _ _ _ _ _ h => h, fun _ _ _ _ _ h => h, fun _ _ _ _ _ h => h, fun _ _ _ _ _ h => h, fun _ _ _ _ _ h => h, fun _ _ _ _ _ h => h, fun _ _ _ _ _ h => h, fun v env env' x he h q e => h q ((he ⟨17, .data⟩ (by simp) rfl _ _ rfl rfl).trans e), trivial⟩ ?steps ?fin
 case steps =>
  refine ⟨?_, ?_, ?_, ?_, ?_, ?_, ?_, ?_, ?_, ?_, ?_, ?_, ?_, ?_, ?_, ?_, ?_, ?_, ?_, trivial⟩
  · intro a' w' hA hC hD; have s0 : a'.tmps[0]? = some (.pointer (some ⟨p, 0, none⟩)) := (hA.at 0 (by kernel_rfl)).trans rfl
    have hCz := FillC.size hC
    clear hA hD; refine o7p rfl ?_; intro K hK; gi_wp2; exact hK (.pointer (some ⟨p, 0, none⟩)) _ rfl ((fun x => FillC.refl _ _ _ x) _)
  · intro a' w' hA hC hD; obtain ⟨u31, s31, r31⟩ := hD ⟨0, .data⟩ (by simp) rfl _ rfl; replace r31 : u31 = .pointer (some ⟨p, 0, none⟩) := r31; subst r31
    have hCz := FillC.size hC
    clear hA hD; refine o7p rfl ?_; intro K hK; gi_wp2; exact hK (.pointer (some ⟨p, 0, none⟩)) _ rfl ((fun x => FillC.refl _ _ _ x) _)
  · intro a' w' hA hC hD; obtain ⟨u32, s32, r32⟩ := hD ⟨1, .data⟩ (by simp) rfl _ rfl; replace r32 : u32 = .pointer (some ⟨p, 0, none⟩) := r32; subst r32
    have hCz := FillC.size hC
    clear hA hD; refine o7p rfl ?_; intro K hK; gi_wp2; exact hK (.pointer (some ⟨p, 2, none⟩)) _ rfl ((fun x => FillC.refl _ _ _ x) _)
  · intro a' w' hA hC hD; obtain ⟨u33, s33, r33⟩ := hD ⟨2, .data⟩ (by simp) rfl _ rfl; replace r33 : u33 = .pointer (some ⟨p, 2, none⟩) := r33; subst r33
    have hCz := FillC.size hC
    have hb1 := ((HS.out.low.trans (hC.1.mono HS.out.low.size)).block _ HB.out.1).trans HH.out.1; have s2 := c7b (k := 2) hb1 rfl; clear hb1
    clear hA hD; refine o7p rfl ?_; intro K hK; gi_wp2; exact hK (.slice (some ⟨b, 0, none⟩) n cap) _ rfl ((fun x => FillC.refl _ _ _ x) _)
  · intro a' w' hA hC hD; have s8 : a'.tmps[8]? = some (.int .i64 (i : Int)) := (hA.at 8 (by kernel_rfl)).trans rfl
    have hCz := FillC.size hC
    clear hA hD; refine o7p rfl ?_; intro K hK; gi_wp2; exact hK (.int .i64 (i : Int)) _ rfl ((fun x => FillC.refl _ _ _ x) _)
  · intro a' w' hA hC hD; obtain ⟨u34, s34, r34⟩ := hD ⟨3, .data⟩ (by simp) rfl _ rfl; replace r34 : u34 = .slice (some ⟨b, 0, none⟩) n cap := r34; subst r34; obtain ⟨u35, s35, r35⟩ := hD ⟨4, .data⟩ (by simp) rfl _ rfl; replace r35 : u35 = .int .i64 (i : Int) := r35; subst r35
    have hCz := FillC.size hC
    have hin := HIN.out
    clear hA hD; refine o7p rfl ?_; intro K hK; gi_wp2; exact hK (.pointer (some ⟨b, i, none⟩)) _ rfl ((fun x => FillC.refl _ _ _ x) _)
  · intro a' w' hA hC hD; obtain ⟨u36, s36, r36⟩ := hD ⟨5, .data⟩ (by simp) rfl _ rfl; replace r36 : u36 = .pointer (some ⟨b, i, none⟩) := r36; subst r36
    have hCz := FillC.size hC
    have k4 := ((HS.out.low.trans (hC.1.mono HS.out.low.size)).cell (p := ⟨b, i, none⟩) HB.out.2.2).trans HH.out.2.1
    clear hA hD; refine o7p rfl ?_; intro K hK; gi_wp2; exact hK (.pointer (some ⟨q, 0, none⟩)) _ rfl ((fun x => FillC.refl _ _ _ x) _)
  · intro a' w' hA hC hD; obtain ⟨u37, s37, r37⟩ := hD ⟨6, .data⟩ (by simp) rfl _ rfl; replace r37 : u37 = .pointer (some ⟨q, 0, none⟩) := r37; subst r37
    have hCz := FillC.size hC
    clear hA hD; refine o7p rfl ?_; intro K hK; gi_wp2; exact hK (.pointer (some ⟨q, 0, none⟩)) _ rfl ((fun x => FillC.refl _ _ _ x) _)
  · intro a' w' hA hC hD; obtain ⟨u38, s38, r38⟩ := hD ⟨7, .data⟩ (by simp) rfl _ rfl; replace r38 : u38 = .pointer (some ⟨q, 0, none⟩) := r38; subst r38
    have hCz := FillC.size hC
    clear hA hD; refine o7p rfl ?_; intro K hK
    refine opIn_load _ _ rfl q (by simp [Act.eval, s38]) 54 _ (0, 0) _ (((HS.out.low.trans (hC.1.mono HS.out.low.size)).block _ HB.out.2.1).trans HH.out.2.2) Tryz.underlying54 rfl (size_T T) (hK _ _ rfl (FillC.refl _ _ _ _))
  · intro a' w' hA hC hD; have s9 : a'.tmps[9]? = some (.pointer (some ⟨w2.heap.size, 0, none⟩)) := (hA.at 9 (by kernel_rfl)).trans rfl
    have hCz := FillC.size hC
    clear hA hD; refine o7p rfl ?_; intro K hK; gi_wp2; exact hK (.pointer (some ⟨w2.heap.size, 0, none⟩)) _ rfl ((fun x => FillC.refl _ _ _ x) _)
  · intro a' w' hA hC hD; obtain ⟨u40, s40, r40⟩ := hD ⟨9, .data⟩ (by simp) rfl _ rfl; replace r40 : u40 = .pointer (some ⟨w2.heap.size, 0, none⟩) := r40; subst r40
    have hCz := FillC.size hC
    have d0 := c7b (k := 0) ((hC.1.block _ (HS.out.lt 0 rfl)).trans (HS.out.blockAt 0 rfl)) rfl
    clear hA hD; refine o7p rfl ?_; intro K hK; gi_wp2; exact hK (.int .i64 (rx : Int)) _ rfl ((fun x => FillC.refl _ _ _ x) _)
  · intro a' w' hA hC hD; have s9 : a'.tmps[9]? = some (.pointer (some ⟨w2.heap.size, 0, none⟩)) := (hA.at 9 (by kernel_rfl)).trans rfl
    have hCz := FillC.size hC
    clear hA hD; refine o7p rfl ?_; intro K hK; gi_wp2; exact hK (.pointer (some ⟨w2.heap.size, 1, none⟩)) _ rfl ((fun x => FillC.refl _ _ _ x) _)
  · intro a' w' hA hC hD; obtain ⟨u42, s42, r42⟩ := hD ⟨11, .data⟩ (by simp) rfl _ rfl; replace r42 : u42 = .pointer (some ⟨w2.heap.size, 1, none⟩) := r42; subst r42
    have hCz := FillC.size hC
    have d1 := c7b (k := 1) ((hC.1.block _ (HS.out.lt 0 rfl)).trans (HS.out.blockAt 0 rfl)) rfl
    clear hA hD; refine o7p rfl ?_; intro K hK; gi_wp2; exact hK (.int .i64 (ry : Int)) _ rfl ((fun x => FillC.refl _ _ _ x) _)
  · intro a' w' hA hC hD; obtain ⟨u39, s39, r39⟩ := hD ⟨8, .data⟩ (by simp) rfl _ rfl; replace r39 : u39 = .agg (encT T).toArray := r39; subst r39; obtain ⟨u41, s41, r41⟩ := hD ⟨10, .data⟩ (by simp) rfl _ rfl; replace r41 : u41 = .int .i64 (rx : Int) := r41; subst r41; obtain ⟨u43, s43, r43⟩ := hD ⟨12, .data⟩ (by simp) rfl _ rfl; replace r43 : u43 = .int .i64 (ry : Int) := r43; subst r43
    have hCz := FillC.size hC
    clear hA hD; refine o7p rfl ?_; intro K hK
    gi_wp2_with fail; refine (callsIn_wide.2 (HTA.out _)).mono ?_; rintro e w5 ⟨rfl, hb⟩; exact hK _ _ rfl (FillC.grow hb hCz)
  · intro a' w' hA hC hD; obtain ⟨u44, s44, r44⟩ := hD ⟨13, .data⟩ (by simp) rfl _ rfl; replace r44 : u44 = .tuple #[.agg #[.int .u8 r, .int .u8 g, .int .u8 bl, .int .u8 al], .int .i64 0] := r44; subst r44
    have hCz := FillC.size hC
    clear hA hD; refine o7p rfl ?_; intro K hK; gi_wp2; exact hK (.tuple #[.agg #[.int .u8 r, .int .u8 g, .int .u8 bl, .int .u8 al], .int .i64 0]) _ rfl ((fun x => FillC.refl _ _ _ x) _)
  · intro a' w' hA hC hD; obtain ⟨u30, s30, r30⟩ := hD ⟨14, .data⟩ (by simp) rfl _ rfl; replace r30 : u30 = .tuple #[.agg #[.int .u8 r, .int .u8 g, .int .u8 bl, .int .u8 al], .int .i64 0] := r30; subst r30
    have hCz := FillC.size hC
    clear hA hD; refine o7p rfl ?_; intro K hK; gi_wp2; exact hK (.agg #[.int .u8 r, .int .u8 g, .int .u8 bl, .int .u8 al]) _ rfl ((fun x => FillC.refl _ _ _ x) _)
  · intro a' w' hA hC hD; obtain ⟨u30, s30, r30⟩ := hD ⟨14, .data⟩ (by simp) rfl _ rfl; replace r30 : u30 = .tuple #[.agg #[.int .u8 r, .int .u8 g, .int .u8 bl, .int .u8 al], .int .i64 0] := r30; subst r30
    have hCz := FillC.size hC
    clear hA hD; refine o7p rfl ?_; intro K hK; gi_wp2; exact hK (.int .i64 0) _ rfl ((fun x => FillC.refl _ _ _ x) _)
  · intro a' w' hA hC hD
    have hCz := FillC.size hC
    clear hA hD; refine o7p rfl ?_; intro K hK; gi_wp2; exact hK (.pointer (some ⟨w'.heap.size, 0, none⟩)) _ ⟨w'.heap.size, rfl, hCz, .inl (World.alloc_heap_new _ _)⟩ (FillC.grow ((B7 _ _).alloc (Nat.le_refl _) _) hCz)
  · intro a' w' hA hC hD; obtain ⟨u11, s11, r11⟩ := hD ⟨17, .data⟩ (by simp) rfl _ rfl; replace r11 : (fun v_ e_ w_ => ∃ q, v_ = .pointer (some ⟨q, 0, none⟩) ∧ w3.heap.size ≤ q ∧ (w_.heap[q]? = some (.cells #[.int .u8 0, .int .u8 0, .int .u8 0, .int .u8 0] 26 (0, 0)) ∨ w_.heap[q]? = some (.cells #[.int .u8 r, .int .u8 g, .int .u8 bl, .int .u8 al] 26 (0, 0)))) u11 (envOf a') w' := r11; obtain ⟨u45, s45, r45⟩ := hD ⟨15, .data⟩ (by simp) rfl _ rfl; replace r45 : u45 = .agg #[.int .u8 r, .int .u8 g, .int .u8 bl, .int .u8 al] := r45; subst r45
    have hCz := FillC.size hC
    have henv : envOf a' 11 = u11 := by (unfold envOf; rw [s11]; rfl)
    clear hA hD; refine o7p rfl ?_; intro K hK
    obtain ⟨q, rfl, hge, hq⟩ := r11; obtain ⟨y0, y1, y2, y3, hy⟩ := either4 hq; have d0 := c7b (k := 0) (v := y0) hy rfl; have d1 := c7b (k := 1) (v := y1) hy rfl; have d2 := c7b (k := 2) (v := y2) hy rfl; have d3 := c7b (k := 3) (v := y3) hy rfl; have fr := f7b hy; gi_wp2
    exact hK undef _ (fun q' e => by rw [henv] at e; cases e; exact (fill4 (n₀ := w3.heap.size) hge hq).2) (fill4 (n₀ := w3.heap.size) hge hq).1
 case fin =>
  intro w4 env hC
  simp only [EndFromE, forall_eq, Option.some.injEq, forall_eq', reduceCtorEq, false_implies, implies_true, forall_const, Act.put, List.length_cons, List.length_nil, List.drop_succ_cons, List.drop_zero, Nat.reduceAdd, List.setIfInBounds_toArray, List.set_cons_succ, List.set_cons_zero]
  rintro _ _ _ _ _ _ _ _ _ _ _ _ _ _ _ _ _ v11 ⟨q11, rfl, hge, _⟩ he hs
  have h11 := hs q11 he
  have HS := H7 (HS.out.below hC.1)
  have d0 := c7b (k := 0) h11 rfl
  have d1 := c7b (k := 1) h11 rfl
  have d2 := c7b (k := 2) h11 rfl
  have d3 := c7b (k := 3) h11 rfl
  clear hs he h11 hC hge
  have k0 := h7c HS 1 0 rfl rfl
  have k1 := h7c HS 1 1 rfl rfl
  have k2 := h7c HS 1 2 rfl rfl
  have k3 := h7c HS 1 3 rfl rfl
  have f0 := f7b (HS.out.blockAt 1 rfl)
  gi_wp2
  go_wp2_with fail
  refine bodyPost_ret (v := .tuple #[.agg #[.int .u8 r, .int .u8 g, .int .u8 bl, .int .u8 al], .bool true]) (by simp [results, Tryz.results31, go_sem, k0, k1, k2, k3]) rfl ⟨rfl, ?_⟩
  have h0 := HS.out.low
  (repeat (first | exact B7 _ _ | assumption | refine Below.alloc ?_ (by first | omega | (simp; done) | (simp; omega)) _ | refine Below.setCell ?_ (by first | omega | (simp; done) | (simp; omega)) _ | refine Below.drew ?_))
set_option maxRecDepth 100000 in
set_option maxHeartbeats 2000000 in
theorem at_off (C : CanT) (p : Nat) (x y : Int) (hon : onB (8 * (C.wide : Int)) (8 * (C.high : Int)) ⟨x, y⟩ = false) (w : World) (hC : CanAt w p C) :
 Calls Tryz.prog 31 #[.pointer (some ⟨p, 0, none⟩), .int .i64 x, .int .i64 y] w (Gives (.tuple #[.agg #[.int .u8 0, .int .u8 0, .int .u8 0, .int .u8 0], .bool false]) w) := by
 obtain ⟨ok, b, cap, qs, h1, -⟩ := hC
 have HPL := H7 (place_off C.wide C.high x y hon ok.wide.2 ok.high.2)
 obtain ⟨wide, high, tiles⟩ := C
 simp only at *
 obtain ⟨n, hn⟩ : ∃ n, tiles.length = n := ⟨_, rfl⟩
 rw [hn] at h1
 have HB := H7 (b7t h1)
 have HH := H7 h1
 have HS := H7 (St.start w)
 clear ok h1 hn hon
 go_enter Tryz.func31, Tryz.ntmps31
 repeat ((fail_if_success (with_reducible refine stop_at (id := 3) ?_)); (first | go_values | go_skip | go_guarded | go_step | go_upon | go_back | (simp only [Int.not_lt, Int.not_le] at *; go_simp) | (go_values <;> (try go_simp)) | (go_ite <;> go_prune <;> (try go_simp)) | (split <;> (first | (rename_i hx; exact (hx _ rfl).elim) | go_prune))))
 have hs_ := (HS.out.alloc (.cells #[.int .u8 0, .int .u8 0, .int .u8 0, .int .u8 0] 26))
 obtain ⟨w1, hw_⟩ : ∃ w1 : World, (w.alloc (.cells #[.int .u8 0, .int .u8 0, .int .u8 0, .int .u8 0] 26)) = w1 := ⟨_, rfl⟩
 rw [hw_] at hs_
 try simp only [World.size_alloc] at hs_
 have HS := H7 hs_
 rw [hw_]
 clear hw_ hs_
 have hb1 := (HS.out.low.block _ HB.out).trans HH.out
 have s0 := c7b (k := 0) hb1 rfl
 have s1 := c7b (k := 1) hb1 rfl
 clear hb1
 go_wp2_with fail
 clear s0 s1
 refine (HPL.out _).mono ?_
 rintro e w2 ⟨rfl, hb_⟩
 have HS := H7 (HS.out.below hb_)
 clear hb_
 repeat ((fail_if_success (with_reducible refine stop_at (id := 4) ?_)); (first | go_values | go_skip | go_guarded | go_step | go_upon | go_back | (simp only [Int.not_lt, Int.not_le] at *; go_simp) | (go_values <;> (try go_simp)) | (go_ite <;> go_prune <;> (try go_simp)) | (split <;> (first | (rename_i hx; exact (hx _ rfl).elim) | go_prune))))
 have hs_ := (HS.out.alloc (.cells #[.int .i64 0, .int .i64 0] 69))
 obtain ⟨w3, hw_⟩ : ∃ w3 : World, (w2.alloc (.cells #[.int .i64 0, .int .i64 0] 69)) = w3 := ⟨_, rfl⟩
 rw [hw_] at hs_
 try simp only [World.size_alloc] at hs_
 have HS := H7 hs_
 rw [hw_]
 clear hw_ hs_
 have k0 := h7c HS 1 0 rfl rfl
 have k1 := h7c HS 1 1 rfl rfl
 have k2 := h7c HS 1 2 rfl rfl
 have k3 := h7c HS 1 3 rfl rfl
 have f0 := f7b (HS.out.blockAt 1 rfl)
 go_wp2_with fail
 refine bodyPost_ret (v := .tuple #[.agg #[.int .u8 0, .int .u8 0, .int .u8 0, .int .u8 0], .bool false]) (by simp [results, Tryz.results31, go_sem, k0, k1, k2, k3]) rfl ⟨rfl, ?_⟩
 have h0 := HS.out.low
 (repeat (first | exact B7 _ _ | assumption | refine Below.alloc ?_ (by first | omega | (simp; done) | (simp; omega)) _ | refine Below.setCell ?_ (by first | omega | (simp; done) | (simp; omega)) _ | refine Below.drew ?_))
set_option maxRecDepth 100000 in
set_option maxHeartbeats 1000000 in
theorem size_any (C : CanT) (p : Nat) (w : World) (hC : CanAt w p C) :
 Calls Tryz.prog 171 #[.pointer (some ⟨p, 0, none⟩)] w (Gives (.tuple #[.int .i64 (8 * (C.wide : Int)), .int .i64 (8 * (C.high : Int))]) w) := by
 obtain ⟨ok, b, cap, qs, h1, -⟩ := hC
 have HW := H7 (And.intro ok.wide ok.high)
 obtain ⟨wide, high, tiles⟩ := C
 simp only at *
 obtain ⟨n, hn⟩ : ∃ n, tiles.length = n := ⟨_, rfl⟩
 rw [hn] at h1
 have HB := H7 (b7t h1)
 have HH := H7 h1
 have HS := H7 (St.start w)
 clear ok h1 hn
 have e1 : wrap64 (8 * (wide : Int)) = 8 * (wide : Int) := by have := HW.out; unfold wrap64; omega
 have e2 : wrap64 (8 * (high : Int)) = 8 * (high : Int) := by have := HW.out; unfold wrap64; omega
 go_enter Tryz.func171, Tryz.ntmps171
 repeat ((fail_if_success (with_reducible refine stop_at (id := 3) ?_)); (first | go_values | go_skip | go_guarded | go_step | go_upon | go_back | (simp only [Int.not_lt, Int.not_le] at *; go_simp) | (go_values <;> (try go_simp)) | (go_ite <;> go_prune <;> (try go_simp)) | (split <;> (first | (rename_i hx; exact (hx _ rfl).elim) | go_prune))))
 refine (wpIn_wide (n := 0)).1 ?_
 apply w7v 14 (Rl := [(eqv _), (eqv _), (eqv _), (eqv _), (eqv _), (eqv _), (eqv _), (eqv _), (eqv _), (eqv _), (eqv _), (eqv _), (eqv _), (eqv _)]) (C := (fun x y => Below x.heap.size x y))
 case hm => kernel_rfl
 case hk => rfl
 case hCr => exact (fun _ => B7 _ _)
 case hCt => intro _ _ _; exact (fun h k => g7t h k)
 case hst => repeat (first | exact trivial | refine ⟨fun _ _ _ _ h => h, ?_⟩)
 case hfo => kernel_rfl
 case ht => kernel_rfl
 case hC0 => exact (g7d _)
 case hsteps =>
  refine ⟨?_, ?_, ?_, ?_, ?_, ?_, ?_, ?_, ?_, ?_, ?_, ?_, ?_, ?_, trivial⟩
  · intro a' w' hA hC hD; have s0 := hA.to 0 (by kernel_rfl) rfl; clear hA hD; refine o7p rfl ?_; intro K hK; gi_wp2; exact hK _ _ rfl (B7 _ _)
  · intro a' w' hA hC hD; obtain ⟨u6, s6, rfl⟩ := hD ⟨0, .data⟩ (by simp) rfl _ rfl; clear hA hD; refine o7p rfl ?_; intro K hK; gi_wp2; exact hK _ _ rfl (B7 _ _)
  · intro a' w' hA hC hD; obtain ⟨u7, s7, rfl⟩ := hD ⟨1, .data⟩ (by simp) rfl _ rfl; clear hA hD; refine o7p rfl ?_; intro K hK; gi_wp2; exact hK _ _ rfl (B7 _ _)
  · intro a' w' hA hC hD; obtain ⟨u8, s8, rfl⟩ := hD ⟨2, .data⟩ (by simp) rfl _ rfl; clear hA hD; refine o7p rfl ?_; intro K hK; gi_wp2; exact hK _ _ rfl (B7 _ _)
  · intro a' w' hA hC hD; obtain ⟨u9, s9, rfl⟩ := hD ⟨3, .data⟩ (by simp) rfl _ rfl
    have hb1 := ((HS.out.below hC).low.block _ HB.out).trans HH.out; have s0 := c7b (k := 0) hb1 rfl; clear hb1
    clear hA hD; refine o7p rfl ?_; intro K hK; gi_wp2; exact hK _ _ rfl (B7 _ _)
  · intro a' w' hA hC hD; obtain ⟨u10, s10, rfl⟩ := hD ⟨4, .data⟩ (by simp) rfl _ rfl; clear hA hD; refine o7p rfl ?_; intro K hK; gi_wp2; exact hK _ _ rfl (B7 _ _)
  · intro a' w' hA hC hD; have s0 := hA.to 0 (by kernel_rfl) rfl; clear hA hD; refine o7p rfl ?_; intro K hK; gi_wp2; exact hK _ _ rfl (B7 _ _)
  · intro a' w' hA hC hD; obtain ⟨u12, s12, rfl⟩ := hD ⟨6, .data⟩ (by simp) rfl _ rfl; clear hA hD; refine o7p rfl ?_; intro K hK; gi_wp2; exact hK _ _ rfl (B7 _ _)
  · intro a' w' hA hC hD; obtain ⟨u13, s13, rfl⟩ := hD ⟨7, .data⟩ (by simp) rfl _ rfl; clear hA hD; refine o7p rfl ?_; intro K hK; gi_wp2; exact hK _ _ rfl (B7 _ _)
  · intro a' w' hA hC hD; obtain ⟨u14, s14, rfl⟩ := hD ⟨8, .data⟩ (by simp) rfl _ rfl; clear hA hD; refine o7p rfl ?_; intro K hK; gi_wp2; exact hK _ _ rfl (B7 _ _)
  · intro a' w' hA hC hD; obtain ⟨u15, s15, rfl⟩ := hD ⟨9, .data⟩ (by simp) rfl _ rfl
    have hb1 := ((HS.out.below hC).low.block _ HB.out).trans HH.out; have s0 := c7b (k := 1) hb1 rfl; clear hb1
    clear hA hD; refine o7p rfl ?_; intro K hK; gi_wp2; exact hK _ _ rfl (B7 _ _)
  · intro a' w' hA hC hD; obtain ⟨u16, s16, rfl⟩ := hD ⟨10, .data⟩ (by simp) rfl _ rfl; clear hA hD; refine o7p rfl ?_; intro K hK; gi_wp2; exact hK _ _ rfl (B7 _ _)
  · intro a' w' hA hC hD; obtain ⟨u11, s11, rfl⟩ := hD ⟨5, .data⟩ (by simp) rfl _ rfl; clear hA hD; refine o7p rfl ?_; intro K hK; gi_wp2; exact hK _ _ rfl (B7 _ _)
  · intro a' w' hA hC hD; obtain ⟨u17, s17, rfl⟩ := hD ⟨11, .data⟩ (by simp) rfl _ rfl; clear hA hD; refine o7p rfl ?_; intro K hK; gi_wp2; exact hK _ _ rfl (B7 _ _)
 case hend =>
  intro w4 hC
  simp only [EndFrom, eqv, forall_eq, Act.put, List.length_cons, List.length_nil, List.drop_succ_cons, List.drop_zero, Nat.reduceAdd, List.setIfInBounds_toArray, List.set_cons_succ, List.set_cons_zero]
  have HS := H7 (HS.out.below hC)
  clear hC
  gi_wp2
  go_wp2_with fail
  refine bodyPost_ret (v := .tuple #[.int .i64 (8 * (wide : Int)), .int .i64 (8 * (high : Int))]) (by simp [results, Tryz.results171, go_sem]) rfl ⟨rfl, HS.out.low⟩
end Go.Proofs.YtgdcfkbimkclaaaGreatDoor
/- Layer 8: the document's Neighbours. -/
namespace Go.Proofs.YtgdcfkbimkclaaaGreatDoor
open Go.RowKit Go.Shelf
end Go.Proofs.YtgdcfkbimkclaaaGreatDoor
/- Layer 8: a search in memory; on. -/
namespace Go.Proofs.YtgdcfkbimkclaaaGreatDoor
open Go.RowKit Go.Shelf
attribute [local go_sem] Oper.semAt_some
/-- To see that a fenced walk stands at a region. -/
theorem stop_atI {F : Fence} {n : Nat} {P : Program} {id : Nat} {ops : Array Oper} {d : Bool} {Q : Exit → Act → World → Prop} {a : Act} {w : World} (h : (Code.region id ops d).wpIn F n P Q a w) : (Code.region id ops d).wpIn F n P Q a w := h
/-! ### A search in memory -/
def seaA (c : Nat) (W H : Int) (m : Nat → Nat) (v : Value) : Array Value := (Value.pointer (some ⟨c, 0, none⟩) :: .int .i64 W :: .int .i64 H :: (mvL m ++ [v])).toArray
abbrev seaO (c : Nat) (W H : Int) (m : Nat → Nat) (v : Value) : Obj := Obj.cells (seaA c W H m v) 251 (0, 0)
theorem seaA_setm (c : Nat) (W H : Int) (m : Nat → Nat) (v : Value) {k : Nat} (h : k < 1024) (u : Nat) : (seaA c W H m v).setIfInBounds (3 + k) (.int .i64 u) = seaA c W H (fun i => if i = k then u else m i) v := by
 unfold seaA
 rw [List.setIfInBounds_toArray, show 3 + k = k + 1 + 1 + 1 by omega, List.set_cons_succ, List.set_cons_succ, List.set_cons_succ, List.set_append_left _ _ (by rw [mvL_len]; exact h), mvL_set]
/-- A world without what lies at S and above. -/
def cutW (y : World) (S : Nat) : World := { y with heap := y.heap.extract 0 S }
theorem cutW_size {y : World} {S : Nat} (h : S ≤ y.heap.size) : (cutW y S).heap.size = S := by simp [cutW]; omega
theorem cutW_below {y : World} {S : Nat} (h : S ≤ y.heap.size) : Below S (cutW y S) y := ⟨rfl, rfl, rfl, by rw [cutW_size h]; exact h, fun k hk => by simp [cutW, Array.getElem?_extract]; intro h1; omega⟩
/-- A search under way: what it keeps, and its row of places; since y0 nothing but it has turned. -/
structure SeaS (y0 : World) (pre post : List It) (bs : List Nat) (base S c : Nat) (W H : Int) (s : Bf) (v : Value) (x : World) : Prop where
 o : StO (cutW y0 S) (pre ++ .blk S (seaO c W H s.m v) :: post) base 69 2 encP v s.l x
 nb : ∀ j, v.ownBlock = some j → j ∉ bs
 tu : Turned (fun k => k = S) y0 x
 hp : ∀ i ∈ pre, ∃ b ob, i = .blk b ob
 y0s : y0.heap.size ≤ base
theorem SeaS.at_ {y0 : World} {pre post : List It} {bs : List Nat} {base S c : Nat} {W H : Int} {s : Bf} {v : Value} {x : World} (h : SeaS y0 pre post bs base S c W H s v x) : x.heap[S]? = some (seaO c W H s.m v) :=
 h.o.st.ok (.blk S (seaO c W H s.m v)) (List.mem_append.2 (.inr (by simp)))
theorem SeaS.below {y0 : World} {pre post : List It} {bs : List Nat} {base S c : Nat} {W H : Int} {s : Bf} {v : Value} {x y : World} (h : SeaS y0 pre post bs base S c W H s v x) (hb : Below x.heap.size x y) : SeaS y0 pre post bs base S c W H s v y :=
 ⟨h.o.below hb, h.nb, (h.tu.trans (Turned.of_grown (below_grown hb))).mono fun k _ hk => (by rcases hk with hk | hk; exact hk; cases hk), h.hp, h.y0s⟩
theorem SeaS.more {y0 : World} {pre post : List It} {bs bs' : List Nat} {base S c : Nat} {W H : Int} {s : Bf} {v : Value} {x : World} (h : SeaS y0 pre post bs base S c W H s v x) (hn : ∀ b ∈ bs', b ∈ bs ∨ x.heap.size ≤ b ∨ b < base) : SeaS y0 pre post bs' base S c W H s v x :=
 ⟨h.o, fun j hj hm => by
  have h1 := h.o.row.lt j hj
  rcases hn j hm with h2 | h2 | h2
  · exact h.nb j hj h2
  · omega
  · omega, h.tu, h.hp, h.y0s⟩
theorem SeaS.put {y0 : World} {pre post : List It} {bs : List Nat} {base S c : Nat} {W H : Int} {m : Nat → Nat} {l : List PtT} {v : Value} {x : World} (h : SeaS y0 pre post bs base S c W H ⟨m, l⟩ v x) {k : Nat} (hk : k < 1024) (u : Nat) :
 SeaS y0 pre post bs base S c W H ⟨fun i => if i = k then u else m i, l⟩ v (x.setCell ⟨S, 3 + k, none⟩ (.int .i64 u)) := by
 have hlt : ∀ j, v.ownBlock = some j → j ≠ S := fun j hj e => by
  have h1 := (h.o.row.lt j hj).1
  have h2 := h.o.top (.blk S (seaO c W H m v)) (List.mem_append.2 (.inr (by simp)))
  simp only [It.top] at h2
  omega
 refine ⟨⟨h.o.st.putAt h.hp (3 + k) _ (seaA_setm c W H m v hk u), ?_, h.o.low, fun i hi => ?_, by rw [World.size_setCell]; exact h.o.hi⟩, h.nb, ?_, h.hp, h.y0s⟩
 · refine ⟨h.o.row.1, ?_⟩
   rcases h.o.row.2 with h1 | ⟨g, cap, cur, rfl, h2, h3, h4⟩
   · exact .inl h1
   · refine .inr ⟨g, cap, cur, rfl, h2, (Below.heap_setCell x ⟨S, 3 + k, none⟩ _ g (hlt g rfl)).trans h3, h4⟩
 · rcases List.mem_append.1 hi with h1 | h1
   · exact h.o.top i (List.mem_append.2 (.inl h1))
   · rcases List.mem_cons.1 h1 with rfl | h1
     · have h2 := h.o.top (.blk S (seaO c W H m v)) (List.mem_append.2 (.inr (by simp)))
       simp only [It.top] at h2 ⊢
       exact h2
     · exact h.o.top i (List.mem_append.2 (.inr (by simp [h1])))
 · exact (h.tu.trans (Turned.of_grown (g7c x S (3 + k) (.int .i64 u)))).mono fun j _ hj => (by rcases hj with hj | hj; exact hj; exact Option.some.inj hj)
/- Layer 8: the closure that tells whether a pixel's colour is near the first one's. -/
/- Layer 8: meet. -/
/-- What a step of a search leaves alone. -/
theorem SeaS.keeps {y0 : World} {pre post : List It} {bs : List Nat} {base S c : Nat} {W H : Int} {s : Bf} {v : Value} {x y : World} (h : SeaS y0 pre post bs base S c W H s v x) (hbs : ∀ b ∈ bs, b < x.heap.size) (hSb : S ∉ bs) (ht : Turned (fun j => j = S ∨ v.ownBlock = some j) x y) : KeepsAt bs x y ∧ KeepsOthers x y := by
 refine ⟨fun b hb => ht.block b (hbs b hb) fun hd => ?_, ht.size, fun j o hj ho => (ht.block j (b7t hj) fun hd => ?_).trans hj⟩
 · rcases hd with rfl | hd
   · exact hSb hb
   · exact h.nb b hd hb
 · rcases hd with rfl | hd
   · rw [h.at_] at hj; cases hj; cases ho
   · rcases h.o.row.2 with ⟨h1, -⟩ | ⟨g, cap, cur, h1, h2, h3, -⟩
     · rw [h1] at hd; cases hd
     · rw [h1] at hd
       obtain rfl : g = j := by simpa [Value.ownBlock] using hd
       rw [h3] at hj; cases hj; cases ho
/- Layer 8: around. -/
/-- The blocks of a list lie as they lay, and some cells of others read as they read. -/
def KC (bs : List Nat) (cs : List (Addr × Value)) (A B : World) : Prop := KeepsAt bs A B ∧ ∀ q ∈ cs, A.cell? q.1 = some q.2 → B.cell? q.1 = some q.2
theorem KC.refl (bs : List Nat) (cs : List (Addr × Value)) (A : World) : KC bs cs A A := ⟨KeepsAt.refl _ _, fun _ _ h => h⟩
theorem KC.trans {bs : List Nat} {cs : List (Addr × Value)} {A B C : World} (h : KC bs cs A B) (k : KC bs cs B C) : KC bs cs A C := ⟨h.1.trans k.1, fun q hq hA => k.2 q hq (h.2 q hq hA)⟩
theorem KC.of_below {bs : List Nat} {cs : List (Addr × Value)} {A B : World} (h : Below A.heap.size A B) (hb : ∀ b ∈ bs, b < A.heap.size) : KC bs cs A B := ⟨KeepsAt.of_below h hb, fun q _ hA => (h.cell (cell_lt hA)).trans hA⟩
end Go.Proofs.YtgdcfkbimkclaaaGreatDoor
/- Layer 8: goes: what it keeps at its label. -/
namespace Go.Proofs.YtgdcfkbimkclaaaGreatDoor
open Go.RowKit Go.Shelf
theorem Turned.alloc {S : Nat → Prop} {x y : World} (h : Turned S x y) (o : Obj) : Turned S x (y.alloc o) :=
 (h.trans (Turned.of_grown (World.grownBy_alloc y o none))).mono fun k _ hk => (by rcases hk with hk | hk; exact hk; cases hk)
theorem Turned.belowT {S : Nat → Prop} {x y z : World} (h : Turned S x y) (hb : Below y.heap.size y z) : Turned S x z :=
 (h.trans (Turned.of_grown (below_grown hb))).mono fun k _ hk => (by rcases hk with hk | hk; exact hk; cases hk)
theorem Turned.setNew {S : Nat → Prop} {x y : World} (h : Turned S x y) (p k : Nat) (hp : x.heap.size ≤ p ∨ S p) (v : Value) : Turned S x (y.setCell ⟨p, k, none⟩ v) :=
 (h.trans (Turned.of_grown (g7c y p k v))).mono fun j hj hk => (by
  rcases hk with hk | hk
  · exact hk
  · cases hk
    rcases hp with hp | hp
    · omega
    · exact hp)
end Go.Proofs.YtgdcfkbimkclaaaGreatDoor
/- Package draw: need, sure, tries. -/
namespace Go.Proofs.YtgdcfkbimkclaaaGreatDoor
open Go.RowKit Go.Shelf
attribute [local go_sem] Oper.semAt_some
/-- A canvas stays when one block of one cell turns that is none of its own. -/
theorem CanAt.turnedOne {w y : World} {d B : Nat} {D : CanT} (h : CanAt w d D) (ht : Turned (fun k => k = B) w y) {v : Value} {t : TypeId} {f : Nat × Nat} (hB : w.heap[B]? = some (.cells #[v] t f)) (hv : ∀ q cs, v = .pointer (some ⟨q, 0, none⟩) → w.heap[q]? = some (.cells cs 54 (0, 0)) → cs.size ≠ 256) : CanAt y d D := by
 obtain ⟨ok, b, cap, qs, h1, h2, h3, h4, h5⟩ := h
 have hdB : d ≠ B := by
  rintro rfl
  rw [hB] at h1
  simp at h1
 have hsz : ∀ T : TileT, (encT T).toArray.size = 256 := fun T => by simp [encT_len]
 refine ⟨ok, b, cap, qs, (ht.block _ (b7t h1) hdB).trans h1, h2, h3, fun i q hq => ?_, fun i q T hq hT => ?_⟩
 · have h6 := h4 i q hq
   have hbB : b ≠ B := by
    rintro rfl
    unfold World.cell? at h6
    rw [hB] at h6
    have hi : i = 0 := by
     rcases i with _ | i
     · rfl
     · simp at h6
    subst hi
    simp at h6
    have hlt : 0 < D.tiles.length := by rw [← h3]; exact (List.getElem?_eq_some_iff.1 hq).1
    exact hv q _ h6 (h5 0 q _ hq (List.getElem?_eq_getElem hlt)) (hsz _)
   have hlt := cell_lt h6
   unfold World.cell? at h6 ⊢
   rw [show y.heap[b]? = w.heap[b]? from ht.block b hlt hbB]
   exact h6
 · have h7 := h5 i q T hq hT
   refine (ht.block q (b7t h7) ?_).trans h7
   rintro rfl
   rw [hB] at h7
   simp only [Option.some.injEq, Obj.cells.injEq] at h7
   have := hsz T
   rw [← h7.1] at this
   simp at this
/-- It panics with an error's number. -/
def PanicE (x : Int) (e : Ending) : Prop := e = .panicked [{ v := .iface 36 (.int .i64 x), recovered := false }]
theorem dNeed_ok (x : Int) (w : World) : Calls Tryz.prog 179 #[.bool true, .int .i64 x] w fun e w' => e = .returned (.tuple #[]) ∧ w = w' := by
 go_enter Tryz.func179, Tryz.ntmps179
 go_wp2
 go_end0
 exact ⟨rfl, rfl⟩
theorem dNeed_no (x : Int) (w : World) : Calls Tryz.prog 179 #[.bool false, .int .i64 x] w fun e w' => e = .panicked [{ v := .iface 36 (.int .i64 x), recovered := false }] ∧ w = w' := by
 go_enter Tryz.func179, Tryz.ntmps179
 go_wp2
 exact ⟨rfl, rfl, rfl⟩
theorem sureS_ok (v : Value) (w : World) : Calls Tryz.prog 150 #[v, .int .i64 0] w fun e w' => e = .returned v ∧ w = w' := by
 go_enter Tryz.func150, Tryz.ntmps150
 go_wp2_with fail
 refine (dNeed_ok _ _).mono ?_
 rintro e w2 ⟨rfl, rfl⟩
 go_wp2_with fail
 go_ret
 exact ⟨rfl, rfl⟩
set_option maxRecDepth 100000 in
theorem sureS_no (v : Value) (er : Int) (h : er ≠ 0) (w : World) : Calls Tryz.prog 150 #[v, .int .i64 er] w fun e w' => PanicE er e ∧ w = w' := by
 unfold PanicE
 go_enter Tryz.func150, Tryz.ntmps150
 go_wp2_with fail
 rw [show (er == 0) = false by simpa using h]
 refine (dNeed_no _ _).mono ?_
 rintro e w2 ⟨rfl, rfl⟩
 exact ⟨rfl, rfl, rfl⟩
set_option maxRecDepth 100000 in
set_option maxHeartbeats 1000000 in
theorem dCatch_panicking (p q : Nat) (hpq : p ≠ q) (o : Value) (y x : Int) (older : List PanicEntry) (w : World) (hp : w.heap[p]? = some (.cells #[o] 55 (0, 0))) (hq : w.heap[q]? = some (.cells #[.int .i64 y] 36 (0, 0))) :
 CallsD Tryz.prog 178 #[.pointer (some ⟨p, 0, none⟩), .pointer (some ⟨q, 0, none⟩)] (.panicking ({ v := .iface 36 (.int .i64 x), recovered := false } :: older)) w fun e u' w' =>
  e = .returned (.tuple #[]) ∧ u' = .panicking ({ v := .iface 36 (.int .i64 x), recovered := true } :: older) ∧
  (w'.heap[p]? = some (.cells #[.pointer none] 55 (0, 0)) ∧ w'.heap[q]? = some (.cells #[.int .i64 x] 36 (0, 0)) ∧ (∀ n₀, n₀ ≤ p → n₀ ≤ q → Below n₀ w w')) := by
 have c0 := c7b (k := 0) hp rfl
 have fp := f7b hp
 have dq := c7b (k := 0) hq rfl
 have fq := f7b hq 0
 have lp := b7t hp
 have lq := b7t hq
 have Hp := H7 hp
 have Hq := H7 hq
 clear hp hq
 have hqp : ¬ q = p := fun e => hpq e.symm
 refine callsD_of_wpS Tryz.func178 rfl fun c₀ cs hu => ?_
 simp only [Tryz.ntmps178, List.size_toArray, List.length_cons, List.length_nil, Nat.reduceAdd, Nat.reduceSub, Array.replicate_succ, Array.replicate_zero, List.push_toArray, List.append_toArray, List.nil_append, List.cons_append]
 apply wpS_seq
 apply wpS_region
 simp [wpOpsS, go_sem, recoverD, hu, Exit.thenS]
 refine wpS_of_wp ?_
 have hta : ∀ w, (Instr.typeAssert (.iface 36 (.int .i64 x)) 20 36 true).run Tryz.prog w = .ok (.tuple #[.int .i64 x, .bool true]) w := fun _ => by kernel_rfl
 go_wp2
 refine ⟨rfl, _, rfl, _, results_none rfl _ _ _, rfl, rfl, ?_, ?_, ?_⟩
 · exact h7o (h7s Hp.out _) (fun e => hpq e.symm) _
 · exact h7s (h7o Hq.out hpq _) _
 · intro n₀ h1 h2
   exact Below.setCell (Below.setCell (B7 _ _) (by simpa using h1) _) (by simpa using h2) _
theorem dCatch_idle (p q : Addr) (w : World) :
 CallsD Tryz.prog 178 #[.pointer (some p), .pointer (some q)] .returning w fun e u' w' => e = .returned (.tuple #[]) ∧ u' = .returning ∧ w = w' := by
 refine callsD_of_wpS Tryz.func178 rfl fun c₀ cs hu => ?_
 simp only [Tryz.ntmps178, List.size_toArray, List.length_cons, List.length_nil, Nat.reduceAdd, Nat.reduceSub, Array.replicate_succ, Array.replicate_zero, List.push_toArray, List.append_toArray, List.nil_append, List.cons_append]
 apply wpS_seq
 apply wpS_region
 simp [wpOpsS, go_sem, recoverD, hu, Exit.thenS]
 refine wpS_of_wp ?_
 go_wp2
 exact ⟨rfl, c₀.mode, rfl, _, results_none rfl _ _ _, rfl, hu, rfl⟩
/-- How a closure ends that draws on an easel: the easel holds a canvas, or it panics. -/
def Drew (E : Nat) (er : Int) (D : CanT) (w : World) (e : Ending) (w' : World) : Prop :=
 Turned (fun k => k = E) w w' ∧ (er = 0 → e = .returned (.tuple #[]) ∧ ∃ d, w'.heap[E]? = some (.cells #[.pointer (some ⟨d, 0, none⟩)] 238 (0, 0)) ∧ CanAt w' d D) ∧ (er ≠ 0 → PanicE er e)
/-- What a drawing returns. -/
def Drawn (er : Int) (D : CanT) (w : World) (e : Ending) (w' : World) : Prop :=
 Below w.heap.size w w' ∧ (er = 0 → ∃ d, e = .returned (.tuple #[.pointer (some ⟨d, 0, none⟩), .int .i64 0]) ∧ CanAt w' d D) ∧ (er ≠ 0 → e = .returned (.tuple #[.pointer none, .int .i64 er]))
end Go.Proofs.YtgdcfkbimkclaaaGreatDoor
