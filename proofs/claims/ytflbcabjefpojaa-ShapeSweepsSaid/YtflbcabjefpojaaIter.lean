/- Iterators that keep blocks of their own between two rounds: what a body must keep. -/
import Derived.Test.YtflbcabjefpojaaState
namespace Go.Proofs.Ytflbcabjefpojaa
set_option linter.unusedSimpArgs false
set_option linter.unusedVariables false
open Go.RowKit Go.Shelf

/-- Which blocks a body writes hangs on what lies below N0 alone. -/
def OwnSt (own : World → Nat → Prop) (N0 : Nat) : Prop := ∀ (A B : World), (∀ k, k < N0 → B.heap[k]? = A.heap[k]?) → ∀ q, own B q ↔ own A q
/-- What a round keeps: the blocks of a list, and whatever cells of N0 and above are not the body's. -/
structure KO (own : World → Nat → Prop) (bs : List Nat) (N0 : Nat) (A B : World) : Prop where
  size : A.heap.size ≤ B.heap.size
  at_ : KeepsAt bs A B
  wf : (∀ q, own A q → q < A.heap.size) → ∀ q, own B q → q < B.heap.size
  rest : ∀ (q : Nat) (o : Obj), N0 ≤ q → A.heap[q]? = some o → o.isCells = true → ¬ own A q → ¬ own B q ∧ B.heap[q]? = some o
theorem KO.trans {own : World → Nat → Prop} {bs : List Nat} {N0 : Nat} {A B C : World} (h : KO own bs N0 A B) (k : KO own bs N0 B C) : KO own bs N0 A C :=
  ⟨Nat.le_trans h.size k.size, h.at_.trans k.at_, fun hw => k.wf (h.wf hw), fun q o hq ho hc hn => by
    obtain ⟨h1, h2⟩ := h.rest q o hq ho hc hn
    exact k.rest q o hq h2 hc h1⟩
theorem KO.refl (own : World → Nat → Prop) (bs : List Nat) (N0 : Nat) (A : World) : KO own bs N0 A A := ⟨Nat.le_refl _, KeepsAt.refl _ _, fun h => h, fun _ _ _ ho _ hn => ⟨hn, ho⟩⟩
theorem below_grown {x y : World} (h : Below x.heap.size x y) : x.grownBy y none := ⟨h.os, h.tape, h.output, h.size, fun k hk _ => h.block k hk⟩
theorem cell_lt {w : World} {a : Addr} {v : Value} (h : w.cell? a = some v) : a.block < w.heap.size := by
  rcases Nat.lt_or_ge a.block w.heap.size with h1 | h1
  · exact h1
  · simp [World.cell?, Array.getElem?_eq_none h1] at h
theorem ownSt_none (N0 : Nat) : OwnSt (fun _ _ => False) N0 := fun _ _ _ _ => Iff.rfl
/-- A body that writes one block below N0, and grows. -/
theorem KO.of_fixed {bs : List Nat} {N0 : Nat} {A B : World} (hs : A.heap.size ≤ B.heap.size) (hb : KeepsAt bs A B) (h : ∀ (q : Nat) (o : Obj), N0 ≤ q → A.heap[q]? = some o → B.heap[q]? = some o) : KO (fun _ _ => False) bs N0 A B :=
  ⟨hs, hb, fun _ _ h => h.elim, fun q o hq ho _ hn => ⟨hn, h q o hq ho⟩⟩
theorem KO.of_below {own : World → Nat → Prop} {bs : List Nat} {N0 : Nat} (ho : OwnSt own N0) {A B : World} (hb : Below A.heap.size A B) (hN : N0 ≤ A.heap.size) (hbs : ∀ b ∈ bs, b < A.heap.size) : KO own bs N0 A B := by
  have e := ho A B (fun k hk => hb.block k (by omega))
  exact ⟨hb.size, KeepsAt.of_below hb hbs, fun hw q hq => Nat.lt_of_lt_of_le (hw q ((e q).1 hq)) hb.size, fun q o _ hq _ hn => ⟨fun h => hn ((e q).1 h), (hb.block q (block_lt hq)).trans hq⟩⟩
theorem KO.putObj {own : World → Nat → Prop} {bs : List Nat} {N0 n : Nat} (ho : OwnSt own N0) (hN : N0 ≤ n) (hbs : ∀ b ∈ bs, b < n) (W : World) (l : Nat) (o o' : Obj) (hl : n ≤ l) (h : W.heap[l]? = some o) (hc : o.isCells = false) : KO own bs N0 W (W.putObj l o') := by
  have hg := grownBy_putObj' W l o'
  have h1 := (Array.getElem?_eq_some_iff.1 h).1
  have e := ho W (W.putObj l o') (fun k hk => hg.block k (by omega) (fun e => by cases e; omega))
  refine ⟨hg.size, fun b hb => hg.block b (by have := hbs b hb; omega) (fun e => by have := hbs b hb; cases e; omega), fun hw q hq => Nat.lt_of_lt_of_le (hw q ((e q).1 hq)) hg.size, fun q ob _ hq hqc hn => ⟨fun h => hn ((e q).1 h), ?_⟩⟩
  by_cases eq : q = l
  · subst eq; rw [h] at hq; cases hq; rw [hc] at hqc; cases hqc
  · exact (hg.block q (block_lt hq) (fun e => eq (by cases e; rfl))).trans hq

/-- An iterator that hands out N values; the body says which blocks it writes. -/
def IterO (P : Program) (g : Nat) (lb : Array Value) (N : Nat) (encs : Fin N → Array Value) (own : World → Nat → Prop) (bs : List Nat) (w : World) : Prop :=
  ∀ n, 1 ≤ n → SeqStopsK Fence.wide n P g lb encs (KO own bs w.heap.size) (fun ys => ys = List.finRange N) (fun pre => pre <+: List.finRange N) N w

/-- 'for x := range seq { .. }' over such an iterator's contract. -/
theorem range_iterO {P : Program} {n : Nat} {g : Operand} {ps : Array Tmp} {assign body : Code} {Q : Exit → Act → World → Prop} {a : Act} {w : World}
    {gf : Nat} {lb : Array Value} {N : Nat} {own : World → Nat → Prop} {bs : List Nat} {encs : Fin N → Array Value} (hit : IterO P gf lb N encs own bs w) (hn : 2 ≤ n) (hos : OwnSt own w.heap.size)
    (hg : a.eval g = .func (.func gf) #[] lb) (eg : ∀ args w, (callFunc gf args).run P w = .ok (.enter gf args) w)
    (hn0 : ∀ b ∈ bs, b < w.heap.size) (hps : ∀ x, (encs x).size = ps.size) (pargs : Fin N → List (Tmp × Value)) (hpa : ∀ x, (ps.zip (encs x)).toList = pargs x)
    (I : List (Fin N) → World → Prop) (Ix : Code → List (Fin N) → World → Prop) (hI : OwnFrom w.heap.size I) (hIx : ∀ c, OwnFrom w.heap.size (Ix c)) (h0 : I [] w)
    (Ax : Fin N → Act → World → Prop) (hAx : ∀ x a', OwnFrom w.heap.size (fun (_ : Unit) W => Ax x a' W))
    (hassign : ∀ (l : Nat) (pre : List (Fin N)) (x : Fin N) (W : World) (K : Act → World → Prop), I pre W → (∀ a' W', KeepsFrom w.heap.size W W' → KO own bs w.heap.size W W' → I pre W' → Ax x a' W' → K a' W') →
      assign.wpIn (Fence.wide.inRound l) (n - 1 - 1) P (Exit.then K (fun _ _ _ => False)) (loopAct a (pargs x)) W)
    (hbody : ∀ (l : Nat) (pre : List (Fin N)) (x : Fin N) (a' : Act) (W : World), I pre W → Ax x a' W → pre.length < N → body.wpIn (Fence.wide.inRound l) (n - 1 - 1) P (ownPostG w.heap.size (KO own bs w.heap.size) I Ix (pre ++ [x]) W) a' W)
    (hdone : ∀ (D : Nat) (W : World), w.heap.size ≤ D → I (List.finRange N) W → W.heap[D]? = some (.deferred (some [])) → Q .normal { a with defers := { target := .collected D, args := #[] } :: a.defers } W)
    (hstop : ∀ (D : Nat) (c : Code) (pre : List (Fin N)) (W : World), w.heap.size ≤ D → pre <+: List.finRange N → Ix c pre W → W.heap[D]? = some (.deferred (some [])) → c.wpIn Fence.wide n P Q { a with defers := { target := .collected D, args := #[] } :: a.defers } W) :
    (Code.rangeFunc g ps assign body).wpIn Fence.wide n P Q a w :=
  wpIn_rangeFunc_ownH rfl (by omega) hg trivial eg (hit (n - 1) (by omega)) (fun h k => h.trans k) (fun W l o o' hl h hc _ => KO.putObj hos (Nat.le_refl _) hn0 W l o o' hl h hc) (Below.refl _ _) hps I Ix hI hIx h0 Ax hAx (fun l pre x W K hI hK => by
    have h := hassign l pre x W K hI hK
    unfold loopAct at h
    rw [← Array.foldl_toList, hpa x]
    exact h) (fun l pre x a' W _ _ h1 h2 h3 => hbody l pre x a' W h1 h2 h3) (fun D xs W h h' e => by subst h'; exact hdone D W h e) hstop
/-- The same where the values are moved to the loop's variables, or nowhere. -/
theorem range_iterOF {P : Program} {n : Nat} {g : Operand} {ps : Array Tmp} {assign body : Code} {Q : Exit → Act → World → Prop} {a : Act} {w : World}
    {gf : Nat} {lb : Array Value} {N : Nat} {own : World → Nat → Prop} {bs : List Nat} {encs : Fin N → Array Value} (hit : IterO P gf lb N encs own bs w) (hn : 2 ≤ n) (hos : OwnSt own w.heap.size)
    (hg : a.eval g = .func (.func gf) #[] lb) (eg : ∀ args w, (callFunc gf args).run P w = .ok (.enter gf args) w)
    (hn0 : ∀ b ∈ bs, b < w.heap.size) (hps : ∀ x, (encs x).size = ps.size) (pargs : Fin N → List (Tmp × Value)) (hpa : ∀ x, (ps.zip (encs x)).toList = pargs x)
    (I : List (Fin N) → World → Prop) (Ix : Code → List (Fin N) → World → Prop) (hI : OwnFrom w.heap.size I) (hIx : ∀ c, OwnFrom w.heap.size (Ix c)) (h0 : I [] w) (sets : Fin N → List (Tmp × Value))
    (hassign : ∀ (l : Nat) (x : Fin N) (W : World) (K : Act → World → Prop), K (loopAct a (pargs x ++ sets x)) W →
      assign.wpIn (Fence.wide.inRound l) (n - 1 - 1) P (Exit.then K (fun _ _ _ => False)) (loopAct a (pargs x)) W)
    (hbody : ∀ (l : Nat) (pre : List (Fin N)) (x : Fin N) (W : World), I pre W → pre.length < N → body.wpIn (Fence.wide.inRound l) (n - 1 - 1) P (ownPostG w.heap.size (KO own bs w.heap.size) I Ix (pre ++ [x]) W) (loopAct a (pargs x ++ sets x)) W)
    (hdone : ∀ (D : Nat) (W : World), w.heap.size ≤ D → I (List.finRange N) W → W.heap[D]? = some (.deferred (some [])) → Q .normal { a with defers := { target := .collected D, args := #[] } :: a.defers } W)
    (hstop : ∀ (D : Nat) (c : Code) (pre : List (Fin N)) (W : World), w.heap.size ≤ D → pre <+: List.finRange N → Ix c pre W → W.heap[D]? = some (.deferred (some [])) → c.wpIn Fence.wide n P Q { a with defers := { target := .collected D, args := #[] } :: a.defers } W) :
    (Code.rangeFunc g ps assign body).wpIn Fence.wide n P Q a w :=
  range_iterO hit hn hos hg eg hn0 hps pargs hpa I Ix hI hIx h0 (fun x a' _ => a' = loopAct a (pargs x ++ sets x)) (fun _ _ _ _ _ _ h _ _ => h)
    (fun l pre x W K hI hK => hassign l x W K (hK _ _ (KeepsFrom.refl _ _) (KO.refl _ _ _ _) hI rfl))
    (fun l pre x a' W hI e hlt => by subst e; exact hbody l pre x W hI hlt) hdone hstop

/-- A block that is written, behind blocks alone. -/
theorem St.putAt {w0 x : World} {p : Nat} {c c' : Array Value} {t : TypeId} {f : Nat × Nat} {pre post : List It} (h : St w0 (pre ++ .blk p (.cells c t f) :: post) x) (hpre : ∀ i ∈ pre, ∃ b ob, i = .blk b ob) (k : Nat) (v : Value) (hc : c.setIfInBounds k v = c') :
    St w0 (pre ++ .blk p (.cells c' t f) :: post) (x.setCell ⟨p, k, none⟩ v) := by
  subst hc
  have hp : x.heap[p]? = some (.cells c t f) := h.ok (.blk p (.cells c t f)) (List.mem_append.2 (.inr (by simp)))
  exact St.set h hpre (heap_set_same hp v) (fun j hj => Below.heap_setCell x ⟨p, k, none⟩ v j hj) ((Below.refl _ _).setCell (p := ⟨p, k, none⟩) (Nat.le_refl _) v)
theorem KO.setCell {bs : List Nat} {N0 : Nat} (W : World) (p k : Nat) (v : Value) (hp : p < N0) (hb : p ∉ bs) : KO (fun _ _ => False) bs N0 W (W.setCell ⟨p, k, none⟩ v) :=
  KO.of_fixed (by rw [World.size_setCell]; exact Nat.le_refl _) (fun b hb' => Below.heap_setCell W ⟨p, k, none⟩ v b (fun e => hb (by rw [← show b = p from e]; exact hb'))) (fun q o hq ho => (Below.heap_setCell W ⟨p, k, none⟩ v q (by simp only; omega)).trans ho)
/-- What is kept abides the iterator. -/
theorem ownFrom_St {β : Type} {B : Nat} {w0 : World} (its : β → List It) (hB : w0.heap.size ≤ B) (hc : ∀ s b o, .blk b o ∈ its s → o.isCells = true) : OwnFrom B (fun s W => St w0 (its s) W) := by
  intro s W W' row h hg hr
  have hr' : ∀ r, row = some r → ∃ o : Obj, W.heap[r]? = some o ∧ o.isCells = false := fun r e => (hr r e).2
  refine ⟨h.low.grown hg h.low.size (fun j e => Nat.le_trans hB (hr j e).1), fun i hi => ?_, h.ord, fun i hi => Nat.le_trans (h.top i hi) hg.size⟩
  have hok := h.ok i hi
  cases i with
  | blk b o => exact (grownBy_keeps_cells hg hr' hok (hc s b o hi)).trans hok
  | row v n size c hi' =>
    refine ⟨?_, hok.2⟩
    rcases hok.1 with e | ⟨b, off, cap, rfl, hlt, hcs⟩
    · exact .inl e
    · exact .inr ⟨b, off, cap, rfl, Nat.lt_of_lt_of_le hlt hg.size, fun j hj => cell_kept (hcs j hj) hg hr'⟩
/-- The block of a slice. -/
def aBlk (a : Option Addr) : List Nat := a.toList.map (·.block)
theorem aBlk_mem {a : Option Addr} {b off : Nat} (h : a = some ⟨b, off, none⟩) : b ∈ aBlk a := by subst h; simp [aBlk]
theorem aBlk_lt {w : World} {a : Option Addr} {n cap size : Nat} {c : Nat → Value} (h : Elems w (.slice a n cap) n size c) : ∀ b ∈ aBlk a, b < w.heap.size := by
  rcases h with ⟨e, _⟩ | ⟨b, off, cap', e, hlt, _⟩
  · cases e; simp [aBlk]
  · cases e; simpa [aBlk] using hlt

/-- A frame some of whose slots hold other values. -/
def setS (S : List Nat) (u : Nat → Value) (tm : Array Value) : Array Value := S.foldl (fun t s => t.setIfInBounds s (u s)) tm
theorem setS_same : ∀ (S : List Nat) (tm : Array Value) (u : Nat → Value), (∀ s ∈ S, ∀ h : s < tm.size, tm[s] = u s) → setS S u tm = tm
  | [], _, _, _ => rfl
  | s :: S, tm, u, h => by
    unfold setS
    rw [List.foldl_cons]
    have e : tm.setIfInBounds s (u s) = tm := by
      refine Array.ext_getElem? fun i => ?_
      rw [Array.getElem?_setIfInBounds]
      by_cases hi : s = i
      · subst hi
        by_cases hl : s < tm.size
        · simp [hl, h s (by simp) hl]
        · simp [hl]
      · simp [hi]
    rw [e]
    exact setS_same S tm u (fun s hs => h s (by simp [hs]))
/-- A loop whose rounds range over functions: each leaves a mark among the deferred calls. -/
theorem wpIn_loopD {F : Fence} {n : Nat} {P : Program} {c : Code} {Q : Exit → Act → World → Prop} {a : Act} {w : World} (S : List Nat) (R : (Nat → Value) → List Deferred → World → Prop) (mu : Array Value → World → Nat)
    (h0 : R (fun t => a.tmps.getD t undef) a.defers w)
    (hr : ∀ (u : Nat → Value) (ds : List Deferred) (wr : World), R u ds wr → c.wpIn F n P (Exit.then (fun a' w' => (∃ (u' : Nat → Value) (ds' : List Deferred), R u' ds' w' ∧ a' = ⟨setS S u' a.tmps, ds'⟩) ∧ mu a'.tmps w' < mu (setS S u a.tmps) wr) Q) ⟨setS S u a.tmps, ds⟩ wr) :
    (Code.loop c).wpIn F n P Q a w := by
  refine wpIn_loop (fun a' w' => ∃ (u : Nat → Value) (ds : List Deferred), R u ds w' ∧ a' = ⟨setS S u a.tmps, ds⟩) (fun a' w' => mu a'.tmps w') ?_ ?_
  · refine ⟨_, a.defers, h0, ?_⟩
    rw [setS_same]
    intro s _ hs
    simp [hs]
  · rintro a1 wr ⟨u, ds, hR, rfl⟩
    exact hr u ds wr hR
theorem roundD {S : List Nat} {R : (Nat → Value) → List Deferred → Prop} {tm tm0 : Array Value} {ds : List Deferred} (he : setS S (fun t => tm.getD t undef) tm0 = tm) (hR : R (fun t => tm.getD t undef) ds) : ∃ (u' : Nat → Value) (ds' : List Deferred), R u' ds' ∧ (⟨tm, ds⟩ : Act) = ⟨setS S u' tm0, ds'⟩ :=
  ⟨_, ds, hR, by rw [he]⟩

/-- Nothing that was there has turned, but for some blocks. -/
structure Turned (S : Nat → Prop) (x y : World) : Prop where
  os : y.os = x.os
  tape : y.tape = x.tape
  output : y.output = x.output
  size : x.heap.size ≤ y.heap.size
  block : ∀ k, k < x.heap.size → ¬ S k → y.heap[k]? = x.heap[k]?
theorem Turned.of_grown {x y : World} {row : Option Nat} (h : x.grownBy y row) : Turned (fun k => some k = row) x y := ⟨h.os, h.tape, h.output, h.size, fun k hk hn => h.block k hk hn⟩
theorem Turned.trans {S S' : Nat → Prop} {x y z : World} (h : Turned S x y) (k : Turned S' y z) : Turned (fun i => S i ∨ S' i) x z :=
  ⟨k.os.trans h.os, k.tape.trans h.tape, k.output.trans h.output, Nat.le_trans h.size k.size, fun i hi hn => (k.block i (Nat.lt_of_lt_of_le hi h.size) (fun h => hn (.inr h))).trans (h.block i hi (fun h => hn (.inl h)))⟩
theorem Turned.below {S : Nat → Prop} {x y : World} (h : Turned S x y) {n : Nat} (hn : n ≤ x.heap.size) (hS : ∀ k, S k → n ≤ k) : Below n x y := ⟨h.os, h.tape, h.output, h.size, fun k hk => h.block k (by omega) (fun hs => by have := hS k hs; omega)⟩
theorem Turned.mono {S S' : Nat → Prop} {x y : World} (h : Turned S x y) (hs : ∀ k, k < x.heap.size → S k → S' k) : Turned S' x y := ⟨h.os, h.tape, h.output, h.size, fun k hk hn => h.block k hk (fun h => hn (hs k hk h))⟩
theorem Turned.refl (S : Nat → Prop) (x : World) : Turned S x x := ⟨rfl, rfl, rfl, Nat.le_refl _, fun _ _ _ => rfl⟩

/-- The marks of loops over functions. -/
def marksOf (Ds : List Nat) : List Deferred := Ds.map fun D => { target := .collected D, args := #[] }
structure Marks (lo : Nat) (Ds : List Nat) (W : World) : Prop where
  nd : Ds.Nodup
  blk : ∀ D ∈ Ds, lo ≤ D ∧ W.heap[D]? = some (.deferred (some []))
theorem marks_nil (lo : Nat) (W : World) : Marks lo [] W := ⟨List.nodup_nil, by simp⟩
theorem leaves_marks {n : Nat} {P : Program} {fn : Func} {tmps : Array Value} {R : Ending → World → Prop} {v : Value} {lo : Nat} : ∀ (Ds : List Nat) (W : World), Marks lo Ds W →
    (∀ W', Turned (fun k => k ∈ Ds) W W' → (results fn tmps).run P W' = .ok v W' ∧ R (.returned v) W') → LeavesInM Fence.wide n P fn tmps R (marksOf Ds) .returning W
  | [], W, _, h => by
    have := h W (Turned.refl _ _)
    exact ⟨_, this⟩
  | D :: Ds, W, hm, h => by
    refine ⟨by simp, .inl ⟨D, _, rfl, run_takeDeferred (hm.blk D (by simp)).2, ?_⟩⟩
    obtain ⟨h1, h2⟩ := List.nodup_cons.1 hm.nd
    have hg := grownBy_putObj' W D (.deferred none)
    refine leaves_marks (lo := lo) Ds _ ⟨h2, fun E hE => ?_⟩ (fun W1 ht => h W1 ?_)
    · have := hm.blk E (by simp [hE])
      exact ⟨this.1, (hg.block E (block_lt this.2) (fun e => by cases e; exact h1 hE)).trans this.2⟩
    · refine ((Turned.of_grown hg).trans ht).mono fun k _ hk => ?_
      rcases hk with e | e
      · cases e; simp
      · simp [e]
theorem ret_marks {n : Nat} {P : Program} {fn : Func} {a : Act} {W : World} {R : Ending → World → Prop} {v : Value} {lo : Nat} {Ds : List Nat} (hd : a.defers = marksOf Ds) (hm : Marks lo Ds W)
    (h : ∀ W', Turned (fun k => k ∈ Ds) W W' → (results fn a.tmps).run P W' = .ok v W' ∧ R (.returned v) W') : bodyPostM Fence.wide n P fn R .ret a W := by
  obtain ⟨t, ds⟩ := a
  simp only at hd
  subst hd
  exact leaves_marks Ds W hm h
end Go.Proofs.Ytflbcabjefpojaa
