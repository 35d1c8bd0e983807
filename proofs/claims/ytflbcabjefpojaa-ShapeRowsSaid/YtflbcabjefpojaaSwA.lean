/- Layer 6: what stays while rows grow; a range over an iterator whose value gets a box. -/
import Derived.Test.YtflbcabjefpojaaShZ
import Derived.Test.YtflbcabjefpojaaShW
namespace Go.Proofs.Ytflbcabjefpojaa
set_option linter.unusedSimpArgs false
set_option linter.unusedVariables false
open Go.RowKit Go.Shelf Go.Maps

/-- A kept thing lies apart from S. -/
def It.free (S : Nat → Prop) : It → Prop
  | .blk p _ => ¬ S p
  | .row _ _ _ _ hi => ∀ k, S k → hi ≤ k
theorem St.turned {w0 x y : World} {its : List It} {S : Nat → Prop} (h : St w0 its x) (ht : Turned S x y) (h0 : ∀ k, S k → w0.heap.size ≤ k) (hf : ∀ i ∈ its, i.free S) : St w0 its y := by
  refine ⟨h.low.trans (ht.below h.low.size h0), fun i hi => ?_, h.ord, fun i hi => Nat.le_trans (h.top i hi) ht.size⟩
  have hok := h.ok i hi
  have hfi := hf i hi
  cases i with
  | blk p o => exact (ht.block p (block_lt hok) hfi).trans hok
  | row v n size c hi' =>
    refine ⟨?_, hok.2⟩
    rcases hok.1 with e | ⟨b, off, cap, rfl, hlt, hc⟩
    · exact .inl e
    · refine .inr ⟨b, off, cap, rfl, Nat.lt_of_lt_of_le hlt ht.size, fun j hj => ?_⟩
      by_cases hn : n = 0
      · subst hn; omega
      · have hbb := (hok.2 _ _ _ rfl).resolve_left hn
        rw [← hc j hj]
        exact World.cell?_of_block (ht.block b hlt (fun hs => by have := hfi b hs; simp at hbb; omega))

/-- 'for x := range seq' over an iterator's contract, where the assignment lays a box. -/
theorem range_iterB {P : Program} {n : Nat} {g : Operand} {ps : Array Tmp} {assign body : Code} {Q : Exit → Act → World → Prop} {a : Act} {w : World}
    {gf : Nat} {lb : Array Value} {N : Nat} {bs : List Nat} {encs : Fin N → Array Value} {w0 : World} (hit : Iter P gf lb N encs bs w0) (hn : 2 ≤ n)
    (hg : a.eval g = .func (.func gf) #[] lb) (eg : ∀ args w, (callFunc gf args).run P w = .ok (.enter gf args) w)
    (hn0 : ∀ b ∈ bs, b < w.heap.size) (hb0 : Below w0.heap.size w0 w) (hps : ∀ x, (encs x).size = ps.size) (pargs : Fin N → List (Tmp × Value)) (hpa : ∀ x, (ps.zip (encs x)).toList = pargs x)
    (I : List (Fin N) → World → Prop) (Ix : Code → List (Fin N) → World → Prop) (hI : OwnFrom w.heap.size I) (hIx : ∀ c, OwnFrom w.heap.size (Ix c)) (h0 : I [] w)
    (Ax : Fin N → Act → World → Prop) (hAx : ∀ x a', OwnFrom w.heap.size (fun (_ : Unit) W => Ax x a' W))
    (hassign : ∀ (l : Nat) (pre : List (Fin N)) (x : Fin N) (W : World) (K : Act → World → Prop), I pre W → (∀ a' W', KeepsFrom w.heap.size W W' → KeepsAt bs W W' → I pre W' → Ax x a' W' → K a' W') →
      assign.wpIn (Fence.wide.inRound l) (n - 1 - 1) P (Exit.then K (fun _ _ _ => False)) (loopAct a (pargs x)) W)
    (hbody : ∀ (l : Nat) (pre : List (Fin N)) (x : Fin N) (a' : Act) (W : World), I pre W → Ax x a' W → pre.length < N → body.wpIn (Fence.wide.inRound l) (n - 1 - 1) P (ownPostG w.heap.size (KeepsAt bs) I Ix (pre ++ [x]) W) a' W)
    (hdone : ∀ (D : Nat) (W : World), w.heap.size ≤ D → I (List.finRange N) W → W.heap[D]? = some (.deferred (some [])) → Q .normal { a with defers := { target := .collected D, args := #[] } :: a.defers } W)
    (hstop : ∀ (D : Nat) (c : Code) (pre : List (Fin N)) (W : World), w.heap.size ≤ D → pre <+: List.finRange N → Ix c pre W → W.heap[D]? = some (.deferred (some [])) → c.wpIn Fence.wide n P Q { a with defers := { target := .collected D, args := #[] } :: a.defers } W) :
    (Code.rangeFunc g ps assign body).wpIn Fence.wide n P Q a w :=
  wpIn_rangeFunc_ownH rfl (by omega) hg trivial eg (hit (n - 1) (by omega)) (fun h k => h.trans k) (keepsAt_b hn0) hb0 hps I Ix hI hIx h0 Ax hAx (fun l pre x W K hI hK => by
    have h := hassign l pre x W K hI hK
    unfold loopAct at h
    rw [← Array.foldl_toList, hpa x]
    exact h) (fun l pre x a' W _ _ h1 h2 h3 => hbody l pre x a' W h1 h2 h3) (fun D xs W h h' e => by subst h'; exact hdone D W h e) hstop
theorem keepsFrom_below {B : Nat} {x y : World} (h : Below x.heap.size x y) : KeepsFrom B x y := (show KeepsOthers x y from ⟨h.size, fun j o hj _ => (h.block j (block_lt hj)).trans hj⟩).from B

/-- The state of a call that puts spans into a map of rows; no row lies in a block of bs. -/
structure GrS (w0 : World) (its : List It) (bs : List Nat) (base b : Nat) (L : List SpT) (W : World) : Prop where
  st : St w0 its W
  gr : ∃ n D F, n ≤ L.length ∧ GrD W base b n D F (GrOf L) ∧ ∀ z, inK z → ∀ j, (F z).ownBlock = some j → base ≤ j ∧ j ∉ bs
  hi : base ≤ W.heap.size
theorem GrS.below {w0 x y : World} {its : List It} {bs : List Nat} {base b : Nat} {L : List SpT} (h : GrS w0 its bs base b L x) (hb : Below x.heap.size x y) : GrS w0 its bs base b L y := by
  obtain ⟨n, D, F, h1, h2, h3⟩ := h.gr
  exact ⟨h.st.below hb, ⟨n, D, F, h1, h2.kept hb, h3⟩, Nat.le_trans h.hi hb.size⟩
/-- Blocks that are there, and that no row uses, may be added. -/
theorem GrS.more {w0 x : World} {its : List It} {bs bs' : List Nat} {base b : Nat} {L : List SpT} (h : GrS w0 its bs base b L x) (hn : ∀ c ∈ bs', c ∈ bs ∨ c < base ∨ ∃ y : World, y.heap.size ≤ c ∧ ∀ n D F, GrD x base b n D F (GrOf L) → (∀ z, inK z → ∀ j, (F z).ownBlock = some j → j < y.heap.size)) : GrS w0 its bs' base b L x := by
  obtain ⟨n, D, F, h1, h2, h3⟩ := h.gr
  refine ⟨h.st, ⟨n, D, F, h1, h2, fun z hz j hj => ⟨(h3 z hz j hj).1, fun hm => ?_⟩⟩, h.hi⟩
  rcases hn j hm with h4 | h4 | ⟨y, h4, h5⟩
  · exact (h3 z hz j hj).2 h4
  · have := (h3 z hz j hj).1; omega
  · have := h5 n D F h2 z hz j hj; omega
theorem GrS.fresh {w0 x y : World} {its : List It} {base b : Nat} {L : List SpT} (h : GrS w0 its [] base b L x) (hb : Below x.heap.size x y) (bs : List Nat) (hbs : ∀ c ∈ bs, c < base ∨ x.heap.size ≤ c) : GrS w0 its bs base b L y := by
  obtain ⟨n, D, F, h1, h2, h3⟩ := h.gr
  refine ⟨h.st.below hb, ⟨n, D, F, h1, h2.kept hb, fun z hz j hj => ⟨(h3 z hz j hj).1, fun hm => ?_⟩⟩, Nat.le_trans h.hi hb.size⟩
  have h4 := (h2.row z hz).lt j hj
  rcases hbs j hm with h5 | h5 <;> omega
theorem GrS.forget {w0 x : World} {its : List It} {bs : List Nat} {base b : Nat} {L : List SpT} (h : GrS w0 its bs base b L x) : GrS w0 its [] base b L x := by
  obtain ⟨n, D, F, h1, h2, h3⟩ := h.gr
  exact ⟨h.st, ⟨n, D, F, h1, h2, fun z hz j hj => ⟨(h3 z hz j hj).1, by simp⟩⟩, h.hi⟩
/-- It abides an iterator. -/
theorem ownFrom_GrS {β : Type} {B : Nat} {w0 : World} {its : List It} {bs : List Nat} {base b : Nat} (L : β → List SpT) (hB : w0.heap.size ≤ B) (hbB : b < B) (hc : ∀ b o, .blk b o ∈ its → o.isCells = true) : OwnFrom B (fun s W => GrS w0 its bs base b (L s) W) := by
  intro s W W' row h hg hr
  obtain ⟨n, D, F, h1, h2, h3⟩ := h.gr
  refine ⟨ownFrom_St (fun _ => its) hB (fun _ => hc) s W W' row h.st hg hr, ⟨n, D, F, h1, h2.other hg ?_ ?_, h3⟩, Nat.le_trans h.hi hg.size⟩
  · intro e
    have := (hr b e.symm).1
    omega
  · intro z hz
    cases hv : (F z).ownBlock with
    | none => exact .inl rfl
    | some j =>
      refine .inr fun e => ?_
      obtain ⟨_, o, ho, hoc⟩ := hr j e.symm
      rcases (h2.row z hz).2 with ⟨e1, _⟩ | ⟨g, cap, cur, e1, _, hgg, _⟩
      · rw [e1] at hv; cases hv
      · rw [e1] at hv
        obtain rfl : g = j := by simpa [Value.ownBlock] using hv
        rw [hgg] at ho
        cases ho
        cases hoc
/-- A put. -/
theorem GrS.put {w0 w : World} {its : List It} {bs : List Nat} {base b pr : Nat} {L : List SpT} (h : GrS w0 its bs base b L w) (s : SpT) (hy : inK s.y) (hL : L.length < 100000000) (hpr : .blk pr (.cells #[.map (some b)] 76 (0, 0)) ∈ its) (hpb : pr < base ∧ pr ≠ b)
    (hb0 : w0.heap.size ≤ b) (hbase : w0.heap.size ≤ base) (hits : ∀ i ∈ its, i.free (fun k => k = b ∨ base ≤ k)) (hbs : ∀ c ∈ bs, c ≠ b ∧ c < w.heap.size) :
    Calls Try.prog 41 #[.pointer (some ⟨pr, 0, none⟩), s.val] w fun e w' => e = .returned (.tuple #[]) ∧ GrS w0 its bs base b (L ++ [s]) w' ∧ KeepsAt bs w w' ∧ w.heap.size ≤ w'.heap.size ∧
      (∀ (k : Nat) (o : Obj), k ≠ b → w.heap[k]? = some o → o.isCells = false → w'.heap[k]? = some o) ∧ (∀ (k : Nat) (o : Obj), k ≠ b → w.heap[k]? = some o → (∀ cur, o ≠ .cells cur 39 (0, 0)) → w'.heap[k]? = some o) := by
  obtain ⟨n, D, F, h1, h2, h3⟩ := h.gr
  have hown : ∀ k, (F s.y).ownBlock = some k → base ≤ k := fun k hk => (h3 _ hy k hk).1
  refine (put_any s hy pr base b n D F L (by omega) (by omega) w h2 h.hi (h.st.ok _ hpr) (fun e => by have := hown _ e; omega) hpb.2).mono ?_
  rintro e w' ⟨rfl, v', D', hgr, hloc, ht⟩
  have ht' : Turned (fun k => k = b ∨ base ≤ k) w w' := ht.mono fun k _ hk => hk.imp id (hown k)
  have hcl : ∀ k, (F s.y).ownBlock = some k → ∃ cur, w.heap[k]? = some (.cells cur 39 (0, 0)) := fun k hk => by
    rcases (h2.row _ hy).2 with ⟨e1, _⟩ | ⟨g, cap, cur, e1, _, hgg, _⟩
    · rw [e1] at hk; cases hk
    · rw [e1] at hk
      obtain rfl : g = k := by simpa [Value.ownBlock] using hk
      exact ⟨cur, hgg⟩
  refine ⟨rfl, ⟨h.st.turned ht' (fun k hk => by rcases hk with rfl | hk; exact hb0; omega) hits, ⟨n + 1, D', _, by simp; omega, hgr, fun z hz j hj => ?_⟩, Nat.le_trans h.hi ht.size⟩, fun c hc => ?_, ht.size, fun k o hkb hk ho => ?_, fun k o hkb hk ho => ?_⟩
  · by_cases e : z = s.y
    · subst e
      simp only [if_true] at hj
      rcases hloc with hl | ⟨g, hl, hge⟩
      · rw [hl] at hj; exact h3 _ hz j hj
      · rw [hl] at hj; cases hj
        exact ⟨by have := h.hi; omega, fun hm => by have := (hbs _ hm).2; omega⟩
    · simp only [if_neg e] at hj; exact h3 _ hz j hj
  · exact ht.block c (hbs c hc).2 (fun hs => by
      rcases hs with e | e
      · exact (hbs c hc).1 e
      · exact (h3 _ hy c e).2 hc)
  · refine (ht.block k (block_lt hk) (fun hs => ?_)).trans hk
    rcases hs with e | e
    · exact hkb e
    · obtain ⟨cur, hcur⟩ := hcl k e
      rw [hcur] at hk; cases hk; cases ho
  · refine (ht.block k (block_lt hk) (fun hs => ?_)).trans hk
    rcases hs with e | e
    · exact hkb e
    · obtain ⟨cur, hcur⟩ := hcl k e
      rw [hcur] at hk; cases hk; exact ho cur rfl
end Go.Proofs.Ytflbcabjefpojaa
