/- Merged texts: Grown. -/
import Derived.Test.YtodpkgbpcpfamaaM19
import Derived.Test.YtodpkgbpcpfamaaM4
import Derived.Maps.OwnIn
import Derived.Test.YtodpkgbpcpfamaaM6
/- Layer 8: the document's Grown. -/
namespace Go.Proofs.Ytodpkgbpcpfamaa
set_option linter.unusedSimpArgs false
set_option linter.unusedVariables false
open Go.RowKit Go.Shelf
attribute [local go_sem] Oper.semAt_some

theorem exists_least {P : Nat → Prop} : ∀ n, P n → ∃ m, P m ∧ ∀ k, P k → m ≤ k := fun n => by
 induction n using Nat.strongRecOn with
 | ind n ih =>
  intro hn
  by_cases h : ∃ k, k < n ∧ P k
  · obtain ⟨k, hk, hp⟩ := h
    exact ih k hk hp
  · exact ⟨n, hn, fun k hk => Nat.le_of_not_lt fun hl => h ⟨k, hl, hk⟩⟩
open Classical in
/-- The least measure of a state whose witness the state does not tell. -/
noncomputable def leastN (P : Nat → Prop) : Nat := if h : ∃ m, P m ∧ ∀ k, P k → m ≤ k then h.choose else 0
theorem leastN_spec {P : Nat → Prop} (h : ∃ n, P n) : P (leastN P) := by
 obtain ⟨n, hn⟩ := h
 have h1 := exists_least n hn
 unfold leastN
 rw [dif_pos h1]
 exact h1.choose_spec.1
theorem leastN_le {P : Nat → Prop} {n : Nat} (h : P n) : leastN P ≤ n := by
 have h1 := exists_least n h
 unfold leastN
 rw [dif_pos h1]
 exact h1.choose_spec.2 n h
/-- Waves in memory: the field at F, the wave that is read, and the next one that grows. -/
structure GrwS (w : World) (pre post : List It) (bs : List Nat) (F N0 N2 : Nat) (wave next : List PtT) (wv nv : Value) (m : Nat → Nat) (x : World) : Prop where
 o : StO w (pre ++ .blk F (fldO m) :: post) N2 41 2 encP nv next x
 wr : x.ownsRow N0 41 2 wv wave.length (wave.flatMap encP)
 wl : ∀ j, wv.ownBlock = some j → j < N2
 fl : F < N0
 hp : ∀ i ∈ pre, ∃ b ob, i = .blk b ob
 n2 : N0 ≤ N2
 nb : ∀ j, nv.ownBlock = some j → j ∉ bs
theorem GrwS.below {w : World} {pre post : List It} {bs : List Nat} {F N0 N2 : Nat} {wave next : List PtT} {wv nv : Value} {m : Nat → Nat} {x y : World} (h : GrwS w pre post bs F N0 N2 wave next wv nv m x) (hb : Below x.heap.size x y) : GrwS w pre post bs F N0 N2 wave next wv nv m y :=
 ⟨h.o.below hb, ownsRow_below h.wr hb, h.wl, h.fl, h.hp, h.n2, h.nb⟩
theorem GrwS.at_ {w : World} {pre post : List It} {bs : List Nat} {F N0 N2 : Nat} {wave next : List PtT} {wv nv : Value} {m : Nat → Nat} {x : World} (h : GrwS w pre post bs F N0 N2 wave next wv nv m x) : x.heap[F]? = some (fldO m) :=
 h.o.st.ok (.blk F (fldO m)) (List.mem_append.2 (.inr (by simp)))
theorem GrwS.post_ {w : World} {pre post : List It} {bs : List Nat} {F N0 N2 : Nat} {wave next : List PtT} {wv nv : Value} {m : Nat → Nat} {x : World} (h : GrwS w pre post bs F N0 N2 wave next wv nv m x) {b : Nat} {o : Obj} (hm : It.blk b o ∈ post) : x.heap[b]? = some o :=
 h.o.st.ok (.blk b o) (List.mem_append.2 (.inr (List.mem_cons_of_mem _ hm)))
theorem GrwS.pre_ {w : World} {pre post : List It} {bs : List Nat} {F N0 N2 : Nat} {wave next : List PtT} {wv nv : Value} {m : Nat → Nat} {x : World} (h : GrwS w pre post bs F N0 N2 wave next wv nv m x) {b : Nat} {o : Obj} (hm : It.blk b o ∈ pre) : x.heap[b]? = some o :=
 h.o.st.ok (.blk b o) (List.mem_append.2 (.inl hm))
theorem GrwS.put {w : World} {pre post : List It} {bs : List Nat} {F N0 N2 : Nat} {wave next : List PtT} {wv nv : Value} {m : Nat → Nat} {x : World} (h : GrwS w pre post bs F N0 N2 wave next wv nv m x) (k u : Nat) : GrwS w pre post bs F N0 N2 wave next wv nv (fun i => if i = k then u else m i) (x.setCell ⟨F, k, none⟩ (.int .i64 u)) := by
 have hg := grownBy_setCellAt x F k (.int .i64 u)
 have ne : ∀ (v : Value) (B : Nat), (∀ j, v.ownBlock = some j → B ≤ j) → F < B → (v.ownBlock = none ∨ v.ownBlock ≠ some F) := fun v B hv hB => by
  cases hc : v.ownBlock with
  | none => exact .inl rfl
  | some j => exact .inr fun e => by have := hv j hc; cases e; omega
 refine ⟨⟨h.o.st.putFld h.hp k u, h.o.row.kept hg (ne nv N2 (fun j hj => (h.o.row.lt j hj).1) (Nat.lt_of_lt_of_le h.fl h.n2)), h.o.low, fun i hi => ?_, by rw [World.size_setCell]; exact h.o.hi⟩, h.wr.kept hg (ne wv N0 (fun j hj => (h.wr.lt j hj).1) h.fl), h.wl, h.fl, h.hp, h.n2, h.nb⟩
 rcases List.mem_append.1 hi with h1 | h1
 · exact h.o.top i (List.mem_append.2 (.inl h1))
 · rcases List.mem_cons.1 h1 with rfl | h1
   · have h2 := h.o.top (.blk F (fldO m)) (List.mem_append.2 (.inr (by simp)))
     simp only [It.top] at h2 ⊢
     exact h2
   · exact h.o.top i (List.mem_append.2 (.inr (by simp [h1])))
/-- The next wave grows. -/
theorem GrwS.app {w : World} {pre post : List It} {bs : List Nat} {F N0 N2 : Nat} {wave next next' : List PtT} {wv nv nv' : Value} {m : Nat → Nat} {x y : World} (h : GrwS w pre post bs F N0 N2 wave next wv nv m x) (ho : StO w (pre ++ .blk F (fldO m) :: post) N2 41 2 encP nv' next' y) (hg : x.grownBy y nv.ownBlock) (hbs : ∀ b ∈ bs, b < x.heap.size) (hl : nv'.ownBlock = nv.ownBlock ∨ ∃ b, nv'.ownBlock = some b ∧ x.heap.size ≤ b) : GrwS w pre post bs F N0 N2 wave next' wv nv' m y := by
 refine ⟨ho, h.wr.kept hg ?_, h.wl, h.fl, h.hp, h.n2, fun j hj hm => by
  rcases hl with e | ⟨b, e, hb⟩
  · rw [e] at hj; exact h.nb j hj hm
  · rw [e] at hj; cases hj; have := hbs _ hm; omega⟩
 cases hc : wv.ownBlock with
 | none => exact .inl rfl
 | some j => exact .inr fun e => (by
  have h1 := h.wl j hc
  have h2 := (h.o.row.lt j e.symm).1
  omega)
/-- A new wave begins. -/
theorem GrwS.turn {w : World} {pre post : List It} {bs : List Nat} {F N0 N2 : Nat} {wave next : List PtT} {wv nv : Value} {m : Nat → Nat} {x : World} (h : GrwS w pre post bs F N0 N2 wave next wv nv m x) : GrwS w pre post [] F N0 x.heap.size next [] nv (.slice none 0 0) m x :=
 ⟨⟨h.o.st, World.ownsRow_nil _ _ _ _, Nat.le_trans h.o.low h.o.hi, h.o.st.top, Nat.le_refl _⟩, ownsRow_mono h.o.row h.n2, fun j hj => (h.o.row.lt j hj).2, h.fl, h.hp, Nat.le_trans h.n2 h.o.hi, fun _ h => by cases h⟩
/-- Other blocks that the next wave's row is not. -/
theorem GrwS.more {w : World} {pre post : List It} {bs bs' : List Nat} {F N0 N2 : Nat} {wave next : List PtT} {wv nv : Value} {m : Nat → Nat} {x : World} (h : GrwS w pre post bs F N0 N2 wave next wv nv m x) (hn : ∀ b ∈ bs', b ∈ bs ∨ x.heap.size ≤ b) : GrwS w pre post bs' F N0 N2 wave next wv nv m x :=
 ⟨h.o, h.wr, h.wl, h.fl, h.hp, h.n2, fun j hj hm => by
  rcases hn j hm with h2 | h2
  · exact h.nb j hj h2
  · have := (h.o.row.lt j hj).2; omega⟩

theorem look_filterD {N : PtT → Bool} {W H : Int} {q : PtT} : ∀ (l : List PtT) (s : Bf), l.foldl (Bf.look N W H q) s = (l.filter (onB W H)).foldl (Bf.look N W H q) s
 | [], _ => rfl
 | a :: l, s => by
  rw [List.foldl_cons, look_filterD l]
  cases h : onB W H a with
  | true => rw [List.filter_cons_of_pos h, List.foldl_cons]
  | false =>
   rw [List.filter_cons_of_neg (by rw [h]; decide)]
   have e : s.look N W H q a = s := by unfold Bf.look; rw [h]; simp
   rw [e]
theorem visit_nbD {N : PtT → Bool} {W H : Int} {q : PtT} (s : Bf) : s.visit N W H q = (nbL W H q).foldl (Bf.look N W H q) s := look_filterD _ _
theorem Wav.visited {N : PtT → Bool} {W H : Int} {p : PtT} {k n : Nat} {next next' : List PtT} {s : Bf} (h : Wav N W H p k n next s) (hW : W ≤ 32) (hH : H ≤ 32) {q : PtT} (hq : s.l[k]? = some q) (hlt : k < n) (hn : (s.visit N W H q).l.drop n = next') :
 Wav N W H p (k + 1) n next' (s.visit N W H q) ∧ ∀ a b, a + b ≤ n → ((s.visit N W H q).l.drop a).take b = (s.l.drop a).take b := by
 obtain ⟨h1, h2⟩ := h.bk.visit hW hH hq
 obtain ⟨e, he⟩ := h2.l
 have hl : s.l.length ≤ (s.visit N W H q).l.length := by rw [he, List.length_append]; omega
 refine ⟨⟨h1, Nat.le_trans h.nl hl, hlt, hn⟩, fun a b hab => ?_⟩
 have := h.nl
 rw [he, List.drop_append_of_le_length (by omega), List.take_append_of_le_length (by rw [List.length_drop]; omega)]
theorem Elems.turnedD {D : Nat → Prop} {w w' : World} {a : Option Addr} {n cap k m : Nat} {c : Nat → Value} (h : Elems w (.slice a n cap) m k c) (ht : Turned D w w') (hp : ∀ b off, a = some ⟨b, off, none⟩ → ¬ D b) : Elems w' (.slice a n cap) m k c := by
 rcases h with h | ⟨b, off, cap', e, hlt, hc⟩
 · exact .inl h
 · cases e
   refine .inr ⟨b, off, _, rfl, Nat.lt_of_lt_of_le hlt ht.size, fun j hj => ?_⟩
   rw [← hc j hj]
   exact World.cell?_of_block (ht.block b hlt (hp b off rfl))
/-- In the middle of a place's neighbours. -/
def lkB (N : PtT → Bool) (W H : Int) (q : PtT) (s : Bf) (L : List PtT) (j : Nat) : Bf := (L.take j).foldl (Bf.look N W H q) s
theorem lkB_succ {N : PtT → Bool} {W H : Int} {q : PtT} {s : Bf} {L : List PtT} {j : Nat} {a : PtT} (ha : L[j]? = some a) : lkB N W H q s L (j + 1) = (lkB N W H q s L j).look N W H q a := by
 unfold lkB
 rw [List.take_add_one, ha, List.foldl_append]
 rfl
structure NbS (N : PtT → Bool) (W H : Int) (w : World) (pre post : List It) (F N0 N2 n : Nat) (wave : List PtT) (wv : Value) (q : PtT) (g : Nat) (na : Option Addr) (nc : Nat) (L : List PtT) (s : Bf) (j : Nat) (nv : Value) (x : World) : Prop where
 gr : ∃ next, GrwS w pre post (g :: aBlk na) F N0 N2 wave next wv nv (lkB N W H q s L j).m x ∧ (lkB N W H q s L j).l.drop n = next ∧ n ≤ (lkB N W H q s L j).l.length
 nr : Elems x (.slice na L.length nc) L.length 2 (rowC encP L)
 pt : x.heap[g]? = some (.cells #[.int .i64 q.x, .int .i64 q.y] 41 (0, 0))
 fb : ∀ b ∈ g :: aBlk na, F < b
theorem NbS.below {N : PtT → Bool} {W H : Int} {w : World} {pre post : List It} {F N0 N2 n : Nat} {wave : List PtT} {wv : Value} {q : PtT} {g : Nat} {na : Option Addr} {nc : Nat} {L : List PtT} {s : Bf} {j : Nat} {nv : Value} {x y : World} (h : NbS N W H w pre post F N0 N2 n wave wv q g na nc L s j nv x) (hb : Below x.heap.size x y) : NbS N W H w pre post F N0 N2 n wave wv q g na nc L s j nv y := by
 obtain ⟨⟨next, h1, h2⟩, h3, h4, h6⟩ := h
 exact ⟨⟨next, h1.below hb, h2⟩, h3.below hb, (hb.block g (block_lt h4)).trans h4, h6⟩
/-- Nothing is met. -/
theorem NbS.same {N : PtT → Bool} {W H : Int} {w : World} {pre post : List It} {F N0 N2 n : Nat} {wave : List PtT} {wv : Value} {q : PtT} {g : Nat} {na : Option Addr} {nc : Nat} {L : List PtT} {s : Bf} {j : Nat} {nv : Value} {x : World} (h : NbS N W H w pre post F N0 N2 n wave wv q g na nc L s j nv x) {a : PtT} (ha : L[j]? = some a) (hc : (onB W H a && N a && decide ((lkB N W H q s L j).m (ixP a) = 0)) = false) : NbS N W H w pre post F N0 N2 n wave wv q g na nc L s (j + 1) nv x := by
 obtain ⟨⟨next, h1, h2, h5⟩, h3, h4, h6⟩ := h
 obtain ⟨k1, k2, k3⟩ := look_next (N := N) (W := W) (H := H) (q := q) (a := a) h5
 rw [hc] at k2 k3
 simp only [Bool.false_eq_true, if_false, List.append_nil] at k2 k3
 refine ⟨⟨next, ?_, ?_, ?_⟩, h3, h4, h6⟩
 · rw [lkB_succ ha, k3]; exact h1
 · rw [lkB_succ ha, k2]; exact h2
 · rw [lkB_succ ha]; exact k1

theorem NbS.at_ {N : PtT → Bool} {W H : Int} {w : World} {pre post : List It} {F N0 N2 n : Nat} {wave : List PtT} {wv : Value} {q : PtT} {g : Nat} {na : Option Addr} {nc : Nat} {L : List PtT} {s : Bf} {j : Nat} {nv : Value} {x : World} (h : NbS N W H w pre post F N0 N2 n wave wv q g na nc L s j nv x) : x.heap[F]? = some (fldO (lkB N W H q s L j).m) := by
 obtain ⟨⟨next, h1, -⟩, -⟩ := h
 exact h1.at_
theorem NbS.post_ {N : PtT → Bool} {W H : Int} {w : World} {pre post : List It} {F N0 N2 n : Nat} {wave : List PtT} {wv : Value} {q : PtT} {g : Nat} {na : Option Addr} {nc : Nat} {L : List PtT} {s : Bf} {j : Nat} {nv : Value} {x : World} (h : NbS N W H w pre post F N0 N2 n wave wv q g na nc L s j nv x) {b : Nat} {o : Obj} (hm : It.blk b o ∈ post) : x.heap[b]? = some o := by
 obtain ⟨⟨next, h1, -⟩, -⟩ := h
 exact h1.post_ hm
theorem NbS.pre_ {N : PtT → Bool} {W H : Int} {w : World} {pre post : List It} {F N0 N2 n : Nat} {wave : List PtT} {wv : Value} {q : PtT} {g : Nat} {na : Option Addr} {nc : Nat} {L : List PtT} {s : Bf} {j : Nat} {nv : Value} {x : World} (h : NbS N W H w pre post F N0 N2 n wave wv q g na nc L s j nv x) {b : Nat} {o : Obj} (hm : It.blk b o ∈ pre) : x.heap[b]? = some o := by
 obtain ⟨⟨next, h1, -⟩, -⟩ := h
 exact h1.pre_ hm
theorem NbS.low {N : PtT → Bool} {W H : Int} {w : World} {pre post : List It} {F N0 N2 n : Nat} {wave : List PtT} {wv : Value} {q : PtT} {g : Nat} {na : Option Addr} {nc : Nat} {L : List PtT} {s : Bf} {j : Nat} {nv : Value} {x : World} (h : NbS N W H w pre post F N0 N2 n wave wv q g na nc L s j nv x) : Below w.heap.size w x := by
 obtain ⟨⟨next, h1, -⟩, -⟩ := h
 exact h1.o.st.low
/-- One is met: its number. -/
theorem NbS.put {N : PtT → Bool} {W H : Int} {w : World} {pre post : List It} {F N0 N2 n : Nat} {wave : List PtT} {wv : Value} {q : PtT} {g : Nat} {na : Option Addr} {nc : Nat} {L : List PtT} {s : Bf} {j : Nat} {nv : Value} {x : World} (h : NbS N W H w pre post F N0 N2 n wave wv q g na nc L s j nv x) {a : PtT} (ha : L[j]? = some a) (hc : (onB W H a && N a && decide ((lkB N W H q s L j).m (ixP a) = 0)) = true) : ∃ next, GrwS w pre post (g :: aBlk na) F N0 N2 wave next wv nv (lkB N W H q s L (j + 1)).m (x.setCell ⟨F, ixP a, none⟩ (.int .i64 (((lkB N W H q s L j).m (ixP q) + 1 : Nat) : Int))) ∧ (lkB N W H q s L (j + 1)).l.drop n = next ++ [a] ∧ n ≤ (lkB N W H q s L (j + 1)).l.length ∧
 Elems (x.setCell ⟨F, ixP a, none⟩ (.int .i64 (((lkB N W H q s L j).m (ixP q) + 1 : Nat) : Int))) (.slice na L.length nc) L.length 2 (rowC encP L) ∧ (x.setCell ⟨F, ixP a, none⟩ (.int .i64 (((lkB N W H q s L j).m (ixP q) + 1 : Nat) : Int))).heap[g]? = some (.cells #[.int .i64 q.x, .int .i64 q.y] 41 (0, 0)) := by
 obtain ⟨⟨next, h1, h2, h5⟩, h3, h4, h6⟩ := h
 obtain ⟨k1, k2, k3⟩ := look_next (N := N) (W := W) (H := H) (q := q) (a := a) h5
 rw [hc] at k2 k3
 simp only [if_true] at k2 k3
 refine ⟨next, by rw [lkB_succ ha, k3]; exact h1.put _ _, by rw [lkB_succ ha, k2, h2], by rw [lkB_succ ha]; exact k1, ?_, ?_⟩
 · exact h3.turnedD (Turned.of_grown (grownBy_setCellAt x F (ixP a) _)) fun b off e hd => by
    have h7 := h6 b (List.mem_cons_of_mem _ (aBlk_mem e))
    cases hd
    omega
 · exact (Below.heap_setCell x ⟨F, ixP a, none⟩ _ g (fun e => by have h7 := h6 g List.mem_cons_self; simp only at e; omega)).trans h4
theorem NbS.fin {N : PtT → Bool} {W H : Int} {w : World} {pre post : List It} {F N0 N2 n : Nat} {wave : List PtT} {wv : Value} {q : PtT} {g : Nat} {na : Option Addr} {nc : Nat} {L : List PtT} {s : Bf} {j : Nat} {nv : Value} {x : World} {next : List PtT} {a : PtT} {nv' : Value} {x2 y : World} (hf : ∀ b ∈ g :: aBlk na, F < b) (hg : GrwS w pre post (g :: aBlk na) F N0 N2 wave next wv nv (lkB N W H q s L (j + 1)).m x2) (hd : (lkB N W H q s L (j + 1)).l.drop n = next ++ [a]) (hl : n ≤ (lkB N W H q s L (j + 1)).l.length) (hn : Elems x2 (.slice na L.length nc) L.length 2 (rowC encP L)) (hp : x2.heap[g]? = some (.cells #[.int .i64 q.x, .int .i64 q.y] 41 (0, 0)))
 (ho : StO w (pre ++ .blk F (fldO (lkB N W H q s L (j + 1)).m) :: post) N2 41 2 encP nv' (next ++ [a]) y) (hgr : x2.grownBy y nv.ownBlock) (hloc : nv'.ownBlock = nv.ownBlock ∨ ∃ b, nv'.ownBlock = some b ∧ x2.heap.size < b) : NbS N W H w pre post F N0 N2 n wave wv q g na nc L s (j + 1) nv' y := by
 have hbs : ∀ b ∈ g :: aBlk na, b < x2.heap.size := by
  intro b hb
  rcases List.mem_cons.1 hb with rfl | hb
  · exact block_lt hp
  · exact aBlk_lt hn b hb
 refine ⟨⟨_, hg.app ho hgr hbs (hloc.imp id fun ⟨b, h1, h2⟩ => ⟨b, h1, Nat.le_of_lt h2⟩), hd, hl⟩, ?_, ?_, hf⟩
 · exact hn.turnedD (Turned.of_grown hgr) fun b off e hd' => hg.nb b hd'.symm (List.mem_cons_of_mem _ (aBlk_mem e))
 · exact ((Turned.of_grown hgr).block g (block_lt hp) fun hd' => hg.nb g hd'.symm List.mem_cons_self).trans hp

/-- Ahead of a wave, with a measure. -/
def GrwR (N : PtT → Bool) (W H : Int) (p : PtT) (w : World) (pre post : List It) (F N0 n : Nat) (wv : Value) (x : World) : Prop := ∃ (s : Bf) (k N2 : Nat) (wave : List PtT), n = 1025 - k ∧ Wav N W H p k (k + wave.length) [] s ∧ s.l.drop k = wave ∧ GrwS w pre post [] F N0 N2 wave [] wv (.slice none 0 0) s.m x

/-- In the middle of a wave. -/
def WvR (N : PtT → Bool) (W H : Int) (p : PtT) (w : World) (pre post : List It) (F N0 N2 k : Nat) (wave : List PtT) (wv : Value) (i : Nat) (nv : Value) (x : World) : Prop :=
 ∃ (s : Bf) (next : List PtT), Wav N W H p (k + i) (k + wave.length) next s ∧ (s.l.drop k).take wave.length = wave ∧ GrwS w pre post [] F N0 N2 wave next wv nv s.m x

set_option maxRecDepth 100000 in
set_option maxHeartbeats 8000000 in
theorem refGrown_any (C : CanT) (hC : okCan C) (v : Value) (p : PtT) (t : Int) (mb : Nat → Nat) (hp : onB (8 * (C.wide : Int)) (8 * (C.high : Int)) p = true) (h0 : mb (ixP p) = 0) (ht : 0 ≤ t) (w : World) (hv : CanV w C v) :
 Calls Try.prog 15 #[v, p.val, .int .i64 t, .agg (fldA mb)] w (Gives (.agg (fldA (runB (pastB (fun q => nearB (colP C p) (colP C q) t) mb) (8 * (C.wide : Int)) (8 * (C.high : Int)) (fun _ => 0) p).m)) w) := by
 have HAT := Lib.hid (fun (x y : Nat) hx hy w' h => refAt_any C hC v x y hx hy w' h)
 have HNB := Lib.hid (fun p hp w' h => refNbs_any C hC v p hp w' h)
 have HNR := Lib.hid (fun c d hc hd w => refNear_any c d hc hd t w)
 have HOC := Lib.hid hC
 have HV := Lib.hid hv
 have HON := Lib.hid hp
 have HWH := Lib.hid (show 8 * (C.wide : Int) ≤ 32 ∧ 8 * (C.high : Int) ≤ 32 by have h1 := hC.wide; have h2 := hC.high; omega)
 obtain ⟨N, hN⟩ : ∃ N, pastB (fun q => nearB (colP C p) (colP C q) t) mb = N := ⟨_, rfl⟩
 have hNp : N p = true := by
  rw [← hN]
  unfold pastB nearB
  simp only [far_self, h0]
  simpa using ht
 have HNN := Lib.hid hN
 rw [hN]
 have HWA := Lib.hid (Wav.start hp hNp)
 obtain ⟨a, cap, rfl, -, -⟩ := id hv
 have HS := Lib.hid (St.start w)
 obtain ⟨pp, hpp⟩ : ∃ pp, pp = p := ⟨_, rfl⟩
 have HPP := Lib.hid hpp
 rw [← hpp]
 rw [← hpp] at HWA HON HNN
 obtain ⟨⟨hx0, hxW⟩, hy0, hyH⟩ := onB_iff.1 hp
 obtain ⟨x, y⟩ := p
 simp only at hx0 hxW hy0 hyH
 obtain ⟨x, rfl⟩ := Int.eq_ofNat_of_zero_le hx0
 obtain ⟨y, rfl⟩ := Int.eq_ofNat_of_zero_le hy0
 have x1 : x < 32 := by have := HWH.out; omega
 have x2 : y < 32 := by have := HWH.out; omega
 have hxx : x < 8 * C.wide := by omega
 have hyy : y < 8 * C.high := by omega
 have HXY := Lib.hid (And.intro hxx hyy)
 have hpv : pp.val = .agg #[.int .i64 x, .int .i64 y] := by rw [hpp]; rfl
 have HIX := Lib.hid (show ixP pp = y * 32 + x by rw [hpp]; unfold ixP; simp only; omega)
 rw [hpv]
 have HI := Lib.hid (show y * 32 + x < 1024 by omega)
 clear hC hv hp h0 ht hN hNp hpp hpv hx0 hxW hy0 hyH hxx hyy
 go_enter Try.func15, Try.ntmps15
 repeat ((fail_if_success (with_reducible refine stop_at (id := 2) ?_)); (first | go_values | go_skip | go_guarded | go_step | go_upon | go_back | (simp only [Int.not_lt, Int.not_le] at *; go_simp) | (go_values <;> (try go_simp)) | (go_ite <;> go_prune <;> (try go_simp)) | (split <;> (first | (rename_i hx; exact (hx _ rfl).elim) | go_prune))))
 have hz : Try.zeroCells50 = fldA fun _ => 0 := by kernel_rfl
 rw [hz]
 clear hz
 have hs_ := (((((HS.out.alloc (.cells #[.int .i64 C.wide, .int .i64 C.high, .slice a C.tiles.length cap] 24)).alloc (.cells #[.int .i64 x, .int .i64 y] 41)).alloc (.cells (fldA mb) 50)).alloc (.cells (fldA fun _ => 0) 50)).alloc (.cells (fldA fun _ => 0) 50))
 obtain ⟨w1, hw_⟩ : ∃ w1 : World, (((((w.alloc (.cells #[.int .i64 C.wide, .int .i64 C.high, .slice a C.tiles.length cap] 24)).alloc (.cells #[.int .i64 x, .int .i64 y] 41)).alloc (.cells (fldA mb) 50)).alloc (.cells (fldA fun _ => 0) 50)).alloc (.cells (fldA fun _ => 0) 50)) = w1 := ⟨_, rfl⟩
 rw [hw_] at hs_
 try simp only [World.size_alloc] at hs_
 have HS := Lib.hid hs_
 rw [hw_]
 clear hw_ hs_
 refine (wpIn_wide (n := 0)).1 ?_
 apply wp_region_vals 6 (Rl := [(eqv _), (eqv _), (eqv _), (eqv _), (eqv _), (eqv _)]) (C := (fun x y => Below x.heap.size x y))
 case hm => kernel_rfl
 case hk => rfl
 case hCr => exact (fun _ => Below.refl _ _)
 case hCt => intro _ _ _; exact (fun h k => grows_trans h k)
 case hst => exact ⟨fun _ _ _ _ h => h, fun _ _ _ _ h => h, fun _ _ _ _ h => h, fun _ _ _ _ h => h, fun _ _ _ _ h => h, fun _ _ _ _ h => h, trivial⟩
 case hfo => kernel_rfl
 case ht => kernel_rfl
 case hC0 => exact (grows_drew _)
 case hsteps =>
  refine ⟨?_, ?_, ?_, ?_, ?_, ?_, trivial⟩
  · intro a' w' hA hC hD; have s5 : a'.tmps[5]? = some _ := (hA.at 5 (by kernel_rfl)).trans rfl; clear hA hD; refine stepOk_plain rfl ?_; intro K hK; gi_wp2; exact hK _ _ rfl ((fun _ => Below.refl _ _) _)
  · intro a' w' hA hC hD; obtain ⟨u17, s17, r17⟩ := hD ⟨0, .data⟩ (by simp) rfl _ rfl; replace r17 : u17 = _ := r17; subst r17
    have h1_ := (HS.out.below hC).blockAt 3 rfl; have c1_0 := cell_of_block (k := 0) h1_ rfl; have c1_1 := cell_of_block (k := 1) h1_ rfl; clear h1_
    clear hA hD; refine stepOk_plain rfl ?_; intro K hK; gi_wp2; exact hK _ _ rfl ((fun _ => Below.refl _ _) _)
  · intro a' w' hA hC hD; have s5 : a'.tmps[5]? = some _ := (hA.at 5 (by kernel_rfl)).trans rfl; clear hA hD; refine stepOk_plain rfl ?_; intro K hK; gi_wp2; exact hK _ _ rfl ((fun _ => Below.refl _ _) _)
  · intro a' w' hA hC hD; obtain ⟨u19, s19, r19⟩ := hD ⟨2, .data⟩ (by simp) rfl _ rfl; replace r19 : u19 = _ := r19; subst r19
    have h1_ := (HS.out.below hC).blockAt 3 rfl; have c1_0 := cell_of_block (k := 0) h1_ rfl; have c1_1 := cell_of_block (k := 1) h1_ rfl; clear h1_
    clear hA hD; refine stepOk_plain rfl ?_; intro K hK; gi_wp2; exact hK _ _ rfl ((fun _ => Below.refl _ _) _)
  · intro a' w' hA hC hD; have s9 : a'.tmps[9]? = some _ := (hA.at 9 (by kernel_rfl)).trans rfl; obtain ⟨u18, s18, r18⟩ := hD ⟨1, .data⟩ (by simp) rfl _ rfl; replace r18 : u18 = _ := r18; subst r18; clear hA hD; refine stepOk_plain rfl ?_; intro K hK; gi_wp2; exact hK _ _ rfl ((fun _ => Below.refl _ _) _)
  · intro a' w' hA hC hD; obtain ⟨u21, s21, r21⟩ := hD ⟨4, .data⟩ (by simp) rfl _ rfl; replace r21 : u21 = _ := r21; subst r21; obtain ⟨u20, s20, r20⟩ := hD ⟨3, .data⟩ (by simp) rfl _ rfl; replace r20 : u20 = _ := r20; subst r20; clear hA hD; refine stepOk_plain rfl ?_; intro K hK; gi_wp2; exact hK _ _ rfl ((fun _ => Below.refl _ _) _)
 case hend =>
  intro w2 hC
  simp only [EndFrom, eqv, forall_eq, Act.put, List.length_cons, List.length_nil, List.drop_succ_cons, List.drop_zero, Nat.reduceAdd, List.setIfInBounds_toArray, List.set_cons_succ, List.set_cons_zero]
  have HS := Lib.hid (HS.out.below hC)
  clear hC
  have f1 := free_of_block (HS.out.blockAt 0 rfl) (y * 32 + x)
  have c1 := cell_of_block (HS.out.blockAt 0 rfl) (fldA_get (fun _ => 0) HI.out)
  gi_wp2
  have hs := HS.out.putFld (pre := []) (by simp) (y * 32 + x) 1
  simp only [List.nil_append] at hs
  generalize w2.setCell ⟨w.heap.size + 1 + 1 + 1 + 1, y * 32 + x, none⟩ (.int .i64 1) = w3 at hs ⊢
  obtain ⟨M1, hM1⟩ : ∃ M1 : Nat → Nat, (fun i => if i = y * 32 + x then 1 else 0) = M1 := ⟨_, rfl⟩
  have hs2 : St w [.blk (w.heap.size + 1 + 1 + 1 + 1) (fldO M1), .blk (w.heap.size + 1 + 1 + 1) (fldO fun _ => 0), .blk (w.heap.size + 1 + 1) (fldO mb), .blk (w.heap.size + 1) (.cells #[.int .i64 x, .int .i64 y] 41 (0, 0)), .blk w.heap.size (.cells #[.int .i64 C.wide, .int .i64 C.high, .slice a C.tiles.length cap] 24 (0, 0))] w3 := by rw [← hM1]; exact hs
  have HS := Lib.hid hs2
  have HM1 := Lib.hid hM1
  clear hs hs2 hM1 f1 c1
  have k0 := cell_of_block (k := 0) (HS.out.blockAt 3 rfl) rfl
  have k1 := cell_of_block (k := 1) (HS.out.blockAt 3 rfl) rfl
  repeat ((fail_if_success (with_reducible refine stop_at (id := 4) ?_)); (first | go_values | go_skip | go_guarded | go_step | go_upon | go_back | (simp only [Int.not_lt, Int.not_le] at *; go_simp) | (go_values <;> (try go_simp)) | (go_ite <;> go_prune <;> (try go_simp)) | (split <;> (first | (rename_i hx; exact (hx _ rfl).elim) | go_prune))))
  clear k0 k1
  obtain ⟨N0, hN0⟩ : ∃ N0, w3.heap.size = N0 := ⟨_, rfl⟩
  have hs_ := (HS.out.alloc (.cells #[.int .i64 x, .int .i64 y] 41))
  obtain ⟨w4, hw_⟩ : ∃ w4 : World, (w3.alloc (.cells #[.int .i64 x, .int .i64 y] 41)) = w4 := ⟨_, rfl⟩
  rw [hw_] at hs_
  try simp only [World.size_alloc] at hs_
  have HS := Lib.hid hs_
  rw [hw_]
  clear hw_ hs_
  simp only [hN0] at HS ⊢
  have hrow : w4.ownsRow N0 41 2 (.slice (some ⟨N0, 0, none⟩) 1 1) [pp].length ([pp].flatMap encP) := by
   refine ⟨by simp [encP_len], .inr ⟨N0, 1, #[.int .i64 x, .int .i64 y], rfl, Nat.le_refl _, HS.out.blockAt 0 rfl, Nat.le_refl _, by decide, by simp, ?_⟩⟩
   rw [HPP.out]; rfl
  have HROW := Lib.hid hrow
  have HN0 := Lib.hid (show w.heap.size + 1 + 1 + 1 + 1 < N0 by have h := HS.out.ord; simp [ItOrd, It.top] at h; omega)
  have HN1 := Lib.hid (show N0 < w4.heap.size from HS.out.lt 0 rfl)
  have HS := Lib.hid HS.out.drop1
  clear hrow hN0
  have k0 := cell_of_block (k := 0) (HS.out.blockAt 3 rfl) rfl
  have k1 := cell_of_block (k := 1) (HS.out.blockAt 3 rfl) rfl
  have v0 := cell_of_block (k := 0) (HS.out.blockAt 4 rfl) rfl
  have v1 := cell_of_block (k := 1) (HS.out.blockAt 4 rfl) rfl
  have v2 := cell_of_block (k := 2) (HS.out.blockAt 4 rfl) rfl
  have HA0 := Lib.hid (HAT.out x y HXY.out.1 HXY.out.2 w4 (HV.out.below HS.out.low))
  obtain ⟨cl, hcl⟩ : ∃ cl, colC C x y = cl := ⟨_, rfl⟩
  have HCL := Lib.hid (show colP C pp = cl by rw [HPP.out, ← hcl]; rfl)
  have HCO := Lib.hid (show okC cl by rw [← hcl]; exact (HOC.out.tile HXY.out.1 HXY.out.2).choose_spec.2.2)
  rw [hcl] at HA0
  obtain ⟨r, g, bl, al⟩ := cl
  unfold ColT.val at HA0
  simp only at HA0
  clear hcl
  go_wp2_with fail
  refine HA0.out.mono ?_
  rintro e w5 ⟨rfl, hb⟩
  have HROW := Lib.hid (ownsRow_below HROW.out hb)
  have HN1 := Lib.hid (Nat.lt_of_lt_of_le HN1.out hb.size)
  have HS := Lib.hid (HS.out.below hb)
  clear hb HA0 k0 k1 v0 v1 v2
  repeat ((fail_if_success (with_reducible refine stop_at (id := 5) ?_)); (first | go_values | go_skip | go_guarded | go_step | go_upon | go_back | (simp only [Int.not_lt, Int.not_le] at *; go_simp) | (go_values <;> (try go_simp)) | (go_ite <;> go_prune <;> (try go_simp)) | (split <;> (first | (rename_i hx; exact (hx _ rfl).elim) | go_prune))))
  obtain ⟨q11, hq11⟩ : ∃ q11, w5.heap.size = q11 := ⟨_, rfl⟩
  have HN2 := Lib.hid (show N0 < q11 by rw [← hq11]; exact HN1.out)
  have hrow6 : (w5.alloc (.cells #[.int .u8 r, .int .u8 g, .int .u8 bl, .int .u8 al] 55)).ownsRow N0 41 2 (.slice (some ⟨N0, 0, none⟩) 1 1) [pp].length ([pp].flatMap encP) := ownsRow_below HROW.out ((Below.refl _ _).alloc (Nat.le_refl _) _)
  have hst6 := HS.out.alloc (.cells #[.int .u8 r, .int .u8 g, .int .u8 bl, .int .u8 al] 55)
  obtain ⟨w6, hw6⟩ : ∃ w6 : World, w5.alloc (.cells #[.int .u8 r, .int .u8 g, .int .u8 bl, .int .u8 al] 55) = w6 := ⟨_, rfl⟩
  have hz6 : w6.heap.size = q11 + 1 := by rw [← hw6]; simp [hq11]
  rw [hw6] at hrow6 hst6
  rw [hw6]
  rw [hq11] at hst6
  simp only [hq11]
  obtain ⟨F, hF⟩ : ∃ F, w.heap.size + 1 + 1 + 1 + 1 = F := ⟨_, rfl⟩
  obtain ⟨post, hpost⟩ : ∃ post : List It, post = [.blk (w.heap.size + 1 + 1 + 1) (fldO fun _ => 0), .blk (w.heap.size + 1 + 1) (fldO mb), .blk (w.heap.size + 1) (.cells #[.int .i64 x, .int .i64 y] 41 (0, 0)), .blk w.heap.size (.cells #[.int .i64 C.wide, .int .i64 C.high, .slice a C.tiles.length cap] 24 (0, 0))] := ⟨_, rfl⟩
  rw [hF] at hst6
  have HV0 := Lib.hid (show It.blk w.heap.size (.cells #[.int .i64 C.wide, .int .i64 C.high, .slice a C.tiles.length cap] 24 (0, 0)) ∈ post by rw [hpost]; simp)
  have HV1 := Lib.hid (show It.blk (w.heap.size + 1 + 1) (fldO mb) ∈ post by rw [hpost]; simp)
  have HPO := Lib.hid hpost
  have HFE := Lib.hid hF
  have hst6' : St w ([.blk q11 (.cells #[.int .u8 r, .int .u8 g, .int .u8 bl, .int .u8 al] 55 (0, 0))] ++ .blk F (fldO M1) :: post) w6 := by rw [hpost]; exact hst6
  have hg6 : GrwS w [.blk q11 (.cells #[.int .u8 r, .int .u8 g, .int .u8 bl, .int .u8 al] 55 (0, 0))] post [] F N0 w6.heap.size [pp] [] (.slice (some ⟨N0, 0, none⟩) 1 1) (.slice none 0 0) M1 w6 :=
   ⟨⟨hst6', World.ownsRow_nil _ _ _ _, hst6'.size, hst6'.top, Nat.le_refl _⟩, hrow6, fun j hj => (hrow6.lt j hj).2, by rw [← hF]; exact HN0.out, by simp, by have := HN2.out; omega, fun _ h => by cases h⟩
  have hm1 : M1 = ((Bf.mk (fun _ => 0) []).meet pp 0).m := by
   rw [← HM1.out]
   unfold Bf.meet
   rw [if_pos rfl]
   funext i
   simp only [HIX.out]
  have HG := Lib.hid hg6
  clear hrow6 hst6 hst6' hg6 hw6 hz6 hpost hq11 HS HROW
  simp only [hF]
  obtain ⟨pre, hpre⟩ : ∃ pre : List It, pre = [.blk q11 (.cells #[.int .u8 r, .int .u8 g, .int .u8 bl, .int .u8 al] 55 (0, 0))] := ⟨_, rfl⟩
  have HV2 := Lib.hid (show It.blk q11 (.cells #[.int .u8 r, .int .u8 g, .int .u8 bl, .int .u8 al] 55 (0, 0)) ∈ pre by rw [hpre]; simp)
  have HPR := Lib.hid hpre
  rw [← hpre] at HG
  obtain ⟨W, hW⟩ : ∃ W, 8 * (C.wide : Int) = W := ⟨_, rfl⟩
  obtain ⟨H, hH⟩ : ∃ H, 8 * (C.high : Int) = H := ⟨_, rfl⟩
  have HWW := Lib.hid (And.intro hW hH)
  rw [hW, hH] at HWA
  have hst := HWA.out
  have HR0 := Lib.hid (show GrwR N W H pp w pre post F N0 1025 (.slice (some ⟨N0, 0, none⟩) 1 1) w6 from ⟨_, 0, _, [pp], rfl, by simpa using hst, by unfold Bf.meet; rw [if_pos rfl]; rfl, by rw [← hm1]; exact HG.out⟩)
  clear hst hm1 hpre hW hH hF HG
  go_loopw [10] (fun wv wr => ∃ n, GrwR N W H pp w pre post F N0 n wv wr) (fun wv wr => leastN fun n => GrwR N W H pp w pre post F N0 n wv wr)
  case atStart => exact ⟨_, HR0.out⟩
  case round =>
   have hsp := leastN_spec hrel
   obtain ⟨nn, hnn⟩ : ∃ nn, (leastN fun n => GrwR N W H pp w pre post F N0 n u10 wr) = nn := ⟨_, rfl⟩
   rw [hnn] at hsp
   have HNNN := Lib.hid hnn
   obtain ⟨s, k, N2, wave, hnk, hwav, hdrop, hg⟩ := hsp
   obtain ⟨aw, cw, rfl⟩ : ∃ aw cw, u10 = .slice aw wave.length cw := by
    rcases hg.wr.2 with ⟨h1, h0⟩ | ⟨g', cp, cur, h1, _⟩
    · exact ⟨none, 0, by rw [h1, h0]⟩
    · exact ⟨_, cp, h1⟩
   have HWV := Lib.hid hwav
   have HDR := Lib.hid hdrop
   have HG := Lib.hid hg
   have HNK := Lib.hid hnk
   obtain ⟨n, hn⟩ : ∃ n, wave.length = n := ⟨_, rfl⟩
   rw [hn] at HWV
   have HLN := Lib.hid hn
   rw [hn]
   clear hrel hnn hnk hwav hdrop hg HR0
   by_cases hz : n = 0
   · subst hz
     repeat ((fail_if_success (with_reducible refine stop_at (id := 19) ?_)); (first | go_values | go_skip | go_guarded | go_step | go_upon | go_back | (simp only [Int.not_lt, Int.not_le] at *; go_simp) | (go_values <;> (try go_simp)) | (go_ite <;> go_prune <;> (try go_simp)) | (split <;> (first | (rename_i hx; exact (hx _ rfl).elim) | go_prune))))
     refine (wpIn_wide (n := 0)).1 ?_
     have hsz : ∀ m, (Try.prog.info? 50).map (·.size) = some (fldA m).size := fun m => by rw [fldA_size]; kernel_rfl
     have HSZ := Lib.hid hsz
     clear hsz
     gi_wp2_with fail
     refine opIn_load 50 _ rfl F rfl 50 (fldA s.m) (0, 0) _ HG.out.at_ Try.underlying50 rfl (HSZ.out _) ?_
     simp only [Act.put, List.setIfInBounds_toArray, List.set_cons_succ, List.set_cons_zero]
     have hb8 : wr.heap[w.heap.size + 1 + 1 + 1]? = some (fldO fun _ => 0) := HG.out.o.st.ok (.blk (w.heap.size + 1 + 1 + 1) (fldO fun _ => 0)) (List.mem_append.2 (.inr (List.mem_cons_of_mem _ (by rw [HPO.out]; simp))))
     have hsc : (storeCells ⟨w.heap.size + 1 + 1 + 1, 0, none⟩ (fldA s.m).toList).run Try.prog wr = .ok () (wr.setRow (w.heap.size + 1 + 1 + 1) (fldA s.m)) := by
      have h1 := run_storeCells_from (P := Try.prog) (w.heap.size + 1 + 1 + 1) 50 (fldA s.m).toList 0 (fldA fun _ => 0) wr hb8 (by rw [Array.length_toList, fldA_size, fldA_size]) (fun v hv => (Array.all_eq_true_iff_forall_mem.1 (fldA_one s.m)) v (by simpa using hv))
      simpa using h1
     have hb9 := setRow_heap wr (w.heap.size + 1 + 1 + 1) _ (fldA s.m) _ _ hb8
     have hlv := run_loadVar_row (P := Try.prog) (wr.setRow (w.heap.size + 1 + 1 + 1) (fldA s.m)) (w.heap.size + 1 + 1 + 1) 50 50 (fldA s.m) (0, 0) _ hb9 Try.underlying50 rfl (HSZ.out _)
     have hfin : s = runB N W H (fun _ => 0) pp := HWV.out.bk.done (by
      have h1 := congrArg List.length HDR.out
      rw [List.length_drop, HLN.out] at h1
      omega)
     have HFIN := Lib.hid hfin
     have HLV := Lib.hid hlv
     clear hb8 hb9 hlv hfin
     gi_wp2_with fail
     go_wp2
     have hlv := HLV.out
     refine bodyPost_ret (results_cell1 Try.results15 rfl hlv) rfl ?_
     refine ⟨?_, belowRow HG.out.o.st.low (by omega) _⟩
     rw [HFIN.out, ← HNN.out, ← HWW.out.1, ← HWW.out.2]
   · have HN1 := Lib.hid (show 0 < n by omega)
     clear hz
     have HLE := Lib.hid (show k + n ≤ 1024 by
      have h1 := HWV.out.nl
      have h2 := HWV.out.bk.inv.len (by rw [← HWW.out.1]; exact HWH.out.1) (by rw [← HWW.out.2]; exact HWH.out.2)
      omega)
     repeat ((fail_if_success (with_reducible refine stop_at (id := 7) ?_)); (first | go_values | go_skip | go_guarded | go_step | go_upon | go_back | (simp only [Int.not_lt, Int.not_le] at *; go_simp) | (go_values <;> (try go_simp)) | (go_ite <;> go_prune <;> (try go_simp)) | (split <;> (first | (rename_i hx; exact (hx _ rfl).elim) | go_prune))))
     go_wp2_with fail
     have HR1 := Lib.hid (show WvR N W H pp w pre post F N0 N2 k wave (.slice aw n cw) 0 (.slice none 0 0) wr from ⟨s, [], by rw [HLN.out]; exact HWV.out, by rw [HDR.out, List.take_length], by have := HG.out; rwa [HLN.out] at this⟩)
     rw [show decide (0 < n) = true from decide_eq_true HN1.out]
     go_loopw [12, 33] (fun v12 v33 wx => ∃ i : Nat, i ≤ n ∧ v33 = .int .i64 (i : Int) ∧ WvR N W H pp w pre post F N0 N2 k wave (.slice aw n cw) i v12 wx) (fun _ v _ => n - (intOf v).toNat)
     case atStart => exact ⟨0, by omega, rfl, HR1.out⟩
     case round =>
      obtain ⟨i, hi, rfl, hwr⟩ := hrel
      clear HR1
      obtain ⟨s', next, hwav, htk, hg⟩ := hwr
      rw [HLN.out] at hwav htk
      have HWV2 := Lib.hid hwav
      have HTK := Lib.hid htk
      have HG2 := Lib.hid hg
      clear hwav htk hg
      by_cases hlt : i < n
      · obtain ⟨q, hq⟩ : ∃ q, wave[i]? = some q := ⟨_, List.getElem?_eq_getElem (by rw [HLN.out]; exact hlt)⟩
        have HLT := Lib.hid hlt
        have hel := ownsRow_rows encP_len HG2.out.wr
        rw [HLN.out] at hel
        obtain ⟨bb, off, rfl, hbb, c0, c1⟩ := ptCells HLN.out hel i q hq
        have hsl : s'.l[k + i]? = some q := by
         rw [← hq, ← HTK.out, List.getElem?_take_of_lt hlt, List.getElem?_drop]
        have hqo : onB W H q = true := HWV2.out.bk.inv.on q (List.mem_of_getElem? hsl)
        have hqn : N q = true := HWV2.out.bk.inv.near q (List.mem_of_getElem? hsl)
        have HQ := Lib.hid (And.intro hsl (And.intro hqo hqn))
        obtain ⟨qq, hqq⟩ : ∃ qq, qq = q := ⟨_, rfl⟩
        rw [← hqq] at HQ
        obtain ⟨⟨hx0, hxW⟩, hy0, hyH⟩ := onB_iff.1 hqo
        obtain ⟨qx, qy⟩ := q
        simp only at hx0 hxW hy0 hyH c0 c1
        obtain ⟨qx, rfl⟩ := Int.eq_ofNat_of_zero_le hx0
        obtain ⟨qy, rfl⟩ := Int.eq_ofNat_of_zero_le hy0
        have HQE := Lib.hid hqq
        have HQB := Lib.hid (show qx < 32 ∧ qy < 32 by
         have := HWH.out
         have := HWW.out
         omega)
        have e3 : wrap64 ((i : Int) + 1) = ((i + 1 : Nat) : Int) := by have := HLE.out; unfold wrap64; omega
        have HE3 := Lib.hid e3
        have HS := Lib.hid (St.start wr)
        clear hel hq hlt hqo hqn hsl hqq hx0 hxW hy0 hyH e3 hbb
        repeat ((fail_if_success (with_reducible refine stop_at (id := 10) ?_)); (first | go_values | go_skip | go_guarded | go_step | go_upon | go_back | (simp only [Int.not_lt, Int.not_le] at *; go_simp) | (go_values <;> (try go_simp)) | (go_ite <;> go_prune <;> (try go_simp)) | (split <;> (first | (rename_i hx; exact (hx _ rfl).elim) | go_prune))))
        clear c0 c1
        have HGW := HG2
        have hs_ := (HS.out.alloc (.cells #[.int .i64 qx, .int .i64 qy] 41))
        obtain ⟨w20, hw_⟩ : ∃ w20 : World, (wr.alloc (.cells #[.int .i64 qx, .int .i64 qy] 41)) = w20 := ⟨_, rfl⟩
        rw [hw_] at hs_
        try simp only [World.size_alloc] at hs_
        have HS := Lib.hid hs_
        rw [hw_]
        clear hw_ hs_
        have HG2 := Lib.hid (HG2.out.below HS.out.low)
        have v0 := cell_of_block (k := 0) (HG2.out.post_ HV0.out) rfl
        have v1 := cell_of_block (k := 1) (HG2.out.post_ HV0.out) rfl
        have v2 := cell_of_block (k := 2) (HG2.out.post_ HV0.out) rfl
        have p0 := cell_of_block (k := 0) (HS.out.blockAt 0 rfl) rfl
        have p1 := cell_of_block (k := 1) (HS.out.blockAt 0 rfl) rfl
        go_wp2_with fail
        have hnb := HNB.out qq (by rw [HWW.out.1, HWW.out.2]; exact HQ.out.2.1) w20 (HV.out.below HG2.out.o.st.low)
        rw [HQE.out] at hnb
        simp only [PtT.val] at hnb
        refine hnb.mono ?_
        rintro e w21 ⟨vn, rfl, hrn, hbn⟩
        have hn2 := ownsRow_rows encP_len hrn
        obtain ⟨na, nc, rfl⟩ : ∃ na nc, vn = .slice na (nbL (8 * (C.wide : Int)) (8 * (C.high : Int)) ⟨(qx : Int), (qy : Int)⟩).length nc := by
         rcases hrn.2 with ⟨h1, h0⟩ | ⟨g', cp, cur, h1, _⟩
         · exact ⟨none, 0, by rw [h1, h0]⟩
         · exact ⟨_, cp, h1⟩
        obtain ⟨L, hL⟩ : ∃ L, nbL (8 * (C.wide : Int)) (8 * (C.high : Int)) ⟨(qx : Int), (qy : Int)⟩ = L := ⟨_, rfl⟩
        rw [hL] at hn2 hrn ⊢
        have HL := Lib.hid (show nbL W H qq = L by rw [HQE.out, ← HWW.out.1, ← HWW.out.2]; exact hL)
        have hna : ∀ b ∈ aBlk na, w20.heap.size ≤ b := by
         intro b hb
         obtain ⟨ad, rfl, rfl⟩ : ∃ ad : Addr, na = some ad ∧ ad.block = b := by
          unfold aBlk at hb
          simpa using hb
         exact (hrn.lt ad.block rfl).1
        have hzw : wr.heap.size < w20.heap.size := HS.out.lt 0 rfl
        have hg3 := (HGW.out.more (bs' := wr.heap.size :: aBlk na) (by
         intro b hb
         rcases List.mem_cons.1 hb with rfl | hb
         · exact .inr (Nat.le_refl _)
         · have := hna b hb
           exact .inr (by omega))).below (HS.out.low.trans (hbn.mono HS.out.size))
        have hpt : w21.heap[wr.heap.size]? = some (.cells #[.int .i64 qx, .int .i64 qy] 41 (0, 0)) := (hbn.block _ hzw).trans (HS.out.blockAt 0 rfl)
        have hfb : ∀ b ∈ wr.heap.size :: aBlk na, F < b := by
         have h1 := HGW.out.fl
         have h2 := HGW.out.n2
         have h3 := HGW.out.o.hi
         intro b hb
         rcases List.mem_cons.1 hb with rfl | hb
         · omega
         · have := hna b hb
           omega
        have HNS := Lib.hid (show NbS N W H w pre post F N0 N2 (k + n) wave (.slice (some ⟨bb, off, none⟩) n cw) qq wr.heap.size na nc L s' 0 u12 w21 from ⟨⟨next, hg3, HWV2.out.nx, HWV2.out.nl⟩, hn2, by rw [HQE.out]; exact hpt, hfb⟩)
        clear hfb hg3 hpt hna hzw hrn hn2 hnb hbn p0 p1 v0 v1 v2 hL HGW HG2 HS
        obtain ⟨m, hm⟩ : ∃ m, L.length = m := ⟨_, rfl⟩
        rw [hm]
        have HM := Lib.hid hm
        have HM4 := Lib.hid (show m ≤ 4 by
         rw [← hm, ← HL.out]
         unfold nbL
         exact Nat.le_trans (List.length_filter_le _ _) (by simp [nbs]))
        clear hm
        go_wp2_with fail
        obtain ⟨B14, hB14⟩ : ∃ b, wr.heap.size = b := ⟨_, rfl⟩
        simp only [hB14] at HNS ⊢
        clear hB14
        go_loopw [12, 41] (fun v12 v41 wx => ∃ j : Nat, j ≤ m ∧ v41 = .int .i64 (j : Int) ∧ NbS N W H w pre post F N0 N2 (k + n) wave (.slice (some ⟨bb, off, none⟩) n cw) qq B14 na nc L s' j v12 wx) (fun _ v _ => m - (intOf v).toNat)
        case atStart => exact ⟨0, by omega, rfl, HNS.out⟩
        case round =>
         obtain ⟨j, hj, rfl, hns⟩ := hrel
         have HFW := Lib.hid (block_lt hns.at_)
         have HNS := Lib.hid hns
         clear hns
         by_cases hlt : j < m
         · obtain ⟨b, hb⟩ : ∃ b, L[j]? = some b := ⟨_, List.getElem?_eq_getElem (by rw [HM.out]; exact hlt)⟩
           have HLT2 := Lib.hid hlt
           have hel := HNS.out.nr
           rw [HM.out] at hel
           obtain ⟨bn, on, rfl, hbb, c0, c1⟩ := ptCells HM.out hel j b hb
           have hmem : b ∈ nbL W H qq := by rw [HL.out]; exact List.mem_of_getElem? hb
           have hbo : onB W H b = true := (List.mem_filter.1 hmem).2
           have hbn : b ∈ nbs qq := (List.mem_filter.1 hmem).1
           have HB := Lib.hid (And.intro hb (And.intro hbo hbn))
           obtain ⟨pb, hpb⟩ : ∃ pb, pb = b := ⟨_, rfl⟩
           rw [← hpb] at HB
           obtain ⟨⟨bx0, bxW⟩, by0, byH⟩ := onB_iff.1 hbo
           obtain ⟨bx, by_⟩ := b
           simp only at bx0 bxW by0 byH c0 c1
           obtain ⟨bx, rfl⟩ := Int.eq_ofNat_of_zero_le bx0
           obtain ⟨by_, rfl⟩ := Int.eq_ofNat_of_zero_le by0
           have HPB := Lib.hid hpb
           have y1 : bx < 32 := by have := HWH.out; have := HWW.out; omega
           have y2 : by_ < 32 := by have := HWH.out; have := HWW.out; omega
           have HBB := Lib.hid (show bx < 8 * C.wide ∧ by_ < 8 * C.high by have := HWW.out; omega)
           have HBI := Lib.hid (show ixP pb = by_ * 32 + bx ∧ by_ * 32 + bx < 1024 by rw [hpb]; unfold ixP; simp only; omega)
           have e4 : wrap64 ((j : Int) + 1) = ((j + 1 : Nat) : Int) := by have := HM4.out; unfold wrap64; omega
           have HE4 := Lib.hid e4
           have HS := Lib.hid (St.start wr)
           clear hel hb hlt hmem hbo hbn hpb bx0 bxW by0 byH e4 hbb
           repeat ((fail_if_success (with_reducible refine stop_at (id := 13) ?_)); (first | go_values | go_skip | go_guarded | go_step | go_upon | go_back | (simp only [Int.not_lt, Int.not_le] at *; go_simp) | (go_values <;> (try go_simp)) | (go_ite <;> go_prune <;> (try go_simp)) | (split <;> (first | (rename_i hx; exact (hx _ rfl).elim) | go_prune))))
           clear c0 c1
           have hs_ := (HS.out.alloc (.cells #[.int .i64 bx, .int .i64 by_] 41))
           obtain ⟨w30, hw_⟩ : ∃ w30 : World, (wr.alloc (.cells #[.int .i64 bx, .int .i64 by_] 41)) = w30 := ⟨_, rfl⟩
           rw [hw_] at hs_
           try simp only [World.size_alloc] at hs_
           have HS := Lib.hid hs_
           rw [hw_]
           clear hw_ hs_
           have HNS := Lib.hid (HNS.out.below HS.out.low)
           obtain ⟨sm, hsm⟩ : ∃ sm, (lkB N W H qq s' L j).m (by_ * 32 + bx) = sm := ⟨_, rfl⟩
           have HSM := Lib.hid hsm
           clear hsm
           cases sm with
           | succ sm =>
            have HCF := Lib.hid (show (onB W H pb && N pb && decide ((lkB N W H qq s' L j).m (ixP pb) = 0)) = false by rw [HBI.out.1, HSM.out]; simp)
            refine (wpIn_wide (n := 0)).1 ?_
            apply wp_region_vals 26 (Rl := [(eqv _), (eqv _), (eqv _), (eqv _), (eqv _), (eqv _), (eqv _), (eqv _), (eqv _), (fun v_ _ => v_ = (undef : Value)), (fun v_ _ => v_ = (undef : Value)), (fun v_ _ => v_ = (undef : Value)), (fun v_ _ => v_ = (undef : Value)), (fun v_ _ => v_ = (undef : Value)), (fun v_ _ => v_ = (undef : Value)), (fun v_ _ => v_ = (undef : Value)), (fun v_ _ => v_ = (undef : Value)), (eqv _), (eqv _), (fun v_ _ => v_ = (undef : Value)), (fun v_ _ => v_ = (undef : Value)), (fun v_ _ => v_ = (undef : Value)), (fun v_ _ => v_ = (undef : Value)), (fun v_ _ => v_ = (undef : Value)), (fun v_ _ => v_ = (undef : Value)), (eqv _)]) (C := (fun x y => Below x.heap.size x y))
            case hm => kernel_rfl
            case hk => rfl
            case hCr => exact (fun _ => Below.refl _ _)
            case hCt => intro _ _ _; exact (fun h k => grows_trans h k)
            case hst => exact ⟨fun _ _ _ _ h => h, fun _ _ _ _ h => h, fun _ _ _ _ h => h, fun _ _ _ _ h => h, fun _ _ _ _ h => h, fun _ _ _ _ h => h, fun _ _ _ _ h => h, fun _ _ _ _ h => h, fun _ _ _ _ h => h, fun _ _ _ _ h => h, fun _ _ _ _ h => h, fun _ _ _ _ h => h, fun _ _ _ _ h => h, fun _ _ _ _ h => h, fun _ _ _ _ h => h, fun _ _ _ _ h => h, fun _ _ _ _ h => h, fun _ _ _ _ h => h, fun _ _ _ _ h => h, fun _ _ _ _ h => h, fun _ _ _ _ h => h, fun _ _ _ _ h => h, fun _ _ _ _ h => h, fun _ _ _ _ h => h, fun _ _ _ _ h => h, fun _ _ _ _ h => h, trivial⟩
            case hfo => kernel_rfl
            case ht => kernel_rfl
            case hC0 => exact (grows_drew _)
            case hsteps =>
             refine ⟨?_, ?_, ?_, ?_, ?_, ?_, ?_, ?_, ?_, ?_, ?_, ?_, ?_, ?_, ?_, ?_, ?_, ?_, ?_, ?_, ?_, ?_, ?_, ?_, ?_, ?_, trivial⟩
             · intro a' w' hA hC hD; have s16 : a'.tmps[16]? = some _ := (hA.at 16 (by kernel_rfl)).trans rfl; clear hA hD; refine stepOk_plain rfl ?_; intro K hK; gi_wp2; exact hK _ _ rfl ((fun _ => Below.refl _ _) _)
             · intro a' w' hA hC hD; obtain ⟨u45, s45, r45⟩ := hD ⟨0, .data⟩ (by simp) rfl _ rfl; replace r45 : u45 = _ := r45; subst r45
               have h1_ := (HS.out.below hC).blockAt 0 rfl; have c1_0 := cell_of_block (k := 0) h1_ rfl; have c1_1 := cell_of_block (k := 1) h1_ rfl; clear h1_
               clear hA hD; refine stepOk_plain rfl ?_; intro K hK; gi_wp2; exact hK _ _ rfl ((fun _ => Below.refl _ _) _)
             · intro a' w' hA hC hD; have s16 : a'.tmps[16]? = some _ := (hA.at 16 (by kernel_rfl)).trans rfl; clear hA hD; refine stepOk_plain rfl ?_; intro K hK; gi_wp2; exact hK _ _ rfl ((fun _ => Below.refl _ _) _)
             · intro a' w' hA hC hD; obtain ⟨u47, s47, r47⟩ := hD ⟨2, .data⟩ (by simp) rfl _ rfl; replace r47 : u47 = _ := r47; subst r47
               have h1_ := (HS.out.below hC).blockAt 0 rfl; have c1_0 := cell_of_block (k := 0) h1_ rfl; have c1_1 := cell_of_block (k := 1) h1_ rfl; clear h1_
               clear hA hD; refine stepOk_plain rfl ?_; intro K hK; gi_wp2; exact hK _ _ rfl ((fun _ => Below.refl _ _) _)
             · intro a' w' hA hC hD; have s9 : a'.tmps[9]? = some _ := (hA.at 9 (by kernel_rfl)).trans rfl; obtain ⟨u46, s46, r46⟩ := hD ⟨1, .data⟩ (by simp) rfl _ rfl; replace r46 : u46 = _ := r46; subst r46; clear hA hD; refine stepOk_plain rfl ?_; intro K hK; gi_wp2; exact hK _ _ rfl ((fun _ => Below.refl _ _) _)
             · intro a' w' hA hC hD; obtain ⟨u49, s49, r49⟩ := hD ⟨4, .data⟩ (by simp) rfl _ rfl; replace r49 : u49 = _ := r49; subst r49; obtain ⟨u48, s48, r48⟩ := hD ⟨3, .data⟩ (by simp) rfl _ rfl; replace r48 : u48 = _ := r48; subst r48; clear hA hD; refine stepOk_plain rfl ?_; intro K hK; gi_wp2; exact hK _ _ rfl ((fun _ => Below.refl _ _) _)
             · intro a' w' hA hC hD; obtain ⟨u50, s50, r50⟩ := hD ⟨5, .data⟩ (by simp) rfl _ rfl; replace r50 : u50 = _ := r50; subst r50
               have c1 := cell_of_block (HNS.out.below hC).at_ (fldA_get _ (i := by_ * 32 + bx) HBI.out.2); rw [HSM.out] at c1
               clear hA hD; refine stepOk_plain rfl ?_; intro K hK; gi_wp2; exact hK _ _ rfl ((fun _ => Below.refl _ _) _)
             · intro a' w' hA hC hD; obtain ⟨u51, s51, r51⟩ := hD ⟨6, .data⟩ (by simp) rfl _ rfl; replace r51 : u51 = _ := r51; subst r51; clear hA hD; refine stepOk_plain rfl ?_; intro K hK; gi_wp2; exact hK _ _ rfl ((fun _ => Below.refl _ _) _)
             · intro a' w' hA hC hD; obtain ⟨u52, s52, r52⟩ := hD ⟨7, .data⟩ (by simp) rfl _ rfl; replace r52 : u52 = _ := r52; subst r52; clear hA hD; refine stepOk_plain rfl ?_; intro K hK; gi_wp2; exact hK _ _ rfl ((fun _ => Below.refl _ _) _)
             · intro a' w' hA hC hD; have s16 : a'.tmps[16]? = some _ := (hA.at 16 (by kernel_rfl)).trans rfl; obtain ⟨u53, s53, r53⟩ := hD ⟨8, .guard⟩ (by simp) rfl _ rfl; replace r53 : u53 = _ := r53; subst r53; clear hA hD
               exact stepOk_skip rfl rfl s53 rfl
             · intro a' w' hA hC hD; obtain ⟨u54, s54, r54⟩ := hD ⟨9, .data⟩ (by simp) rfl _ rfl; replace r54 : u54 = undef := r54; subst r54; obtain ⟨u53, s53, r53⟩ := hD ⟨8, .guard⟩ (by simp) rfl _ rfl; replace r53 : u53 = _ := r53; subst r53; clear hA hD
               exact stepOk_skip rfl rfl s53 rfl
             · intro a' w' hA hC hD; have s16 : a'.tmps[16]? = some _ := (hA.at 16 (by kernel_rfl)).trans rfl; obtain ⟨u53, s53, r53⟩ := hD ⟨8, .guard⟩ (by simp) rfl _ rfl; replace r53 : u53 = _ := r53; subst r53; clear hA hD
               exact stepOk_skip rfl rfl s53 rfl
             · intro a' w' hA hC hD; obtain ⟨u56, s56, r56⟩ := hD ⟨11, .data⟩ (by simp) rfl _ rfl; replace r56 : u56 = undef := r56; subst r56; obtain ⟨u53, s53, r53⟩ := hD ⟨8, .guard⟩ (by simp) rfl _ rfl; replace r53 : u53 = _ := r53; subst r53; clear hA hD
               exact stepOk_skip rfl rfl s53 rfl
             · intro a' w' hA hC hD; have s7 : a'.tmps[7]? = some _ := (hA.at 7 (by kernel_rfl)).trans rfl; obtain ⟨u55, s55, r55⟩ := hD ⟨10, .data⟩ (by simp) rfl _ rfl; replace r55 : u55 = undef := r55; subst r55; obtain ⟨u53, s53, r53⟩ := hD ⟨8, .guard⟩ (by simp) rfl _ rfl; replace r53 : u53 = _ := r53; subst r53; clear hA hD
               exact stepOk_skip rfl rfl s53 rfl
             · intro a' w' hA hC hD; obtain ⟨u58, s58, r58⟩ := hD ⟨13, .data⟩ (by simp) rfl _ rfl; replace r58 : u58 = undef := r58; subst r58; obtain ⟨u57, s57, r57⟩ := hD ⟨12, .data⟩ (by simp) rfl _ rfl; replace r57 : u57 = undef := r57; subst r57; obtain ⟨u53, s53, r53⟩ := hD ⟨8, .guard⟩ (by simp) rfl _ rfl; replace r53 : u53 = _ := r53; subst r53; clear hA hD
               exact stepOk_skip rfl rfl s53 rfl
             · intro a' w' hA hC hD; obtain ⟨u59, s59, r59⟩ := hD ⟨14, .data⟩ (by simp) rfl _ rfl; replace r59 : u59 = undef := r59; subst r59; obtain ⟨u53, s53, r53⟩ := hD ⟨8, .guard⟩ (by simp) rfl _ rfl; replace r53 : u53 = _ := r53; subst r53; clear hA hD
               exact stepOk_skip rfl rfl s53 rfl
             · intro a' w' hA hC hD; obtain ⟨u60, s60, r60⟩ := hD ⟨15, .data⟩ (by simp) rfl _ rfl; replace r60 : u60 = undef := r60; subst r60; obtain ⟨u53, s53, r53⟩ := hD ⟨8, .guard⟩ (by simp) rfl _ rfl; replace r53 : u53 = _ := r53; subst r53; clear hA hD
               exact stepOk_skip rfl rfl s53 rfl
             · intro a' w' hA hC hD; obtain ⟨u53, s53, r53⟩ := hD ⟨8, .data⟩ (by simp) rfl _ rfl; replace r53 : u53 = _ := r53; subst r53; obtain ⟨u61, s61, r61⟩ := hD ⟨16, .data⟩ (by simp) rfl _ rfl; replace r61 : u61 = undef := r61; subst r61; clear hA hD; refine stepOk_plain rfl ?_; intro K hK; gi_wp2; exact hK _ _ rfl ((fun _ => Below.refl _ _) _)
             · intro a' w' hA hC hD; obtain ⟨u62, s62, r62⟩ := hD ⟨17, .data⟩ (by simp) rfl _ rfl; replace r62 : u62 = _ := r62; subst r62; clear hA hD; refine stepOk_plain rfl ?_; intro K hK; gi_wp2; exact hK _ _ rfl ((fun _ => Below.refl _ _) _)
             · intro a' w' hA hC hD; have s11 : a'.tmps[11]? = some _ := (hA.at 11 (by kernel_rfl)).trans rfl; obtain ⟨u63, s63, r63⟩ := hD ⟨18, .guard⟩ (by simp) rfl _ rfl; replace r63 : u63 = _ := r63; subst r63; clear hA hD
               exact stepOk_skip rfl rfl s63 rfl
             · intro a' w' hA hC hD; have s4 : a'.tmps[4]? = some _ := (hA.at 4 (by kernel_rfl)).trans rfl; obtain ⟨u63, s63, r63⟩ := hD ⟨18, .guard⟩ (by simp) rfl _ rfl; replace r63 : u63 = _ := r63; subst r63; clear hA hD
               exact stepOk_skip rfl rfl s63 rfl
             · intro a' w' hA hC hD; have s16 : a'.tmps[16]? = some _ := (hA.at 16 (by kernel_rfl)).trans rfl; obtain ⟨u63, s63, r63⟩ := hD ⟨18, .guard⟩ (by simp) rfl _ rfl; replace r63 : u63 = _ := r63; subst r63; clear hA hD
               exact stepOk_skip rfl rfl s63 rfl
             · intro a' w' hA hC hD; obtain ⟨u65, s65, r65⟩ := hD ⟨20, .data⟩ (by simp) rfl _ rfl; replace r65 : u65 = undef := r65; subst r65; obtain ⟨u66, s66, r66⟩ := hD ⟨21, .data⟩ (by simp) rfl _ rfl; replace r66 : u66 = undef := r66; subst r66; obtain ⟨u63, s63, r63⟩ := hD ⟨18, .chain⟩ (by simp) rfl _ rfl; replace r63 : u63 = _ := r63; subst r63; clear hA hD
               exact stepOk_skip rfl rfl s63 rfl
             · intro a' w' hA hC hD; have s2 : a'.tmps[2]? = some _ := (hA.at 2 (by kernel_rfl)).trans rfl; obtain ⟨u63, s63, r63⟩ := hD ⟨18, .guard⟩ (by simp) rfl _ rfl; replace r63 : u63 = _ := r63; subst r63; clear hA hD
               exact stepOk_skip rfl rfl s63 rfl
             · intro a' w' hA hC hD; obtain ⟨u64, s64, r64⟩ := hD ⟨19, .data⟩ (by simp) rfl _ rfl; replace r64 : u64 = undef := r64; subst r64; obtain ⟨u67, s67, r67⟩ := hD ⟨22, .data⟩ (by simp) rfl _ rfl; replace r67 : u67 = undef := r67; subst r67; obtain ⟨u68, s68, r68⟩ := hD ⟨23, .data⟩ (by simp) rfl _ rfl; replace r68 : u68 = undef := r68; subst r68; obtain ⟨u63, s63, r63⟩ := hD ⟨18, .guard⟩ (by simp) rfl _ rfl; replace r63 : u63 = _ := r63; subst r63; clear hA hD
               exact stepOk_skip rfl rfl s63 rfl
             · intro a' w' hA hC hD; obtain ⟨u63, s63, r63⟩ := hD ⟨18, .data⟩ (by simp) rfl _ rfl; replace r63 : u63 = _ := r63; subst r63; obtain ⟨u69, s69, r69⟩ := hD ⟨24, .data⟩ (by simp) rfl _ rfl; replace r69 : u69 = undef := r69; subst r69; clear hA hD; refine stepOk_plain rfl ?_; intro K hK; gi_wp2; exact hK _ _ rfl ((fun _ => Below.refl _ _) _)
            case hend =>
             intro w31 hC
             simp only [EndFrom, eqv, forall_eq, Act.put, List.length_cons, List.length_nil, List.drop_succ_cons, List.drop_zero, Nat.reduceAdd, List.setIfInBounds_toArray, List.set_cons_succ, List.set_cons_zero]
             have HS := Lib.hid (HS.out.below hC)
             have HNS := Lib.hid (HNS.out.below hC)
             clear hC
             gi_wp2
             go_wp2_with fail
             go_roundw
             case rel => exact ⟨j + 1, HLT2.out, congrArg (Value.int .i64) HE4.out, HNS.out.same HB.out.1 HCF.out⟩
             case measure => rw [HE4.out]; have := HLT2.out; simp only [intOf]; omega
           | zero =>
            obtain ⟨mbv, hmbv⟩ : ∃ mbv, mb (by_ * 32 + bx) = mbv := ⟨_, rfl⟩
            have HMBV := Lib.hid hmbv
            clear hmbv
            cases mbv with
            | succ mbv =>
             have HCF := Lib.hid (show (onB W H pb && N pb && decide ((lkB N W H qq s' L j).m (ixP pb) = 0)) = false by
              have hn0 : N pb = false := by rw [← HNN.out]; unfold pastB; rw [HBI.out.1, HMBV.out]; simp
              rw [hn0]; simp)
             refine (wpIn_wide (n := 0)).1 ?_
             apply wp_region_vals 26 (Rl := [(eqv _), (eqv _), (eqv _), (eqv _), (eqv _), (eqv _), (eqv _), (eqv _), (eqv _), (eqv _), (eqv _), (eqv _), (eqv _), (eqv _), (eqv _), (eqv _), (eqv _), (eqv _), (eqv _), (fun v_ _ => v_ = (undef : Value)), (fun v_ _ => v_ = (undef : Value)), (fun v_ _ => v_ = (undef : Value)), (fun v_ _ => v_ = (undef : Value)), (fun v_ _ => v_ = (undef : Value)), (fun v_ _ => v_ = (undef : Value)), (eqv _)]) (C := (fun x y => Below x.heap.size x y))
             case hm => kernel_rfl
             case hk => rfl
             case hCr => exact (fun _ => Below.refl _ _)
             case hCt => intro _ _ _; exact (fun h k => grows_trans h k)
             case hst => exact ⟨fun _ _ _ _ h => h, fun _ _ _ _ h => h, fun _ _ _ _ h => h, fun _ _ _ _ h => h, fun _ _ _ _ h => h, fun _ _ _ _ h => h, fun _ _ _ _ h => h, fun _ _ _ _ h => h, fun _ _ _ _ h => h, fun _ _ _ _ h => h, fun _ _ _ _ h => h, fun _ _ _ _ h => h, fun _ _ _ _ h => h, fun _ _ _ _ h => h, fun _ _ _ _ h => h, fun _ _ _ _ h => h, fun _ _ _ _ h => h, fun _ _ _ _ h => h, fun _ _ _ _ h => h, fun _ _ _ _ h => h, fun _ _ _ _ h => h, fun _ _ _ _ h => h, fun _ _ _ _ h => h, fun _ _ _ _ h => h, fun _ _ _ _ h => h, fun _ _ _ _ h => h, trivial⟩
             case hfo => kernel_rfl
             case ht => kernel_rfl
             case hC0 => exact (grows_drew _)
             case hsteps =>
              refine ⟨?_, ?_, ?_, ?_, ?_, ?_, ?_, ?_, ?_, ?_, ?_, ?_, ?_, ?_, ?_, ?_, ?_, ?_, ?_, ?_, ?_, ?_, ?_, ?_, ?_, ?_, trivial⟩
              · intro a' w' hA hC hD; have s16 : a'.tmps[16]? = some _ := (hA.at 16 (by kernel_rfl)).trans rfl; clear hA hD; refine stepOk_plain rfl ?_; intro K hK; gi_wp2; exact hK _ _ rfl ((fun _ => Below.refl _ _) _)
              · intro a' w' hA hC hD; obtain ⟨u45, s45, r45⟩ := hD ⟨0, .data⟩ (by simp) rfl _ rfl; replace r45 : u45 = _ := r45; subst r45
                have h1_ := (HS.out.below hC).blockAt 0 rfl; have c1_0 := cell_of_block (k := 0) h1_ rfl; have c1_1 := cell_of_block (k := 1) h1_ rfl; clear h1_
                clear hA hD; refine stepOk_plain rfl ?_; intro K hK; gi_wp2; exact hK _ _ rfl ((fun _ => Below.refl _ _) _)
              · intro a' w' hA hC hD; have s16 : a'.tmps[16]? = some _ := (hA.at 16 (by kernel_rfl)).trans rfl; clear hA hD; refine stepOk_plain rfl ?_; intro K hK; gi_wp2; exact hK _ _ rfl ((fun _ => Below.refl _ _) _)
              · intro a' w' hA hC hD; obtain ⟨u47, s47, r47⟩ := hD ⟨2, .data⟩ (by simp) rfl _ rfl; replace r47 : u47 = _ := r47; subst r47
                have h1_ := (HS.out.below hC).blockAt 0 rfl; have c1_0 := cell_of_block (k := 0) h1_ rfl; have c1_1 := cell_of_block (k := 1) h1_ rfl; clear h1_
                clear hA hD; refine stepOk_plain rfl ?_; intro K hK; gi_wp2; exact hK _ _ rfl ((fun _ => Below.refl _ _) _)
              · intro a' w' hA hC hD; have s9 : a'.tmps[9]? = some _ := (hA.at 9 (by kernel_rfl)).trans rfl; obtain ⟨u46, s46, r46⟩ := hD ⟨1, .data⟩ (by simp) rfl _ rfl; replace r46 : u46 = _ := r46; subst r46; clear hA hD; refine stepOk_plain rfl ?_; intro K hK; gi_wp2; exact hK _ _ rfl ((fun _ => Below.refl _ _) _)
              · intro a' w' hA hC hD; obtain ⟨u49, s49, r49⟩ := hD ⟨4, .data⟩ (by simp) rfl _ rfl; replace r49 : u49 = _ := r49; subst r49; obtain ⟨u48, s48, r48⟩ := hD ⟨3, .data⟩ (by simp) rfl _ rfl; replace r48 : u48 = _ := r48; subst r48; clear hA hD; refine stepOk_plain rfl ?_; intro K hK; gi_wp2; exact hK _ _ rfl ((fun _ => Below.refl _ _) _)
              · intro a' w' hA hC hD; obtain ⟨u50, s50, r50⟩ := hD ⟨5, .data⟩ (by simp) rfl _ rfl; replace r50 : u50 = _ := r50; subst r50
                have c1 := cell_of_block (HNS.out.below hC).at_ (fldA_get _ (i := by_ * 32 + bx) HBI.out.2); rw [HSM.out] at c1
                clear hA hD; refine stepOk_plain rfl ?_; intro K hK; gi_wp2; exact hK _ _ rfl ((fun _ => Below.refl _ _) _)
              · intro a' w' hA hC hD; obtain ⟨u51, s51, r51⟩ := hD ⟨6, .data⟩ (by simp) rfl _ rfl; replace r51 : u51 = _ := r51; subst r51; clear hA hD; refine stepOk_plain rfl ?_; intro K hK; gi_wp2; exact hK _ _ rfl ((fun _ => Below.refl _ _) _)
              · intro a' w' hA hC hD; obtain ⟨u52, s52, r52⟩ := hD ⟨7, .data⟩ (by simp) rfl _ rfl; replace r52 : u52 = _ := r52; subst r52; clear hA hD; refine stepOk_plain rfl ?_; intro K hK; gi_wp2; exact hK _ _ rfl ((fun _ => Below.refl _ _) _)
              · intro a' w' hA hC hD; have s16 : a'.tmps[16]? = some _ := (hA.at 16 (by kernel_rfl)).trans rfl; obtain ⟨u53, s53, r53⟩ := hD ⟨8, .guard⟩ (by simp) rfl _ rfl; replace r53 : u53 = _ := r53; subst r53; clear hA hD; refine stepOk_want rfl rfl s53 ?_; intro K hK; gi_wp2; exact hK _ _ rfl ((fun _ => Below.refl _ _) _)
              · intro a' w' hA hC hD; obtain ⟨u54, s54, r54⟩ := hD ⟨9, .data⟩ (by simp) rfl _ rfl; replace r54 : u54 = _ := r54; subst r54; obtain ⟨u53, s53, r53⟩ := hD ⟨8, .guard⟩ (by simp) rfl _ rfl; replace r53 : u53 = _ := r53; subst r53
                have h1_ := (HS.out.below hC).blockAt 0 rfl; have c1_0 := cell_of_block (k := 0) h1_ rfl; have c1_1 := cell_of_block (k := 1) h1_ rfl; clear h1_
                clear hA hD; refine stepOk_want rfl rfl s53 ?_; intro K hK; gi_wp2; exact hK _ _ rfl ((fun _ => Below.refl _ _) _)
              · intro a' w' hA hC hD; have s16 : a'.tmps[16]? = some _ := (hA.at 16 (by kernel_rfl)).trans rfl; obtain ⟨u53, s53, r53⟩ := hD ⟨8, .guard⟩ (by simp) rfl _ rfl; replace r53 : u53 = _ := r53; subst r53; clear hA hD; refine stepOk_want rfl rfl s53 ?_; intro K hK; gi_wp2; exact hK _ _ rfl ((fun _ => Below.refl _ _) _)
              · intro a' w' hA hC hD; obtain ⟨u56, s56, r56⟩ := hD ⟨11, .data⟩ (by simp) rfl _ rfl; replace r56 : u56 = _ := r56; subst r56; obtain ⟨u53, s53, r53⟩ := hD ⟨8, .guard⟩ (by simp) rfl _ rfl; replace r53 : u53 = _ := r53; subst r53
                have h1_ := (HS.out.below hC).blockAt 0 rfl; have c1_0 := cell_of_block (k := 0) h1_ rfl; have c1_1 := cell_of_block (k := 1) h1_ rfl; clear h1_
                clear hA hD; refine stepOk_want rfl rfl s53 ?_; intro K hK; gi_wp2; exact hK _ _ rfl ((fun _ => Below.refl _ _) _)
              · intro a' w' hA hC hD; have s7 : a'.tmps[7]? = some _ := (hA.at 7 (by kernel_rfl)).trans rfl; obtain ⟨u55, s55, r55⟩ := hD ⟨10, .data⟩ (by simp) rfl _ rfl; replace r55 : u55 = _ := r55; subst r55; obtain ⟨u53, s53, r53⟩ := hD ⟨8, .guard⟩ (by simp) rfl _ rfl; replace r53 : u53 = _ := r53; subst r53; clear hA hD; refine stepOk_want rfl rfl s53 ?_; intro K hK; gi_wp2; exact hK _ _ rfl ((fun _ => Below.refl _ _) _)
              · intro a' w' hA hC hD; obtain ⟨u58, s58, r58⟩ := hD ⟨13, .data⟩ (by simp) rfl _ rfl; replace r58 : u58 = _ := r58; subst r58; obtain ⟨u57, s57, r57⟩ := hD ⟨12, .data⟩ (by simp) rfl _ rfl; replace r57 : u57 = _ := r57; subst r57; obtain ⟨u53, s53, r53⟩ := hD ⟨8, .guard⟩ (by simp) rfl _ rfl; replace r53 : u53 = _ := r53; subst r53; clear hA hD; refine stepOk_want rfl rfl s53 ?_; intro K hK; gi_wp2; exact hK _ _ rfl ((fun _ => Below.refl _ _) _)
              · intro a' w' hA hC hD; obtain ⟨u59, s59, r59⟩ := hD ⟨14, .data⟩ (by simp) rfl _ rfl; replace r59 : u59 = _ := r59; subst r59; obtain ⟨u53, s53, r53⟩ := hD ⟨8, .guard⟩ (by simp) rfl _ rfl; replace r53 : u53 = _ := r53; subst r53
                have c2 := cell_of_block ((HNS.out.below hC).post_ HV1.out) (fldA_get mb (i := by_ * 32 + bx) HBI.out.2); rw [HMBV.out] at c2
                clear hA hD; refine stepOk_want rfl rfl s53 ?_; intro K hK; gi_wp2; exact hK _ _ rfl ((fun _ => Below.refl _ _) _)
              · intro a' w' hA hC hD; obtain ⟨u60, s60, r60⟩ := hD ⟨15, .data⟩ (by simp) rfl _ rfl; replace r60 : u60 = _ := r60; subst r60; obtain ⟨u53, s53, r53⟩ := hD ⟨8, .guard⟩ (by simp) rfl _ rfl; replace r53 : u53 = _ := r53; subst r53; clear hA hD; refine stepOk_want rfl rfl s53 ?_; intro K hK; gi_wp2; exact hK _ _ rfl ((fun _ => Below.refl _ _) _)
              · intro a' w' hA hC hD; obtain ⟨u53, s53, r53⟩ := hD ⟨8, .data⟩ (by simp) rfl _ rfl; replace r53 : u53 = _ := r53; subst r53; obtain ⟨u61, s61, r61⟩ := hD ⟨16, .data⟩ (by simp) rfl _ rfl; replace r61 : u61 = _ := r61; subst r61; clear hA hD; refine stepOk_plain rfl ?_; intro K hK; gi_wp2; exact hK _ _ rfl ((fun _ => Below.refl _ _) _)
              · intro a' w' hA hC hD; obtain ⟨u62, s62, r62⟩ := hD ⟨17, .data⟩ (by simp) rfl _ rfl; replace r62 : u62 = _ := r62; subst r62; clear hA hD; refine stepOk_plain rfl ?_; intro K hK; gi_wp2; exact hK _ _ rfl ((fun _ => Below.refl _ _) _)
              · intro a' w' hA hC hD; have s11 : a'.tmps[11]? = some _ := (hA.at 11 (by kernel_rfl)).trans rfl; obtain ⟨u63, s63, r63⟩ := hD ⟨18, .guard⟩ (by simp) rfl _ rfl; replace r63 : u63 = _ := r63; subst r63; clear hA hD
                exact stepOk_skip rfl rfl s63 rfl
              · intro a' w' hA hC hD; have s4 : a'.tmps[4]? = some _ := (hA.at 4 (by kernel_rfl)).trans rfl; obtain ⟨u63, s63, r63⟩ := hD ⟨18, .guard⟩ (by simp) rfl _ rfl; replace r63 : u63 = _ := r63; subst r63; clear hA hD
                exact stepOk_skip rfl rfl s63 rfl
              · intro a' w' hA hC hD; have s16 : a'.tmps[16]? = some _ := (hA.at 16 (by kernel_rfl)).trans rfl; obtain ⟨u63, s63, r63⟩ := hD ⟨18, .guard⟩ (by simp) rfl _ rfl; replace r63 : u63 = _ := r63; subst r63; clear hA hD
                exact stepOk_skip rfl rfl s63 rfl
              · intro a' w' hA hC hD; obtain ⟨u65, s65, r65⟩ := hD ⟨20, .data⟩ (by simp) rfl _ rfl; replace r65 : u65 = undef := r65; subst r65; obtain ⟨u66, s66, r66⟩ := hD ⟨21, .data⟩ (by simp) rfl _ rfl; replace r66 : u66 = undef := r66; subst r66; obtain ⟨u63, s63, r63⟩ := hD ⟨18, .chain⟩ (by simp) rfl _ rfl; replace r63 : u63 = _ := r63; subst r63; clear hA hD
                exact stepOk_skip rfl rfl s63 rfl
              · intro a' w' hA hC hD; have s2 : a'.tmps[2]? = some _ := (hA.at 2 (by kernel_rfl)).trans rfl; obtain ⟨u63, s63, r63⟩ := hD ⟨18, .guard⟩ (by simp) rfl _ rfl; replace r63 : u63 = _ := r63; subst r63; clear hA hD
                exact stepOk_skip rfl rfl s63 rfl
              · intro a' w' hA hC hD; obtain ⟨u64, s64, r64⟩ := hD ⟨19, .data⟩ (by simp) rfl _ rfl; replace r64 : u64 = undef := r64; subst r64; obtain ⟨u67, s67, r67⟩ := hD ⟨22, .data⟩ (by simp) rfl _ rfl; replace r67 : u67 = undef := r67; subst r67; obtain ⟨u68, s68, r68⟩ := hD ⟨23, .data⟩ (by simp) rfl _ rfl; replace r68 : u68 = undef := r68; subst r68; obtain ⟨u63, s63, r63⟩ := hD ⟨18, .guard⟩ (by simp) rfl _ rfl; replace r63 : u63 = _ := r63; subst r63; clear hA hD
                exact stepOk_skip rfl rfl s63 rfl
              · intro a' w' hA hC hD; obtain ⟨u63, s63, r63⟩ := hD ⟨18, .data⟩ (by simp) rfl _ rfl; replace r63 : u63 = _ := r63; subst r63; obtain ⟨u69, s69, r69⟩ := hD ⟨24, .data⟩ (by simp) rfl _ rfl; replace r69 : u69 = undef := r69; subst r69; clear hA hD; refine stepOk_plain rfl ?_; intro K hK; gi_wp2; exact hK _ _ rfl ((fun _ => Below.refl _ _) _)
             case hend =>
              intro w31 hC
              simp only [EndFrom, eqv, forall_eq, Act.put, List.length_cons, List.length_nil, List.drop_succ_cons, List.drop_zero, Nat.reduceAdd, List.setIfInBounds_toArray, List.set_cons_succ, List.set_cons_zero]
              have HS := Lib.hid (HS.out.below hC)
              have HNS := Lib.hid (HNS.out.below hC)
              clear hC
              gi_wp2
              go_wp2_with fail
              go_roundw
              case rel => exact ⟨j + 1, HLT2.out, congrArg (Value.int .i64) HE4.out, HNS.out.same HB.out.1 HCF.out⟩
              case measure => rw [HE4.out]; have := HLT2.out; simp only [intOf]; omega
            | zero =>
             obtain ⟨nr, hnr⟩ : ∃ nr, nearB (colP C pp) (colP C pb) t = nr := ⟨_, rfl⟩
             have HCF := Lib.hid (show (onB W H pb && N pb && decide ((lkB N W H qq s' L j).m (ixP pb) = 0)) = nr by
              have hn0 : N pb = nr := by rw [← HNN.out]; unfold pastB; simp only; rw [HBI.out.1, HMBV.out, hnr]; simp
              rw [hn0, HB.out.2.1, HBI.out.1, HSM.out]; simp)
             have hat := HAT.out bx by_ HBB.out.1 HBB.out.2
             obtain ⟨c2, hc2⟩ : ∃ c2, colC C bx by_ = c2 := ⟨_, rfl⟩
             have hco : okC c2 := by rw [← hc2]; exact (HOC.out.tile HBB.out.1 HBB.out.2).choose_spec.2.2
             have hnn := HNR.out _ c2 HCO.out hco
             have hnr2 : nearB ⟨r, g, bl, al⟩ c2 t = nr := by rw [← hnr, HCL.out, HPB.out, ← hc2]; rfl
             rw [hnr2] at hnn
             rw [hc2] at hat
             obtain ⟨r2, g2, bl2, al2⟩ := c2
             unfold ColT.val at hat hnn
             simp only at hat hnn
             have HAT2 := Lib.hid hat
             have HNR2 := Lib.hid hnn
             clear hat hnn hnr2 hco hc2 hnr
             refine (wpIn_wide (n := 0)).1 ?_
             apply wp_region_vals 26 (Rl := [(eqv _), (eqv _), (eqv _), (eqv _), (eqv _), (eqv _), (eqv _), (eqv _), (eqv _), (eqv _), (eqv _), (eqv _), (eqv _), (eqv _), (eqv _), (eqv _), (eqv _), (eqv _), (eqv _), (eqv _), (eqv _), (eqv _), (eqv _), (eqv _), (eqv _), (eqv _)]) (C := (fun x y => Below x.heap.size x y))
             case hm => kernel_rfl
             case hk => rfl
             case hCr => exact (fun _ => Below.refl _ _)
             case hCt => intro _ _ _; exact (fun h k => grows_trans h k)
             case hst => exact ⟨fun _ _ _ _ h => h, fun _ _ _ _ h => h, fun _ _ _ _ h => h, fun _ _ _ _ h => h, fun _ _ _ _ h => h, fun _ _ _ _ h => h, fun _ _ _ _ h => h, fun _ _ _ _ h => h, fun _ _ _ _ h => h, fun _ _ _ _ h => h, fun _ _ _ _ h => h, fun _ _ _ _ h => h, fun _ _ _ _ h => h, fun _ _ _ _ h => h, fun _ _ _ _ h => h, fun _ _ _ _ h => h, fun _ _ _ _ h => h, fun _ _ _ _ h => h, fun _ _ _ _ h => h, fun _ _ _ _ h => h, fun _ _ _ _ h => h, fun _ _ _ _ h => h, fun _ _ _ _ h => h, fun _ _ _ _ h => h, fun _ _ _ _ h => h, fun _ _ _ _ h => h, trivial⟩
             case hfo => kernel_rfl
             case ht => kernel_rfl
             case hC0 => exact (grows_drew _)
             case hsteps =>
              refine ⟨?_, ?_, ?_, ?_, ?_, ?_, ?_, ?_, ?_, ?_, ?_, ?_, ?_, ?_, ?_, ?_, ?_, ?_, ?_, ?_, ?_, ?_, ?_, ?_, ?_, ?_, trivial⟩
              · intro a' w' hA hC hD; have s16 : a'.tmps[16]? = some _ := (hA.at 16 (by kernel_rfl)).trans rfl; clear hA hD; refine stepOk_plain rfl ?_; intro K hK; gi_wp2; exact hK _ _ rfl ((fun _ => Below.refl _ _) _)
              · intro a' w' hA hC hD; obtain ⟨u45, s45, r45⟩ := hD ⟨0, .data⟩ (by simp) rfl _ rfl; replace r45 : u45 = _ := r45; subst r45
                have h1_ := (HS.out.below hC).blockAt 0 rfl; have c1_0 := cell_of_block (k := 0) h1_ rfl; have c1_1 := cell_of_block (k := 1) h1_ rfl; clear h1_
                clear hA hD; refine stepOk_plain rfl ?_; intro K hK; gi_wp2; exact hK _ _ rfl ((fun _ => Below.refl _ _) _)
              · intro a' w' hA hC hD; have s16 : a'.tmps[16]? = some _ := (hA.at 16 (by kernel_rfl)).trans rfl; clear hA hD; refine stepOk_plain rfl ?_; intro K hK; gi_wp2; exact hK _ _ rfl ((fun _ => Below.refl _ _) _)
              · intro a' w' hA hC hD; obtain ⟨u47, s47, r47⟩ := hD ⟨2, .data⟩ (by simp) rfl _ rfl; replace r47 : u47 = _ := r47; subst r47
                have h1_ := (HS.out.below hC).blockAt 0 rfl; have c1_0 := cell_of_block (k := 0) h1_ rfl; have c1_1 := cell_of_block (k := 1) h1_ rfl; clear h1_
                clear hA hD; refine stepOk_plain rfl ?_; intro K hK; gi_wp2; exact hK _ _ rfl ((fun _ => Below.refl _ _) _)
              · intro a' w' hA hC hD; have s9 : a'.tmps[9]? = some _ := (hA.at 9 (by kernel_rfl)).trans rfl; obtain ⟨u46, s46, r46⟩ := hD ⟨1, .data⟩ (by simp) rfl _ rfl; replace r46 : u46 = _ := r46; subst r46; clear hA hD; refine stepOk_plain rfl ?_; intro K hK; gi_wp2; exact hK _ _ rfl ((fun _ => Below.refl _ _) _)
              · intro a' w' hA hC hD; obtain ⟨u49, s49, r49⟩ := hD ⟨4, .data⟩ (by simp) rfl _ rfl; replace r49 : u49 = _ := r49; subst r49; obtain ⟨u48, s48, r48⟩ := hD ⟨3, .data⟩ (by simp) rfl _ rfl; replace r48 : u48 = _ := r48; subst r48; clear hA hD; refine stepOk_plain rfl ?_; intro K hK; gi_wp2; exact hK _ _ rfl ((fun _ => Below.refl _ _) _)
              · intro a' w' hA hC hD; obtain ⟨u50, s50, r50⟩ := hD ⟨5, .data⟩ (by simp) rfl _ rfl; replace r50 : u50 = _ := r50; subst r50
                have c1 := cell_of_block (HNS.out.below hC).at_ (fldA_get _ (i := by_ * 32 + bx) HBI.out.2); rw [HSM.out] at c1
                clear hA hD; refine stepOk_plain rfl ?_; intro K hK; gi_wp2; exact hK _ _ rfl ((fun _ => Below.refl _ _) _)
              · intro a' w' hA hC hD; obtain ⟨u51, s51, r51⟩ := hD ⟨6, .data⟩ (by simp) rfl _ rfl; replace r51 : u51 = _ := r51; subst r51; clear hA hD; refine stepOk_plain rfl ?_; intro K hK; gi_wp2; exact hK _ _ rfl ((fun _ => Below.refl _ _) _)
              · intro a' w' hA hC hD; obtain ⟨u52, s52, r52⟩ := hD ⟨7, .data⟩ (by simp) rfl _ rfl; replace r52 : u52 = _ := r52; subst r52; clear hA hD; refine stepOk_plain rfl ?_; intro K hK; gi_wp2; exact hK _ _ rfl ((fun _ => Below.refl _ _) _)
              · intro a' w' hA hC hD; have s16 : a'.tmps[16]? = some _ := (hA.at 16 (by kernel_rfl)).trans rfl; obtain ⟨u53, s53, r53⟩ := hD ⟨8, .guard⟩ (by simp) rfl _ rfl; replace r53 : u53 = _ := r53; subst r53; clear hA hD; refine stepOk_want rfl rfl s53 ?_; intro K hK; gi_wp2; exact hK _ _ rfl ((fun _ => Below.refl _ _) _)
              · intro a' w' hA hC hD; obtain ⟨u54, s54, r54⟩ := hD ⟨9, .data⟩ (by simp) rfl _ rfl; replace r54 : u54 = _ := r54; subst r54; obtain ⟨u53, s53, r53⟩ := hD ⟨8, .guard⟩ (by simp) rfl _ rfl; replace r53 : u53 = _ := r53; subst r53
                have h1_ := (HS.out.below hC).blockAt 0 rfl; have c1_0 := cell_of_block (k := 0) h1_ rfl; have c1_1 := cell_of_block (k := 1) h1_ rfl; clear h1_
                clear hA hD; refine stepOk_want rfl rfl s53 ?_; intro K hK; gi_wp2; exact hK _ _ rfl ((fun _ => Below.refl _ _) _)
              · intro a' w' hA hC hD; have s16 : a'.tmps[16]? = some _ := (hA.at 16 (by kernel_rfl)).trans rfl; obtain ⟨u53, s53, r53⟩ := hD ⟨8, .guard⟩ (by simp) rfl _ rfl; replace r53 : u53 = _ := r53; subst r53; clear hA hD; refine stepOk_want rfl rfl s53 ?_; intro K hK; gi_wp2; exact hK _ _ rfl ((fun _ => Below.refl _ _) _)
              · intro a' w' hA hC hD; obtain ⟨u56, s56, r56⟩ := hD ⟨11, .data⟩ (by simp) rfl _ rfl; replace r56 : u56 = _ := r56; subst r56; obtain ⟨u53, s53, r53⟩ := hD ⟨8, .guard⟩ (by simp) rfl _ rfl; replace r53 : u53 = _ := r53; subst r53
                have h1_ := (HS.out.below hC).blockAt 0 rfl; have c1_0 := cell_of_block (k := 0) h1_ rfl; have c1_1 := cell_of_block (k := 1) h1_ rfl; clear h1_
                clear hA hD; refine stepOk_want rfl rfl s53 ?_; intro K hK; gi_wp2; exact hK _ _ rfl ((fun _ => Below.refl _ _) _)
              · intro a' w' hA hC hD; have s7 : a'.tmps[7]? = some _ := (hA.at 7 (by kernel_rfl)).trans rfl; obtain ⟨u55, s55, r55⟩ := hD ⟨10, .data⟩ (by simp) rfl _ rfl; replace r55 : u55 = _ := r55; subst r55; obtain ⟨u53, s53, r53⟩ := hD ⟨8, .guard⟩ (by simp) rfl _ rfl; replace r53 : u53 = _ := r53; subst r53; clear hA hD; refine stepOk_want rfl rfl s53 ?_; intro K hK; gi_wp2; exact hK _ _ rfl ((fun _ => Below.refl _ _) _)
              · intro a' w' hA hC hD; obtain ⟨u58, s58, r58⟩ := hD ⟨13, .data⟩ (by simp) rfl _ rfl; replace r58 : u58 = _ := r58; subst r58; obtain ⟨u57, s57, r57⟩ := hD ⟨12, .data⟩ (by simp) rfl _ rfl; replace r57 : u57 = _ := r57; subst r57; obtain ⟨u53, s53, r53⟩ := hD ⟨8, .guard⟩ (by simp) rfl _ rfl; replace r53 : u53 = _ := r53; subst r53; clear hA hD; refine stepOk_want rfl rfl s53 ?_; intro K hK; gi_wp2; exact hK _ _ rfl ((fun _ => Below.refl _ _) _)
              · intro a' w' hA hC hD; obtain ⟨u59, s59, r59⟩ := hD ⟨14, .data⟩ (by simp) rfl _ rfl; replace r59 : u59 = _ := r59; subst r59; obtain ⟨u53, s53, r53⟩ := hD ⟨8, .guard⟩ (by simp) rfl _ rfl; replace r53 : u53 = _ := r53; subst r53
                have c2 := cell_of_block ((HNS.out.below hC).post_ HV1.out) (fldA_get mb (i := by_ * 32 + bx) HBI.out.2); rw [HMBV.out] at c2
                clear hA hD; refine stepOk_want rfl rfl s53 ?_; intro K hK; gi_wp2; exact hK _ _ rfl ((fun _ => Below.refl _ _) _)
              · intro a' w' hA hC hD; obtain ⟨u60, s60, r60⟩ := hD ⟨15, .data⟩ (by simp) rfl _ rfl; replace r60 : u60 = _ := r60; subst r60; obtain ⟨u53, s53, r53⟩ := hD ⟨8, .guard⟩ (by simp) rfl _ rfl; replace r53 : u53 = _ := r53; subst r53; clear hA hD; refine stepOk_want rfl rfl s53 ?_; intro K hK; gi_wp2; exact hK _ _ rfl ((fun _ => Below.refl _ _) _)
              · intro a' w' hA hC hD; obtain ⟨u53, s53, r53⟩ := hD ⟨8, .data⟩ (by simp) rfl _ rfl; replace r53 : u53 = _ := r53; subst r53; obtain ⟨u61, s61, r61⟩ := hD ⟨16, .data⟩ (by simp) rfl _ rfl; replace r61 : u61 = _ := r61; subst r61; clear hA hD; refine stepOk_plain rfl ?_; intro K hK; gi_wp2; exact hK _ _ rfl ((fun _ => Below.refl _ _) _)
              · intro a' w' hA hC hD; obtain ⟨u62, s62, r62⟩ := hD ⟨17, .data⟩ (by simp) rfl _ rfl; replace r62 : u62 = _ := r62; subst r62; clear hA hD; refine stepOk_plain rfl ?_; intro K hK; gi_wp2; exact hK _ _ rfl ((fun _ => Below.refl _ _) _)
              · intro a' w' hA hC hD; have s11 : a'.tmps[11]? = some _ := (hA.at 11 (by kernel_rfl)).trans rfl; obtain ⟨u63, s63, r63⟩ := hD ⟨18, .guard⟩ (by simp) rfl _ rfl; replace r63 : u63 = _ := r63; subst r63
                have d0 := cell_of_block (k := 0) ((HNS.out.below hC).pre_ HV2.out) rfl; have d1 := cell_of_block (k := 1) ((HNS.out.below hC).pre_ HV2.out) rfl; have d2 := cell_of_block (k := 2) ((HNS.out.below hC).pre_ HV2.out) rfl; have d3 := cell_of_block (k := 3) ((HNS.out.below hC).pre_ HV2.out) rfl
                clear hA hD; refine stepOk_want rfl rfl s63 ?_; intro K hK; gi_wp2; exact hK _ _ rfl ((fun _ => Below.refl _ _) _)
              · intro a' w' hA hC hD; have s4 : a'.tmps[4]? = some _ := (hA.at 4 (by kernel_rfl)).trans rfl; obtain ⟨u63, s63, r63⟩ := hD ⟨18, .guard⟩ (by simp) rfl _ rfl; replace r63 : u63 = _ := r63; subst r63
                have d0 := cell_of_block (k := 0) ((HNS.out.below hC).post_ HV0.out) rfl; have d1 := cell_of_block (k := 1) ((HNS.out.below hC).post_ HV0.out) rfl; have d2 := cell_of_block (k := 2) ((HNS.out.below hC).post_ HV0.out) rfl
                clear hA hD; refine stepOk_want rfl rfl s63 ?_; intro K hK; gi_wp2; exact hK _ _ rfl ((fun _ => Below.refl _ _) _)
              · intro a' w' hA hC hD; have s16 : a'.tmps[16]? = some _ := (hA.at 16 (by kernel_rfl)).trans rfl; obtain ⟨u63, s63, r63⟩ := hD ⟨18, .guard⟩ (by simp) rfl _ rfl; replace r63 : u63 = _ := r63; subst r63
                have h1_ := (HS.out.below hC).blockAt 0 rfl; have c1_0 := cell_of_block (k := 0) h1_ rfl; have c1_1 := cell_of_block (k := 1) h1_ rfl; clear h1_
                clear hA hD; refine stepOk_want rfl rfl s63 ?_; intro K hK; gi_wp2; exact hK _ _ rfl ((fun _ => Below.refl _ _) _)
              · intro a' w' hA hC hD; obtain ⟨u65, s65, r65⟩ := hD ⟨20, .data⟩ (by simp) rfl _ rfl; replace r65 : u65 = _ := r65; subst r65; obtain ⟨u66, s66, r66⟩ := hD ⟨21, .data⟩ (by simp) rfl _ rfl; replace r66 : u66 = _ := r66; subst r66; obtain ⟨u63, s63, r63⟩ := hD ⟨18, .chain⟩ (by simp) rfl _ rfl; replace r63 : u63 = _ := r63; subst r63; clear hA hD; refine stepOk_want rfl rfl s63 ?_; intro K hK
                gi_wp2_with fail; refine (callsIn_wide.2 (HAT2.out _ (HV.out.below (HNS.out.below hC).low))).mono ?_; rintro e w2 ⟨rfl, hb⟩
                exact hK _ _ rfl hb
              · intro a' w' hA hC hD; have s2 : a'.tmps[2]? = some _ := (hA.at 2 (by kernel_rfl)).trans rfl; obtain ⟨u63, s63, r63⟩ := hD ⟨18, .guard⟩ (by simp) rfl _ rfl; replace r63 : u63 = _ := r63; subst r63; clear hA hD; refine stepOk_want rfl rfl s63 ?_; intro K hK; gi_wp2; exact hK _ _ rfl ((fun _ => Below.refl _ _) _)
              · intro a' w' hA hC hD; obtain ⟨u64, s64, r64⟩ := hD ⟨19, .data⟩ (by simp) rfl _ rfl; replace r64 : u64 = _ := r64; subst r64; obtain ⟨u67, s67, r67⟩ := hD ⟨22, .data⟩ (by simp) rfl _ rfl; replace r67 : u67 = _ := r67; subst r67; obtain ⟨u68, s68, r68⟩ := hD ⟨23, .data⟩ (by simp) rfl _ rfl; replace r68 : u68 = _ := r68; subst r68; obtain ⟨u63, s63, r63⟩ := hD ⟨18, .guard⟩ (by simp) rfl _ rfl; replace r63 : u63 = _ := r63; subst r63; clear hA hD; refine stepOk_want rfl rfl s63 ?_; intro K hK
                gi_wp2_with fail; refine (callsIn_wide.2 (HNR2.out _)).mono ?_; rintro e w2 ⟨rfl, hb⟩
                exact hK _ _ rfl hb
              · intro a' w' hA hC hD; obtain ⟨u63, s63, r63⟩ := hD ⟨18, .data⟩ (by simp) rfl _ rfl; replace r63 : u63 = _ := r63; subst r63; obtain ⟨u69, s69, r69⟩ := hD ⟨24, .data⟩ (by simp) rfl _ rfl; replace r69 : u69 = _ := r69; subst r69; clear hA hD; refine stepOk_plain rfl ?_; intro K hK; gi_wp2; exact hK _ _ rfl ((fun _ => Below.refl _ _) _)
             case hend =>
              intro w31 hC
              simp only [EndFrom, eqv, forall_eq, Act.put, List.length_cons, List.length_nil, List.drop_succ_cons, List.drop_zero, Nat.reduceAdd, List.setIfInBounds_toArray, List.set_cons_succ, List.set_cons_zero]
              have HS := Lib.hid (HS.out.below hC)
              have HNS := Lib.hid (HNS.out.below hC)
              clear hC
              gi_wp2
              cases nr with
              | false =>
               go_wp2_with fail
               go_roundw
               case rel => exact ⟨j + 1, HLT2.out, congrArg (Value.int .i64) HE4.out, HNS.out.same HB.out.1 HCF.out⟩
               case measure => rw [HE4.out]; have := HLT2.out; simp only [intOf]; omega
              | true =>
               obtain ⟨mq, hmq⟩ : ∃ mq, (lkB N W H qq s' L j).m (ixP qq) = mq := ⟨_, rfl⟩
               have hW : W ≤ 32 := by have := HWH.out; have := HWW.out; omega
               have hH : H ≤ 32 := by have := HWH.out; have := HWW.out; omega
               have hmq2 : mq ≤ 1025 := by
                obtain ⟨h1, h2, -⟩ := BfI.looks hW (L.take j) HWV2.out.bk.inv HQ.out.1 (fun x hx => by
                 have h3 : x ∈ nbL W H qq := by rw [HL.out]; exact List.mem_of_mem_take hx
                 exact (List.mem_filter.1 h3).1)
                have h4 := h2.m qq (List.mem_of_getElem? HQ.out.1)
                have h5 := (HWV2.out.bk.inv.val (k + i) qq HQ.out.1).2
                have h6 : mq = s'.m (ixP qq) := by rw [← hmq]; exact h4
                have := HLE.out
                have := HLT.out
                omega
               have hlen : (lkB N W H qq s' L (j + 1)).l.length ≤ 1024 := by
                obtain ⟨h1, -⟩ := BfI.looks hW (L.take (j + 1)) HWV2.out.bk.inv HQ.out.1 (fun x hx => by
                 have h3 : x ∈ nbL W H qq := by rw [HL.out]; exact List.mem_of_mem_take hx
                 exact (List.mem_filter.1 h3).1)
                exact h1.len hW hH
               have HLEN := Lib.hid hlen
               have e5 : wrap64 ((mq : Int) + 1) = ((mq + 1 : Nat) : Int) := by unfold wrap64; omega
               have hqi : ixP qq = qy * 32 + qx := by rw [HQE.out]; unfold ixP; simp only; omega
               have HE5 := Lib.hid e5
               have hmq3 : (lkB N W H qq s' L j).m (qy * 32 + qx) = mq := by rw [← hqi]; exact hmq
               have HMQ := Lib.hid hmq3
               have HMQ2 := Lib.hid hmq
               have HQI := Lib.hid (show qy * 32 + qx < 1024 by have := HQB.out; omega)
               have HPP := Lib.hid (show w31.heap[B14]? = some (.cells #[.int .i64 qx, .int .i64 qy] 41 (0, 0)) by have h := HNS.out.pt; rw [HQE.out] at h; exact h)
               have z1 : qx < 32 := HQB.out.1
               have z2 : qy < 32 := HQB.out.2
               clear hmq hmq2 e5 hqi hmq3 hW hH hlen
               go_wp2_with fail
               refine (wpIn_wide (n := 0)).1 ?_
               apply wp_region_vals 14 (Rl := [(eqv _), (eqv _), (eqv _), (eqv _), (eqv _), (eqv _), (eqv _), (eqv _), (eqv _), (eqv _), (eqv _), (eqv _), (eqv _), (eqv _)]) (C := (fun x y => Below x.heap.size x y))
               case hm => kernel_rfl
               case hk => rfl
               case hCr => exact (fun _ => Below.refl _ _)
               case hCt => intro _ _ _; exact (fun h k => grows_trans h k)
               case hst => exact ⟨fun _ _ _ _ h => h, fun _ _ _ _ h => h, fun _ _ _ _ h => h, fun _ _ _ _ h => h, fun _ _ _ _ h => h, fun _ _ _ _ h => h, fun _ _ _ _ h => h, fun _ _ _ _ h => h, fun _ _ _ _ h => h, fun _ _ _ _ h => h, fun _ _ _ _ h => h, fun _ _ _ _ h => h, fun _ _ _ _ h => h, fun _ _ _ _ h => h, trivial⟩
               case hfo => kernel_rfl
               case ht => kernel_rfl
               case hC0 => exact (grows_drew _)
               case hsteps =>
                refine ⟨?_, ?_, ?_, ?_, ?_, ?_, ?_, ?_, ?_, ?_, ?_, ?_, ?_, ?_, trivial⟩
                · intro a' w' hA hC hD; have s16 : a'.tmps[16]? = some _ := (hA.at 16 (by kernel_rfl)).trans rfl; clear hA hD; refine stepOk_plain rfl ?_; intro K hK; gi_wp2; exact hK _ _ rfl ((fun _ => Below.refl _ _) _)
                · intro a' w' hA hC hD; obtain ⟨u71, s71, r71⟩ := hD ⟨0, .data⟩ (by simp) rfl _ rfl; replace r71 : u71 = _ := r71; subst r71
                  have h1_ := (HS.out.below hC).blockAt 0 rfl; have c1_0 := cell_of_block (k := 0) h1_ rfl; have c1_1 := cell_of_block (k := 1) h1_ rfl; clear h1_
                  clear hA hD; refine stepOk_plain rfl ?_; intro K hK; gi_wp2; exact hK _ _ rfl ((fun _ => Below.refl _ _) _)
                · intro a' w' hA hC hD; have s16 : a'.tmps[16]? = some _ := (hA.at 16 (by kernel_rfl)).trans rfl; clear hA hD; refine stepOk_plain rfl ?_; intro K hK; gi_wp2; exact hK _ _ rfl ((fun _ => Below.refl _ _) _)
                · intro a' w' hA hC hD; obtain ⟨u73, s73, r73⟩ := hD ⟨2, .data⟩ (by simp) rfl _ rfl; replace r73 : u73 = _ := r73; subst r73
                  have h1_ := (HS.out.below hC).blockAt 0 rfl; have c1_0 := cell_of_block (k := 0) h1_ rfl; have c1_1 := cell_of_block (k := 1) h1_ rfl; clear h1_
                  clear hA hD; refine stepOk_plain rfl ?_; intro K hK; gi_wp2; exact hK _ _ rfl ((fun _ => Below.refl _ _) _)
                · intro a' w' hA hC hD; have s14 : a'.tmps[14]? = some _ := (hA.at 14 (by kernel_rfl)).trans rfl; clear hA hD; refine stepOk_plain rfl ?_; intro K hK; gi_wp2; exact hK _ _ rfl ((fun _ => Below.refl _ _) _)
                · intro a' w' hA hC hD; obtain ⟨u75, s75, r75⟩ := hD ⟨4, .data⟩ (by simp) rfl _ rfl; replace r75 : u75 = _ := r75; subst r75
                  have c0 := cell_of_block (k := 0) ((hC.block _ (block_lt HPP.out)).trans HPP.out) rfl; have c1 := cell_of_block (k := 1) ((hC.block _ (block_lt HPP.out)).trans HPP.out) rfl
                  clear hA hD; refine stepOk_plain rfl ?_; intro K hK; gi_wp2; exact hK _ _ rfl ((fun _ => Below.refl _ _) _)
                · intro a' w' hA hC hD; have s14 : a'.tmps[14]? = some _ := (hA.at 14 (by kernel_rfl)).trans rfl; clear hA hD; refine stepOk_plain rfl ?_; intro K hK; gi_wp2; exact hK _ _ rfl ((fun _ => Below.refl _ _) _)
                · intro a' w' hA hC hD; obtain ⟨u77, s77, r77⟩ := hD ⟨6, .data⟩ (by simp) rfl _ rfl; replace r77 : u77 = _ := r77; subst r77
                  have c0 := cell_of_block (k := 0) ((hC.block _ (block_lt HPP.out)).trans HPP.out) rfl; have c1 := cell_of_block (k := 1) ((hC.block _ (block_lt HPP.out)).trans HPP.out) rfl
                  clear hA hD; refine stepOk_plain rfl ?_; intro K hK; gi_wp2; exact hK _ _ rfl ((fun _ => Below.refl _ _) _)
                · intro a' w' hA hC hD; have s9 : a'.tmps[9]? = some _ := (hA.at 9 (by kernel_rfl)).trans rfl; obtain ⟨u76, s76, r76⟩ := hD ⟨5, .data⟩ (by simp) rfl _ rfl; replace r76 : u76 = _ := r76; subst r76; clear hA hD; refine stepOk_plain rfl ?_; intro K hK; gi_wp2; exact hK _ _ rfl ((fun _ => Below.refl _ _) _)
                · intro a' w' hA hC hD; obtain ⟨u79, s79, r79⟩ := hD ⟨8, .data⟩ (by simp) rfl _ rfl; replace r79 : u79 = _ := r79; subst r79; obtain ⟨u78, s78, r78⟩ := hD ⟨7, .data⟩ (by simp) rfl _ rfl; replace r78 : u78 = _ := r78; subst r78; clear hA hD; refine stepOk_plain rfl ?_; intro K hK; gi_wp2; exact hK _ _ rfl ((fun _ => Below.refl _ _) _)
                · intro a' w' hA hC hD; obtain ⟨u80, s80, r80⟩ := hD ⟨9, .data⟩ (by simp) rfl _ rfl; replace r80 : u80 = _ := r80; subst r80
                  have c1 := cell_of_block (HNS.out.below hC).at_ (fldA_get _ (i := qy * 32 + qx) HQI.out); rw [HMQ.out] at c1
                  clear hA hD; refine stepOk_plain rfl ?_; intro K hK; gi_wp2; exact hK _ _ rfl ((fun _ => Below.refl _ _) _)
                · intro a' w' hA hC hD; obtain ⟨u81, s81, r81⟩ := hD ⟨10, .data⟩ (by simp) rfl _ rfl; replace r81 : u81 = _ := r81; subst r81; clear hA hD; refine stepOk_plain rfl ?_; intro K hK; gi_wp2; rw [HE5.out]; exact hK _ _ rfl ((fun _ => Below.refl _ _) _)
                · intro a' w' hA hC hD; have s9 : a'.tmps[9]? = some _ := (hA.at 9 (by kernel_rfl)).trans rfl; obtain ⟨u72, s72, r72⟩ := hD ⟨1, .data⟩ (by simp) rfl _ rfl; replace r72 : u72 = _ := r72; subst r72; clear hA hD; refine stepOk_plain rfl ?_; intro K hK; gi_wp2; exact hK _ _ rfl ((fun _ => Below.refl _ _) _)
                · intro a' w' hA hC hD; obtain ⟨u83, s83, r83⟩ := hD ⟨12, .data⟩ (by simp) rfl _ rfl; replace r83 : u83 = _ := r83; subst r83; obtain ⟨u74, s74, r74⟩ := hD ⟨3, .data⟩ (by simp) rfl _ rfl; replace r74 : u74 = _ := r74; subst r74; clear hA hD; refine stepOk_plain rfl ?_; intro K hK; gi_wp2; exact hK _ _ rfl ((fun _ => Below.refl _ _) _)
               case hend =>
                intro w32 hC
                simp only [EndFrom, eqv, forall_eq, Act.put, List.length_cons, List.length_nil, List.drop_succ_cons, List.drop_zero, Nat.reduceAdd, List.setIfInBounds_toArray, List.set_cons_succ, List.set_cons_zero]
                have HS := Lib.hid (HS.out.below hC)
                have HNS := Lib.hid (HNS.out.below hC)
                obtain ⟨next2, hgp, hdp, hlp, hnp, hpp2⟩ := HNS.out.put HB.out.1 HCF.out
                rw [HMQ2.out, HBI.out.1] at hgp hnp hpp2
                have hb16 := (Below.heap_setCell w32 ⟨F, by_ * 32 + bx, none⟩ (.int .i64 ((mq + 1 : Nat) : Int)) wr.heap.size (fun e => by have := HFW.out; simp only at e; omega)).trans (HS.out.blockAt 0 rfl)
                have f1 := free_of_block HNS.out.at_ (by_ * 32 + bx)
                have c1 := cell_of_block HNS.out.at_ (fldA_get _ (i := by_ * 32 + bx) HBI.out.2)
                have HDP := Lib.hid (And.intro hdp (And.intro hlp HNS.out.fb))
                have HN2 := Lib.hid (show next2.length < 1000000000 by
                 have h1 := congrArg List.length hdp
                 rw [List.length_drop, List.length_append] at h1
                 have := HLEN.out
                 simp only [List.length_cons, List.length_nil] at h1
                 omega)
                obtain ⟨w33, hw33⟩ : ∃ x, w32.setCell ⟨F, by_ * 32 + bx, none⟩ (.int .i64 ((mq + 1 : Nat) : Int)) = x := ⟨_, rfl⟩
                rw [hw33] at hgp hnp hpp2 hb16
                have HGP := Lib.hid hgp
                have HNP := Lib.hid hnp
                have HPP2 := Lib.hid hpp2
                have HB16 := Lib.hid hb16
                have HW33 := Lib.hid hw33
                clear hC hgp hdp hlp hnp hpp2 hb16 hw33 HPP
                repeat ((fail_if_success (with_reducible refine stop_atI (id := 15) ?_)); (first | go_values | gi_guarded | gi_step | gi_upon | gi_back | (simp only [Int.not_lt, Int.not_le] at *; go_simp) | (go_values <;> (try go_simp)) | (go_ite <;> go_prune <;> (try go_simp)) | (split <;> (first | (rename_i hx; exact (hx _ rfl).elim) | go_prune))))
                first | rw [HW33.out] | rw [show w32.setCell ⟨F, by_ * 32 + bx, none⟩ (.int .i64 ((mq : Int) + 1)) = w33 from HW33.out]
                have q0 := cell_of_block (k := 0) HB16.out rfl
                have q1 := cell_of_block (k := 1) HB16.out rfl
                clear c1 f1
                go_wp2_with (at_builtin; refine wpList_app1l rowP encP_len encP_one HGP.out.o (Below.refl _ _) ⟨bx, by_⟩ _ rfl HN2.out (by decide) _ _ rfl rfl rfl _ rfl (by simp) ?_; intro v' w34 ho5 hsh5 hgr5 hloc5; have HF5 := Lib.hid (And.intro ho5 (And.intro hgr5 hloc5)); clear ho5 hsh5 hgr5 hloc5)
                have hb5 := HF5.out.1
                rw [← HPB.out] at hb5
                have HNF := Lib.hid (NbS.fin (x := w33) HDP.out.2.2 HGP.out HDP.out.1 HDP.out.2.1 HNP.out HPP2.out hb5 HF5.out.2.1 HF5.out.2.2)
                refine ⟨⟨j + 1, HLT2.out, congrArg (Value.int .i64) HE4.out, HNF.out⟩, ?_⟩
                rw [HE4.out]
                have := HLT2.out
                simp only [intOf]
                omega
         · have hjm : j = m := by omega
           clear hlt hj
           have hfin := HNS.out.gr
           rw [hjm, ← HM.out] at hfin
           have hlk : lkB N W H qq s' L L.length = s'.visit N W H qq := by
            unfold lkB
            rw [List.take_length, visit_nbD, HL.out]
           rw [hlk] at hfin
           obtain ⟨next2, hg5, hd5, hl5⟩ := hfin
           obtain ⟨hwv3, hdt⟩ := HWV2.out.visited (by have := HWH.out; have := HWW.out; omega) (by have := HWH.out; have := HWW.out; omega) HQ.out.1 (by have := HLT.out; omega) hd5
           have HW5 := Lib.hid (show WvR N W H pp w pre post F N0 N2 k wave (.slice (some ⟨bb, off, none⟩) n cw) (i + 1) u12 wr from ⟨_, next2, by rw [HLN.out]; exact hwv3, by rw [hdt _ _ (by rw [HLN.out]; exact Nat.le_refl _), HLN.out]; exact HTK.out, hg5.more (by simp)⟩)
           clear hg5 hd5 hl5 hwv3 hdt hlk HNS
           go_wp2_with fail
           go_roundw
           case rel => exact ⟨i + 1, HLT.out, congrArg (Value.int .i64) HE3.out, HW5.out⟩
           case measure => rw [HE3.out]; have := HLT.out; simp only [intOf]; omega
      · have hin : i = n := by omega
        subst hin
        clear hi hlt
        go_wp2_with fail
        have hgt := HG2.out.turn
        obtain ⟨ht1, ht2⟩ := HWV2.out.turn rfl
        have hnew : GrwR N W H pp w pre post F N0 (1025 - (k + i)) u12 wr := ⟨s', k + i, wr.heap.size, next, rfl, ht1, ht2, hgt⟩
        refine ⟨⟨_, hnew⟩, ?_⟩
        have h1 := HNNN.out
        rw [HLN.out] at h1
        rw [h1, HNK.out]
        have := leastN_le (P := fun n => GrwR N W H pp w pre post F N0 n u12 wr) hnew
        have := HLE.out
        have := HN1.out
        omega
end Go.Proofs.Ytodpkgbpcpfamaa
