/- Merged texts: WithS With. -/
import Derived.Test.YtgdcfkbimkclaaaGreatDoorM14
import Derived.Test.YtgdcfkbimkclaaaGreatDoorM11
set_option linter.unusedSimpArgs false
set_option linter.unusedVariables false
/- Layer 5: With: what it keeps between dots. -/
namespace Go.Proofs.YtgdcfkbimkclaaaGreatDoor
open Go.RowKit Go.Shelf
/-- These are blocks, and none is like that. -/
def Buts (oB : Obj) : List It → Prop
 | [] => True
 | .blk _ o :: r => o ≠ oB ∧ Buts oB r
 | .row _ _ _ _ _ :: _ => False
theorem Buts.get {oB : Obj} : ∀ {its : List It}, Buts oB its → ∀ i ∈ its, ∃ b o, i = .blk b o ∧ o ≠ oB
 | .blk b o :: r, h, i, hi => by
  rcases List.mem_cons.1 hi with rfl | hi
  · exact ⟨b, o, rfl, h.1⟩
  · exact Buts.get h.2 i hi
/-- One block turns that is none of these. -/
theorem St.butObj {w0 x y : World} {its : List It} {B : Nat} {oB : Obj} (h : St w0 its x) (hq : x.heap[B]? = some oB) (hbt : Buts oB its) (hB : w0.heap.size ≤ B) (hg : x.grownBy y (some B)) : St w0 its y := by
 have hb := hbt.get
 refine ⟨h.low.grown hg h.low.size (fun j e => by cases e; exact hB), fun i hi => ?_, h.ord, fun i hi => Nat.le_trans (h.top i hi) hg.size⟩
 obtain ⟨b, o, rfl, hne⟩ := hb i hi
 have hok : x.heap[b]? = some o := h.ok _ hi
 exact (hg.block b (b7t hok) (fun e => by cases e; rw [hok] at hq; exact hne (Option.some.inj hq))).trans hok
theorem PtrMap.obj {P : Program} {k : TypeId} {w : World} {b n : Nat} {f : Nat → Option Nat} (h : PtrMap P k w b n f) : ∃ es c, w.heap[b]? = some (.map es c) := by
 obtain ⟨D, h⟩ := h
 obtain ⟨es, c, hb, -⟩ := h.own
 exact ⟨es, c, hb⟩
theorem obj_typ {cs cs' : Array Value} {t t' : TypeId} {f f' : Nat × Nat} (h : t ≠ t') : Obj.cells cs t f ≠ Obj.cells cs' t' f' := by
 intro e
 injection e with _ e2
 exact h e2
theorem obj_map {cs : Array Value} {t : TypeId} {f : Nat × Nat} {es : Array MapEntry} {c : Nat} : Obj.cells cs t f ≠ Obj.map es c := by intro e; cases e
theorem modify_ne {α : Type} {l : List α} {g : α → α} {i j : Nat} (h : j ≠ i) : (l.modify i g)[j]? = l[j]? := by
 have h' : ¬ i = j := fun e => h e.symm
 rw [List.getElem?_modify]
 simp [h']
theorem belowRow {B g : Nat} {w0 w : World} (hb : Below B w0 w) (hBg : B ≤ g) (cs : Array Value) : Below B w0 (w.setRow g cs) :=
 hb.trans ⟨rfl, rfl, rfl, by simp [World.setRow], fun k hk => setRow_other w g k cs (by omega)⟩
theorem grownBy_setRow (w : World) (q : Nat) (c : Array Value) : w.grownBy (w.setRow q c) (some q) :=
 ⟨rfl, rfl, rfl, by simp [World.setRow], fun j _ hj => setRow_other w q j c (fun e => hj (by rw [e]))⟩
theorem obj_iter {cs : Array Value} {t : TypeId} {f : Nat × Nat} {b : Option Nat} {s : Nat} {v : Array Nat} {c : Nat} : Obj.cells cs t f ≠ Obj.mapIter b s v c := by intro e; cases e
/-- Own tiles, by their places. -/
structure OwnM (Bm n : Nat) (ts : List TileT) (D : CanT) (m : Nat) (f : Nat → Option Nat) (x : World) : Prop where
 pm : PtrMap Tryz.prog 3 x Bm m f
 own : ∀ i q, f i = some q → Bm < q ∧ i < n ∧ ∃ t, D.tiles[i]? = some t ∧ x.heap[q]? = some (.cells (encT t).toArray 54 (0, 0))
 non : ∀ i, f i = none → D.tiles[i]? = ts[i]?
 inj : ∀ i j q, f i = some q → f j = some q → i = j
section
variable {Bm n m : Nat} {ts : List TileT} {D : CanT} {f : Nat → Option Nat} {x y : World}
theorem OwnM.below (h : OwnM Bm n ts D m f x) (hb : Below x.heap.size x y) : OwnM Bm n ts D m f y :=
 ⟨h.pm.below hb, fun i q hi => by
  obtain ⟨h1, h2, t, h3, h4⟩ := h.own i q hi
  exact ⟨h1, h2, t, h3, (hb.block q (b7t h4)).trans h4⟩, h.non, h.inj⟩
theorem OwnM.start (w : World) (C : CanT) (n : Nat) : OwnM w.heap.size n C.tiles C 0 (fun _ => none) (w.alloc (.map #[] 0)) :=
 ⟨PtrMap.made w Tryz.prog 3, fun _ _ h => (by cases h), fun _ _ => rfl, fun _ _ _ h => (by cases h)⟩
/-- A tile of its own for a place. -/
theorem OwnM.add (h : OwnM Bm n ts D m f x) {i q : Nat} {t : TileT} (hi : i < n) (hn : f i = none) (ht : ts[i]? = some t) (hq : x.heap[q]? = some (.cells (encT t).toArray 54 (0, 0))) (hB : Bm < q) (hfr : ∀ j p, f j = some p → p ≠ q)
 (hp : PtrMap Tryz.prog 3 y Bm (m + 1) (fun j => if j = i then some q else f j)) (hg : x.grownBy y (some Bm)) : OwnM Bm n ts D (m + 1) (fun j => if j = i then some q else f j) y := by
 have key : ∀ p t', Bm < p → x.heap[p]? = some (.cells (encT t').toArray 54 (0, 0)) → y.heap[p]? = some (.cells (encT t').toArray 54 (0, 0)) := fun p t' hp' hh =>
  (hg.block p (b7t hh) (fun e => by cases e; omega)).trans hh
 refine ⟨hp, fun j p hj => ?_, fun j hj => ?_, fun j k p hj hk => ?_⟩
 · by_cases e : j = i
   · subst e
     simp only [if_true, Option.some.injEq] at hj
     subst hj
     exact ⟨hB, hi, t, (h.non j hn).trans ht, key _ _ hB hq⟩
   · simp only [if_neg e] at hj
     obtain ⟨h1, h2, t', h3, h4⟩ := h.own j p hj
     exact ⟨h1, h2, t', h3, key _ _ h1 h4⟩
 · by_cases e : j = i
   · simp [e] at hj
   · simp only [if_neg e] at hj
     exact h.non j hj
 · by_cases e : j = i
   · subst e
     simp only [if_true, Option.some.injEq] at hj
     subst hj
     by_cases e2 : k = j
     · exact e2.symm
     · simp only [if_neg e2] at hk
       exact absurd rfl (hfr k _ hk)
   · simp only [if_neg e] at hj
     by_cases e2 : k = i
     · subst e2
       simp only [if_true, Option.some.injEq] at hk
       subst hk
       exact absurd rfl (hfr j _ hj)
     · simp only [if_neg e2] at hk
       exact h.inj j k p hj hk
/-- A pixel of a tile of its own. -/
theorem OwnM.paint (h : OwnM Bm n ts D m f x) {i q k : Nat} {t : TileT} {c : ColT} (hi : f i = some q) (ht : D.tiles[i]? = some t) {D' : CanT} (hD : D'.tiles = D.tiles.modify i fun t => setT t k c)
 (hq : y.heap[q]? = some (.cells (encT (setT t k c)).toArray 54 (0, 0))) (hg : x.grownBy y (some q)) : OwnM Bm n ts D' m f y := by
 have h0 := h.own i q hi
 refine ⟨h.pm.kept hg (fun e => by cases e; omega), fun j p hj => ?_, fun j hj => ?_, h.inj⟩
 · obtain ⟨h1, h2, t', h3, h4⟩ := h.own j p hj
   by_cases e : j = i
   · subst e
     rw [hi] at hj
     cases hj
     refine ⟨h1, h2, setT t k c, ?_, hq⟩
     rw [hD, List.getElem?_modify_eq, ht]
     rfl
   · refine ⟨h1, h2, t', ?_, (hg.block p (b7t h4) (fun e2 => by cases e2; exact e (h.inj j i _ hj hi))).trans h4⟩
     rw [hD, modify_ne e]
     exact h3
 · have e : j ≠ i := fun e => by rw [e, hi] at hj; cases hj
   rw [hD, modify_ne e]
   exact h.non j hj
/-- A block turns that is none of these. -/
theorem OwnM.kept (h : OwnM Bm n ts D m f x) {B : Nat} {oB : Obj} (hq : x.heap[B]? = some oB) (hB : B ≠ Bm) (ht : ∀ (t : TileT), Obj.cells (encT t).toArray 54 (0, 0) ≠ oB) (hg : x.grownBy y (some B)) : OwnM Bm n ts D m f y :=
 ⟨h.pm.kept hg (fun e => hB (Option.some.inj e).symm), fun i q hi => by
  obtain ⟨h1, h2, t, h3, h4⟩ := h.own i q hi
  exact ⟨h1, h2, t, h3, (hg.block q (b7t h4) (fun e => by have e := Option.some.inj e; rw [e, hq] at h4; exact ht t (Option.some.inj h4).symm)).trans h4⟩, h.non, h.inj⟩
end
theorem PtrRg.obj {P : Program} {k : TypeId} {w : World} {b r n : Nat} {f : Nat → Option Nat} {left : Nat → Bool} {cnt : Nat} (h : PtrRg P k w b r n f left cnt) : ∃ b' s v c, w.heap[r]? = some (.mapIter b' s v c) := by
 obtain ⟨D, lf, h1, h2, -⟩ := h
 obtain ⟨es, clock, since, seen, c0, -, -, -, -, hr, -⟩ := h2
 exact ⟨_, _, _, _, hr⟩
/-- While the own tiles are looked at: what is where in the new row of pointers. -/
structure RowM (n : Nat) (qs rp : List Nat) (D : CanT) (f : Nat → Option Nat) (left : Nat → Bool) (x : World) : Prop where
 len : rp.length = n
 old : ∀ i, left i = true → rp[i]? = qs[i]?
 good : ∀ i, i < n → left i = false → ∃ r t, rp[i]? = some r ∧ D.tiles[i]? = some t ∧ x.heap[r]? = some (.cells (encT t).toArray 54 (0, 0))
theorem RowM.kept {n : Nat} {qs rp : List Nat} {D : CanT} {f : Nat → Option Nat} {left : Nat → Bool} {x y : World} (h : RowM n qs rp D f left x) {B : Nat} {oB : Obj} (hq : x.heap[B]? = some oB) (ht : ∀ (t : TileT), Obj.cells (encT t).toArray 54 (0, 0) ≠ oB) (hg : x.grownBy y (some B)) : RowM n qs rp D f left y :=
 ⟨h.len, h.old, fun i hi hl => by
  obtain ⟨r, t, h1, h2, h3⟩ := h.good i hi hl
  exact ⟨r, t, h1, h2, (hg.block r (b7t h3) (fun e => by have e := Option.some.inj e; rw [e, hq] at h3; exact ht t (Option.some.inj h3).symm)).trans h3⟩⟩
theorem RowM.below {n : Nat} {qs rp : List Nat} {D : CanT} {f : Nat → Option Nat} {left : Nat → Bool} {x y : World} (h : RowM n qs rp D f left x) (hb : Below x.heap.size x y) : RowM n qs rp D f left y :=
 ⟨h.len, h.old, fun i hi hl => by
  obtain ⟨r, t, h1, h2, h3⟩ := h.good i hi hl
  exact ⟨r, t, h1, h2, (hb.block r (b7t h3)).trans h3⟩⟩
/-- A place is done with. -/
theorem RowM.done {n : Nat} {qs rp : List Nat} {D : CanT} {f : Nat → Option Nat} {left : Nat → Bool} {x : World} (h : RowM n qs rp D f left x) {i r : Nat} {t : TileT} {rp' : List Nat} (hi : rp'[i]? = some r) (ht : D.tiles[i]? = some t) (hx : x.heap[r]? = some (.cells (encT t).toArray 54 (0, 0)))
 (hl : rp'.length = rp.length) (ho : ∀ j, j ≠ i → rp'[j]? = rp[j]?) : RowM n qs rp' D f (fun j => left j && decide (j ≠ i)) x := by
 refine ⟨hl.trans h.len, fun j hj => ?_, fun j hj hlj => ?_⟩
 · simp only [Bool.and_eq_true, decide_eq_true_eq] at hj
   rw [ho j hj.2]
   exact h.old j hj.1
 · by_cases e : j = i
   · subst e
     exact ⟨r, t, hi, ht, hx⟩
   · rw [ho j e]
     refine h.good j hj ?_
     simpa [e] using hlj
theorem RowM.start {n : Nat} {qs : List Nat} {ts : List TileT} {D : CanT} {f : Nat → Option Nat} {left : Nat → Bool} {x : World} (hq : TP x qs ts) (hn : qs.length = n) (hf : ∀ i, f i = none → D.tiles[i]? = ts[i]?) (hl : ∀ i q, f i = some q → left i = true) : RowM n qs qs D f left x := by
 refine ⟨hn, fun _ _ => rfl, fun i hi hli => ?_⟩
 have hfi : f i = none := by
  cases e : f i with
  | none => rfl
  | some q => rw [hl i q e] at hli; cases hli
 obtain ⟨r, hr⟩ : ∃ r, qs[i]? = some r := ⟨_, List.getElem?_eq_getElem (by omega)⟩
 obtain ⟨t, ht, hx⟩ := hq.get hr
 exact ⟨r, t, hr, (hf i hfi).trans ht, hx⟩
end Go.Proofs.YtgdcfkbimkclaaaGreatDoor
/- Layer 5: With. -/
namespace Go.Proofs.YtgdcfkbimkclaaaGreatDoor
open Go.RowKit Go.Shelf
attribute [local go_sem] Oper.semAt_some
def ptrL (rp : List Nat) : List Value := rp.map fun q => .pointer (some ⟨q, 0, none⟩)
abbrev ptrO (rp : List Nat) : Obj := Obj.cells (ptrL rp).toArray 103 (0, 0)
theorem ptrL_len (rp : List Nat) : (ptrL rp).length = rp.length := by simp [ptrL]
theorem ptrL_get {rp : List Nat} {i q : Nat} (h : rp[i]? = some q) : (ptrL rp)[i]? = some (.pointer (some ⟨q, 0, none⟩)) := by simp [ptrL, h]
theorem ptrL_one (rp : List Nat) : ∀ v ∈ ptrL rp, v.oneCell' = true := by
 intro v hv
 simp only [ptrL, List.mem_map] at hv
 obtain ⟨q, -, rfl⟩ := hv
 rfl
theorem ptrL_set (rp : List Nat) (i q : Nat) : (ptrL rp).toArray.setIfInBounds i (.pointer (some ⟨q, 0, none⟩)) = (ptrL (rp.set i q)).toArray := by
 rw [List.setIfInBounds_toArray]
 unfold ptrL
 rw [List.map_set]
theorem infoPt : (Tryz.prog.info? 103).map (fun i => (i.zero, i.size, i.bytes)) = some (some (.pointer none), 1, 8) := by kernel_rfl
theorem zeroPt (w : World) : (zeroValue 103).run Tryz.prog w = .ok (.pointer none) w := by kernel_rfl
theorem madePt_len (n : Nat) : (madeCells (Value.pointer none).cells (n * 1)).size = n := by simp [madeCells]
set_option maxRecDepth 100000 in
set_option maxHeartbeats 2000000 in
theorem canWith_any (C : CanT) (p : Nat) (a : Option Addr) (nd cap : Nat) (ds : List DotT) (hl : ds.length = nd) (hn : nd ≤ 1000000) (hd : ∀ d ∈ ds, okC d.c) (w : World) (hC : CanAt w p C) (he : Elems w (.slice a nd cap) nd 6 (rowC encD ds)) :
 Calls Tryz.prog 175 #[.pointer (some ⟨p, 0, none⟩), .slice a nd cap] w fun e w' => ∃ p', e = .returned (.pointer (some ⟨p', 0, none⟩)) ∧ CanAt w' p' (withL C ds) ∧ w.heap.size ≤ p' ∧ Below w.heap.size w w' := by
 obtain ⟨ok, b, cap0, qs, h1, h2, h3, h4, h5⟩ := hC
 have hlen := ok.len
 have h0 : 0 < C.tiles.length := by
  rw [ok.many]
  exact Nat.mul_pos ok.wide.1 ok.high.1
 have hb : b < w.heap.size := cell_lt (h4 0 _ (List.getElem?_eq_getElem (by omega)))
 have HOK := H7 (And.intro ok hd)
 have HH := H7 h1
 have HBB := H7 hb
 have HQ := H7 h4
 have HTP := H7 (show TP w qs C.tiles from ⟨h3, h5⟩)
 have HE := H7 he
 have HL := H7 (And.intro hl hn)
 have HS := H7 (St.start w)
 obtain ⟨wide, hwide⟩ : ∃ wide, C.wide = wide := ⟨_, rfl⟩
 obtain ⟨high, hhigh⟩ : ∃ high, C.high = high := ⟨_, rfl⟩
 obtain ⟨n, hnn⟩ : ∃ n, C.tiles.length = n := ⟨_, rfl⟩
 have HWH := H7 (And.intro hwide (And.intro hhigh hnn))
 rw [hwide, hhigh, hnn] at HH
 have HN := H7 (show 0 < n ∧ n ≤ 16 ∧ qs.length = n by rw [← hnn]; exact ⟨h0, hlen, h3⟩)
 clear ok h1 h2 h3 h4 h5 hlen h0 hb hd he hl hn hwide hhigh hnn
 go_enter Tryz.func175, Tryz.ntmps175
 repeat ((fail_if_success (with_reducible refine stop_at (id := 3) ?_)); (first | go_values | go_skip | go_guarded | go_step | go_upon | go_back | (simp only [Int.not_lt, Int.not_le] at *; go_simp) | (go_values <;> (try go_simp)) | (go_ite <;> go_prune <;> (try go_simp)) | (split <;> (first | (rename_i hx; exact (hx _ rfl).elim) | go_prune))))
 refine (wpIn_wide (n := 0)).1 ?_
 apply w7v 10 (Rl := [(eqv _), (eqv _), (eqv _), (eqv _), (eqv _), (eqv _), (eqv _), (eqv _), (eqv _), (fun v_ w_ => ∃ g cs, v_ = .slice (some ⟨g, 0, none⟩) n n ∧ w.heap.size ≤ g ∧ w_.heap[g]? = some (.cells cs 103 (0, 0)) ∧ cs.size = n)]) (C := (fun x y => Below x.heap.size x y))
 case hm => kernel_rfl
 case hk => rfl
 case hCr => exact (fun _ => B7 _ _)
 case hCt => intro _ _ _; exact (fun h k => g7t h k)
 case hst => exact ⟨fun _ _ _ _ h => h, fun _ _ _ _ h => h, fun _ _ _ _ h => h, fun _ _ _ _ h => h, fun _ _ _ _ h => h, fun _ _ _ _ h => h, fun _ _ _ _ h => h, fun _ _ _ _ h => h, fun _ _ _ _ h => h, fun _ _ _ hC ⟨g, cs, e, h1, h2, h3⟩ => ⟨g, cs, e, h1, (hC.block _ (b7t h2)).trans h2, h3⟩, trivial⟩
 case hfo => kernel_rfl
 case ht => kernel_rfl
 case hC0 => exact (g7d _)
 case hsteps =>
  refine ⟨?_, ?_, ?_, ?_, ?_, ?_, ?_, ?_, ?_, ?_, trivial⟩
  · intro a' w' hA hC hD; have s0 := hA.to 0 (by kernel_rfl) rfl; clear hA hD; refine o7p rfl ?_; intro K hK; gi_wp2; exact hK _ _ rfl (B7 _ _)
  · intro a' w' hA hC hD; obtain ⟨u18, s18, rfl⟩ := hD ⟨0, .data⟩ (by simp) rfl _ rfl; clear hA hD; refine o7p rfl ?_; intro K hK; gi_wp2; exact hK _ _ rfl (B7 _ _)
  · intro a' w' hA hC hD; obtain ⟨u19, s19, rfl⟩ := hD ⟨1, .data⟩ (by simp) rfl _ rfl; clear hA hD; refine o7p rfl ?_; intro K hK; gi_wp2; exact hK _ _ rfl (B7 _ _)
  · intro a' w' hA hC hD; obtain ⟨u20, s20, rfl⟩ := hD ⟨2, .data⟩ (by simp) rfl _ rfl
    have hb1 := ((HS.out.below hC).low.block _ (b7t HH.out)).trans HH.out; have s0 := c7b (k := 0) hb1 rfl; have s1 := c7b (k := 1) hb1 rfl; clear hb1
    clear hA hD; refine o7p rfl ?_; intro K hK; gi_wp2; exact hK _ _ rfl (B7 _ _)
  · intro a' w' hA hC hD; have s0 := hA.to 0 (by kernel_rfl) rfl; clear hA hD; refine o7p rfl ?_; intro K hK; gi_wp2; exact hK _ _ rfl (B7 _ _)
  · intro a' w' hA hC hD; obtain ⟨u22, s22, rfl⟩ := hD ⟨4, .data⟩ (by simp) rfl _ rfl; clear hA hD; refine o7p rfl ?_; intro K hK; gi_wp2; exact hK _ _ rfl (B7 _ _)
  · intro a' w' hA hC hD; obtain ⟨u23, s23, rfl⟩ := hD ⟨5, .data⟩ (by simp) rfl _ rfl; clear hA hD; refine o7p rfl ?_; intro K hK; gi_wp2; exact hK _ _ rfl (B7 _ _)
  · intro a' w' hA hC hD; obtain ⟨u24, s24, rfl⟩ := hD ⟨6, .data⟩ (by simp) rfl _ rfl
    have hb1 := ((HS.out.below hC).low.block _ (b7t HH.out)).trans HH.out; have s2 := c7b (k := 2) hb1 rfl; clear hb1
    clear hA hD; refine o7p rfl ?_; intro K hK; gi_wp2; exact hK _ _ rfl (B7 _ _)
  · intro a' w' hA hC hD; obtain ⟨u25, s25, rfl⟩ := hD ⟨7, .data⟩ (by simp) rfl _ rfl; clear hA hD; refine o7p rfl ?_; intro K hK; gi_wp2; exact hK _ _ rfl (B7 _ _)
  · intro a' w' hA hC hD; obtain ⟨u26, s26, rfl⟩ := hD ⟨8, .data⟩ (by simp) rfl _ rfl; clear hA hD; refine o7p rfl ?_; intro K hK
    obtain ⟨i0, hi, hz0, hz1, hz2⟩ := info_parts infoPt; have hn := HN.out; refine opIn_make _ _ _ rfl (by simp [Act.eval, s26]) (by simp [Act.eval, s26]) (run_make w' _ 103 i0 (.pointer none) Tryz.underlying101 hi hz0 .i64 .i64 n n (by omega) (by omega) (by rw [hz2]; omega) (by omega)) (hK _ _ ⟨w'.heap.size, _, rfl, hC.size, World.alloc_heap_new _ _, by rw [hz1, Int.toNat_natCast]; exact madePt_len n⟩ ((B7 _ _).alloc (Nat.le_refl _) _))
    skip
 case hend =>
  intro w3 hC
  simp only [EndFrom, eqv, forall_eq, Act.put, List.length_cons, List.length_nil, List.drop_succ_cons, List.drop_zero, Nat.reduceAdd, List.setIfInBounds_toArray, List.set_cons_succ, List.set_cons_zero]
  rintro v9 ⟨g, cs, rfl, hg1, hg2, hg3⟩
  have HS := H7 ((HS.out.below hC).addC hg2 (by simp) hg1)
  have HG := H7 (And.intro hg1 hg3)
  clear hC hg1 hg2 hg3
  gi_wp2
  repeat ((fail_if_success (with_reducible refine stop_at (id := 4) ?_)); (first | go_values | go_skip | go_guarded | go_step | go_upon | go_back | (simp only [Int.not_lt, Int.not_le] at *; go_simp) | (go_values <;> (try go_simp)) | (go_ite <;> go_prune <;> (try go_simp)) | (split <;> (first | (rename_i hx; exact (hx _ rfl).elim) | go_prune))))
  have hs_ := (HS.out.alloc (.cells #[.int .i64 wide, .int .i64 high, .slice (some ⟨g, 0, none⟩) n n] 108))
  obtain ⟨w4, hw_⟩ : ∃ w4 : World, (w3.alloc (.cells #[.int .i64 wide, .int .i64 high, .slice (some ⟨g, 0, none⟩) n n] 108)) = w4 := ⟨_, rfl⟩
  rw [hw_] at hs_
  try simp only [World.size_alloc] at hs_
  have HS := H7 hs_
  rw [hw_]
  clear hw_ hs_
  refine (wpIn_wide (n := 0)).1 ?_
  apply w7v 8 (Rl := [(eqv _), (eqv _), (eqv _), (eqv _), (eqv _), (eqv _), (eqv _), (eqv _)]) (C := (fun x y => Below x.heap.size x y))
  case hm => kernel_rfl
  case hk => rfl
  case hCr => exact (fun _ => B7 _ _)
  case hCt => intro _ _ _; exact (fun h k => g7t h k)
  case hst => repeat (first | exact trivial | refine ⟨fun _ _ _ _ h => h, ?_⟩)
  case hfo => kernel_rfl
  case ht => kernel_rfl
  case hC0 => exact (g7d _)
  case hsteps =>
   refine ⟨?_, ?_, ?_, ?_, ?_, ?_, ?_, ?_, trivial⟩
   · intro a' w' hA hC hD; have s5 := hA.to 5 (by kernel_rfl) rfl; clear hA hD; refine o7p rfl ?_; intro K hK; gi_wp2; exact hK _ _ rfl (B7 _ _)
   · intro a' w' hA hC hD; obtain ⟨u30, s30, rfl⟩ := hD ⟨0, .data⟩ (by simp) rfl _ rfl; clear hA hD; refine o7p rfl ?_; intro K hK; gi_wp2; exact hK _ _ rfl (B7 _ _)
   · intro a' w' hA hC hD; obtain ⟨u31, s31, rfl⟩ := hD ⟨1, .data⟩ (by simp) rfl _ rfl; clear hA hD; refine o7p rfl ?_; intro K hK; gi_wp2; exact hK _ _ rfl (B7 _ _)
   · intro a' w' hA hC hD; obtain ⟨u32, s32, rfl⟩ := hD ⟨2, .data⟩ (by simp) rfl _ rfl
     have h1_ := (HS.out.below hC).blockAt 0 rfl; have c1_0 := c7b (k := 0) h1_ rfl; have c1_1 := c7b (k := 1) h1_ rfl; have c1_2 := c7b (k := 2) h1_ rfl; clear h1_
     clear hA hD; refine o7p rfl ?_; intro K hK; gi_wp2; exact hK _ _ rfl (B7 _ _)
   · intro a' w' hA hC hD; have s0 := hA.to 0 (by kernel_rfl) rfl; clear hA hD; refine o7p rfl ?_; intro K hK; gi_wp2; exact hK _ _ rfl (B7 _ _)
   · intro a' w' hA hC hD; obtain ⟨u34, s34, rfl⟩ := hD ⟨4, .data⟩ (by simp) rfl _ rfl; clear hA hD; refine o7p rfl ?_; intro K hK; gi_wp2; exact hK _ _ rfl (B7 _ _)
   · intro a' w' hA hC hD; obtain ⟨u35, s35, rfl⟩ := hD ⟨5, .data⟩ (by simp) rfl _ rfl; clear hA hD; refine o7p rfl ?_; intro K hK; gi_wp2; exact hK _ _ rfl (B7 _ _)
   · intro a' w' hA hC hD; obtain ⟨u36, s36, rfl⟩ := hD ⟨6, .data⟩ (by simp) rfl _ rfl
     have hb1 := ((HS.out.below hC).low.block _ (b7t HH.out)).trans HH.out; have s2 := c7b (k := 2) hb1 rfl; clear hb1
     clear hA hD; refine o7p rfl ?_; intro K hK; gi_wp2; exact hK _ _ rfl (B7 _ _)
  case hend =>
   intro w5 hC
   simp only [EndFrom, eqv, forall_eq, Act.put, List.length_cons, List.length_nil, List.drop_succ_cons, List.drop_zero, Nat.reduceAdd, List.setIfInBounds_toArray, List.set_cons_succ, List.set_cons_zero]
   have HS := H7 (HS.out.below hC)
   clear hC
   have hcp := run_copy_row (P := Tryz.prog) w5 101 101 3 103 g 0 n n ⟨b, 0, none⟩ n cap0 cs 103 (ptrL qs) Tryz.underlying101 (by kernel_rfl) (HS.out.blockAt 1 rfl) (by rw [ptrL_len, HN.out.2.2]; simp)
    (fun j v hj => by
     have hjl : j < qs.length := by have := (List.getElem?_eq_some_iff.1 hj).1; rwa [ptrL_len] at this
     rw [ptrL_get (List.getElem?_eq_getElem hjl)] at hj
     cases hj
     have hcl := (HS.out.low.cell (p := ⟨b, j, none⟩) HBB.out).trans (HQ.out j _ (List.getElem?_eq_getElem hjl))
     rw [Addr.add_mid, Nat.zero_add]
     exact hcl) (by rw [ptrL_len, HN.out.2.2, HG.out.2]; omega) (ptrL_one qs)
   rw [show (cs.toList.take 0 ++ ptrL qs ++ cs.toList.drop (0 + (ptrL qs).length)) = ptrL qs by
    rw [ptrL_len, HN.out.2.2]
    simp [HG.out.2]] at hcp
   gi_wp2_with fail
   have hs6 := HS.out.putRow (c' := (ptrL qs).toArray) (pre := [.blk w3.heap.size (.cells #[.int .i64 wide, .int .i64 high, .slice (some ⟨g, 0, none⟩) n n] 108 (0, 0))]) (by simp)
   simp only [List.cons_append, List.nil_append] at hs6
   clear hcp
   obtain ⟨w6, hw6⟩ : ∃ w6, w5.setRow g (ptrL qs).toArray = w6 := ⟨_, rfl⟩
   rw [hw6] at hs6
   rw [hw6]
   have HS := H7 hs6
   clear hs6 hw6
   have k0 := h7c HS 0 0 rfl rfl
   have k1 := h7c HS 0 1 rfl rfl
   have hmm := @run_makeMap Tryz.prog
   go_wp2_with fail
   clear k0 k1 hmm
   have HS7 := H7 (HS.out.below ((B7 w6.heap.size w6).alloc (Nat.le_refl _) (.map #[] 0)))
   have HM := H7 (OwnM.start w6 C n)
   have HTOP := H7 (And.intro (HS.out.lt 0 rfl) (HS.out.lt 1 rfl))
   obtain ⟨w7, hw7⟩ : ∃ w7, w6.alloc (.map #[] 0) = w7 := ⟨_, rfl⟩
   rw [hw7] at HS7 HM
   rw [hw7]
   obtain ⟨Bm, hBm⟩ : ∃ Bm, w6.heap.size = Bm := ⟨_, rfl⟩
   rw [hBm] at HM HTOP
   rw [hBm]
   clear hw7 hBm HS
   obtain ⟨Po, hPo⟩ : ∃ Po, w3.heap.size = Po := ⟨_, rfl⟩
   rw [hPo] at HS7 HTOP
   rw [hPo]
   clear hPo
   have HLO := H7 (show w.heap.size ≤ Bm by have := HS7.out.size; have h1 := HTOP.out; have h2 := HG.out.1; omega)
   go_loopw [47] (fun i wr => ∃ (k m : Nat) (f : Nat → Option Nat), k ≤ nd ∧ m ≤ k ∧ i = .int .i64 (k : Int) ∧ St w [.blk Po (.cells #[.int .i64 wide, .int .i64 high, .slice (some ⟨g, 0, none⟩) n n] 108 (0, 0)), .blk g (ptrO qs)] wr ∧ OwnM Bm n C.tiles (withL C (ds.take k)) m f wr) (fun i _ => nd - (intOf i).toNat)
   case atStart => exact ⟨0, 0, _, by omega, by omega, rfl, HS7.out, by simpa [withL] using HM.out⟩
   case round =>
    obtain ⟨k, m, f, hk, hm, rfl, hst, hom⟩ := hrel
    clear HS7 HM
    have HS := H7 hst
    have HM := H7 hom
    have HK := H7 hm
    clear hst hom hm
    by_cases hlt : k < nd
    · obtain ⟨d, hd⟩ : ∃ d, ds[k]? = some d := ⟨_, List.getElem?_eq_getElem (by rw [HL.out.1]; exact hlt)⟩
      obtain ⟨bd, od, rfl⟩ : ∃ bd od, a = some ⟨bd, od, none⟩ := by
       rcases HE.out with ⟨e, h⟩ | ⟨b, off, cap', e, -, -⟩
       · omega
       · cases e; exact ⟨b, off, rfl⟩
      have HTK := H7 (show withL C (ds.take (k + 1)) = dotC (withL C (ds.take k)) d by rw [List.take_add_one, hd]; exact withL_snoc _ _ _)
      have HOKD := H7 (HOK.out.2 d (List.mem_of_getElem? hd))
      have hr := elem_range encD_len (HE.out.below HS.out.low) hd HL.out.1
      obtain ⟨D, hD⟩ : ∃ D, withL C (ds.take k) = D := ⟨_, rfl⟩
      have HDW := H7 (show D.wide = wide ∧ D.high = high by rw [← hD, withL_wide, withL_high]; exact ⟨HWH.out.1, HWH.out.2.1⟩)
      have HDOK := H7 (show okCan D by rw [← hD]; exact okCan.withL _ HOK.out.1 fun e he => HOK.out.2 e (List.mem_of_mem_take he))
      rw [hD] at HTK HM
      have hkn : k < 1000000 := by have := HL.out.2; omega
      clear hd hD
      obtain ⟨dx, dy, dc⟩ := d
      obtain ⟨cr, cg, cb, ca⟩ := dc
      have c0 := hr 0 _ rfl
      have c1 := hr 1 _ rfl
      have c2 := hr 2 _ rfl
      have c3 := hr 3 _ rfl
      have c4 := hr 4 _ rfl
      have c5 := hr 5 _ rfl
      rw [Nat.add_zero] at c0
      simp only at c0 c1 c2 c3 c4 c5
      clear hr
      repeat ((fail_if_success (with_reducible refine stop_at (id := 10) ?_)); (first | go_values | go_skip | go_guarded | go_step | go_upon | go_back | (simp only [Int.not_lt, Int.not_le] at *; go_simp) | (go_values <;> (try go_simp)) | (go_ite <;> go_prune <;> (try go_simp)) | (split <;> (first | (rename_i hx; exact (hx _ rfl).elim) | go_prune))))
      clear c0 c1 c2 c3 c4 c5
      have hs_ := HS.out.alloc (.cells #[.int .i64 dx, .int .i64 dy, .int .u8 cr, .int .u8 cg, .int .u8 cb, .int .u8 ca] 173)
      have hk_HM := HM.out.below ((B7 _ _).alloc (Nat.le_refl _) (.cells #[.int .i64 dx, .int .i64 dy, .int .u8 cr, .int .u8 cg, .int .u8 cb, .int .u8 ca] 173))
      obtain ⟨w8, hw_⟩ : ∃ w8 : World, wr.alloc (.cells #[.int .i64 dx, .int .i64 dy, .int .u8 cr, .int .u8 cg, .int .u8 cb, .int .u8 ca] 173) = w8 := ⟨_, rfl⟩
      rw [hw_] at hs_ hk_HM
      have HS := H7 hs_
      have HM := H7 hk_HM
      rw [hw_]
      clear hw_ hs_ hk_HM
      have d0 := h7c HS 0 0 rfl rfl
      have d1 := h7c HS 0 1 rfl rfl
      cases hon : onCan D ⟨dx, dy⟩ with
      | false =>
       have HPL := H7 (place_off wide high dx dy (by have h := hon; unfold onCan at h; rw [HDW.out.1, HDW.out.2] at h; exact h) (by have := HWH.out.1; have := HOK.out.1.wide; omega) (by have := HWH.out.2.1; have := HOK.out.1.high; omega))
       have HDD := H7 (show dotC D ⟨dx, dy, ⟨cr, cg, cb, ca⟩⟩ = D by unfold dotC; rw [if_neg (by simp only; rw [hon]; decide)])
       clear hon
       go_wp2_with fail
       refine (HPL.out _).mono ?_
       rintro e w9 ⟨rfl, hb_⟩
       have HS := H7 (HS.out.below hb_)
       have HM := H7 (HM.out.below hb_)
       clear hb_
       clear d0 d1
       repeat ((fail_if_success (with_reducible refine stop_at (id := 11) ?_)); (first | go_values | go_skip | go_guarded | go_step | go_upon | go_back | (simp only [Int.not_lt, Int.not_le] at *; go_simp) | (go_values <;> (try go_simp)) | (go_ite <;> go_prune <;> (try go_simp)) | (split <;> (first | (rename_i hx; exact (hx _ rfl).elim) | go_prune))))
       have hs_ := HS.out.alloc (.cells #[.int .i64 0, .int .i64 0] 69)
       have hk_HM := HM.out.below ((B7 _ _).alloc (Nat.le_refl _) (.cells #[.int .i64 0, .int .i64 0] 69))
       obtain ⟨w10, hw_⟩ : ∃ w10 : World, w9.alloc (.cells #[.int .i64 0, .int .i64 0] 69) = w10 := ⟨_, rfl⟩
       rw [hw_] at hs_ hk_HM
       have HS := H7 hs_
       have HM := H7 hk_HM
       rw [hw_]
       clear hw_ hs_ hk_HM
       go_wp2_with fail
       go_roundw
       case rel =>
        refine ⟨k + 1, m, f, hlt, by have := HK.out; omega, by simp, HS.out.drop1.drop1, ?_⟩
        rw [HTK.out, HDD.out]
        exact HM.out
       case measure => simp [intOf]; omega
      | true =>
       obtain ⟨hx, hy, ex, ey⟩ := onCan_nat hon
       simp only at hx hy ex ey
       obtain ⟨x, hxn⟩ : ∃ x, dx.toNat = x := ⟨_, rfl⟩
       obtain ⟨y, hyn⟩ : ∃ y, dy.toNat = y := ⟨_, rfl⟩
       rw [hxn] at hx ex
       rw [hyn] at hy ey
       subst ex ey
       have HDD := H7 (show dotC D ⟨(x : Int), (y : Int), ⟨cr, cg, cb, ca⟩⟩ = putC D x y ⟨cr, cg, cb, ca⟩ by unfold dotC; rw [if_pos hon]; rfl)
       obtain ⟨i, hi⟩ : ∃ i, y / 8 * wide + x / 8 = i := ⟨_, rfl⟩
       have hti : tileI D x y = i := by unfold tileI; rw [HDW.out.1]; exact hi
       have hin : i < n := by
        have h1 := tileI_lt HDOK.out hx hy
        rw [hti, HDOK.out.many, HDW.out.1, HDW.out.2, ← HWH.out.1, ← HWH.out.2.1, ← HOK.out.1.many, HWH.out.2.2] at h1
        exact h1
       have HPL := H7 (place_on wide high x y i hi (by rw [← HDW.out.1]; exact hx) (by rw [← HDW.out.2]; exact hy) (by have := HWH.out.1; have := HOK.out.1.wide; omega) (by have := HWH.out.2.1; have := HOK.out.1.high; omega))
       obtain ⟨rx, hrx⟩ : ∃ rx, x % 8 = rx := ⟨_, rfl⟩
       obtain ⟨ry, hry⟩ : ∃ ry, y % 8 = ry := ⟨_, rfl⟩
       have HRI := H7 (And.intro hti (And.intro (show inI x y = ry * 8 + rx by rw [← hrx, ← hry]; rfl) (show rx < 8 ∧ ry < 8 by omega)))
       rw [hrx, hry] at HPL
       clear hon hti hi hrx hry hx hy hxn hyn
       go_wp2_with fail
       refine (HPL.out _).mono ?_
       rintro e w9 ⟨rfl, hb_⟩
       have HS := H7 (HS.out.below hb_)
       have HM := H7 (HM.out.below hb_)
       clear hb_
       clear d0 d1
       repeat ((fail_if_success (with_reducible refine stop_at (id := 11) ?_)); (first | go_values | go_skip | go_guarded | go_step | go_upon | go_back | (simp only [Int.not_lt, Int.not_le] at *; go_simp) | (go_values <;> (try go_simp)) | (go_ite <;> go_prune <;> (try go_simp)) | (split <;> (first | (rename_i hx; exact (hx _ rfl).elim) | go_prune))))
       have hs_ := HS.out.alloc (.cells #[.int .i64 rx, .int .i64 ry] 69)
       have hk_HM := HM.out.below ((B7 _ _).alloc (Nat.le_refl _) (.cells #[.int .i64 rx, .int .i64 ry] 69))
       obtain ⟨w10, hw_⟩ : ∃ w10 : World, w9.alloc (.cells #[.int .i64 rx, .int .i64 ry] 69) = w10 := ⟨_, rfl⟩
       rw [hw_] at hs_ hk_HM
       have HS := H7 hs_
       have HM := H7 hk_HM
       rw [hw_]
       clear hw_ hs_ hk_HM
       have hlk := HM.out.pm.look Tryz.underlying3 Tryz.underlying260 (zeroPt w10) (i := i) (by have := HN.out.2.1; omega)
       obtain ⟨q0, hq0⟩ : ∃ q0, qs[i]? = some q0 := ⟨_, List.getElem?_eq_getElem (by rw [HN.out.2.2]; exact hin)⟩
       obtain ⟨t0, ht0, hqt0⟩ := HTP.out.get hq0
       rcases hfi : f i with _ | q
       simp only [hfi] at hlk
       have HQT0 := H7 ((HS.out.low.block q0 (b7t hqt0)).trans hqt0)
       have HT0 := H7 ht0
       have HSZ := H7 (size_T t0)
       have HZ := H7 (encT_all t0)
       have k4 := (HS.out.low.cell (p := ⟨b, i, none⟩) HBB.out).trans (HQ.out i q0 hq0)
       have hb1 := (HS.out.low.block _ (b7t HH.out)).trans HH.out
       have s2 := c7b (k := 2) hb1 rfl
       clear hb1 hq0 ht0 hqt0
       repeat ((fail_if_success (with_reducible refine stop_at (id := 13) ?_)); (first | go_values | go_skip | go_guarded | go_step | go_upon | go_back | (simp only [Int.not_lt, Int.not_le] at *; go_simp) | (go_values <;> (try go_simp)) | (go_ite <;> go_prune <;> (try go_simp)) | (split <;> (first | (rename_i hx; exact (hx _ rfl).elim) | go_prune))))
       clear hlk
       refine (wpIn_wide (n := 0)).1 ?_
       gi_wp2_with fail
       clear s2 k4
       refine opIn_load 54 _ rfl q0 rfl 54 (encT t0).toArray (0, 0) _ HQT0.out Tryz.underlying54 rfl HSZ.out ?_
       simp only [Act.put, List.setIfInBounds_toArray, List.set_cons_succ, List.set_cons_zero]
       gi_step
       gi_step
       gi_step
       gi_step
       refine opIn_store 54 _ _ rfl w10.heap.size 54 Tryz.zeroCells54 (encT t0).toArray rfl rfl (World.alloc_heap_new _ _) HSZ.out (sizeZ.trans (sizeT t0).symm) HZ.out ?_
       simp only [Act.put, List.setIfInBounds_toArray, List.set_cons_succ, List.set_cons_zero]
       have hs5 := HS.out.allocRow Tryz.zeroCells54 (encT t0).toArray 54
       have hm5 := HM.out.below (belowRow (w := w10.alloc (.cells Tryz.zeroCells54 54)) ((B7 _ _).alloc (Nat.le_refl _) _) (Nat.le_refl _) (encT t0).toArray)
       have HFR := H7 (fun (j p : Nat) (h : f j = some p) => show p ≠ w10.heap.size from fun e => by obtain ⟨_, _, t', _, h4⟩ := HM.out.own j p h; have := b7t h4; omega)
       have HBM := H7 HM.out.pm.lt
       obtain ⟨w11, hw11⟩ : ∃ w11, (w10.alloc (.cells Tryz.zeroCells54 54)).setRow w10.heap.size (encT t0).toArray = w11 := ⟨_, rfl⟩
       rw [hw11] at hs5 hm5
       rw [hw11]
       have HS := H7 hs5
       have HM := H7 hm5
       clear hs5 hm5 hw11
       gi_wp2_with fail
       obtain ⟨wz, hup, hpm, hgr⟩ := HM.out.pm.store Tryz.underlying3 Tryz.underlying260 (by have := HK.out; omega) (i := i) (by have := HN.out.2.1; omega) w10.heap.size
       have hm6 := HM.out.add hin hfi HT0.out (HS.out.blockAt 0 rfl) HBM.out HFR.out hpm hgr
       obtain ⟨es, ec, hmo⟩ := HM.out.pm.obj
       have hs6 := (HS.out.butObj hmo ⟨obj_map, obj_map, obj_map, obj_map, obj_map, trivial⟩ HLO.out hgr).drop1
       clear hpm hgr hmo HFR HBM
       repeat ((fail_if_success (with_reducible refine stop_at (id := 15) ?_)); (first | go_values | go_skip | go_guarded | go_step | go_upon | go_back | (simp only [Int.not_lt, Int.not_le] at *; go_simp) | (go_values <;> (try go_simp)) | (go_ite <;> go_prune <;> (try go_simp)) | (split <;> (first | (rename_i hx; exact (hx _ rfl).elim) | go_prune))))
       clear hup hfi
       have HM := H7 hm6
       have HS := H7 hs6
       obtain ⟨f2, hf2⟩ : ∃ f2 : Nat → Option Nat, (fun j => if j = i then some w10.heap.size else f j) = f2 := ⟨_, rfl⟩
       have HFI := H7 (show f2 i = some w10.heap.size by rw [← hf2]; simp)
       have HK2 := H7 (show m + 1 ≤ k + 1 by have := HK.out; omega)
       rw [hf2] at HM
       clear hf2 hm6 hs6
       obtain ⟨m2, hm2⟩ : ∃ m2, m + 1 = m2 := ⟨_, rfl⟩
       rw [hm2] at HM HK2
       obtain ⟨q, hqq⟩ : ∃ q, w10.heap.size = q := ⟨_, rfl⟩
       rw [hqq] at HFI
       clear hm2 hqq
       rotate_left
       simp only [hfi] at hlk
       repeat ((fail_if_success (with_reducible refine stop_at (id := 15) ?_)); (first | go_values | go_skip | go_guarded | go_step | go_upon | go_back | (simp only [Int.not_lt, Int.not_le] at *; go_simp) | (go_values <;> (try go_simp)) | (go_ite <;> go_prune <;> (try go_simp)) | (split <;> (first | (rename_i hx; exact (hx _ rfl).elim) | go_prune))))
       clear hlk hqt0 ht0 hq0 t0 q0
       obtain ⟨wz, hwz⟩ : ∃ wz, w10 = wz := ⟨_, rfl⟩
       rw [hwz] at HS HM
       rw [hwz]
       have HFI := H7 hfi
       have HK2 := H7 (show m ≤ k + 1 by have := HK.out; omega)
       obtain ⟨f2, hf2⟩ : ∃ f2, f = f2 := ⟨_, rfl⟩
       obtain ⟨m2, hm2⟩ : ∃ m2, m = m2 := ⟨_, rfl⟩
       rw [hf2] at HFI HM
       rw [hm2] at HM HK2
       clear hwz hfi hf2 hm2
       all_goals (
        obtain ⟨t1, ht1, hq1⟩ := (HM.out.own i q HFI.out).2.2
        have HLQ := H7 (Nat.lt_of_le_of_lt HLO.out (HM.out.own i q HFI.out).1)
        have HQ1 := H7 hq1
        have HT1 := H7 ht1
        obtain ⟨t2, ht2⟩ : ∃ t2, setT t1 (ry * 8 + rx) ⟨cr, cg, cb, ca⟩ = t2 := ⟨_, rfl⟩
        have HT2 := H7 ht2
        have HLK := H7 (fun (w' : World) (hC : wz.grownBy w' (some q)) => by
         have h := (HM.out.pm.kept hC (fun e => by have h1 := Option.some.inj e; have := (HM.out.own i q HFI.out).1; omega)).look Tryz.underlying3 Tryz.underlying260 (zeroPt w') (i := i) (by have := HN.out.2.1; omega)
         rw [HFI.out] at h
         exact h)
        have HST := H7 (fun (w' : World) (hC : wz.grownBy w' (some q)) => HS.out.butObj HQ1.out ⟨obj_typ (by decide), obj_typ (by decide), obj_typ (by decide), obj_typ (by decide), trivial⟩ (Nat.le_of_lt HLQ.out) hC)
        have HTW := H7 (fun (g2 : Nat) (w' : World) h => tileWith_one t1 rx ry HRI.out.2.2.1 HRI.out.2.2.2 ⟨cr, cg, cb, ca⟩ g2 1 w' h)
        rw [ht2] at HTW
        have HSZ := H7 (size_T t1)
        have HSZ2 := H7 (size_T t2)
        have HNN := H7 (And.intro (sizeT t1) (sizeT t2))
        have HZ2 := H7 (encT_all t2)
        clear hq1 ht1 ht2
        refine (wpIn_wide (n := 0)).1 ?_
        apply wp_region_store 18 17 (fun b_ w_ => w_.heap[q]? = some (.cells (encT (cond b_ t2 t1)).toArray 54 (0, 0))) (Rl := [(eqv _), (eqv _), (eqv _), (eqv _), (eqv _), (eqv _), (eqv _), (fun v_ _ => v_ = (.agg (encT t1).toArray : Value)), (eqv _), (eqv _), (eqv _), (fun v_ w_ => ∃ g2, v_ = .slice (some ⟨g2, 0, none⟩) 1 1 ∧ g2 ≠ q ∧ w_.heap[g2]? = some (.cells #[.int .i64 rx, .int .i64 ry] 69 (0, 0))), (fun v_ _ => v_ = (.tuple #[.agg (encT t2).toArray, .int .i64 0] : Value)), (fun v_ _ => v_ = (.tuple #[.agg (encT t2).toArray, .int .i64 0] : Value)), (fun v_ _ => v_ = (.agg (encT t2).toArray : Value)), (eqv _), (eqv _), (fun v_ w_ => True)]) (C := (fun x y => x.grownBy y (some q))) (C0 := (fun x y => Below x.heap.size x y))
        case hm => kernel_rfl
        case hk => rfl
        case hCr => exact (fun x => World.grownBy.refl x _)
        case hCt => intro _ _ _; exact (fun h k => grownTrans h k)
        case h00 => exact (fun x => B7 _ x)
        case h0C => intro _ _; exact fun h => ⟨h.os, h.tape, h.output, h.size, fun k hk _ => h.block k hk⟩
        case hst => exact ⟨fun _ _ _ _ h => h, fun _ _ _ _ h => h, fun _ _ _ _ h => h, fun _ _ _ _ h => h, fun _ _ _ _ h => h, fun _ _ _ _ h => h, fun _ _ _ _ h => h, fun _ _ _ _ h => h, fun _ _ _ _ h => h, fun _ _ _ _ h => h, fun _ _ _ _ h => h, fun v x y hC ⟨b, h1, h2, h3⟩ => ⟨b, h1, h2, (hC.block b (b7t h3) (fun e => h2 (Option.some.inj e))).trans h3⟩, fun _ _ _ _ h => h, fun _ _ _ _ h => h, fun _ _ _ _ h => h, fun _ _ _ _ h => h, fun _ _ _ _ h => h, fun _ _ _ _ h => h, trivial⟩
        case hfo => kernel_rfl
        case ht => kernel_rfl
        case hC0 => exact (⟨rfl, rfl, rfl, Nat.le_refl _, fun _ _ _ => rfl⟩)
        case hsk => decide
        case hso => decide
        case hsg => rfl
        case hsteps =>
         refine ⟨?_, ?_, ?_, ?_, ?_, ?_, ?_, ?_, ?_, ?_, ?_, ?_, ?_, ?_, ?_, ?_, ?_, ?_, trivial⟩
         · intro a' w' b_ hA hC hJ hB1 hB2 hD
           obtain rfl := hB1 (by kernel_rfl)
           clear hB1 hB2
           have s7 := hA.to 7 (by kernel_rfl) rfl; clear hA hD; refine o7p rfl ?_; intro K hK; gi_wp2; exact hK _ _ rfl ⟨(fun x => B7 _ x) _, hJ⟩
         · intro a' w' b_ hA hC hJ hB1 hB2 hD
           obtain rfl := hB1 (by kernel_rfl)
           clear hB1 hB2
           have s10 := hA.to 10 (by kernel_rfl) rfl; clear hA hD; refine o7p rfl ?_; intro K hK; gi_wp2; exact hK _ _ rfl ⟨(fun x => B7 _ x) _, hJ⟩
         · intro a' w' b_ hA hC hJ hB1 hB2 hD
           obtain rfl := hB1 (by kernel_rfl)
           clear hB1 hB2
           obtain ⟨u79, s79, rfl⟩ := hD ⟨0, .data⟩ (by simp) rfl _ rfl; obtain ⟨u80, s80, rfl⟩ := hD ⟨1, .data⟩ (by simp) rfl _ rfl
           have hlk := HLK.out w' hC
           clear hA hD; refine o7p rfl ?_; intro K hK; gi_wp2; exact hK _ _ rfl ⟨(fun x => B7 _ x) _, hJ⟩
         · intro a' w' b_ hA hC hJ hB1 hB2 hD
           obtain rfl := hB1 (by kernel_rfl)
           clear hB1 hB2
           have s7 := hA.to 7 (by kernel_rfl) rfl; clear hA hD; refine o7p rfl ?_; intro K hK; gi_wp2; exact hK _ _ rfl ⟨(fun x => B7 _ x) _, hJ⟩
         · intro a' w' b_ hA hC hJ hB1 hB2 hD
           obtain rfl := hB1 (by kernel_rfl)
           clear hB1 hB2
           have s10 := hA.to 10 (by kernel_rfl) rfl; clear hA hD; refine o7p rfl ?_; intro K hK; gi_wp2; exact hK _ _ rfl ⟨(fun x => B7 _ x) _, hJ⟩
         · intro a' w' b_ hA hC hJ hB1 hB2 hD
           obtain rfl := hB1 (by kernel_rfl)
           clear hB1 hB2
           obtain ⟨u82, s82, rfl⟩ := hD ⟨3, .data⟩ (by simp) rfl _ rfl; obtain ⟨u83, s83, rfl⟩ := hD ⟨4, .data⟩ (by simp) rfl _ rfl
           have hlk := HLK.out w' hC
           clear hA hD; refine o7p rfl ?_; intro K hK; gi_wp2; exact hK _ _ rfl ⟨(fun x => B7 _ x) _, hJ⟩
         · intro a' w' b_ hA hC hJ hB1 hB2 hD
           obtain rfl := hB1 (by kernel_rfl)
           clear hB1 hB2
           obtain ⟨u84, s84, rfl⟩ := hD ⟨5, .data⟩ (by simp) rfl _ rfl; clear hA hD; refine o7p rfl ?_; intro K hK; gi_wp2; exact hK _ _ rfl ⟨(fun x => B7 _ x) _, hJ⟩
         · intro a' w' b_ hA hC hJ hB1 hB2 hD
           obtain rfl := hB1 (by kernel_rfl)
           clear hB1 hB2
           obtain ⟨u85, s85, rfl⟩ := hD ⟨6, .data⟩ (by simp) rfl _ rfl; clear hA hD; refine o7p rfl ?_; intro K hK
           refine opIn_load 54 _ rfl q (by simp [Act.eval, s85]) 54 (encT t1).toArray (0, 0) _ hJ Tryz.underlying54 rfl HSZ.out (hK _ _ rfl ⟨B7 _ _, hJ⟩)
         · intro a' w' b_ hA hC hJ hB1 hB2 hD
           obtain rfl := hB1 (by kernel_rfl)
           clear hB1 hB2
           have s9 := hA.to 9 (by kernel_rfl) rfl; clear hA hD; refine o7p rfl ?_; intro K hK; gi_wp2; exact hK _ _ rfl ⟨(fun x => B7 _ x) _, hJ⟩
         · intro a' w' b_ hA hC hJ hB1 hB2 hD
           obtain rfl := hB1 (by kernel_rfl)
           clear hB1 hB2
           obtain ⟨u87, s87, rfl⟩ := hD ⟨8, .data⟩ (by simp) rfl _ rfl
           have hst := HST.out w' hC; have c2 := c7b (k := 2) (hst.blockAt 1 rfl) rfl; have c3 := c7b (k := 3) (hst.blockAt 1 rfl) rfl; have c4 := c7b (k := 4) (hst.blockAt 1 rfl) rfl; have c5 := c7b (k := 5) (hst.blockAt 1 rfl) rfl; clear hst
           clear hA hD; refine o7p rfl ?_; intro K hK; gi_wp2; exact hK _ _ rfl ⟨(fun x => B7 _ x) _, hJ⟩
         · intro a' w' b_ hA hC hJ hB1 hB2 hD
           obtain rfl := hB1 (by kernel_rfl)
           clear hB1 hB2
           have s11 := hA.to 11 (by kernel_rfl) rfl
           have hst := HST.out w' hC; have c0 := c7b (k := 0) (hst.blockAt 0 rfl) rfl; have c1 := c7b (k := 1) (hst.blockAt 0 rfl) rfl; clear hst
           clear hA hD; refine o7p rfl ?_; intro K hK; gi_wp2; exact hK _ _ rfl ⟨(fun x => B7 _ x) _, hJ⟩
         · intro a' w' b_ hA hC hJ hB1 hB2 hD
           obtain rfl := hB1 (by kernel_rfl)
           clear hB1 hB2
           obtain ⟨u89, s89, rfl⟩ := hD ⟨10, .data⟩ (by simp) rfl _ rfl; clear hA hD; refine o7p rfl ?_; intro K hK; gi_wp2; exact hK _ _ ⟨w'.heap.size, rfl, fun e => by have := b7t hJ; omega, newBlock _ _ _ rfl⟩ ⟨(B7 _ _).alloc (Nat.le_refl _) _, heap_alloc_keeps hJ _⟩
         · intro a' w' b_ hA hC hJ hB1 hB2 hD
           obtain rfl := hB1 (by kernel_rfl)
           clear hB1 hB2
           obtain ⟨u86, s86, r86⟩ := hD ⟨7, .data⟩ (by simp) rfl _ rfl; replace r86 : u86 = .agg (encT t1).toArray := r86; subst r86; obtain ⟨u88, s88, rfl⟩ := hD ⟨9, .data⟩ (by simp) rfl _ rfl; obtain ⟨u90, s90, r90⟩ := hD ⟨11, .data⟩ (by simp) rfl _ rfl; replace r90 : (fun v_ w_ => ∃ g2, v_ = .slice (some ⟨g2, 0, none⟩) 1 1 ∧ g2 ≠ q ∧ w_.heap[g2]? = some (.cells #[.int .i64 rx, .int .i64 ry] 69 (0, 0))) u90 w' := r90; clear hA hD; refine o7p rfl ?_; intro K hK
           obtain ⟨g2, hg2, hne2, hbk2⟩ := r90; subst hg2; gi_wp2_with fail; refine (callsIn_wide.2 (HTW.out g2 _ hbk2)).mono ?_; rintro e w5 ⟨rfl, hb5⟩; exact hK _ _ rfl ⟨hb5, (hb5.block q (b7t hJ)).trans hJ⟩
         · intro a' w' b_ hA hC hJ hB1 hB2 hD
           obtain rfl := hB1 (by kernel_rfl)
           clear hB1 hB2
           obtain ⟨u91, s91, r91⟩ := hD ⟨12, .data⟩ (by simp) rfl _ rfl; replace r91 : u91 = .tuple #[.agg (encT t2).toArray, .int .i64 0] := r91; subst r91; clear hA hD; refine o7p rfl ?_; intro K hK; gi_wp2; exact hK (.tuple #[.agg (encT t2).toArray, .int .i64 0]) _ rfl ⟨(fun x => B7 _ x) _, hJ⟩
         · intro a' w' b_ hA hC hJ hB1 hB2 hD
           obtain rfl := hB1 (by kernel_rfl)
           clear hB1 hB2
           obtain ⟨u78, s78, r78⟩ := hD ⟨13, .data⟩ (by simp) rfl _ rfl; replace r78 : u78 = .tuple #[.agg (encT t2).toArray, .int .i64 0] := r78; subst r78; clear hA hD; refine o7p rfl ?_; intro K hK; gi_wp2; exact hK (.agg (encT t2).toArray) _ rfl ⟨(fun x => B7 _ x) _, hJ⟩
         · intro a' w' b_ hA hC hJ hB1 hB2 hD
           skip
           clear hB1 hB2
           obtain ⟨u78, s78, r78⟩ := hD ⟨13, .data⟩ (by simp) rfl _ rfl; replace r78 : u78 = .tuple #[.agg (encT t2).toArray, .int .i64 0] := r78; subst r78; clear hA hD; refine o7p rfl ?_; intro K hK; gi_wp2; exact hK _ _ rfl ⟨(fun x => B7 _ x) _, hJ⟩
         · intro a' w' b_ hA hC hJ hB1 hB2 hD
           obtain rfl := hB1 (by kernel_rfl)
           clear hB1 hB2
           obtain ⟨u81, s81, rfl⟩ := hD ⟨2, .data⟩ (by simp) rfl _ rfl; clear hA hD; refine o7p rfl ?_; intro K hK; gi_wp2; exact hK _ _ rfl ⟨(fun x => B7 _ x) _, hJ⟩
         · intro a' w' b_ hA hC hJ hB1 hB2 hD
           obtain rfl := hB2 rfl
           clear hB1 hB2
           obtain ⟨u94, s94, rfl⟩ := hD ⟨16, .data⟩ (by simp) rfl _ rfl; obtain ⟨u92, s92, r92⟩ := hD ⟨14, .data⟩ (by simp) rfl _ rfl; replace r92 : u92 = .agg (encT t2).toArray := r92; subst r92; clear hA hD; refine o7p rfl ?_; intro K hK
           refine opIn_store 54 _ _ rfl q 54 (encT t1).toArray (encT t2).toArray (by simp [Act.eval, s94]) (by simp [Act.eval, s92]) hJ HSZ2.out (HNN.out.1.trans HNN.out.2.symm) HZ2.out (hK _ _ trivial ⟨grownBy_setRow _ _ _, setRow_heap _ _ _ _ _ _ hJ⟩)
           skip
        case hJ0 => exact HQ1.out
        case hend =>
         intro w13 hC hJ
         simp only [EndFrom, eqv, forall_eq, Act.put, List.length_cons, List.length_nil, List.drop_succ_cons, List.drop_zero, Nat.reduceAdd, List.setIfInBounds_toArray, List.set_cons_succ, List.set_cons_zero]
         intro v11 _ v17 _
         have HS := H7 (HST.out w13 hC)
         have hm := HM.out.paint HFI.out HT1.out (D' := putC D x y ⟨cr, cg, cb, ca⟩) (k := ry * 8 + rx) (c := ⟨cr, cg, cb, ca⟩) (by
          show D.tiles.modify (tileI D x y) (fun t => setT t (inI x y) _) = _
          rw [HRI.out.1, HRI.out.2.1]) (by rw [HT2.out]; exact hJ) hC
         have HM := H7 hm
         clear hm hC hJ HST HLK HTW
         gi_wp2_with fail
         go_wp2_with fail
         go_roundw
         case rel =>
          refine ⟨k + 1, m2, f2, hlt, HK2.out, by simp, HS.out.drop1.drop1, ?_⟩
          rw [HTK.out, HDD.out]
          exact HM.out
         case measure => simp [intOf]; omega)
    · obtain rfl : k = nd := by omega
      rw [List.take_of_length_le (by rw [HL.out.1]; exact Nat.le_refl _)] at HM
      obtain ⟨D, hD⟩ : ∃ D, withL C ds = D := ⟨_, rfl⟩
      have HDD := H7 hD
      rw [hD] at HM
      have HDW := H7 (show D.wide = wide ∧ D.high = high by rw [← hD, withL_wide, withL_high]; exact ⟨HWH.out.1, HWH.out.2.1⟩)
      have HDOK := H7 (show okCan D by rw [← hD]; exact okCan.withL _ HOK.out.1 fun e he => HOK.out.2 e he)
      have HDN := H7 (show D.tiles.length = n by rw [← hD, withL_len]; exact HWH.out.2.2)
      clear hD
      obtain ⟨wq, left, cnt, hrun, hrg, hlf, hgr, hsz⟩ := HM.out.pm.range Tryz.underlying3 Tryz.underlying260
      have hq1 : Below wr.heap.size wr wq := ⟨hgr.os, hgr.tape, hgr.output, hgr.size, fun k hk => hgr.block k hk (by simp)⟩
      have HRG := H7 hrg
      have HRM := H7 (RowM.start (D := D) (HTP.out.below (HS.out.low.trans (hq1.mono HS.out.size))) HN.out.2.2 HM.out.non hlf)
      have HM := H7 (HM.out.below hq1)
      have HS1 := H7 (HS.out.below hq1)
      clear hrg hlf hgr hsz hq1
      have HRB := H7 (show wr.heap.size ≠ g ∧ wr.heap.size ≠ Bm ∧ g ≠ Bm ∧ w.heap.size ≤ wr.heap.size from ⟨by have := HS.out.lt 1 rfl; omega, by have := HM.out.pm.lt; have := HRG.out.lt.2; omega, by have := HTOP.out.2; omega, HS.out.size⟩)
      obtain ⟨R, hR⟩ : ∃ R, wr.heap.size = R := ⟨_, rfl⟩
      rw [hR] at hrun HRG HRB
      go_wp2_with fail
      clear hrun
      have HS := HS1
      clear HS1 hR
      go_loopw [14] (fun _ wx => ∃ (left : Nat → Bool) (cnt : Nat) (rp : List Nat), St w [.blk Po (.cells #[.int .i64 wide, .int .i64 high, .slice (some ⟨g, 0, none⟩) n n] 108 (0, 0)), .blk g (ptrO rp)] wx ∧ OwnM Bm n C.tiles D m f wx ∧ PtrRg Tryz.prog 3 wx Bm R m f left cnt ∧ RowM n qs rp D f left wx) (fun _ wx => wx.rangeLeft Bm R)
      case atStart => exact ⟨left, cnt, qs, HS.out, HM.out, HRG.out, HRM.out⟩
      case round =>
       obtain ⟨left2, cnt2, rp, hst, hom, hrg, hrm⟩ := hrel
       clear HS HM HRG HRM
       have HS := H7 hst
       have HM := H7 hom
       have HRG := H7 hrg
       have HRM := H7 hrm
       clear hst hom hrg hrm
       rcases HRG.out.next Tryz.underlying3 0 with ⟨-, hl0, hrun⟩ | ⟨i, q, w2, cnt3, hfi, hli, hrun, hrg2, hlt2, hgr2, hsz2, hen⟩
       · have HL0 := H7 hl0
         clear hl0
         go_wp2_with fail
         go_ret
         rw [HDD.out]
         refine ⟨Po, rfl, ⟨HDOK.out, g, n, rp, ?_, ?_, ?_, fun j r hj => ?_, fun j r t hj ht => ?_⟩, HS.out.ord.1, HS.out.low⟩
         · rw [HDW.out.1, HDW.out.2, HDN.out]
           exact HS.out.blockAt 0 rfl
         · rw [HDN.out]; exact Nat.le_refl _
         · rw [HDN.out]; exact HRM.out.len
         · exact c7b (HS.out.blockAt 1 rfl) (by rw [List.getElem?_toArray]; exact ptrL_get hj)
         · have hjn : j < n := by rw [← HRM.out.len]; exact (List.getElem?_eq_some_iff.1 hj).1
           obtain ⟨r', t', h1, h2, h3⟩ := HRM.out.good j hjn (HL0.out j)
           rw [h1] at hj
           rw [h2] at ht
           cases hj
           cases ht
           exact h3
       · obtain ⟨ib, is, iv, ic, hob⟩ := HRG.out.obj
         have hle := HRG.out.left_eq
         have hle2 := hrg2.left_eq
         have HMEAS := H7 (show cnt3 < wr.rangeLeft Bm R by rw [hle]; exact hlt2)
         have HFI := H7 hfi
         have HOLD := H7 (HRM.out.old i hli)
         have HRM2 := H7 (HRM.out.kept hob (fun t => obj_iter) hgr2)
         have HM2 := H7 (HM.out.kept hob HRB.out.2.1 (fun t => obj_iter) hgr2)
         have HS2 := H7 (HS.out.butObj hob ⟨obj_iter, obj_iter, trivial⟩ HRB.out.2.2.2 hgr2)
         have HRG2 := H7 hrg2
         clear HRM HM HS HRG hob hle hle2 hrg2 hgr2 hsz2 hlt2 hli
         obtain ⟨-, hin, t2, ht2, hq2⟩ := HM2.out.own i q hfi
         obtain ⟨q0, hq0⟩ : ∃ q0, qs[i]? = some q0 := ⟨_, List.getElem?_eq_getElem (by rw [HN.out.2.2]; exact hin)⟩
         obtain ⟨t0, ht0, hqt0⟩ := HTP.out.get hq0
         have HQ2 := H7 hq2
         have HQT0 := H7 ((HS2.out.low.block q0 (b7t hqt0)).trans hqt0)
         have HK4 := H7 ((HS2.out.low.cell (p := ⟨b, i, none⟩) HBB.out).trans (HQ.out i q0 hq0))
         have HK4B := H7 (Nat.lt_of_lt_of_le HBB.out HS2.out.size)
         have HP2 := H7 ((HS2.out.low.block _ (b7t HH.out)).trans HH.out)
         have HIN := H7 hin
         have HTT := H7 (And.intro ht2 (And.intro hq0 ht0))
         have HSZ := H7 (And.intro (size_T t2) (size_T t0))
         clear ht2 hq2 hq0 ht0 hqt0 hfi
         have HS := H7 (St.start w2)
         repeat ((fail_if_success (with_reducible refine stop_at (id := 20) ?_)); (first | go_values | go_skip | go_guarded | go_step | go_upon | go_back | (simp only [Int.not_lt, Int.not_le] at *; go_simp) | (go_values <;> (try go_simp)) | (go_ite <;> go_prune <;> (try go_simp)) | (split <;> (first | (rename_i hx; exact (hx _ rfl).elim) | go_prune))))
         clear hrun hen
         refine (wpIn_wide (n := 0)).1 ?_
         apply w7v 13 (Rl := [(eqv _), (eqv _), (fun v_ _ => v_ = (.agg (encT t2).toArray : Value)), (eqv _), (eqv _), (eqv _), (eqv _), (eqv _), (eqv _), (eqv _), (eqv _), (fun v_ _ => v_ = (.agg (encT t0).toArray : Value)), (fun v_ _ => v_ = (.bool (!decide (t2 = t0)) : Value))]) (C := (fun x y => Below x.heap.size x y))
         case hm => kernel_rfl
         case hk => rfl
         case hCr => exact (fun _ => B7 _ _)
         case hCt => intro _ _ _; exact (fun h k => g7t h k)
         case hst => repeat (first | exact trivial | refine ⟨fun _ _ _ _ h => h, ?_⟩)
         case hfo => kernel_rfl
         case ht => kernel_rfl
         case hC0 => exact (g7d _)
         case hsteps =>
          refine ⟨?_, ?_, ?_, ?_, ?_, ?_, ?_, ?_, ?_, ?_, ?_, ?_, ?_, trivial⟩
          · intro a' w' hA hC hD; have s15 := hA.to 15 (by kernel_rfl) rfl; clear hA hD; refine o7p rfl ?_; intro K hK; gi_wp2; exact hK _ _ rfl (B7 _ _)
          · intro a' w' hA hC hD; obtain ⟨u103, s103, rfl⟩ := hD ⟨0, .data⟩ (by simp) rfl _ rfl; clear hA hD; refine o7p rfl ?_; intro K hK; gi_wp2; exact hK _ _ rfl (B7 _ _)
          · intro a' w' hA hC hD; obtain ⟨u104, s104, rfl⟩ := hD ⟨1, .data⟩ (by simp) rfl _ rfl; clear hA hD; refine o7p rfl ?_; intro K hK
            refine opIn_load 54 _ rfl q (by simp [Act.eval, s104]) 54 (encT t2).toArray (0, 0) _ ((hC.block q (b7t HQ2.out)).trans HQ2.out) Tryz.underlying54 rfl HSZ.out.1 (hK _ _ rfl (B7 _ _))
          · intro a' w' hA hC hD; have s0 := hA.to 0 (by kernel_rfl) rfl; clear hA hD; refine o7p rfl ?_; intro K hK; gi_wp2; exact hK _ _ rfl (B7 _ _)
          · intro a' w' hA hC hD; obtain ⟨u106, s106, rfl⟩ := hD ⟨3, .data⟩ (by simp) rfl _ rfl; clear hA hD; refine o7p rfl ?_; intro K hK; gi_wp2; exact hK _ _ rfl (B7 _ _)
          · intro a' w' hA hC hD; obtain ⟨u107, s107, rfl⟩ := hD ⟨4, .data⟩ (by simp) rfl _ rfl; clear hA hD; refine o7p rfl ?_; intro K hK; gi_wp2; exact hK _ _ rfl (B7 _ _)
          · intro a' w' hA hC hD; obtain ⟨u108, s108, rfl⟩ := hD ⟨5, .data⟩ (by simp) rfl _ rfl
            have s2 := c7b (k := 2) ((hC.block p (b7t HP2.out)).trans HP2.out) rfl
            clear hA hD; refine o7p rfl ?_; intro K hK; gi_wp2; exact hK _ _ rfl (B7 _ _)
          · intro a' w' hA hC hD; have s14 := hA.to 14 (by kernel_rfl) rfl; clear hA hD; refine o7p rfl ?_; intro K hK; gi_wp2; exact hK _ _ rfl (B7 _ _)
          · intro a' w' hA hC hD; obtain ⟨u109, s109, rfl⟩ := hD ⟨6, .data⟩ (by simp) rfl _ rfl; obtain ⟨u110, s110, rfl⟩ := hD ⟨7, .data⟩ (by simp) rfl _ rfl
            have hin := HIN.out
            clear hA hD; refine o7p rfl ?_; intro K hK; gi_wp2; exact hK _ _ rfl (B7 _ _)
          · intro a' w' hA hC hD; obtain ⟨u111, s111, rfl⟩ := hD ⟨8, .data⟩ (by simp) rfl _ rfl
            have k4 := (hC.cell (p := ⟨b, i, none⟩) HK4B.out).trans HK4.out
            clear hA hD; refine o7p rfl ?_; intro K hK; gi_wp2; exact hK _ _ rfl (B7 _ _)
          · intro a' w' hA hC hD; obtain ⟨u112, s112, rfl⟩ := hD ⟨9, .data⟩ (by simp) rfl _ rfl; clear hA hD; refine o7p rfl ?_; intro K hK; gi_wp2; exact hK _ _ rfl (B7 _ _)
          · intro a' w' hA hC hD; obtain ⟨u113, s113, rfl⟩ := hD ⟨10, .data⟩ (by simp) rfl _ rfl; clear hA hD; refine o7p rfl ?_; intro K hK
            refine opIn_load 54 _ rfl q0 (by simp [Act.eval, s113]) 54 (encT t0).toArray (0, 0) _ ((hC.block q0 (b7t HQT0.out)).trans HQT0.out) Tryz.underlying54 rfl HSZ.out.2 (hK _ _ rfl (B7 _ _))
          · intro a' w' hA hC hD; obtain ⟨u105, s105, r105⟩ := hD ⟨2, .data⟩ (by simp) rfl _ rfl; replace r105 : u105 = .agg (encT t2).toArray := r105; subst r105; obtain ⟨u114, s114, r114⟩ := hD ⟨11, .data⟩ (by simp) rfl _ rfl; replace r114 : u114 = .agg (encT t0).toArray := r114; subst r114; clear hA hD; refine o7p rfl ?_; intro K hK
            refine opIn_bin _ _ _ _ _ rfl (by simp [Act.eval, s105]) (by simp [Act.eval, s114]) (tileG_run _ _ _ _ w') (tileNe_run t2 t0 w') (hK _ _ rfl (B7 _ _))
         case hend =>
          intro w3 hC
          simp only [EndFrom, eqv, forall_eq, Act.put, List.length_cons, List.length_nil, List.drop_succ_cons, List.drop_zero, Nat.reduceAdd, List.setIfInBounds_toArray, List.set_cons_succ, List.set_cons_zero]
          have HS3 := H7 (HS2.out.below hC)
          have HM3 := H7 (HM2.out.below hC)
          have HRG3 := H7 (HRG2.out.kept (below_grown hC) (by simp) (by simp))
          have HRM3 := H7 (HRM2.out.below hC)
          have HQT3 := H7 ((hC.block q0 (b7t HQT0.out)).trans HQT0.out)
          clear hC HS2 HM2 HRG2 HRM2 HS
          by_cases he : t2 = t0
          · have e1 : decide (t2 = t0) = true := decide_eq_true he
            have HEQ := H7 he
            rw [e1, Bool.not_true]
            clear he e1
            gi_wp2_with fail
            go_wp2_with fail
            go_roundw
            case rel => exact ⟨_, cnt3, rp, HS3.out, HM3.out, HRG3.out, HRM3.out.done (r := q0) (t := t2) (HOLD.out.trans HTT.out.2.1) HTT.out.1 (by rw [HEQ.out]; exact HQT3.out) rfl (fun _ _ => rfl)⟩
            case measure => rw [HRG3.out.left_eq]; exact HMEAS.out
          · have e1 : decide (t2 = t0) = false := decide_eq_false he
            rw [e1, Bool.not_false]
            clear he e1
            have k2 := c7b (k := 2) (HS3.out.blockAt 0 rfl) rfl
            have c0 := c7b (k := i) (v := .pointer (some ⟨q0, 0, none⟩)) (HS3.out.blockAt 1 rfl) (by rw [List.getElem?_toArray]; exact ptrL_get (HOLD.out.trans HTT.out.2.1))
            have f0 := f7b (HS3.out.blockAt 1 rfl)
            have hin := HIN.out
            gi_wp2_with fail
            go_wp2_with fail
            clear k2 c0 f0
            have hg4 := g7c w3 g i (.pointer (some ⟨q, 0, none⟩))
            have hb4 : w3.heap[g]? = some (ptrO rp) := HS3.out.blockAt 1 rfl
            have hs4 := HS3.out.putAt (pre := [.blk Po (.cells #[.int .i64 wide, .int .i64 high, .slice (some ⟨g, 0, none⟩) n n] 108 (0, 0))]) (by simp) i (.pointer (some ⟨q, 0, none⟩)) (ptrL_set rp i q)
            simp only [List.cons_append, List.nil_append] at hs4
            have HS4 := H7 hs4
            have HM4 := H7 (HM3.out.kept hb4 HRB.out.2.2.1 (fun t => obj_typ (by decide)) hg4)
            have HRG4 := H7 (HRG3.out.kept hg4 (fun e => HRB.out.2.2.1 (Option.some.inj e).symm) (fun e => HRB.out.1 (Option.some.inj e)))
            have hrm4 := HRM3.out.kept hb4 (fun t => obj_typ (by decide)) hg4
            obtain ⟨-, -, t2', ht2', hq2'⟩ := HM4.out.own i q HFI.out
            have hlen : i < rp.length := by rw [HRM3.out.len]; exact hin
            have HRM4 := H7 (hrm4.done (rp' := rp.set i q) (r := q) (by rw [List.getElem?_set_self hlen]) ht2' hq2' (by rw [List.length_set]) (fun j hj => by rw [List.getElem?_set_ne (fun e => hj e.symm)]))
            clear hs4 hg4 hb4 hrm4 ht2' hq2' hlen
            go_roundw
            case rel => exact ⟨_, cnt3, rp.set i q, HS4.out, HM4.out, HRG4.out, HRM4.out⟩
            case measure => rw [HRG4.out.left_eq]; exact HMEAS.out
end Go.Proofs.YtgdcfkbimkclaaaGreatDoor
