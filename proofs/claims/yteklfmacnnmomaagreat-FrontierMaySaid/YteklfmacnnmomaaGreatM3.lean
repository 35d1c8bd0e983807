/- Merged texts: VecG VecH VecI FrA ShA Bfs Col Pix Can Big Bld. -/
import Derived.Test.YteklfmacnnmomaaGreatM2
import Derived.Deep.MidRow
import Derived.Test.YteklfmacnnmomaaGreatM1
set_option linter.unusedSimpArgs false
set_option linter.unusedVariables false
/- Package vector: Covers, both, Has, Next; an id of a site. -/
namespace Go.Proofs.YteklfmacnnmomaaGreat
open Go.RowKit Go.Shelf
/-- Are two vectors the same? -/
def vecEq (a b : Nat → Int) : Bool := (List.range 9).all fun k => a k == b k
theorem vecEq_iff (a b : Nat → Int) : vecEq a b = true ↔ ∀ k, k < 9 → a k = b k := by
 unfold vecEq
 rw [List.all_eq_true]
 constructor
 · intro h k hk
   simpa using h k (List.mem_range.2 hk)
 · intro h k hk
   simpa using h k (List.mem_range.1 hk)
theorem run_vecEq (a b : Nat → Int) (w : World) : (binOp .eql 24 (.agg #[.int .u64 (a 0), .int .u64 (a 1), .int .u64 (a 2), .int .u64 (a 3), .int .u64 (a 4), .int .u64 (a 5), .int .u64 (a 6), .int .u64 (a 7), .int .u64 (a 8)])
 (.agg #[.int .u64 (b 0), .int .u64 (b 1), .int .u64 (b 2), .int .u64 (b 3), .int .u64 (b 4), .int .u64 (b 5), .int .u64 (b 6), .int .u64 (b 7), .int .u64 (b 8)])).run Tryz.prog w = .ok (.bool (vecEq a b)) w := by
 obtain ⟨i0, hi, _, hz1, _⟩ := info_parts info22
 exact run_eql_array w 24 22 9 .u64 i0 Tryz.underlying24 Tryz.underlying22 hi hz1 _ _ a b (fun k hk => lit9_get a k hk) (fun k hk => lit9_get b k hk)
/-- Does one cover another one? -/
def covers (a b : Nat → Int) : Bool := vecOk a && vecOk b && vecEq (fun s => max (a s) (b s)) a
theorem covers_any (a b : Nat → Int) (w : World) : Calls Tryz.prog 60 #[vecV a, vecV b] w (Gives (.bool (covers a b)) w) := by
 have hq := run_vecEq (mergeN max a (fun _ => b) 1) a
 have hm : vecEq (mergeN max a (fun _ => b) 1) a = vecEq (fun s => max (a s) (b s)) a := rfl
 have hel : ∀ (W : World) (q : Nat), W.heap[q]? = some (.cells (lit9 b) 24 (0, 0)) → Elems W (.slice (some ⟨q, 0, none⟩) 1 1) 1 9 (vecCells fun _ => b) := fun W q hq => by
  refine .inr ⟨q, 0, 1, rfl, b7t hq, fun j hj => ?_⟩
  rw [Nat.zero_add]
  unfold vecCells
  rw [show j % 9 = j from by omega]
  exact c7b hq (lit9_get b j (by omega))
 cases hv : vecOk a && vecOk b
 · have hno : ¬ (vecOk a = true ∧ ∀ i, i < 1 → vecOk b = true) := fun ⟨h1, h2⟩ => by
    have := h2 0 (by omega)
    rw [h1, this] at hv
    cases hv
   have Hno := H7 hno
   have Hel := H7 hel
   have Hv := H7 hv
   have hcov : covers a b = false := by unfold covers; rw [hv]; rfl
   clear hno hel hv hq hm
   go_enter Tryz.func60, Tryz.ntmps60
   simp only [vecV, lit9, hcov]
   clear hcov
   go_wp2_with fail
   refine (join_no a _ 1 (fun _ => b) _ (by omega) (Hel.out _ _ (newBlock _ _ _ (by simp))) Hno.out).mono ?_
   rintro e w1 ⟨rfl, hb⟩
   obtain ⟨hc, hf⟩ := bcell hb
   have hz := hb.size
   simp at hz
   simp only [vecV, lit9]
   go_wp2
   go_ret
   exact ⟨rfl, (show Below w.heap.size w _ by (repeat (first | exact B7 _ _ | assumption | refine Below.alloc ?_ (by first | omega | (simp; done) | (simp; omega)) _ | refine Below.setCell ?_ (by first | omega | (simp; done) | (simp; omega)) _ | refine Below.drew ?_))).trans (hb.mono (by simp; omega)) |>.alloc (by omega) _⟩
 · rw [Bool.and_eq_true] at hv
   have Hel := H7 hel
   have hcov : covers a b = vecEq (mergeN max a (fun _ => b) 1) a := by unfold covers; rw [hv.1, hv.2, hm]; rfl
   have Hv := H7 hv
   clear hel hv hm
   go_enter Tryz.func60, Tryz.ntmps60
   simp only [vecV, lit9, hcov]
   clear hcov
   go_wp2_with fail
   refine (join_ok a _ 1 (fun _ => b) _ (by omega) (Hel.out _ _ (newBlock _ _ _ (by simp))) Hv.out.1 (fun _ _ => Hv.out.2)).mono ?_
   rintro e w1 ⟨rfl, hb⟩
   obtain ⟨hc, hf⟩ := bcell hb
   have hz := hb.size
   simp at hz
   have hz0 : w.heap.size < w1.heap.size := by omega
   simp only [vecV, lit9]
   go_wp2
   go_ret
   exact ⟨rfl, (show Below w.heap.size w _ by (repeat (first | exact B7 _ _ | assumption | refine Below.alloc ?_ (by first | omega | (simp; done) | (simp; omega)) _ | refine Below.setCell ?_ (by first | omega | (simp; done) | (simp; omega)) _ | refine Below.drew ?_))).trans (hb.mono (by simp; omega)) |>.alloc (by omega) _⟩
/- Package vector: both, Has, Next; an id of a site. -/
/- Package vector: Next, take. -/
/- Layer 18: frontiers as values (plain). -/
/-- A pledge. -/
structure Plg where
 inn : Bool
 floor : Int
 seq : Int
 has : Nat → Int
def Plg.l (p : Plg) : List Value :=
 [.bool p.inn, .int .u64 p.floor, .int .u64 p.seq, .int .u64 (p.has 0), .int .u64 (p.has 1), .int .u64 (p.has 2), .int .u64 (p.has 3), .int .u64 (p.has 4), .int .u64 (p.has 5), .int .u64 (p.has 6), .int .u64 (p.has 7), .int .u64 (p.has 8)]
def Plg.cells (p : Plg) : Array Value := p.l.toArray
def plZ : Plg := ⟨false, 0, 0, fun _ => 0⟩
theorem Plg.len (p : Plg) : p.l.length = 12 := rfl
theorem Plg.size (p : Plg) : p.cells.size = 12 := rfl
/-- A frontier. -/
structure Frt where
 folded : Int
 by_ : Nat → Int
 prop : Int
 site : Nat → Plg
def Frt.head (f : Frt) : List Value :=
 [.int .u64 f.folded, .int .u64 (f.by_ 0), .int .u64 (f.by_ 1), .int .u64 (f.by_ 2), .int .u64 (f.by_ 3), .int .u64 (f.by_ 4), .int .u64 (f.by_ 5), .int .u64 (f.by_ 6), .int .u64 (f.by_ 7), .int .u64 (f.by_ 8), .int .u64 f.prop]
def Frt.tl (f : Frt) : List Value := (List.range 9).flatMap fun k => (f.site k).l
def Frt.l (f : Frt) : List Value := f.head ++ f.tl
def Frt.cells (f : Frt) : Array Value := f.l.toArray
def frZ : Frt := ⟨0, fun _ => 0, 0, fun _ => plZ⟩
theorem flat12_get {g : Nat → List Value} (hg : ∀ k, (g k).length = 12) : ∀ (n k r : Nat), k < n → r < 12 → ((List.range n).flatMap g)[k * 12 + r]? = (g k)[r]?
 | 0, _, _, h, _ => by omega
 | n + 1, k, r, h, hr => by
  have hl : ∀ n, ((List.range n).flatMap g).length = n * 12 := fun n => by
   induction n with
   | zero => rfl
   | succ n ih => rw [List.range_succ, List.flatMap_append, List.length_append, ih]; simp [hg]; omega
  rw [List.range_succ, List.flatMap_append]
  by_cases hk : k < n
  · rw [List.getElem?_append_left (by rw [hl]; omega)]
    exact flat12_get hg n k r hk hr
  · have : k = n := by omega
    subst this
    rw [List.getElem?_append_right (by rw [hl]; omega), hl]
    simp
theorem Frt.tlen (f : Frt) : f.tl.length = 108 := rfl
theorem Frt.len (f : Frt) : f.l.length = 119 := rfl
theorem Frt.size (f : Frt) : f.cells.size = 119 := rfl
theorem Frt.tl_get (f : Frt) {k r : Nat} (hk : k < 9) (hr : r < 12) : f.tl[k * 12 + r]? = (f.site k).l[r]? := flat12_get (fun _ => rfl) 9 k r hk hr
theorem Frt.get (f : Frt) {k r : Nat} (hk : k < 9) (hr : r < 12) : f.cells[11 + (k * 12 + r)]? = (f.site k).l[r]? := by
 rw [show f.cells = f.l.toArray from rfl, List.getElem?_toArray, show f.l = f.head ++ f.tl from rfl, List.getElem?_append_right (by rw [show f.head.length = 11 from rfl]; omega), show f.head.length = 11 from rfl, show 11 + (k * 12 + r) - 11 = k * 12 + r by omega]
 exact f.tl_get hk hr
theorem Frt.get_head (f : Frt) {k : Nat} (hk : k < 11) : f.cells[k]? = f.head[k]? := by
 rw [show f.cells = f.l.toArray from rfl, List.getElem?_toArray, show f.l = f.head ++ f.tl from rfl, List.getElem?_append_left (by rw [show f.head.length = 11 from rfl]; omega)]
/-- Two frontiers with the same cells, by parts. -/
theorem Frt.ext_cells {f : Frt} {cs : Array Value} (hs : cs.size = 119) (hh : ∀ k, k < 11 → cs[k]? = f.head[k]?) (ht : ∀ k r, k < 9 → r < 12 → cs[11 + (k * 12 + r)]? = (f.site k).l[r]?) : cs = f.cells := by
 refine Array.ext_getElem? fun j => ?_
 by_cases h1 : j < 11
 · rw [hh j h1, f.get_head h1]
 · by_cases h2 : j < 119
   · have e : j = 11 + ((j - 11) / 12 * 12 + (j - 11) % 12) := by omega
     rw [e, ht _ _ (by omega) (by omega), f.get (by omega) (by omega)]
   · rw [Array.getElem?_eq_none (by omega), Array.getElem?_eq_none (by rw [f.size]; omega)]
/-- Cells written from an offset on. -/
def putAt (cs : Array Value) : Nat → List Value → Array Value
 | _, [] => cs
 | o, v :: vs => putAt (cs.setIfInBounds o v) (o + 1) vs
theorem putAt_size : ∀ (vs : List Value) (o : Nat) (cs : Array Value), (putAt cs o vs).size = cs.size
 | [], _, _ => rfl
 | v :: vs, o, cs => by rw [putAt, putAt_size vs]; simp
theorem putAt_get : ∀ (vs : List Value) (o : Nat) (cs : Array Value) (j : Nat), o + vs.length ≤ cs.size → (putAt cs o vs)[j]? = if o ≤ j ∧ j < o + vs.length then vs[j - o]? else cs[j]?
 | [], o, cs, j, _ => by rw [putAt, if_neg (by simp)]
 | v :: vs, o, cs, j, h => by
  simp only [List.length_cons] at h ⊢
  rw [putAt, putAt_get vs (o + 1) _ j (by simp; omega)]
  by_cases h1 : o + 1 ≤ j ∧ j < o + 1 + vs.length
  · rw [if_pos h1, if_pos (by omega)]
    obtain ⟨i, rfl⟩ : ∃ i, j = o + 1 + i := ⟨j - (o + 1), by omega⟩
    rw [show o + 1 + i - (o + 1) = i by omega, show o + 1 + i - o = i + 1 by omega]; rfl
  · rw [if_neg h1]
    by_cases h2 : j = o
    · subst h2
      rw [if_pos (by omega), Nat.sub_self]
      rw [Array.getElem?_setIfInBounds_self_of_lt (by omega)]; rfl
    · rw [if_neg (by omega), Array.getElem?_setIfInBounds_ne (by omega)]
theorem heap_putAt : ∀ (vs : List Value) (o : Nat) {w : World} {b : Nat} {cs : Array Value} {t : TypeId} {f : Nat × Nat}, w.heap[b]? = some (.cells cs t f) → (w.setCells b o vs).heap[b]? = some (.cells (putAt cs o vs) t f)
 | [], _, _, _, _, _, _, h => h
 | v :: vs, o, _, _, _, _, _, h => heap_putAt vs (o + 1) (h7s h v)
theorem heap_putAt_other : ∀ (vs : List Value) (o : Nat) {w : World} {b j : Nat} , j ≠ b → (w.setCells b o vs).heap[j]? = w.heap[j]?
 | [], _, _, _, _, _ => rfl
 | v :: vs, o, w, b, j, h => by
  rw [World.setCells, heap_putAt_other vs (o + 1) h]
  by_cases hj : j < w.heap.size
  · obtain ⟨ob, hob⟩ : ∃ ob, w.heap[j]? = some ob := ⟨_, Array.getElem?_eq_getElem hj⟩
    rw [hob]; exact h7o hob (fun e => h e.symm) _
  · rw [Array.getElem?_eq_none (by simp; omega), Array.getElem?_eq_none (by omega)]
/-- One site has another pledge. -/
def Frt.put (f : Frt) (n : Nat) (p : Plg) : Frt := { f with site := fun k => if k = n then p else f.site k }
theorem Frt.put_at (f : Frt) (n : Nat) (p : Plg) : (f.put n p).site n = p := by simp [Frt.put]
theorem Frt.put_ne (f : Frt) {n k : Nat} (p : Plg) (h : k ≠ n) : (f.put n p).site k = f.site k := by simp [Frt.put, h]
theorem frt_put {f : Frt} {n : Nat} (hn : n < 9) (p : Plg) : putAt f.cells (11 + n * 12) p.l = (f.put n p).cells := by
 have hs : 11 + n * 12 + p.l.length ≤ f.cells.size := by rw [p.len, f.size]; omega
 refine Frt.ext_cells (by rw [putAt_size, f.size]) (fun k hk => ?_) (fun k r hk hr => ?_)
 · rw [putAt_get _ _ _ _ hs, if_neg (by omega)]; exact f.get_head hk
 · rw [putAt_get _ _ _ _ hs, p.len]
   by_cases e : k = n
   · subst e
     rw [if_pos (by omega), f.put_at, show 11 + (k * 12 + r) - (11 + k * 12) = r by omega]
   · rw [if_neg (by omega), f.put_ne p e, f.get hk hr]
/-- Part of a pledge is written. -/
theorem frt_putHas {f : Frt} {n : Nat} (hn : n < 9) (v : Nat → Int) : putAt f.cells (11 + n * 12 + 3) (lit9 v).toList = (f.put n { f.site n with has := v }).cells := by
 have hs : 11 + n * 12 + 3 + (lit9 v).toList.length ≤ f.cells.size := by rw [show (lit9 v).toList.length = 9 from rfl, f.size]; omega
 refine Frt.ext_cells (by rw [putAt_size, f.size]) (fun k hk => ?_) (fun k r hk hr => ?_)
 · rw [putAt_get _ _ _ _ hs, if_neg (by omega)]; exact f.get_head hk
 · rw [putAt_get _ _ _ _ hs, show (lit9 v).toList.length = 9 from rfl]
   by_cases e : k = n
   · subst e
     rw [f.put_at, f.get hk hr]
     match r, hr with
     | 0, _ => rw [if_neg (by omega)]; rfl
     | 1, _ => rw [if_neg (by omega)]; rfl
     | 2, _ => rw [if_neg (by omega)]; rfl
     | r + 3, h =>
      rw [if_pos (by omega), show 11 + (k * 12 + (r + 3)) - (11 + k * 12 + 3) = r by omega]
      rfl
   · rw [if_neg (by omega), f.put_ne _ e, f.get hk hr]
theorem frt_set {f : Frt} {n r : Nat} (hn : n < 9) (hr : r < 12) (v : Value) (p : Plg) (hp : p.l = (f.site n).l.set r v) : f.cells.setIfInBounds (11 + n * 12 + r) v = (f.put n p).cells := by
 refine Frt.ext_cells (by simp [f.size]) (fun k hk => ?_) (fun k s hk hs => ?_)
 · rw [Array.getElem?_setIfInBounds_ne (by omega)]; exact f.get_head hk
 · by_cases e : k = n
   · subst e
     rw [f.put_at, hp]
     by_cases h : s = r
     · subst h
       rw [show 11 + k * 12 + s = 11 + (k * 12 + s) by omega, Array.getElem?_setIfInBounds_self_of_lt (by rw [f.size]; omega), List.getElem?_set_self (by rw [(f.site k).len]; omega)]
     · rw [Array.getElem?_setIfInBounds_ne (by omega), f.get hk hs, List.getElem?_set_ne (by omega)]
   · rw [f.put_ne _ e, Array.getElem?_setIfInBounds_ne (by omega), f.get hk hs]
theorem frt_setFloor {f : Frt} {n : Nat} (hn : n < 9) (x : Int) : f.cells.setIfInBounds (11 + n * 12 + 1) (.int .u64 x) = (f.put n { f.site n with floor := x }).cells := frt_set hn (by omega) _ _ rfl
theorem frt_setSeq {f : Frt} {n : Nat} (hn : n < 9) (x : Int) : f.cells.setIfInBounds (11 + n * 12 + 2) (.int .u64 x) = (f.put n { f.site n with seq := x }).cells := frt_set hn (by omega) _ _ rfl
theorem frt_setFolded (f : Frt) (x : Int) : f.cells.setIfInBounds 0 (.int .u64 x) = ({ f with folded := x } : Frt).cells := rfl
theorem frt_setProp (f : Frt) (x : Int) : f.cells.setIfInBounds 10 (.int .u64 x) = ({ f with prop := x } : Frt).cells := rfl
theorem frt_putBy (f : Frt) (v : Nat → Int) : putAt f.cells 1 (lit9 v).toList = ({ f with by_ := v } : Frt).cells := by
 have hs : 1 + (lit9 v).toList.length ≤ f.cells.size := by rw [show (lit9 v).toList.length = 9 from rfl, f.size]; omega
 refine Frt.ext_cells (by rw [putAt_size, f.size]) (fun k hk => ?_) (fun k r hk hr => ?_)
 · rw [putAt_get _ _ _ _ hs, show (lit9 v).toList.length = 9 from rfl]
   match k, hk with
   | 0, _ => rw [if_neg (by omega)]; rfl
   | 1, _ => rfl
   | 2, _ => rfl
   | 3, _ => rfl
   | 4, _ => rfl
   | 5, _ => rfl
   | 6, _ => rfl
   | 7, _ => rfl
   | 8, _ => rfl
   | 9, _ => rfl
   | 10, _ => rw [if_neg (by omega)]; rfl
 · rw [putAt_get _ _ _ _ hs, show (lit9 v).toList.length = 9 from rfl, if_neg (by omega), f.get hk hr]
/-- Where a site's pledge lies in a block. -/
theorem Frt.rng {w : World} {b : Nat} {f : Frt} {t : TypeId} {fr : Nat × Nat} (h : w.heap[b]? = some (.cells f.cells t fr)) {n : Nat} (hn : n < 9) : w.rangeAt b (11 + n * 12) (f.site n).l := fun j v hv =>
 c7b h (by
  have hj : j < 12 := (List.getElem?_eq_some_iff.1 hv).1
  rw [show 11 + n * 12 + j = 11 + (n * 12 + j) by omega, f.get hn hj]; exact hv)
theorem Frt.cell {w : World} {b : Nat} {f : Frt} {t : TypeId} {fr : Nat × Nat} (h : w.heap[b]? = some (.cells f.cells t fr)) {n r : Nat} (hn : n < 9) {v : Value} (hv : (f.site n).l[r]? = some v) : w.cell? ⟨b, 11 + n * 12 + r, none⟩ = some v :=
 Frt.rng h hn r v hv
theorem Frt.rngHas {w : World} {b : Nat} {f : Frt} {t : TypeId} {fr : Nat × Nat} (h : w.heap[b]? = some (.cells f.cells t fr)) {n : Nat} (hn : n < 9) : w.rangeAt b (11 + n * 12 + 3) (lit9 (f.site n).has).toList := fun j v hv => by
 have hj : j < 9 := (List.getElem?_eq_some_iff.1 hv).1
 rw [show 11 + n * 12 + 3 + j = 11 + n * 12 + (j + 3) by omega]
 exact Frt.rng h hn (j + 3) v hv
theorem Frt.rngBy {w : World} {b : Nat} {f : Frt} {t : TypeId} {fr : Nat × Nat} (h : w.heap[b]? = some (.cells f.cells t fr)) : w.rangeAt b 1 (lit9 f.by_).toList := fun j v hv => by
 have hj : j < 9 := (List.getElem?_eq_some_iff.1 hv).1
 refine c7b h ?_
 rw [f.get_head (by omega), Nat.add_comm]; rw [← hv]
 match j, hj with
 | 0, _ => rfl
 | 1, _ => rfl
 | 2, _ => rfl
 | 3, _ => rfl
 | 4, _ => rfl
 | 5, _ => rfl
 | 6, _ => rfl
 | 7, _ => rfl
 | 8, _ => rfl
theorem Frt.rngSites {w : World} {b : Nat} {f : Frt} {t : TypeId} {fr : Nat × Nat} (h : w.heap[b]? = some (.cells f.cells t fr)) : w.rangeAt b 11 f.tl := fun j v hv => by
 have hj : j < 108 := (List.getElem?_eq_some_iff.1 hv).1
 refine c7b h ?_
 rw [show f.cells = f.l.toArray from rfl, List.getElem?_toArray, show f.l = f.head ++ f.tl from rfl, List.getElem?_append_right (by rw [show f.head.length = 11 from rfl]; omega), show f.head.length = 11 from rfl, show 11 + j - 11 = j by omega]
 exact hv
theorem Frt.foldedC {w : World} {b : Nat} {f : Frt} {t : TypeId} {fr : Nat × Nat} (h : w.heap[b]? = some (.cells f.cells t fr)) : w.cell? ⟨b, 0, none⟩ = some (.int .u64 f.folded) := c7b h rfl
theorem Frt.propC {w : World} {b : Nat} {f : Frt} {t : TypeId} {fr : Nat × Nat} (h : w.heap[b]? = some (.cells f.cells t fr)) : w.cell? ⟨b, 10, none⟩ = some (.int .u64 f.prop) := c7b h rfl
theorem Plg.one (p : Plg) : p.cells.all (·.oneCell') = true := by unfold Plg.cells Plg.l; rw [List.all_toArray]; rfl
theorem Plg.onel (p : Plg) : ∀ v ∈ p.l, v.oneCell' = true := by
 have := p.one
 unfold Plg.cells at this
 rw [List.all_toArray, List.all_eq_true] at this
 exact this
theorem Frt.one (f : Frt) : f.cells.all (·.oneCell') = true := by
 unfold Frt.cells
 rw [List.all_toArray, List.all_eq_true]
 intro v hv
 rcases List.mem_append.1 hv with h | h
 · have : f.head.all (·.oneCell') = true := rfl
   exact List.all_eq_true.1 this v h
 · obtain ⟨k, -, hk⟩ := List.mem_flatMap.1 h
   exact (f.site k).onel v hk
/-- Equality by parts. -/
def plEq (p q : Plg) : Bool := p.inn == q.inn && (p.floor == q.floor && (p.seq == q.seq && (List.range 9).all fun k => p.has k == q.has k))
theorem plEq_iff (p q : Plg) : plEq p q = true ↔ p.l = q.l := by
 unfold plEq
 simp only [Bool.and_eq_true, beq_iff_eq]
 constructor
 · rintro ⟨h1, h2, h3, h4⟩
   have h5 : ∀ k, k < 9 → p.has k = q.has k := fun k hk => by
    have := List.all_eq_true.1 h4 k (List.mem_range.2 hk)
    simpa using this
   unfold Plg.l
   rw [h1, h2, h3, h5 0 (by omega), h5 1 (by omega), h5 2 (by omega), h5 3 (by omega), h5 4 (by omega), h5 5 (by omega), h5 6 (by omega), h5 7 (by omega), h5 8 (by omega)]
 · intro h
   have g : ∀ (k : Nat) (v : Value), p.l[k]? = some v → q.l[k]? = some v := fun k v hv => by rw [← h]; exact hv
   have b : ∀ k : Nat, ∀ x y : Int, p.l[k]? = some (.int .u64 x) → q.l[k]? = some (.int .u64 y) → x = y := fun k x y h1 h2 => by
    have := (g k _ h1).symm.trans h2
    injection this with e; injection e
   refine ⟨?_, b 1 _ _ rfl rfl, b 2 _ _ rfl rfl, ?_⟩
   · have := g 0 _ rfl
     injection (show some (Value.bool q.inn) = some (Value.bool p.inn) from this) with e; injection e with e; exact e.symm
   · rw [List.all_eq_true]
     intro k hk
     rw [beq_iff_eq]
     match k, List.mem_range.1 hk with
     | 0, _ => exact b 3 _ _ rfl rfl
     | 1, _ => exact b 4 _ _ rfl rfl
     | 2, _ => exact b 5 _ _ rfl rfl
     | 3, _ => exact b 6 _ _ rfl rfl
     | 4, _ => exact b 7 _ _ rfl rfl
     | 5, _ => exact b 8 _ _ rfl rfl
     | 6, _ => exact b 9 _ _ rfl rfl
     | 7, _ => exact b 10 _ _ rfl rfl
     | 8, _ => exact b 11 _ _ rfl rfl
def frEq (f g : Frt) : Bool := f.folded == g.folded && ((List.range 9).all (fun k => f.by_ k == g.by_ k) && (f.prop == g.prop && (List.range 9).all fun k => plEq (f.site k) (g.site k)))
theorem plEq_self (p : Plg) : plEq p p = true := (plEq_iff p p).2 rfl
theorem frEq_self (f : Frt) : frEq f f = true := by
 unfold frEq
 simp [plEq_self]
/- Layer 6: places, spans, boxes; which may be drawn. -/
structure PtT where
 x : Int
 y : Int
deriving DecidableEq
def PtT.val (p : PtT) : Value := .agg #[.int .i64 p.x, .int .i64 p.y]
structure SpT where
 y : Int
 f : Int
 t : Int
deriving DecidableEq
def SpT.val (s : SpT) : Value := .agg #[.int .i64 s.y, .int .i64 s.f, .int .i64 s.t]
structure BxT where
 x : Int
 y : Int
 x2 : Int
 y2 : Int
deriving DecidableEq
def BxT.val (b : BxT) : Value := .agg #[.int .i64 b.x, .int .i64 b.y, .int .i64 b.x2, .int .i64 b.y2]
/- Layer 8: a search over a canvas, plain. -/
def ixP (p : PtT) : Nat := (p.y * 32 + p.x).toNat
def onB (W H : Int) (p : PtT) : Bool := decide ((0 ≤ p.x ∧ p.x < W) ∧ (0 ≤ p.y ∧ p.y < H))
theorem onB_iff {W H : Int} {p : PtT} : onB W H p = true ↔ ((0 ≤ p.x ∧ p.x < W) ∧ (0 ≤ p.y ∧ p.y < H)) := by unfold onB; exact decide_eq_true_iff
def nbs (p : PtT) : List PtT := [⟨p.x - 1, p.y⟩, ⟨p.x + 1, p.y⟩, ⟨p.x, p.y - 1⟩, ⟨p.x, p.y + 1⟩]
theorem ixP_inj {W H : Int} {a b : PtT} (hW : W ≤ 32) (ha : onB W H a = true) (hb : onB W H b = true) (h : ixP a = ixP b) : a = b := by
 have ha := onB_iff.1 ha
 have hb := onB_iff.1 hb
 obtain ⟨x, y⟩ := a
 obtain ⟨u, v⟩ := b
 unfold ixP at h
 simp only at ha hb h
 have h1 : y = v := by omega
 have h2 : x = u := by omega
 rw [h1, h2]
theorem ixP_lt {W H : Int} {a : PtT} (hW : W ≤ 32) (hH : H ≤ 32) (ha : onB W H a = true) : ixP a < 1024 := by
 have ha := onB_iff.1 ha
 unfold ixP
 omega
/-- What was met, and in which order. -/
structure Bf where
 m : Nat → Nat
 l : List PtT
def Bf.meet (s : Bf) (p : PtT) (v : Nat) : Bf := if s.m (ixP p) = 0 then ⟨fun i => if i = ixP p then v + 1 else s.m i, s.l ++ [p]⟩ else s
def Bf.look (N : PtT → Bool) (W H : Int) (q : PtT) (s : Bf) (n : PtT) : Bf := if onB W H n && N n then s.meet n (s.m (ixP q)) else s
/-- A search from p, of whose places k have been visited. -/
structure BfI (N : PtT → Bool) (W H : Int) (m0 : Nat → Nat) (p : PtT) (k : Nat) (s : Bf) : Prop where
 nodup : s.l.Nodup
 on : ∀ q ∈ s.l, onB W H q = true
 near : ∀ q ∈ s.l, N q = true
 head : s.l[0]? = some p
 new : ∀ q ∈ s.l, m0 (ixP q) = 0
 out : ∀ i, (∀ q ∈ s.l, ixP q ≠ i) → s.m i = m0 i
 val : ∀ (j : Nat) (q : PtT), s.l[j]? = some q → 1 ≤ s.m (ixP q) ∧ s.m (ixP q) ≤ j + 1
 mono : ∀ (i j : Nat) (a b : PtT), i ≤ j → s.l[i]? = some a → s.l[j]? = some b → s.m (ixP a) ≤ s.m (ixP b)
 lead : ∀ q : PtT, s.l[k]? = some q → ∀ a ∈ s.l, s.m (ixP a) ≤ s.m (ixP q) + 1
 par : ∀ a ∈ s.l, a = p ∨ ∃ b ∈ s.l, a ∈ nbs b ∧ s.m (ixP a) = s.m (ixP b) + 1
 clo : ∀ i : Nat, i < k → ∀ q : PtT, s.l[i]? = some q → ∀ n ∈ nbs q, onB W H n = true → N n = true → m0 (ixP n) = 0 → n ∈ s.l ∧ s.m (ixP n) ≤ s.m (ixP q) + 1
 first : s.m (ixP p) = 1
theorem BfI.start (N : PtT → Bool) (W H : Int) (m0 : Nat → Nat) (p : PtT) (hp : onB W H p = true) (hn : N p = true) (h0 : m0 (ixP p) = 0) : BfI N W H m0 p 0 ((Bf.mk m0 []).meet p 0) := by
 unfold Bf.meet
 rw [if_pos h0]
 have e : ∀ j q, ([] ++ [p] : List PtT)[j]? = some q → j = 0 ∧ q = p := fun j q h => by
  match j, h with
  | 0, h => exact ⟨rfl, by simpa using h.symm⟩
  | _ + 1, h => simp at h
 refine ⟨by simp, by simpa using hp, by simpa using hn, rfl, by simpa using h0, fun i hi => ?_, fun j q h => ?_, fun i j a b _ ha hb => ?_, fun q h a ha => ?_, fun a ha => .inl (by simpa using ha), fun i hi => absurd hi (Nat.not_lt_zero _), by simp⟩
 · have h1 := hi p (by simp)
   exact if_neg fun e => h1 e.symm
 · obtain ⟨rfl, rfl⟩ := e j q h; simp
 · obtain ⟨rfl, rfl⟩ := e i a ha; obtain ⟨rfl, rfl⟩ := e j b hb; exact Nat.le_refl _
 · obtain ⟨-, rfl⟩ := e 0 q h
   have : a = q := by simpa using ha
   subst this
   omega
/-- One more is met. -/
theorem BfI.push {N : PtT → Bool} {W H : Int} {m0 : Nat → Nat} {p : PtT} {k : Nat} {s : Bf} (h : BfI N W H m0 p k s) (hW : W ≤ 32) {q n : PtT} (hq : s.l[k]? = some q) (hn : n ∈ nbs q) (ho : onB W H n = true) (hN : N n = true) (h0 : s.m (ixP n) = 0) :
 BfI N W H m0 p k ⟨fun i => if i = ixP n then s.m (ixP q) + 1 else s.m i, s.l ++ [n]⟩ := by
 have hnl : n ∉ s.l := fun hm => by
  obtain ⟨j, hj⟩ := List.mem_iff_getElem?.1 hm
  have := (h.val j n hj).1
  omega
 have hne : ∀ a ∈ s.l, ixP a ≠ ixP n := fun a ha e => hnl (ixP_inj hW (h.on a ha) ho e ▸ ha)
 have hql := List.mem_of_getElem? hq
 have hm : ∀ a ∈ s.l, (if ixP a = ixP n then s.m (ixP q) + 1 else s.m (ixP a)) = s.m (ixP a) := fun a ha => if_neg (hne a ha)
 have hm0 : m0 (ixP n) = 0 := by rw [← h.out (ixP n) fun a ha e => hne a ha e]; exact h0
 have hk : k < s.l.length := (List.getElem?_eq_some_iff.1 hq).1
 have split : ∀ (j : Nat) (a : PtT), (s.l ++ [n])[j]? = some a → s.l[j]? = some a ∨ (j = s.l.length ∧ a = n) := fun j a hj => by
  rcases Nat.lt_or_ge j s.l.length with h1 | h1
  · rw [List.getElem?_append_left h1] at hj; exact .inl hj
  · rw [List.getElem?_append_right h1] at hj
    rcases Nat.eq_or_lt_of_le h1 with e | e
    · rw [← e, Nat.sub_self] at hj; exact .inr ⟨e.symm, by simpa using hj.symm⟩
    · rw [List.getElem?_eq_none (by simp; omega)] at hj; cases hj
 refine ⟨?_, ?_, ?_, ?_, ?_, fun i hi => ?_, fun j a hj => ?_, fun i j a b hij ha hb => ?_, fun a ha b hb => ?_, fun a ha => ?_, fun i hi a ha b hb h1 h2 h3 => ?_, ?_⟩
 · rw [List.nodup_append]
   exact ⟨h.nodup, by simp, fun a ha b hb => by rw [List.mem_singleton.1 hb]; exact fun e => hnl (e ▸ ha)⟩
 · intro a ha; rcases List.mem_append.1 ha with ha | ha
   · exact h.on a ha
   · rw [List.mem_singleton.1 ha]; exact ho
 · intro a ha; rcases List.mem_append.1 ha with ha | ha
   · exact h.near a ha
   · rw [List.mem_singleton.1 ha]; exact hN
 · show (s.l ++ [n])[0]? = some p
   rw [List.getElem?_append_left (by omega)]; exact h.head
 · intro a ha; rcases List.mem_append.1 ha with ha | ha
   · exact h.new a ha
   · rw [List.mem_singleton.1 ha]; exact hm0
 · have h1 := hi n (by simp)
   show (if i = ixP n then s.m (ixP q) + 1 else s.m i) = m0 i
   rw [if_neg fun e => h1 e.symm]
   exact h.out i fun a ha => hi a (List.mem_append.2 (.inl ha))
 · show 1 ≤ (if ixP a = ixP n then s.m (ixP q) + 1 else s.m (ixP a)) ∧ (if ixP a = ixP n then s.m (ixP q) + 1 else s.m (ixP a)) ≤ j + 1
   rcases split j a hj with e | ⟨rfl, rfl⟩
   · rw [hm a (List.mem_of_getElem? e)]; exact h.val j a e
   · rw [if_pos rfl]
     have := (h.val k q hq).2
     omega
 · show (if ixP a = ixP n then s.m (ixP q) + 1 else s.m (ixP a)) ≤ (if ixP b = ixP n then s.m (ixP q) + 1 else s.m (ixP b))
   rcases split i a ha with e1 | ⟨rfl, rfl⟩
   · have hal := List.mem_of_getElem? e1
     rw [hm a hal]
     rcases split j b hb with e2 | ⟨rfl, rfl⟩
     · rw [hm b (List.mem_of_getElem? e2)]; exact h.mono i j a b hij e1 e2
     · rw [if_pos rfl]; exact h.lead q hq a hal
   · rcases split j b hb with e2 | ⟨-, rfl⟩
     · have := (List.getElem?_eq_some_iff.1 e2).1; omega
     · exact Nat.le_refl _
 · show (if ixP b = ixP n then s.m (ixP q) + 1 else s.m (ixP b)) ≤ (if ixP a = ixP n then s.m (ixP q) + 1 else s.m (ixP a)) + 1
   rcases split k a ha with e1 | ⟨e1, -⟩
   · obtain rfl : a = q := by rw [hq] at e1; exact (Option.some.inj e1).symm
     rw [hm a hql]
     rcases List.mem_append.1 hb with hb | hb
     · rw [hm b hb]; exact h.lead a hq b hb
     · rw [List.mem_singleton.1 hb, if_pos rfl]; exact Nat.le_refl _
   · omega
 · show a = p ∨ ∃ b ∈ s.l ++ [n], a ∈ nbs b ∧ (if ixP a = ixP n then s.m (ixP q) + 1 else s.m (ixP a)) = (if ixP b = ixP n then s.m (ixP q) + 1 else s.m (ixP b)) + 1
   rcases List.mem_append.1 ha with ha | ha
   · refine (h.par a ha).imp id fun ⟨b, hb, h1, h2⟩ => ⟨b, List.mem_append.2 (.inl hb), h1, ?_⟩
     rw [hm a ha, hm b hb, h2]
   · rw [List.mem_singleton.1 ha]
     exact .inr ⟨q, List.mem_append.2 (.inl hql), hn, by rw [if_pos rfl, hm q hql]⟩
 · show b ∈ s.l ++ [n] ∧ (if ixP b = ixP n then s.m (ixP q) + 1 else s.m (ixP b)) ≤ (if ixP a = ixP n then s.m (ixP q) + 1 else s.m (ixP a)) + 1
   rcases split i a ha with e1 | ⟨e1, -⟩
   · obtain ⟨h4, h5⟩ := h.clo i hi a e1 b hb h1 h2 h3
     rw [hm b h4, hm a (List.mem_of_getElem? e1)]
     exact ⟨List.mem_append.2 (.inl h4), h5⟩
   · omega
 · show (if ixP p = ixP n then s.m (ixP q) + 1 else s.m (ixP p)) = 1
   rw [hm p (List.mem_of_getElem? h.head)]; exact h.first
/-- What was met stays so. -/
structure BfG (s t : Bf) : Prop where
 l : ∃ e, t.l = s.l ++ e
 m : ∀ q ∈ s.l, t.m (ixP q) = s.m (ixP q)
theorem BfG.refl (s : Bf) : BfG s s := ⟨⟨[], by simp⟩, fun _ _ => rfl⟩
theorem BfG.mem {s t : Bf} (h : BfG s t) {q : PtT} (hq : q ∈ s.l) : q ∈ t.l := by obtain ⟨e, he⟩ := h.l; rw [he]; exact List.mem_append.2 (.inl hq)
theorem BfG.trans {s t u : Bf} (h : BfG s t) (k : BfG t u) : BfG s u := by
 obtain ⟨e, he⟩ := h.l
 obtain ⟨f, hf⟩ := k.l
 exact ⟨⟨e ++ f, by rw [hf, he, List.append_assoc]⟩, fun q hq => (k.m q (h.mem hq)).trans (h.m q hq)⟩
theorem BfG.get {s t : Bf} (h : BfG s t) {k : Nat} {q : PtT} (hq : s.l[k]? = some q) : t.l[k]? = some q := by
 obtain ⟨e, he⟩ := h.l
 rw [he, List.getElem?_append_left (List.getElem?_eq_some_iff.1 hq).1]; exact hq
theorem BfI.look {N : PtT → Bool} {W H : Int} {m0 : Nat → Nat} {p : PtT} {k : Nat} {s : Bf} (h : BfI N W H m0 p k s) (hW : W ≤ 32) {q n : PtT} (hq : s.l[k]? = some q) (hn : n ∈ nbs q) :
 BfI N W H m0 p k (s.look N W H q n) ∧ BfG s (s.look N W H q n) ∧ (onB W H n = true → N n = true → m0 (ixP n) = 0 → n ∈ (s.look N W H q n).l ∧ (s.look N W H q n).m (ixP n) ≤ (s.look N W H q n).m (ixP q) + 1) := by
 have hql := List.mem_of_getElem? hq
 unfold Bf.look
 by_cases hc : onB W H n && N n
 · rw [if_pos hc]
   have hc := Bool.and_eq_true_iff.1 hc
   unfold Bf.meet
   by_cases h0 : s.m (ixP n) = 0
   · rw [if_pos h0]
     have h1 := h.push hW hq hn hc.1 hc.2 h0
     have hne : ∀ a ∈ s.l, ixP a ≠ ixP n := fun a ha e => by
      obtain ⟨j, hj⟩ := List.mem_iff_getElem?.1 ha
      have := (h.val j a hj).1
      rw [e] at this
      omega
     refine ⟨h1, ⟨⟨[n], rfl⟩, fun a ha => if_neg (hne a ha)⟩, fun _ _ _ => ⟨by simp, ?_⟩⟩
     show (if ixP n = ixP n then s.m (ixP q) + 1 else s.m (ixP n)) ≤ (if ixP q = ixP n then s.m (ixP q) + 1 else s.m (ixP q)) + 1
     rw [if_pos rfl, if_neg (hne q hql)]
     exact Nat.le_refl _
   · rw [if_neg h0]
     refine ⟨h, BfG.refl _, fun ho _ hm => ?_⟩
     have hmem : n ∈ s.l := Classical.byContradiction fun hnm => h0 (by
      rw [h.out (ixP n) fun a ha e => hnm (ixP_inj hW (h.on a ha) ho e ▸ ha)]; exact hm)
     exact ⟨hmem, h.lead q hq n hmem⟩
 · rw [if_neg hc]
   refine ⟨h, BfG.refl _, fun h1 h2 _ => absurd (Bool.and_eq_true_iff.2 ⟨h1, h2⟩) hc⟩
theorem BfI.looks {N : PtT → Bool} {W H : Int} {m0 : Nat → Nat} {p : PtT} {k : Nat} (hW : W ≤ 32) {q : PtT} : ∀ (ns : List PtT) {s : Bf}, BfI N W H m0 p k s → s.l[k]? = some q → (∀ n ∈ ns, n ∈ nbs q) →
 BfI N W H m0 p k (ns.foldl (Bf.look N W H q) s) ∧ BfG s (ns.foldl (Bf.look N W H q) s) ∧
  ∀ n ∈ ns, onB W H n = true → N n = true → m0 (ixP n) = 0 → n ∈ (ns.foldl (Bf.look N W H q) s).l ∧ (ns.foldl (Bf.look N W H q) s).m (ixP n) ≤ (ns.foldl (Bf.look N W H q) s).m (ixP q) + 1
 | [], s, h, _, _ => ⟨h, BfG.refl _, fun n hn => absurd hn (by simp)⟩
 | n :: ns, s, h, hq, hns => by
  obtain ⟨h1, h2, h3⟩ := h.look hW hq (hns n (by simp))
  obtain ⟨h4, h5, h6⟩ := BfI.looks hW ns h1 (h2.get hq) fun a ha => hns a (by simp [ha])
  refine ⟨h4, h2.trans h5, fun a ha ho hN hm => ?_⟩
  rcases List.mem_cons.1 ha with rfl | ha
  · obtain ⟨h7, h8⟩ := h3 ho hN hm
    have h9 := h2.mem (List.mem_of_getElem? hq)
    refine ⟨h5.mem h7, ?_⟩
    exact Nat.le_trans (Nat.le_of_eq (h5.m _ h7)) (Nat.le_trans h8 (Nat.le_of_eq (congrArg (· + 1) (h5.m _ h9).symm)))
  · exact h6 a ha ho hN hm
theorem nodup_lt : ∀ (n : Nat) (l : List Nat), l.Nodup → (∀ i ∈ l, i < n) → l.length ≤ n
 | 0, [], _, _ => Nat.le_refl _
 | 0, i :: l, _, h => absurd (h i (by simp)) (Nat.not_lt_zero _)
 | n + 1, l, hl, h => by
  have h1 := nodup_lt n (l.erase n) (hl.erase n) fun i hi => by
   have h2 := (List.Nodup.mem_erase_iff hl).1 hi
   have h3 := h i h2.2
   have := h2.1
   omega
  rw [List.length_erase] at h1
  split at h1 <;> omega
theorem BfI.len {N : PtT → Bool} {W H : Int} {m0 : Nat → Nat} {p : PtT} {k : Nat} {s : Bf} (h : BfI N W H m0 p k s) (hW : W ≤ 32) (hH : H ≤ 32) : s.l.length ≤ 1024 := by
 have h1 : (s.l.map ixP).Nodup := by
  refine List.pairwise_map.2 ((List.Pairwise.and_mem.1 h.nodup).imp fun {a b} hab e => hab.2.2 (ixP_inj hW (h.on a hab.1) (h.on b hab.2.1) e))
 have h3 := nodup_lt 1024 _ h1 fun i hi => by
  obtain ⟨a, ha, rfl⟩ := List.mem_map.1 hi
  exact ixP_lt hW hH (h.on a ha)
 rwa [List.length_map] at h3
/-- A way of so many steps. -/
inductive Way (N : PtT → Bool) (W H : Int) (m0 : Nat → Nat) (p : PtT) : Nat → PtT → Prop
 | here : Way N W H m0 p 0 p
 | step {d : Nat} {b n : PtT} : Way N W H m0 p d b → n ∈ nbs b → onB W H n = true → N n = true → m0 (ixP n) = 0 → Way N W H m0 p (d + 1) n
theorem BfI.met {N : PtT → Bool} {W H : Int} {m0 : Nat → Nat} {p : PtT} {s : Bf} (h : BfI N W H m0 p s.l.length s) {d : Nat} {q : PtT} (hw : Way N W H m0 p d q) : q ∈ s.l ∧ s.m (ixP q) ≤ d + 1 := by
 induction hw with
 | here => exact ⟨List.mem_of_getElem? h.head, Nat.le_of_eq h.first⟩
 | step hb hn ho hN hm ih =>
  obtain ⟨i, hi⟩ := List.mem_iff_getElem?.1 ih.1
  obtain ⟨h1, h2⟩ := h.clo i (List.getElem?_eq_some_iff.1 hi).1 _ hi _ hn ho hN hm
  exact ⟨h1, Nat.le_trans h2 (Nat.succ_le_succ ih.2)⟩
theorem BfI.way {N : PtT → Bool} {W H : Int} {m0 : Nat → Nat} {p : PtT} {k : Nat} {s : Bf} (h : BfI N W H m0 p k s) : ∀ (d : Nat) (q : PtT), q ∈ s.l → s.m (ixP q) = d + 1 → Way N W H m0 p d q
 | 0, q, hq, hd => by
  rcases h.par q hq with rfl | ⟨b, hb, -, e⟩
  · exact .here
  · obtain ⟨i, hi⟩ := List.mem_iff_getElem?.1 hb
    have := (h.val i b hi).1
    omega
 | d + 1, q, hq, hd => by
  rcases h.par q hq with rfl | ⟨b, hb, hn, e⟩
  · have := h.first; omega
  · exact .step (BfI.way h d b hb (by omega)) hn (h.on q hq) (h.near q hq) (h.new q hq)
/- Layers 3, 4: colours, and tiles. -/
structure ColT where
 r : Int
 g : Int
 b : Int
 a : Int
deriving DecidableEq
def ColT.val (c : ColT) : Value := .agg #[.int .u8 c.r, .int .u8 c.g, .int .u8 c.b, .int .u8 c.a]
def encC (c : ColT) : List Value := [.int .u8 c.r, .int .u8 c.g, .int .u8 c.b, .int .u8 c.a]
theorem encC_len (c : ColT) : (encC c).length = 4 := rfl
/-- Its parts are bytes. -/
def okC (c : ColT) : Prop := ((0 ≤ c.r ∧ c.r < 256) ∧ (0 ≤ c.g ∧ c.g < 256)) ∧ ((0 ≤ c.b ∧ c.b < 256) ∧ (0 ≤ c.a ∧ c.a < 256))
theorem colE_run (a b : ColT) (w : World) : (Op.equal 46 a.val b.val).run Tryz.prog w = .ok (decide (a = b)) w := by
 obtain ⟨r, g, b', a'⟩ := a
 obtain ⟨s, h, c, d⟩ := b
 unfold ColT.val
 simp [Op.equal, Op.maxDepth, go_sem]
 by_cases h1 : r = s <;> by_cases h2 : g = h <;> by_cases h3 : b' = c <;> by_cases h4 : a' = d <;> simp [h1, h2, h3, h4]
end Go.Proofs.YteklfmacnnmomaaGreat
/- Layer 3: pixel.Far, pixel.Near. -/
namespace Go.Proofs.YteklfmacnnmomaaGreat
open Go.RowKit Go.Shelf
attribute [local go_sem] Oper.semAt_some
/- Layer 5: canvases; what they show. -/
abbrev TileT := { l : List ColT // l.length = 64 }
def encT (t : TileT) : List Value := t.1.flatMap encC
def zeroC : ColT := ⟨0, 0, 0, 0⟩
/-- What a canvas shows. -/
structure CanT where
 wide : Nat
 high : Nat
 tiles : List TileT
deriving DecidableEq
structure okCan (C : CanT) : Prop where
 wide : 1 ≤ C.wide ∧ C.wide ≤ 4
 high : 1 ≤ C.high ∧ C.high ≤ 4
 many : C.tiles.length = C.wide * C.high
 cols : ∀ t ∈ C.tiles, ∀ c ∈ t.1, okC c
/-- The colour of a pixel. -/
def colC (C : CanT) (x y : Nat) : ColT := (((C.tiles[y / 8 * C.wide + x / 8]?).map (·.1)).bind fun l => l[y % 8 * 8 + x % 8]?).getD zeroC
theorem tile_lt {wide high x y : Nat} (hx : x < 8 * wide) (hy : y < 8 * high) : y / 8 * wide + x / 8 < wide * high := by
 have h1 : x / 8 < wide := by omega
 have h2 : y / 8 + 1 ≤ high := by omega
 calc y / 8 * wide + x / 8 < y / 8 * wide + wide := by omega
  _ = (y / 8 + 1) * wide := by rw [Nat.add_mul, Nat.one_mul]
  _ ≤ high * wide := Nat.mul_le_mul_right _ h2
  _ = wide * high := Nat.mul_comm _ _
theorem okCan.len {C : CanT} (h : okCan C) : C.tiles.length ≤ 16 := by
 rw [h.many]
 calc C.wide * C.high ≤ 4 * 4 := Nat.mul_le_mul h.wide.2 h.high.2
  _ = 16 := rfl
theorem okCan.tile {C : CanT} (h : okCan C) {x y : Nat} (hx : x < 8 * C.wide) (hy : y < 8 * C.high) : ∃ t, C.tiles[y / 8 * C.wide + x / 8]? = some t ∧ t.1[y % 8 * 8 + x % 8]? = some (colC C x y) ∧ okC (colC C x y) := by
 have h1 := tile_lt hx hy
 rw [← h.many] at h1
 have h2 : y % 8 * 8 + x % 8 < 64 := by omega
 have h3 : y % 8 * 8 + x % 8 < (C.tiles[y / 8 * C.wide + x / 8]).1.length := by rw [(C.tiles[y / 8 * C.wide + x / 8]).2]; exact h2
 have e : colC C x y = (C.tiles[y / 8 * C.wide + x / 8]).1[y % 8 * 8 + x % 8] := by
  unfold colC
  rw [List.getElem?_eq_getElem h1]
  simp only [Option.map_some, Option.bind_some]
  rw [List.getElem?_eq_getElem h3]
  rfl
 rw [e]
 exact ⟨_, List.getElem?_eq_getElem h1, List.getElem?_eq_getElem h3, h.cols _ (List.getElem_mem _) _ (List.getElem_mem _)⟩
/-- An argument that is what a canvas shows. -/
def CanV (w : World) (C : CanT) (v : Value) : Prop := ∃ a cap, v = .agg #[.int .i64 C.wide, .int .i64 C.high, .slice a C.tiles.length cap] ∧ C.tiles.length ≤ cap ∧ Elems w (.slice a C.tiles.length cap) C.tiles.length 256 (rowC encT C.tiles)
theorem CanV.below {w w' : World} {C : CanT} {v : Value} (h : CanV w C v) (hb : Below w.heap.size w w') : CanV w' C v := by
 obtain ⟨a, cap, h1, h2, h3⟩ := h
 exact ⟨a, cap, h1, h2, h3.below hb⟩
/-- A canvas in memory. -/
structure CanAt (w : World) (p : Nat) (C : CanT) : Prop where
 ok : okCan C
 ex : ∃ (b cap : Nat) (qs : List Nat), w.heap[p]? = some (Obj.cells #[.int .i64 C.wide, .int .i64 C.high, .slice (some ⟨b, 0, none⟩) C.tiles.length cap] 205 (0, 0)) ∧ C.tiles.length ≤ cap ∧ qs.length = C.tiles.length ∧
  (∀ (i q : Nat), qs[i]? = some q → w.cell? ⟨b, i, none⟩ = some (.pointer (some ⟨q, 0, none⟩))) ∧ ∀ (i q : Nat) (t : TileT), qs[i]? = some q → C.tiles[i]? = some t → w.heap[q]? = some (Obj.cells (encT t).toArray 209 (0, 0))
theorem CanAt.below {w w' : World} {p : Nat} {C : CanT} (h : CanAt w p C) (hb : Below w.heap.size w w') : CanAt w' p C := by
 obtain ⟨ok, b, cap, qs, h1, h2, h3, h4, h5⟩ := h
 refine ⟨ok, b, cap, qs, (hb.block p (b7t h1)).trans h1, h2, h3, fun i q hq => ?_, fun i q t hq ht => (hb.block q (b7t (h5 i q t hq ht))).trans (h5 i q t hq ht)⟩
 have h6 := h4 i q hq
 exact (hb.cell (p := ⟨b, i, none⟩) (cell_lt h6)).trans h6
theorem CanAt.lt {w : World} {p : Nat} {C : CanT} (h : CanAt w p C) : p < w.heap.size := by
 obtain ⟨ok, b, cap, qs, h1, -⟩ := h
 exact b7t h1
end Go.Proofs.YteklfmacnnmomaaGreat
/- Loads and stores of whole arrays: cells that are never written out. -/
namespace Go.Proofs.YteklfmacnnmomaaGreat
open Go.RowKit Go.Shelf
section
variable {F : Fence} {n : Nat} {P : Program} {w : World} {o : Oper} {a : Act} {K : Act → World → Prop} {Q : Exit → Act → World → Prop}
theorem opIn_load (ty : TypeId) (x : Operand) (ho : o.op = .load ty x) (g : Nat) (hx : a.eval x = .pointer (some ⟨g, 0, none⟩)) (t : TypeId) (cs : Array Value) (fr : Nat × Nat) (d : TypeDesc) (hg : w.heap[g]? = some (.cells cs t fr))
 (hu : P.underlying ty = some d) (hd : (match d with | .struct _ | .array _ _ => true | _ => false) = true) (hi : (P.info? ty).map (·.size) = some cs.size) (hK : K (a.put o.dst (.agg cs)) w) : o.wpIn F n P a w K Q := by
 unfold Oper.wpIn
 refine ⟨?_, ?_⟩
 · simp [Oper.about, ho]
 · rw [Oper.semAt_plain F _ _ (by rw [ho]; intro c hc; cases hc)]
   simp only [execOp, ho, hx, Instr.loadAt, Instr.sureAddr, Sem.run_bind, Sem.run_pure, Result.andThen_ok, run_loadVar_row w g t ty cs fr d hg hu hd hi]
   exact hK
theorem opIn_load_mid (ty : TypeId) (x : Operand) (ho : o.op = .load ty x) (g off : Nat) (hx : a.eval x = .pointer (some ⟨g, off, none⟩)) (cs : List Value) (d : TypeDesc) (hc : w.rangeAt g off cs)
 (hu : P.underlying ty = some d) (hd : d.isRow = true) (hi : (P.info? ty).map (·.size) = some cs.length) (hK : K (a.put o.dst (.agg cs.toArray)) w) : o.wpIn F n P a w K Q := by
 unfold Oper.wpIn
 refine ⟨?_, ?_⟩
 · simp [Oper.about, ho]
 · rw [Oper.semAt_plain F _ _ (by rw [ho]; intro c hc; cases hc)]
   simp only [execOp, ho, hx, Instr.loadAt, Instr.sureAddr, Sem.run_bind, Sem.run_pure, Result.andThen_ok, run_loadVar_mid w g off ty cs d hc hu hd hi]
   exact hK
theorem opIn_store (ty : TypeId) (x y : Operand) (ho : o.op = .store ty x y) (g : Nat) (t : TypeId) (old cells : Array Value) (hx : a.eval x = .pointer (some ⟨g, 0, none⟩)) (hy : a.eval y = .agg cells) (hg : w.heap[g]? = some (.cells old t (0, 0)))
 (hi : (P.info? ty).map (·.size) = some cells.size) (hs : old.size = cells.size) (h1 : cells.all (·.oneCell') = true) (hK : K (a.put o.dst undef) (w.setRow g cells)) : o.wpIn F n P a w K Q := by
 unfold Oper.wpIn
 refine ⟨?_, ?_⟩
 · simp [Oper.about, ho]
 · rw [Oper.semAt_plain F _ _ (by rw [ho]; intro c hc; cases hc)]
   simp only [execOp, ho, hx, hy, Instr.storeAt, Instr.sureAddr, Sem.run_bind, Sem.run_pure, Result.andThen_ok, run_storeVar_row w g t ty old cells hg hi hs h1]
   exact hK
end
/-- A whole block is written. -/
theorem St.putRow {w0 x : World} {p : Nat} {c c' : Array Value} {t : TypeId} {f : Nat × Nat} {pre post : List It} (h : St w0 (pre ++ .blk p (.cells c t f) :: post) x) (hpre : ∀ i ∈ pre, ∃ b ob, i = .blk b ob) :
 St w0 (pre ++ .blk p (.cells c' t f) :: post) (x.setRow p c') := by
 have hp : x.heap[p]? = some (.cells c t f) := h.ok (.blk p (.cells c t f)) (List.mem_append.2 (.inr (by simp)))
 exact St.set h hpre (setRow_heap x p c c' t f hp) (fun j hj => setRow_other x p j c' hj) ⟨rfl, rfl, rfl, by simp, fun k hk => setRow_other x p k c' (by omega)⟩
end Go.Proofs.YteklfmacnnmomaaGreat
/- Whole arrays that are built: cells that are never written out. -/
namespace Go.Proofs.YteklfmacnnmomaaGreat
open Go.RowKit Go.Shelf
theorem foldl_get : ∀ (l : List Value) (cs : Array Value) (k : Nat), k + l.length ≤ cs.size → ∀ j, ((l.zipIdx k).foldl (fun (cs : Array Value) (p : Value × Nat) => cs.setIfInBounds (0 + p.2) p.1) cs)[j]? = if k ≤ j ∧ j < k + l.length then l[j - k]? else cs[j]?
 | [], cs, k, _, j => by
  have : ¬ (k ≤ j ∧ j < k + ([] : List Value).length) := by simp
  rw [if_neg this]; rfl
 | v :: l, cs, k, h, j => by
  simp only [List.length_cons] at h
  rw [List.zipIdx_cons, List.foldl_cons, foldl_get l _ (k + 1) (by rw [Array.size_setIfInBounds]; omega), Array.getElem?_setIfInBounds, Nat.zero_add]
  by_cases h1 : j = k
  · subst h1
    rw [if_neg (by omega), if_pos rfl, if_pos (by omega), if_pos (by simp)]
    simp
  · by_cases h2 : k + 1 ≤ j ∧ j < k + 1 + l.length
    · rw [if_pos h2, if_pos (by simp; omega), show j - k = (j - (k + 1)) + 1 by omega, List.getElem?_cons_succ]
    · rw [if_neg h2, if_neg (fun e => h1 e.symm), if_neg (by simp; omega)]
theorem fold_all (t cs : Array Value) (h : cs.size = t.size) : t.zipIdx.foldl (fun (cs : Array Value) (p : Value × Nat) => cs.setIfInBounds (0 + p.2) p.1) cs = t := by
 refine Array.ext_getElem? fun j => ?_
 rw [← Array.foldl_toList, Array.toList_zipIdx, foldl_get t.toList cs 0 (by simp; omega), Nat.sub_zero, Array.getElem?_toList]
 by_cases hj : j < t.size
 · rw [if_pos (by simp; omega)]
 · rw [if_neg (by simp; omega), Array.getElem?_eq_none (by omega), Array.getElem?_eq_none (by omega)]
theorem fill_one (t cs : Array Value) (h : cs.size = t.size) (place : Nat → Option (Nat × Nat)) (hp : place 0 = some (0, t.size)) : Instr.fill place cs [(0, .agg t)] = some t := by
 have h1 := fold_all t cs h
 simp only [Instr.fill, hp, Value.cells]
 have h3 : ¬ 0 + t.size > cs.size := by omega
 simp only [h1, h3]
 simp
/-- One block has turned. -/
theorem St.turn {w0 x y : World} {p : Nat} {o o' : Obj} {pre post : List It} (h : St w0 (pre ++ .blk p o :: post) x) (hpre : ∀ i ∈ pre, ∃ b ob, i = .blk b ob) (hp : y.heap[p]? = some o') (ht : Turned (fun j => j = p) x y) : St w0 (pre ++ .blk p o' :: post) y := by
 have hl : p < x.heap.size := b7t (h.ok (.blk p o) (List.mem_append.2 (.inr (by simp))))
 obtain ⟨z, hz⟩ : ∃ z : World, { x with heap := x.heap.setIfInBounds p o' } = z := ⟨_, rfl⟩
 have hzp : z.heap[p]? = some o' := by rw [← hz]; simp [hl]
 have hzo : ∀ k, k ≠ p → z.heap[k]? = x.heap[k]? := fun k hk => by
  rw [← hz]
  show (x.heap.setIfInBounds p o')[k]? = _
  rw [Array.getElem?_setIfInBounds_ne (fun e => hk e.symm)]
 have hzs : z.heap.size = x.heap.size := by rw [← hz]; simp
 have h1 : St w0 (pre ++ .blk p o' :: post) z := h.set hpre hzp hzo ⟨by rw [← hz], by rw [← hz], by rw [← hz], by rw [hzs]; exact Nat.le_refl _, fun k hk => hzo k (by omega)⟩
 refine h1.below ⟨by rw [ht.os, ← hz], by rw [ht.tape, ← hz], by rw [ht.output, ← hz], by rw [hzs]; exact ht.size, fun k hk => ?_⟩
 rw [hzs] at hk
 by_cases e : k = p
 · subst e; rw [hp, hzp]
 · rw [ht.block k hk e, hzo k e]
theorem results_cell1 {P : Program} {fn : Func} {c : Tmp} {ty : TypeId} {tmps : Array Value} {ad : Addr} {v : Value} {w : World} (h : fn.results = #[.cell c ty]) (hp : tmps.getD c undef = .pointer (some ad)) (hl : (loadVar ty ad).run P w = .ok v w) : (results fn tmps).run P w = .ok v w := by
 have hp' : (tmps[c]?).getD undef = .pointer (some ad) := by rw [← Array.getD_eq_getD_getElem?]; exact hp
 simp [results, h, hp', asAddr, hl]
theorem run_buildSlice_one {P : Program} {t e : TypeId} {n : Nat} {cs : Array Value} (w : World) (ht : P.underlying t = some (.slice e)) (hi : (P.info? e).map (fun i => (i.size, i.zero.map fun z => z.cells.size)) = some (n, some n)) (hn : 0 < n) (hn2 : n ≤ 16777216) (hc : cs.size = n) :
 (Instr.buildSlice t 1 #[(0, .agg cs)]).run P w = .ok (.slice (some ⟨w.heap.size, 0, none⟩) 1 1) (w.alloc (.cells cs e)) := by
 subst hc
 cases hit : P.info? e with
 | none => simp [hit] at hi
 | some it =>
  simp only [hit, Option.map_some, Option.some.injEq, Prod.mk.injEq] at hi
  obtain ⟨hs, hz⟩ := hi
  cases hz' : it.zero with
  | none => simp [hz'] at hz
  | some z =>
   simp only [hz', Option.map_some, Option.some.injEq] at hz
   have hf := fill_one cs ((Array.range (1 * cs.size)).map (z.cells[· % z.cells.size]!)) (by simp) (fun i => some (i * cs.size, cs.size)) (by simp)
   have h1 : ¬ (1 * cs.size > 2 ^ 24) := by omega
   have h2 : ¬ (1 * cs.size = 0) := by omega
   simp only [Nat.one_mul] at h1 h2 hf
   simp [Instr.buildSlice, run_underlying ht, sizeOf, typeInfo, zeroValue, hit, hs, hz', h1, h2, hf, newRow]
section
variable {F : Fence} {n : Nat} {P : Program} {w : World} {o : Oper} {a : Act} {K : Act → World → Prop} {Q : Exit → Act → World → Prop}
theorem opIn_buildSlice_one (t : TypeId) (x : Operand) (ho : o.op = .buildSlice t 1 #[(0, x)]) {e : TypeId} {m : Nat} (cs : Array Value) (hx : a.eval x = .agg cs) (ht : P.underlying t = some (.slice e)) (hi : (P.info? e).map (fun i => (i.size, i.zero.map fun z => z.cells.size)) = some (m, some m)) (hn : 0 < m) (hn2 : m ≤ 16777216) (hc : cs.size = m)
 (hK : K (a.put o.dst (.slice (some ⟨w.heap.size, 0, none⟩) 1 1)) (w.alloc (.cells cs e))) : o.wpIn F n P a w K Q := by
 unfold Oper.wpIn
 refine ⟨?_, ?_⟩
 · simp [Oper.about, ho]
 · rw [Oper.semAt_plain F _ _ (by rw [ho]; intro c hc; cases hc)]
   have h1 := run_buildSlice_one (t := t) w ht hi hn hn2 hc
   simp only [execOp, ho, List.map_toArray, List.map_cons, List.map_nil, hx, Sem.run_bind, h1, Result.andThen_ok]
   exact hK
theorem opIn_build (t : TypeId) (parts : Array (Nat × Operand)) (ho : o.op = .build t parts) (cells : Array Value) (hb : P.built t (parts.map fun (i, x) => (i, a.eval x)).toList = some cells) (hK : K (a.put o.dst (.agg cells)) w) : o.wpIn F n P a w K Q := by
 unfold Oper.wpIn
 refine ⟨?_, ?_⟩
 · simp [Oper.about, ho]
 · rw [Oper.semAt_plain F _ _ (by rw [ho]; intro c hc; cases hc)]
   simp only [execOp, ho, Sem.run_bind, run_build w t _ cells hb, Result.andThen_ok]
   exact hK
/-- A struct whose one field is an array. -/
theorem built_one {t : TypeId} {it : TypeInfo} {z : Value} {fs : Array Field} {f : Field} {fi : TypeInfo} (hi : P.info? t = some it) (hz : it.zero = some z) (hu : P.underlying t = some (.struct fs)) (hf : fs.toList = [f]) (h0 : f.offset = 0) (hfi : P.info? f.type = some fi)
 {cs : Array Value} (h1 : fi.size = cs.size) (h2 : z.cells.size = cs.size) : P.built t [(0, .agg cs)] = some cs := by
 have hp : fs.toList.mapM (fun f => (P.info? f.type).map fun i => (f.offset, i.size)) = some [(0, cs.size)] := by
  rw [hf]
  simp [hfi, h0, h1]
 unfold Program.built
 rw [hi, hu]
 simp only [hz, hp]
 exact fill_one cs z.cells h2 _ (by simp)
theorem built_one' {t : TypeId} {n : Nat} {fs : Array Field} (hi : (P.info? t).map (fun i => i.zero.map fun z => z.cells.size) = some (some n)) (hu : P.underlying t = some (.struct fs)) (hf : (fs.toList.map fun f => (f.offset, (P.info? f.type).map (·.size))) = [(0, some n)])
 {cs : Array Value} (h : cs.size = n) : P.built t [(0, .agg cs)] = some cs := by
 subst h
 cases hit : P.info? t with
 | none => simp [hit] at hi
 | some it =>
  simp only [hit, Option.map_some, Option.some.injEq] at hi
  cases hz : it.zero with
  | none => simp [hz] at hi
  | some z =>
   simp only [hz, Option.map_some, Option.some.injEq] at hi
   match hl : fs.toList with
   | [] => simp [hl] at hf
   | f :: g :: r => simp [hl] at hf
   | [f] =>
    simp only [hl, List.map_cons, List.map_nil, List.cons.injEq, Prod.mk.injEq, and_true] at hf
    cases hfi : P.info? f.type with
    | none => simp [hfi] at hf
    | some fi =>
     simp only [hfi, Option.map_some, Option.some.injEq] at hf
     exact built_one hit hz hu hl hf.1 hfi hf.2 hi
end
end Go.Proofs.YteklfmacnnmomaaGreat
