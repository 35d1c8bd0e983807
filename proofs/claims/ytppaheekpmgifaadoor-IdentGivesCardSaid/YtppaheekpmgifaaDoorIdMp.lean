/- Maps keyed by ids. -/
import Derived.Test.YtppaheekpmgifaaDoorIdCa
import Derived.MapKept
namespace Go.Proofs.YtppaheekpmgifaaDoor
set_option linter.unusedSimpArgs false
set_option linter.unusedVariables false
open Go.RowKit Go.Shelf

theorem id_equal (a b c d e f : Int) (w : World) : (Op.equal 27 (.agg #[.int .u64 a, .int .i64 b, .int .u64 c]) (.agg #[.int .u64 d, .int .i64 e, .int .u64 f])).run Tryd.prog w = .ok (idEqB ⟨a, b, c⟩ ⟨d, e, f⟩) w := by
  unfold idEqB
  simp [Op.equal, Op.maxDepth, go_sem]
  by_cases h1 : a = d <;> by_cases h2 : b = e <;> by_cases h3 : c = f <;> simp [h1, h2, h3]
theorem id_checkKey (em : Bool) (a b c : Int) (w : World) : (Instr.checkKey em 10000 27 (.agg #[.int .u64 a, .int .i64 b, .int .u64 c])).run Tryd.prog w = .ok () w := by
  kernel_rfl
/-- No entry has this key. -/
def NoKey (id : IdT) (es : List MapEntry) : Prop := ∀ e ∈ es, ∃ k : IdT, e.key = k.val ∧ idEqB id k = false
theorem findAsking_none (id : IdT) : ∀ (es : List MapEntry) (i : Nat) (w : World), NoKey id es → (Instr.findAsking 27 id.val es i).run Tryd.prog w = .ok none w
  | [], i, w, _ => rfl
  | e :: es, i, w, h => by
    obtain ⟨k, hk, hne⟩ := h e (by simp)
    have h1 : (Op.equal 27 id.val e.key).run Tryd.prog w = .ok false w := by rw [hk, ← hne]; exact id_equal _ _ _ _ _ _ w
    simp [Instr.findAsking, h1, Sem.run_bind, Result.andThen, findAsking_none id es (i + 1) w fun e he => h e (by simp [he])]
theorem findKey_none (id : IdT) (es : List MapEntry) (w : World) (h : NoKey id es) : (Instr.findKey 27 id.val es).run Tryd.prog w = .ok none w := by
  cases es with
  | nil => simp [Instr.findKey, run_underlying Tryd.underlying27, Instr.findNow, Sem.run_bind, Result.andThen]
  | cons e es =>
    have h1 := findAsking_none id (e :: es) 0 w h
    simp [Instr.findKey, run_underlying Tryd.underlying27, Instr.findNow, Instr.sameNow, Sem.run_bind, Result.andThen, h1]
theorem run_lookup_none (id : IdT) (b : Nat) (es : Array MapEntry) (clock : Nat) (w : World) (hb : w.heap[b]? = some (.map es clock)) (h : NoKey id es.toList) :
    (Instr.lookup 58 (.map (some b)) id.val false).run Tryd.prog w = .ok (.int .i64 0) w := by
  have h1 := findKey_none id es.toList w h
  have h2 := id_checkKey es.isEmpty id.time id.site id.seq w
  have h3 : (Instr.checkKey es.isEmpty 10000 27 id.val).run Tryd.prog w = .ok () w := h2
  have hz : (zeroValue 3).run Tryd.prog w = .ok (.int .i64 0) w := Tryd.zeroValue3 w
  simp [Instr.lookup, run_underlying Tryd.underlying58, MapKept.run_getObj_map hb, h1, h3, hz, Sem.run_bind, Result.andThen]
theorem run_update_new (id : IdT) (b : Nat) (es : Array MapEntry) (clock : Nat) (v : Value) (w : World) (hb : w.heap[b]? = some (.map es clock)) (h : NoKey id es.toList) :
    (Instr.mapUpdate 58 (.map (some b)) id.val v).run Tryd.prog w = .ok () { w with heap := w.heap.setIfInBounds b (.map (es.push { key := id.val, val := v, born := clock }) (clock + 1)) } := by
  have h1 := findKey_none id es.toList w h
  have h2 := id_checkKey false id.time id.site id.seq w
  have h3 : (Instr.checkKey false 10000 27 id.val).run Tryd.prog w = .ok () w := h2
  simp [Instr.mapUpdate, run_underlying Tryd.underlying58, MapKept.run_getObj_map hb, h1, h3, MapKept.run_setObj_map _ hb, Sem.run_bind, Result.andThen]

theorem findAsking_last (id : IdT) (v : Value) (b : Nat) : ∀ (es : List MapEntry) (i : Nat) (w : World), NoKey id es → (Instr.findAsking 27 id.val (es ++ [{ key := id.val, val := v, born := b }]) i).run Tryd.prog w = .ok (some (i + es.length, v)) w
  | [], i, w, _ => by
    have h1 : (Op.equal 27 id.val id.val).run Tryd.prog w = .ok true w := by
      have := id_equal id.time id.site id.seq id.time id.site id.seq w
      rw [show idEqB ⟨id.time, id.site, id.seq⟩ ⟨id.time, id.site, id.seq⟩ = true from (idEqB_iff _ _).2 rfl] at this
      exact this
    simp [Instr.findAsking, h1, Sem.run_bind, Result.andThen]
  | e :: es, i, w, h => by
    obtain ⟨k, hk, hne⟩ := h e (by simp)
    have h1 : (Op.equal 27 id.val e.key).run Tryd.prog w = .ok false w := by rw [hk, ← hne]; exact id_equal _ _ _ _ _ _ w
    have h2 := findAsking_last id v b es (i + 1) w fun e he => h e (by simp [he])
    simp [Instr.findAsking, h1, Sem.run_bind, Result.andThen, h2]
    omega
theorem findKey_last (id : IdT) (v : Value) (b : Nat) (es : List MapEntry) (w : World) (h : NoKey id es) : (Instr.findKey 27 id.val (es ++ [{ key := id.val, val := v, born := b }])).run Tryd.prog w = .ok (some (es.length, v)) w := by
  have h1 := findAsking_last id v b es 0 w h
  rw [Nat.zero_add] at h1
  cases es with
  | nil => simp [Instr.findKey, run_underlying Tryd.underlying27, Instr.findNow, Instr.sameNow, Sem.run_bind, Result.andThen] at h1 ⊢; exact h1
  | cons e es => simp [Instr.findKey, run_underlying Tryd.underlying27, Instr.findNow, Instr.sameNow, Sem.run_bind, Result.andThen] at h1 ⊢; exact h1
theorem sameBits_id (id : IdT) : Instr.sameBits 10000 id.val id.val = true := by
  unfold IdT.val
  simp [Instr.sameBits]
/-- Stored, or stored once more: the same. -/
theorem run_update_id (id : IdT) (b : Nat) (es : Array MapEntry) (clock : Nat) (v : Value) (w : World) (h : NoKey id es.toList)
    (hb : w.heap[b]? = some (.map es clock) ∨ w.heap[b]? = some (.map (es.push { key := id.val, val := v, born := clock }) (clock + 1))) :
    (Instr.mapUpdate 58 (.map (some b)) id.val v).run Tryd.prog w = .ok () { w with heap := w.heap.setIfInBounds b (.map (es.push { key := id.val, val := v, born := clock }) (clock + 1)) } := by
  rcases hb with hb | hb
  · exact run_update_new id b es clock v w hb h
  · have h1 := findKey_last id v clock es.toList w h
    have h3 : (Instr.checkKey false 10000 27 id.val).run Tryd.prog w = .ok () w := id_checkKey false id.time id.site id.seq w
    have h4 : (es.push { key := id.val, val := v, born := clock }).modify es.size (fun e => { e with key := id.val, val := v }) = es.push { key := id.val, val := v, born := clock } := by
      apply Array.ext_getElem?
      intro j
      rw [Array.getElem?_modify]
      by_cases e : es.size = j
      · subst e; simp
      · simp [e]
    have h5 : (Instr.keyThatStays id.val id.val).run Tryd.prog w = .ok id.val w := by
      unfold Instr.keyThatStays
      rw [sameBits_id]
      rfl
    simp [Instr.mapUpdate, run_underlying Tryd.underlying58, MapKept.run_getObj_map hb, h1, h3, h4, h5, MapKept.run_setObj_map _ hb, Sem.run_bind, Result.andThen]

/-- Nine structs of three cells. -/
structure Arr (cs : Array Value) (f : Nat → List Value) : Prop where
  size : cs.size = 27
  at_ : ∀ n r v, n < 9 → r < 3 → (f n)[r]? = some v → cs[n * 3 + r]? = some v
def set3A (cs : Array Value) (n : Nat) (a b c : Value) : Array Value := ((cs.setIfInBounds (n * 3) a).setIfInBounds (n * 3 + 1) b).setIfInBounds (n * 3 + 2) c
theorem Arr.set3 {cs : Array Value} {f : Nat → List Value} (h : Arr cs f) (n : Nat) (hn : n < 9) (a b c : Value) : Arr (set3A cs n a b c) (fun k => if k = n then [a, b, c] else f k) := by
  refine ⟨by simp [set3A, h.size], fun k r v hk hr hv => ?_⟩
  unfold set3A
  by_cases e : k = n
  · subst e
    simp only [if_true] at hv
    have hz := h.size
    match r, hr, hv with
    | 0, _, hv =>
      simp at hv; subst hv
      rw [Array.getElem?_setIfInBounds_ne (by omega), Array.getElem?_setIfInBounds_ne (by omega), Nat.add_zero, Array.getElem?_setIfInBounds_self]
      simp [hz]; omega
    | 1, _, hv =>
      simp at hv; subst hv
      rw [Array.getElem?_setIfInBounds_ne (by omega), Array.getElem?_setIfInBounds_self]
      simp [hz]; omega
    | 2, _, hv =>
      simp at hv; subst hv
      rw [Array.getElem?_setIfInBounds_self]
      simp [hz]; omega
  · rw [if_neg e] at hv
    rw [Array.getElem?_setIfInBounds_ne (by omega), Array.getElem?_setIfInBounds_ne (by omega), Array.getElem?_setIfInBounds_ne (by omega)]
    exact h.at_ k r v hk hr hv
theorem Arr.congr {cs : Array Value} {f g : Nat → List Value} (h : Arr cs f) (hg : ∀ n, n < 9 → f n = g n) : Arr cs g := ⟨h.size, fun n r v hn hr hv => h.at_ n r v hn hr (by rw [hg n hn]; exact hv)⟩
theorem Arr.cells {cs : Array Value} {f : Nat → List Value} (h : Arr cs f) {w : World} {p : Nat} {t : TypeId} {fz : Nat × Nat} (hp : w.heap[p]? = some (.cells cs t fz)) {n : Nat} (hn : n < 9) {a b c : Value} (hf : f n = [a, b, c]) :
    w.cell? ⟨p, n * 3, none⟩ = some a ∧ w.cell? ⟨p, n * 3 + 1, none⟩ = some b ∧ w.cell? ⟨p, n * 3 + 2, none⟩ = some c :=
  ⟨cell_of_block hp (h.at_ n 0 a hn (by omega) (by rw [hf]; rfl)), cell_of_block hp (h.at_ n 1 b hn (by omega) (by rw [hf]; rfl)), cell_of_block hp (h.at_ n 2 c hn (by omega) (by rw [hf]; rfl))⟩
theorem heap_setN {w : World} {p : Nat} {cs : Array Value} {t : TypeId} {f : Nat × Nat} (h : w.heap[p]? = some (.cells cs t f)) (n : Nat) (a b c : Value) :
    (((w.setCell ⟨p, n * 3, none⟩ a).setCell ⟨p, n * 3 + 1, none⟩ b).setCell ⟨p, n * 3 + 2, none⟩ c).heap[p]? = some (.cells (set3A cs n a b c) t f) :=
  heap_set_same (heap_set_same (heap_set_same h a) b) c
theorem heap_setN_other {w : World} {p j n : Nat} {ob : Obj} {a b c : Value} (h : w.heap[j]? = some ob) (hne : p ≠ j) : (((w.setCell ⟨p, n * 3, none⟩ a).setCell ⟨p, n * 3 + 1, none⟩ b).setCell ⟨p, n * 3 + 2, none⟩ c).heap[j]? = some ob :=
  heap_set_other (heap_set_other (heap_set_other h hne _) hne _) hne _
theorem below_setN {n₀ : Nat} {x w : World} {p n : Nat} {a b c : Value} (h : Below n₀ x w) (hp : n₀ ≤ p) : Below n₀ x (((w.setCell ⟨p, n * 3, none⟩ a).setCell ⟨p, n * 3 + 1, none⟩ b).setCell ⟨p, n * 3 + 2, none⟩ c) :=
  Below.setCell (Below.setCell (Below.setCell h hp _) hp _) hp _

/-- Some blocks are filled, the others stay. -/
structure FillM (n₀ : Nat) (ps : List (Nat × Obj × Obj)) (x y : World) : Prop where
  low : Below n₀ x y
  other : ∀ (j : Nat) (ob : Obj), (∀ q ∈ ps, q.1 ≠ j) → x.heap[j]? = some ob → y.heap[j]? = some ob
  done : ∀ q ∈ ps, x.heap[q.1]? = some q.2.2 → y.heap[q.1]? = some q.2.2
  fill : ∀ q ∈ ps, x.heap[q.1]? = some q.2.1 → y.heap[q.1]? = some q.2.1 ∨ y.heap[q.1]? = some q.2.2
theorem FillM.refl (n₀ : Nat) (ps : List (Nat × Obj × Obj)) (x : World) : FillM n₀ ps x x := ⟨Below.refl _ _, fun _ _ _ h => h, fun _ _ h => h, fun _ _ h => .inl h⟩
theorem FillM.trans {n₀ : Nat} {ps : List (Nat × Obj × Obj)} {x y z : World} (h : FillM n₀ ps x y) (k : FillM n₀ ps y z) : FillM n₀ ps x z :=
  ⟨h.low.trans k.low, fun j ob hj hx => k.other j ob hj (h.other j ob hj hx), fun q hq hx => k.done q hq (h.done q hq hx), fun q hq hx => by
    rcases h.fill q hq hx with e | e
    · exact k.fill q hq e
    · exact .inr (k.done q hq e)⟩
theorem FillM.drew (n₀ : Nat) (ps : List (Nat × Obj × Obj)) (x : World) : FillM n₀ ps x x.drew := ⟨(Below.refl _ _).drew, fun _ _ _ h => h, fun _ _ h => h, fun _ _ h => .inl h⟩
/-- One of them is filled. -/
theorem FillM.one {n₀ : Nat} {ps : List (Nat × Obj × Obj)} {x y : World} {p : Nat} {Z S : Obj} (hp : (p, Z, S) ∈ ps) (hnd : ∀ q ∈ ps, q.1 = p → q = (p, Z, S)) (hl : Below n₀ x y) (hy : y.heap[p]? = some S) (ho : ∀ j ob, j ≠ p → x.heap[j]? = some ob → y.heap[j]? = some ob) : FillM n₀ ps x y := by
  refine ⟨hl, fun j ob hj hx => ho j ob (fun e => hj _ hp e.symm) hx, fun q hq hx => ?_, fun q hq hx => ?_⟩
  · by_cases e : q.1 = p
    · rw [hnd q hq e]; exact hy
    · exact ho _ _ e hx
  · by_cases e : q.1 = p
    · rw [hnd q hq e]; exact .inr hy
    · exact .inl (ho _ _ e hx)
end Go.Proofs.YtppaheekpmgifaaDoor
