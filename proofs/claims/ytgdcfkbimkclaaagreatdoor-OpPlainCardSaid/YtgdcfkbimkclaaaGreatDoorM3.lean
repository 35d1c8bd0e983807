/- Merged texts: Bld OpA OpB OpC Read Ident. -/
import Derived.Test.YtgdcfkbimkclaaaGreatDoorM2
import Derived.Laws.EntriesVeiled
import Derived.Test.YtgdcfkbimkclaaaGreatDoorM1
set_option linter.unusedSimpArgs false
set_option linter.unusedVariables false
/- Whole arrays that are built: cells that are never written out. -/
namespace Go.Proofs.YtgdcfkbimkclaaaGreatDoor
open Go.RowKit Go.Shelf
theorem foldl_get : ∀ (l : List Value) (cs : Array Value) (k : Nat), k + l.length ≤ cs.size → ∀ j, ((l.zipIdx k).foldl (fun (cs : Array Value) (p : Value × Nat) => cs.setIfInBounds (0 + p.2) p.1) cs)[j]? = if k ≤ j ∧ j < k + l.length then l[j - k]? else cs[j]?
 | [], cs, k, _, j => by
  have : ¬ (k ≤ j ∧ j < k + ([] : List Value).length) := by simp
  rw [if_neg this]; rfl
 | v :: l, cs, k, h, j => by
  simp only [List.length_cons] at h
  rw [List.zipIdx_cons, List.foldl_cons, foldl_get l _ (k + 1) (by rw [Array.size_setIfInBounds]; omega), Array.getElem?_setIfInBounds, Nat.zero_add]
  by_cases h1 : j = k
  · subst h1
    rw [if_neg (by omega), if_pos rfl, if_pos (by omega), if_pos (by simp)]
    simp
  · by_cases h2 : k + 1 ≤ j ∧ j < k + 1 + l.length
    · rw [if_pos h2, if_pos (by simp; omega), show j - k = (j - (k + 1)) + 1 by omega, List.getElem?_cons_succ]
    · rw [if_neg h2, if_neg (fun e => h1 e.symm), if_neg (by simp; omega)]
theorem fold_all (t cs : Array Value) (h : cs.size = t.size) : t.zipIdx.foldl (fun (cs : Array Value) (p : Value × Nat) => cs.setIfInBounds (0 + p.2) p.1) cs = t := by
 refine Array.ext_getElem? fun j => ?_
 rw [← Array.foldl_toList, Array.toList_zipIdx, foldl_get t.toList cs 0 (by simp; omega), Nat.sub_zero, Array.getElem?_toList]
 by_cases hj : j < t.size
 · rw [if_pos (by simp; omega)]
 · rw [if_neg (by simp; omega), Array.getElem?_eq_none (by omega), Array.getElem?_eq_none (by omega)]
theorem fill_one (t cs : Array Value) (h : cs.size = t.size) (place : Nat → Option (Nat × Nat)) (hp : place 0 = some (0, t.size)) : Instr.fill place cs [(0, .agg t)] = some t := by
 have h1 := fold_all t cs h
 simp only [Instr.fill, hp, Value.cells]
 have h3 : ¬ 0 + t.size > cs.size := by omega
 simp only [h1, h3]
 simp
/-- One block has turned. -/
theorem St.turn {w0 x y : World} {p : Nat} {o o' : Obj} {pre post : List It} (h : St w0 (pre ++ .blk p o :: post) x) (hpre : ∀ i ∈ pre, ∃ b ob, i = .blk b ob) (hp : y.heap[p]? = some o') (ht : Turned (fun j => j = p) x y) : St w0 (pre ++ .blk p o' :: post) y := by
 have hl : p < x.heap.size := b7t (h.ok (.blk p o) (List.mem_append.2 (.inr (by simp))))
 obtain ⟨z, hz⟩ : ∃ z : World, { x with heap := x.heap.setIfInBounds p o' } = z := ⟨_, rfl⟩
 have hzp : z.heap[p]? = some o' := by rw [← hz]; simp [hl]
 have hzo : ∀ k, k ≠ p → z.heap[k]? = x.heap[k]? := fun k hk => by
  rw [← hz]
  show (x.heap.setIfInBounds p o')[k]? = _
  rw [Array.getElem?_setIfInBounds_ne (fun e => hk e.symm)]
 have hzs : z.heap.size = x.heap.size := by rw [← hz]; simp
 have h1 : St w0 (pre ++ .blk p o' :: post) z := h.set hpre hzp hzo ⟨by rw [← hz], by rw [← hz], by rw [← hz], by rw [hzs]; exact Nat.le_refl _, fun k hk => hzo k (by omega)⟩
 refine h1.below ⟨by rw [ht.os, ← hz], by rw [ht.tape, ← hz], by rw [ht.output, ← hz], by rw [hzs]; exact ht.size, fun k hk => ?_⟩
 rw [hzs] at hk
 by_cases e : k = p
 · subst e; rw [hp, hzp]
 · rw [ht.block k hk e, hzo k e]
theorem results_cell1 {P : Program} {fn : Func} {c : Tmp} {ty : TypeId} {tmps : Array Value} {ad : Addr} {v : Value} {w : World} (h : fn.results = #[.cell c ty]) (hp : tmps.getD c undef = .pointer (some ad)) (hl : (loadVar ty ad).run P w = .ok v w) : (results fn tmps).run P w = .ok v w := by
 have hp' : (tmps[c]?).getD undef = .pointer (some ad) := by rw [← Array.getD_eq_getD_getElem?]; exact hp
 simp [results, h, hp', asAddr, hl]
theorem results_cell2 {P : Program} {fn : Func} {c u : Tmp} {ty : TypeId} {tmps : Array Value} {ad : Addr} {v x : Value} {w : World} (h : fn.results = #[.cell c ty, .tmp u]) (hp : tmps.getD c undef = .pointer (some ad)) (hu : tmps.getD u undef = x) (hl : (loadVar ty ad).run P w = .ok v w) : (results fn tmps).run P w = .ok (.tuple #[v, x]) w := by
 have hp' : (tmps[c]?).getD undef = .pointer (some ad) := by rw [← Array.getD_eq_getD_getElem?]; exact hp
 have hu' : (tmps[u]?).getD undef = x := by rw [← Array.getD_eq_getD_getElem?]; exact hu
 simp [results, h, hp', hu', asAddr, hl]
theorem run_buildSlice_one {P : Program} {t e : TypeId} {n : Nat} {cs : Array Value} (w : World) (ht : P.underlying t = some (.slice e)) (hi : (P.info? e).map (fun i => (i.size, i.zero.map fun z => z.cells.size)) = some (n, some n)) (hn : 0 < n) (hn2 : n ≤ 16777216) (hc : cs.size = n) :
 (Instr.buildSlice t 1 #[(0, .agg cs)]).run P w = .ok (.slice (some ⟨w.heap.size, 0, none⟩) 1 1) (w.alloc (.cells cs e)) := by
 subst hc
 cases hit : P.info? e with
 | none => simp [hit] at hi
 | some it =>
  simp only [hit, Option.map_some, Option.some.injEq, Prod.mk.injEq] at hi
  obtain ⟨hs, hz⟩ := hi
  cases hz' : it.zero with
  | none => simp [hz'] at hz
  | some z =>
   simp only [hz', Option.map_some, Option.some.injEq] at hz
   have hf := fill_one cs ((Array.range (1 * cs.size)).map (z.cells[· % z.cells.size]!)) (by simp) (fun i => some (i * cs.size, cs.size)) (by simp)
   have h1 : ¬ (1 * cs.size > 2 ^ 24) := by omega
   have h2 : ¬ (1 * cs.size = 0) := by omega
   simp only [Nat.one_mul] at h1 h2 hf
   simp [Instr.buildSlice, run_underlying ht, sizeOf, typeInfo, zeroValue, hit, hs, hz', h1, h2, hf, newRow]
section
variable {F : Fence} {n : Nat} {P : Program} {w : World} {o : Oper} {a : Act} {K : Act → World → Prop} {Q : Exit → Act → World → Prop}
theorem opIn_buildSlice_one (t : TypeId) (x : Operand) (ho : o.op = .buildSlice t 1 #[(0, x)]) {e : TypeId} {m : Nat} (cs : Array Value) (hx : a.eval x = .agg cs) (ht : P.underlying t = some (.slice e)) (hi : (P.info? e).map (fun i => (i.size, i.zero.map fun z => z.cells.size)) = some (m, some m)) (hn : 0 < m) (hn2 : m ≤ 16777216) (hc : cs.size = m)
 (hK : K (a.put o.dst (.slice (some ⟨w.heap.size, 0, none⟩) 1 1)) (w.alloc (.cells cs e))) : o.wpIn F n P a w K Q := by
 unfold Oper.wpIn
 refine ⟨?_, ?_⟩
 · simp [Oper.about, ho]
 · rw [Oper.semAt_plain F _ _ (by rw [ho]; intro c hc; cases hc)]
   have h1 := run_buildSlice_one (t := t) w ht hi hn hn2 hc
   simp only [execOp, ho, List.map_toArray, List.map_cons, List.map_nil, hx, Sem.run_bind, h1, Result.andThen_ok]
   exact hK
theorem opIn_build (t : TypeId) (parts : Array (Nat × Operand)) (ho : o.op = .build t parts) (cells : Array Value) (hb : P.built t (parts.map fun (i, x) => (i, a.eval x)).toList = some cells) (hK : K (a.put o.dst (.agg cells)) w) : o.wpIn F n P a w K Q := by
 unfold Oper.wpIn
 refine ⟨?_, ?_⟩
 · simp [Oper.about, ho]
 · rw [Oper.semAt_plain F _ _ (by rw [ho]; intro c hc; cases hc)]
   simp only [execOp, ho, Sem.run_bind, run_build w t _ cells hb, Result.andThen_ok]
   exact hK
/-- A struct whose one field is an array. -/
theorem built_one {t : TypeId} {it : TypeInfo} {z : Value} {fs : Array Field} {f : Field} {fi : TypeInfo} (hi : P.info? t = some it) (hz : it.zero = some z) (hu : P.underlying t = some (.struct fs)) (hf : fs.toList = [f]) (h0 : f.offset = 0) (hfi : P.info? f.type = some fi)
 {cs : Array Value} (h1 : fi.size = cs.size) (h2 : z.cells.size = cs.size) : P.built t [(0, .agg cs)] = some cs := by
 have hp : fs.toList.mapM (fun f => (P.info? f.type).map fun i => (f.offset, i.size)) = some [(0, cs.size)] := by
  rw [hf]
  simp [hfi, h0, h1]
 unfold Program.built
 rw [hi, hu]
 simp only [hz, hp]
 exact fill_one cs z.cells h2 _ (by simp)
theorem built_one' {t : TypeId} {n : Nat} {fs : Array Field} (hi : (P.info? t).map (fun i => i.zero.map fun z => z.cells.size) = some (some n)) (hu : P.underlying t = some (.struct fs)) (hf : (fs.toList.map fun f => (f.offset, (P.info? f.type).map (·.size))) = [(0, some n)])
 {cs : Array Value} (h : cs.size = n) : P.built t [(0, .agg cs)] = some cs := by
 subst h
 cases hit : P.info? t with
 | none => simp [hit] at hi
 | some it =>
  simp only [hit, Option.map_some, Option.some.injEq] at hi
  cases hz : it.zero with
  | none => simp [hz] at hi
  | some z =>
   simp only [hz, Option.map_some, Option.some.injEq] at hi
   match hl : fs.toList with
   | [] => simp [hl] at hf
   | f :: g :: r => simp [hl] at hf
   | [f] =>
    simp only [hl, List.map_cons, List.map_nil, List.cons.injEq, Prod.mk.injEq, and_true] at hf
    cases hfi : P.info? f.type with
    | none => simp [hfi] at hf
    | some fi =>
     simp only [hfi, Option.map_some, Option.some.injEq] at hf
     exact built_one hit hz hu hl hf.1 hfi hf.2 hi
end
end Go.Proofs.YtgdcfkbimkclaaaGreatDoor
/- Layer 12: kinds, and what they use. -/
namespace Go.Proofs.YtgdcfkbimkclaaaGreatDoor
open Go.RowKit Go.Shelf
attribute [local go_sem] Oper.semAt_some
def isKind (k : Int) : Bool := decide (1 ≤ k ∧ k ≤ 8)
theorem isKind_iff {k : Int} : isKind k = true ↔ 1 ≤ k ∧ k ≤ 8 := by unfold isKind; exact decide_eq_true_iff
set_option maxRecDepth 100000 in
theorem opIs_any (k : Int) (w : World) : Calls Tryz.prog 50 #[.int .i64 k] w (Gives (.bool (isKind k)) w) := by
 unfold isKind
 rw [Bool.decide_and]
 obtain ⟨b1, h1⟩ : ∃ b1, decide (1 ≤ k) = b1 := ⟨_, rfl⟩
 obtain ⟨b2, h2⟩ : ∃ b2, decide (k ≤ 8) = b2 := ⟨_, rfl⟩
 rw [h1, h2]
 cases b1 <;> cases b2 <;> (
  go_enter Tryz.func50, Tryz.ntmps50
  go_wp2_with fail
  go_ret
  exact ⟨rfl, B7 _ _⟩)
set_option maxRecDepth 100000 in
theorem opPaints_any (k : Int) (w : World) : Calls Tryz.prog 16 #[.int .i64 k] w (Gives (.bool (isKind k && decide (k ≤ 6))) w) := by
 have HI := H7 (fun w' => opIs_any k w')
 obtain ⟨b1, h1⟩ : ∃ b1, isKind k = b1 := ⟨_, rfl⟩
 obtain ⟨b2, h2⟩ : ∃ b2, decide (k ≤ 6) = b2 := ⟨_, rfl⟩
 rw [h1] at HI
 rw [h1, h2]
 clear h1
 cases b1 <;> cases b2 <;> (
  go_enter Tryz.func16, Tryz.ntmps16
  go_wp2_with fail
  refine (HI.out _).mono ?_
  rintro e w2 ⟨rfl, hb⟩
  go_wp2_with fail
  go_ret
  exact ⟨rfl, hb⟩)
/-- The fields' names. -/
abbrev nX : Value := .string ⟨#[88]⟩
abbrev nY : Value := .string ⟨#[89]⟩
abbrev nX2 : Value := .string ⟨#[88, 50]⟩
abbrev nY2 : Value := .string ⟨#[89, 50]⟩
abbrev nSize : Value := .string ⟨#[83, 105, 122, 101]⟩
abbrev nColor : Value := .string ⟨#[67, 111, 108, 111, 114]⟩
abbrev nStamp : Value := .string ⟨#[83, 116, 97, 109, 112]⟩
abbrev nTarget : Value := .string ⟨#[84, 97, 114, 103, 101, 116]⟩
abbrev strO (c : Array Value) : Obj := .cells c 9 (0, 0)
/-- What is laid for the kinds. -/
structure WaysAt (g1 g2 g3 g4 g5 : Nat) (w : World) : Prop where
 brush : w.heap[g1]? = some (strO #[nX, nY, nX2, nY2, nSize, nColor])
 box : w.heap[g2]? = some (strO #[nX, nY, nX2, nY2, nColor])
 of : w.heap[g3]? = some (strO #[nTarget])
 fill : w.heap[g4]? = some (strO #[nX, nY, nSize, nColor])
 stamp : w.heap[g5]? = some (strO #[nX, nY, nStamp])
theorem WaysAt.below {g1 g2 g3 g4 g5 : Nat} {w w' : World} (h : WaysAt g1 g2 g3 g4 g5 w) (hb : Below w.heap.size w w') : WaysAt g1 g2 g3 g4 g5 w' :=
 ⟨(hb.block _ (b7t h.brush)).trans h.brush, (hb.block _ (b7t h.box)).trans h.box, (hb.block _ (b7t h.of)).trans h.of, (hb.block _ (b7t h.fill)).trans h.fill, (hb.block _ (b7t h.stamp)).trans h.stamp⟩
abbrev fV (n : FuncId) : Value := .func (.func n) #[] #[]
abbrev sl (g n : Nat) : Value := .slice (some ⟨g, 0, none⟩) n n
def kindsA (g1 g2 g3 g4 g5 : Nat) : Array Value :=
 #[.slice none 0 0, .nilFunc, .nilFunc, sl g1 6, fV 95, fV 96, sl g1 6, fV 95, fV 96,
  sl g2 5, fV 98, fV 99, sl g2 5, fV 100, fV 99, sl g4 4, fV 101, fV 94,
  sl g5 3, fV 102, fV 103, sl g3 1, fV 97, fV 93, sl g3 1, fV 97, fV 93]
def ways0 : Array Value := #[.slice none 0 0, .nilFunc, .nilFunc, .slice none 0 0, .nilFunc, .nilFunc, .slice none 0 0, .nilFunc, .nilFunc, .slice none 0 0, .nilFunc, .nilFunc, .slice none 0 0, .nilFunc, .nilFunc, .slice none 0 0, .nilFunc, .nilFunc, .slice none 0 0, .nilFunc, .nilFunc, .slice none 0 0, .nilFunc, .nilFunc, .slice none 0 0, .nilFunc, .nilFunc]
set_option maxRecDepth 100000 in
set_option maxHeartbeats 2000000 in
theorem ways_any (w : World) : Calls Tryz.prog 52 #[] w fun e w' => ∃ g1 g2 g3 g4 g5, e = .returned (.agg (kindsA g1 g2 g3 g4 g5)) ∧ WaysAt g1 g2 g3 g4 g5 w' ∧ Below w.heap.size w w' := by
 have HS := H7 (St.start w)
 go_enter Tryz.func52, Tryz.ntmps52
 repeat ((fail_if_success (with_reducible refine stop_at (id := 3) ?_)); (first | go_values | go_skip | go_guarded | go_step | go_upon | go_back | (simp only [Int.not_lt, Int.not_le] at *; go_simp) | (go_values <;> (try go_simp)) | (go_ite <;> go_prune <;> (try go_simp)) | (split <;> (first | (rename_i hx; exact (hx _ rfl).elim) | go_prune))))
 obtain ⟨Z, hZ⟩ : ∃ Z : Array Value, Z = ways0 := ⟨_, rfl⟩
 have HZ := H7 hZ
 have hz2 := hZ
 unfold ways0 at hz2
 rw [← hz2]
 clear hz2 hZ
 have hs_ := (HS.out.alloc (.cells Z 95))
 obtain ⟨w1, hw_⟩ : ∃ w1 : World, (w.alloc (.cells Z 95)) = w1 := ⟨_, rfl⟩
 rw [hw_] at hs_
 try simp only [World.size_alloc] at hs_
 have HS := H7 hs_
 rw [hw_]
 clear hw_ hs_
 repeat ((fail_if_success (with_reducible refine stop_at (id := 4) ?_)); (first | go_values | go_skip | go_guarded | go_step | go_upon | go_back | (simp only [Int.not_lt, Int.not_le] at *; go_simp) | (go_values <;> (try go_simp)) | (go_ite <;> go_prune <;> (try go_simp)) | (split <;> (first | (rename_i hx; exact (hx _ rfl).elim) | go_prune))))
 have hs_ := ((HS.out.alloc (.cells #[nX, nY, nX2, nY2, nSize, nColor] 9)).alloc (.cells #[sl w1.heap.size 6, fV 95, fV 96] 94))
 obtain ⟨w2, hw_⟩ : ∃ w2 : World, ((w1.alloc (.cells #[nX, nY, nX2, nY2, nSize, nColor] 9)).alloc (.cells #[sl w1.heap.size 6, fV 95, fV 96] 94)) = w2 := ⟨_, rfl⟩
 rw [hw_] at hs_
 try simp only [World.size_alloc] at hs_
 have HS := H7 hs_
 rw [hw_]
 clear hw_ hs_
 repeat ((fail_if_success (with_reducible refine stop_at (id := 5) ?_)); (first | go_values | go_skip | go_guarded | go_step | go_upon | go_back | (simp only [Int.not_lt, Int.not_le] at *; go_simp) | (go_values <;> (try go_simp)) | (go_ite <;> go_prune <;> (try go_simp)) | (split <;> (first | (rename_i hx; exact (hx _ rfl).elim) | go_prune))))
 have hs_ := (HS.out.alloc (.cells #[nX, nY, nX2, nY2, nColor] 9))
 obtain ⟨w3, hw_⟩ : ∃ w3 : World, (w2.alloc (.cells #[nX, nY, nX2, nY2, nColor] 9)) = w3 := ⟨_, rfl⟩
 rw [hw_] at hs_
 try simp only [World.size_alloc] at hs_
 have HS := H7 hs_
 rw [hw_]
 clear hw_ hs_
 repeat ((fail_if_success (with_reducible refine stop_at (id := 6) ?_)); (first | go_values | go_skip | go_guarded | go_step | go_upon | go_back | (simp only [Int.not_lt, Int.not_le] at *; go_simp) | (go_values <;> (try go_simp)) | (go_ite <;> go_prune <;> (try go_simp)) | (split <;> (first | (rename_i hx; exact (hx _ rfl).elim) | go_prune))))
 have hs_ := ((HS.out.alloc (.cells #[nTarget] 9)).alloc (.cells #[sl w3.heap.size 1, fV 97, fV 93] 94))
 obtain ⟨w4, hw_⟩ : ∃ w4 : World, ((w3.alloc (.cells #[nTarget] 9)).alloc (.cells #[sl w3.heap.size 1, fV 97, fV 93] 94)) = w4 := ⟨_, rfl⟩
 rw [hw_] at hs_
 try simp only [World.size_alloc] at hs_
 have HS := H7 hs_
 rw [hw_]
 clear hw_ hs_
 have x0 := h7c HS 3 0 rfl rfl
 have x1 := h7c HS 3 1 rfl rfl
 have x2 := h7c HS 3 2 rfl rfl
 have y0 := c7b (k := 0) (((HS.out.alloc (.cells #[nX, nY, nSize, nColor] 9)).alloc (.cells #[nX, nY, nStamp] 9)).blockAt 2 rfl) rfl
 have y1 := c7b (k := 1) (((HS.out.alloc (.cells #[nX, nY, nSize, nColor] 9)).alloc (.cells #[nX, nY, nStamp] 9)).blockAt 2 rfl) rfl
 have y2 := c7b (k := 2) (((HS.out.alloc (.cells #[nX, nY, nSize, nColor] 9)).alloc (.cells #[nX, nY, nStamp] 9)).blockAt 2 rfl) rfl
 have hst := (HS.out.alloc (.cells #[nX, nY, nSize, nColor] 9)).alloc (.cells #[nX, nY, nStamp] 9)
 have hzb := hst.blockAt 7 rfl
 have hzs : Z.size = (kindsA w1.heap.size w2.heap.size w3.heap.size w4.heap.size (w4.heap.size + 1)).size := by rw [HZ.out]; rfl
 refine (wpIn_wide (n := 0)).1 ?_
 iterate 44 gi_step
 refine opIn_store 95 _ _ rfl w.heap.size 95 Z (kindsA w1.heap.size w2.heap.size w3.heap.size w4.heap.size (w4.heap.size + 1)) rfl rfl hzb (by kernel_rfl) hzs (by unfold kindsA; rw [List.all_toArray]; rfl) ?_
 simp only [Act.put, List.setIfInBounds_toArray, List.set_cons_succ, List.set_cons_zero]
 have hs5 := hst.putRow (c' := kindsA w1.heap.size w2.heap.size w3.heap.size w4.heap.size (w4.heap.size + 1)) (pre := [_, _, _, _, _, _, _]) (by intro i hi; simp at hi; rcases hi with rfl | rfl | rfl | rfl | rfl | rfl | rfl <;> exact ⟨_, _, rfl⟩)
 clear x0 x1 x2 y0 y1 y2 hst hzb hzs
 obtain ⟨w5, hw5⟩ : ∃ w5, ((w4.alloc (.cells #[nX, nY, nSize, nColor] 9)).alloc (.cells #[nX, nY, nStamp] 9)).setRow w.heap.size (kindsA w1.heap.size w2.heap.size w3.heap.size w4.heap.size (w4.heap.size + 1)) = w5 := ⟨_, rfl⟩
 rw [hw5] at hs5
 rw [hw5]
 clear hw5
 have HS := H7 hs5
 clear hs5
 gi_wp2_with fail
 go_wp2_with fail
 have hl := run_loadVar_row (P := Tryz.prog) w5 w.heap.size 95 95 (kindsA w1.heap.size w2.heap.size w3.heap.size w4.heap.size (w4.heap.size + 1)) (0, 0) _ (HS.out.blockAt 7 rfl) Tryz.underlying95 rfl (by kernel_rfl)
 refine bodyPost_ret (results_cell1 Tryz.results52 rfl hl) rfl ⟨w1.heap.size, w2.heap.size, w3.heap.size, w4.heap.size, w4.heap.size + 1, rfl, ⟨HS.out.blockAt 6 rfl, HS.out.blockAt 4 rfl, HS.out.blockAt 3 rfl, HS.out.blockAt 1 rfl, ?_⟩, HS.out.low⟩
 exact HS.out.blockAt 0 (by simp)
/- Layer 12: uses. -/
def usesN (k : Int) : List Value :=
 if k = 1 ∨ k = 2 then [nX, nY, nX2, nY2, nSize, nColor] else if k = 3 ∨ k = 4 then [nX, nY, nX2, nY2, nColor] else if k = 5 then [nX, nY, nSize, nColor] else if k = 6 then [nX, nY, nStamp] else if k = 7 ∨ k = 8 then [nTarget] else []
/-- A row of names, in memory. -/
def UsesV (ns : List Value) (v : Value) (w : World) : Prop := (ns = [] ∧ v = .slice none 0 0) ∨ ∃ g, v = sl g ns.length ∧ w.heap[g]? = some (strO ns.toArray)
theorem UsesV.below {ns : List Value} {v : Value} {w w' : World} (h : UsesV ns v w) (hb : Below w.heap.size w w') : UsesV ns v w' := by
 rcases h with h | ⟨g, h1, h2⟩
 · exact .inl h
 · exact .inr ⟨g, h1, (hb.block _ (b7t h2)).trans h2⟩
theorem usesN_no {k : Int} (h : isKind k = false) : usesN k = [] := by
 have h2 : ¬ (1 ≤ k ∧ k ≤ 8) := fun h3 => by rw [isKind_iff.2 h3] at h; cases h
 unfold usesN
 rw [if_neg (by omega), if_neg (by omega), if_neg (by omega), if_neg (by omega), if_neg (by omega)]
/-- A kind's way, out of the array. -/
theorem run_index_way (cs : Array Value) (hc : cs.size = 27) (k : Nat) (hk : k < 9) (w : World) : (Instr.index 95 (.agg cs) (.int .i64 (k : Int))).run Tryz.prog w = .ok (.agg (cs.extract (k * 3) (k * 3 + 3))) w := by
 have hn : (0 : Int) ≤ (k : Int) ∧ (k : Int) < 9 := by omega
 have h1 := Tryz.isAgg94 w
 have h2 := Tryz.sizeOf94 w
 simp [Instr.index, run_underlying Tryz.underlying95, asIntOf, hn, part, h1, h2, go_sem, hc]
 try (intro h'; omega)
theorem run_uses_way (x y z : Value) (hx : ∃ a n c, x = .slice a n c) (w : World) : (Instr.field 94 (.agg #[x, y, z]) 0).run Tryz.prog w = .ok x w := by
 obtain ⟨a, n, c, rfl⟩ := hx
 have h1 := Tryz.isAgg88 w
 have h2 := Tryz.sizeOf88 w
 simp [Instr.field, run_underlying Tryz.underlying94, part, asAgg, h1, h2, go_sem]
theorem run_way1 (g1 g2 g3 g4 g5 : Nat) (w : World) : (Instr.index 95 (.agg (kindsA g1 g2 g3 g4 g5)) (.int .i64 1)).run Tryz.prog w = .ok (.agg #[sl g1 6, fV 95, fV 96]) w := (run_index_way (kindsA g1 g2 g3 g4 g5) rfl 1 (by decide) w).trans (by simp [kindsA])
theorem run_way2 (g1 g2 g3 g4 g5 : Nat) (w : World) : (Instr.index 95 (.agg (kindsA g1 g2 g3 g4 g5)) (.int .i64 2)).run Tryz.prog w = .ok (.agg #[sl g1 6, fV 95, fV 96]) w := (run_index_way (kindsA g1 g2 g3 g4 g5) rfl 2 (by decide) w).trans (by simp [kindsA])
theorem run_way3 (g1 g2 g3 g4 g5 : Nat) (w : World) : (Instr.index 95 (.agg (kindsA g1 g2 g3 g4 g5)) (.int .i64 3)).run Tryz.prog w = .ok (.agg #[sl g2 5, fV 98, fV 99]) w := (run_index_way (kindsA g1 g2 g3 g4 g5) rfl 3 (by decide) w).trans (by simp [kindsA])
theorem run_way4 (g1 g2 g3 g4 g5 : Nat) (w : World) : (Instr.index 95 (.agg (kindsA g1 g2 g3 g4 g5)) (.int .i64 4)).run Tryz.prog w = .ok (.agg #[sl g2 5, fV 100, fV 99]) w := (run_index_way (kindsA g1 g2 g3 g4 g5) rfl 4 (by decide) w).trans (by simp [kindsA])
theorem run_way5 (g1 g2 g3 g4 g5 : Nat) (w : World) : (Instr.index 95 (.agg (kindsA g1 g2 g3 g4 g5)) (.int .i64 5)).run Tryz.prog w = .ok (.agg #[sl g4 4, fV 101, fV 94]) w := (run_index_way (kindsA g1 g2 g3 g4 g5) rfl 5 (by decide) w).trans (by simp [kindsA])
theorem run_way6 (g1 g2 g3 g4 g5 : Nat) (w : World) : (Instr.index 95 (.agg (kindsA g1 g2 g3 g4 g5)) (.int .i64 6)).run Tryz.prog w = .ok (.agg #[sl g5 3, fV 102, fV 103]) w := (run_index_way (kindsA g1 g2 g3 g4 g5) rfl 6 (by decide) w).trans (by simp [kindsA])
theorem run_way7 (g1 g2 g3 g4 g5 : Nat) (w : World) : (Instr.index 95 (.agg (kindsA g1 g2 g3 g4 g5)) (.int .i64 7)).run Tryz.prog w = .ok (.agg #[sl g3 1, fV 97, fV 93]) w := (run_index_way (kindsA g1 g2 g3 g4 g5) rfl 7 (by decide) w).trans (by simp [kindsA])
theorem run_way8 (g1 g2 g3 g4 g5 : Nat) (w : World) : (Instr.index 95 (.agg (kindsA g1 g2 g3 g4 g5)) (.int .i64 8)).run Tryz.prog w = .ok (.agg #[sl g3 1, fV 97, fV 93]) w := (run_index_way (kindsA g1 g2 g3 g4 g5) rfl 8 (by decide) w).trans (by simp [kindsA])
set_option maxRecDepth 100000 in
set_option maxHeartbeats 2000000 in
theorem uses_any (k : Int) (w : World) : Calls Tryz.prog 48 #[.int .i64 k] w fun e w' => ∃ v, e = .returned v ∧ UsesV (usesN k) v w' ∧ Below w.heap.size w w' := by
 have HI := H7 (fun w' => opIs_any k w')
 cases hk : isKind k with
 | false =>
  rw [hk] at HI
  have HU := H7 (usesN_no hk)
  clear hk
  go_enter Tryz.func48, Tryz.ntmps48
  go_wp2_with fail
  refine (HI.out _).mono ?_
  rintro e w2 ⟨rfl, hb⟩
  go_wp2_with fail
  go_ret
  exact ⟨_, rfl, .inl ⟨HU.out, rfl⟩, hb⟩
 | true =>
  rw [hk] at HI
  have h8 := isKind_iff.1 hk
  rcases (show k = 1 ∨ k = 2 ∨ k = 3 ∨ k = 4 ∨ k = 5 ∨ k = 6 ∨ k = 7 ∨ k = 8 by omega) with rfl | rfl | rfl | rfl | rfl | rfl | rfl | rfl
  all_goals
   clear hk h8
   go_enter Tryz.func48, Tryz.ntmps48
   go_wp2_with fail
   refine (HI.out _).mono ?_
   rintro e w2 ⟨rfl, hb⟩
   go_wp2_with fail
   refine (ways_any w2).mono ?_
   rintro e w3 ⟨g1, g2, g3, g4, g5, rfl, hW, hb3⟩
   obtain ⟨A, hA⟩ : ∃ A, kindsA g1 g2 g3 g4 g5 = A := ⟨_, rfl⟩
   have r1 := run_way1 g1 g2 g3 g4 g5 w3
   have r2 := run_way2 g1 g2 g3 g4 g5 w3
   have r3 := run_way3 g1 g2 g3 g4 g5 w3
   have r4 := run_way4 g1 g2 g3 g4 g5 w3
   have r5 := run_way5 g1 g2 g3 g4 g5 w3
   have r6 := run_way6 g1 g2 g3 g4 g5 w3
   have r7 := run_way7 g1 g2 g3 g4 g5 w3
   have r8 := run_way8 g1 g2 g3 g4 g5 w3
   have u1 := fun (a n : Nat) (y z : Value) => run_uses_way (sl a n) y z ⟨_, _, _, rfl⟩ w3
   rw [hA] at r1 r2 r3 r4 r5 r6 r7 r8 ⊢
   clear hA
   go_wp2_with fail
   go_ret
   refine ⟨_, rfl, .inr ?_, hb.trans (hb3.mono hb.size)⟩
   first | exact ⟨g1, rfl, hW.brush⟩ | exact ⟨g2, rfl, hW.box⟩ | exact ⟨g4, rfl, hW.fill⟩ | exact ⟨g5, rfl, hW.stamp⟩ | exact ⟨g3, rfl, hW.of⟩
/- Layer 9: stamps: Check, Same; colours' rows. -/
theorem lay_eqC : Go.Proofs.SlLaysQ.n8 Tryz.prog ⟨fun | 8 => 89 | n => n, fun | 22 => 27 | 24 => 26 | 4 => 4 | 3 => 3 | 0 => 0 | n => n, fun | n => n⟩ := {
 mixed := by kernel_rfl
 f8 := ⟨Tryz.f89.name, by decide, Tryz.func89.trans (congrArg some (by kernel_rfl))⟩
 t22 := Tryz.underlying27
 a22 := Tryz.isAgg27
 z22 := Tryz.sizeOf27
 v22 := Tryz.zeroValue27
 t4 := Tryz.underlying4
 a4 := Tryz.isAgg4
 z4 := Tryz.sizeOf4
 v4 := Tryz.zeroValue4
 t3 := Tryz.underlying3
 a3 := Tryz.isAgg3
 z3 := Tryz.sizeOf3
 v3 := Tryz.zeroValue3
 t0 := Tryz.underlying0
 a0 := Tryz.isAgg0
 z0 := Tryz.sizeOf0
 v0 := Tryz.zeroValue0 }
theorem lay_cloneC : Go.Proofs.SlLaysE0.n41 Tryz.prog ⟨fun | 41 => 37 | n => n, fun | 22 => 27 | 23 => 26 | 4 => 4 | n => n, fun | n => n⟩ := {
 mixed := by kernel_rfl
 f41 := ⟨Tryz.f37.name, by decide, Tryz.func37.trans (congrArg some (by kernel_rfl))⟩
 t22 := Tryz.underlying27
 a22 := Tryz.isAgg27
 z22 := Tryz.sizeOf27
 v22 := Tryz.zeroValue27
 t4 := Tryz.underlying4
 a4 := Tryz.isAgg4
 z4 := Tryz.sizeOf4
 v4 := Tryz.zeroValue4 }
theorem run_neq_col (a b : ColT) (w : World) : (binOp .neq 26 (.agg (encC a).toArray) (.agg (encC b).toArray)).run Tryz.prog w = .ok (.bool (!decide (a = b))) w := by
 have h := colE_run a b w
 unfold ColT.val at h
 unfold encC
 simp [binOp, h]
theorem neq_col : NeqAt Tryz.prog 26 (fun x => .agg (encC x).toArray) (fun a b => decide (a = b)) := ⟨fun x y w => run_neq_col x y w, GuardAt.agg _ (by kernel_rfl)⟩
instance : Inhabited ColT := ⟨⟨0, 0, 0, 0⟩⟩
theorem encC_one : ∀ (q : ColT), ∀ u ∈ encC q, u.oneCell' = true := by
 intro q u hu
 unfold encC at hu
 simp only [List.mem_cons, List.not_mem_nil, or_false] at hu
 rcases hu with rfl | rfl | rfl | rfl <;> rfl
theorem infoCl : (Tryz.prog.info? 26).map (fun i => (i.zero, i.size, i.bytes)) = some (some (.agg #[.int .u8 0, .int .u8 0, .int .u8 0, .int .u8 0]), 4, 4) := by kernel_rfl
theorem eqC_any (s1 s2 : Value) (l m : List ColT) (w : World) (h1 : Elems w s1 l.length 4 (rowC encC l)) (h2 : Elems w s2 m.length 4 (rowC encC m)) (hl : l.length ≤ 1000000000) :
 Calls Tryz.prog 89 #[s1, s2] w (Gives (.bool (sameB l m)) w) := by
 rw [← allEq_sameB (fun a b : ColT => decide (a = b)) (fun a b => decide_eq_true_iff)]
 exact eqRows lay_eqC 4 Tryz.isAgg26 Tryz.sizeOf26 encC encC_len _ neq_col s1 s2 l m w h1 h2 hl
theorem cloneC_any (sv : Value) (l : List ColT) (w : World) (h : Elems w sv l.length 4 (rowC encC l)) (hl : l.length ≤ 1000000000) :
 Calls Tryz.prog 37 #[sv] w (Cloned 26 4 l.length (l.flatMap encC) sv w) := by
 obtain ⟨i0, hi, hz0, hz1, hz2⟩ := info_parts infoCl
 exact cloneRows lay_cloneC i0 _ 4 4 hi hz0 hz1 hz2 rfl (by omega) Tryz.sizeOf26 encC encC_len encC_one sv l w h hl (by omega)
def sideB (n : Int) : Bool := decide (1 ≤ n) && decide (n ≤ 8)
set_option maxRecDepth 100000 in
theorem stSide_any (n : Int) (w : World) : Calls Tryz.prog 125 #[.int .i64 n] w (Gives (.bool (sideB n)) w) := by
 unfold sideB
 obtain ⟨b1, h1⟩ : ∃ b1, decide (1 ≤ n) = b1 := ⟨_, rfl⟩
 obtain ⟨b2, h2⟩ : ∃ b2, decide (n ≤ 8) = b2 := ⟨_, rfl⟩
 rw [h1, h2]
 cases b1 <;> cases b2 <;> (
  go_enter Tryz.func125, Tryz.ntmps125
  go_wp2_with fail
  go_ret
  exact ⟨rfl, B7 _ _⟩)
def stOk (wide high : Int) (n : Nat) : Bool := (sideB wide && sideB high) && ((n : Int) == wide * high)
set_option maxRecDepth 100000 in
set_option maxHeartbeats 1000000 in
theorem stCheck_any (wide high : Int) (a : Option Addr) (n cap : Nat) (w : World) : Calls Tryz.prog 87 #[.agg #[.int .i64 wide, .int .i64 high, .slice a n cap]] w (Gives (.int .i64 (errOf (stOk wide high n) 190)) w) := by
 have HS := H7 (St.start w)
 have HW := H7 (fun w' => stSide_any wide w')
 have HH := H7 (fun w' => stSide_any high w')
 unfold stOk
 have hmul : sideB wide = true → sideB high = true → wrap64 (wide * high) = wide * high := fun h1 h2 => by
  unfold sideB at h1 h2
  simp only [Bool.and_eq_true, decide_eq_true_eq] at h1 h2
  obtain ⟨W, rfl⟩ := Int.eq_ofNat_of_zero_le (a := wide) (by omega)
  obtain ⟨H, rfl⟩ := Int.eq_ofNat_of_zero_le (a := high) (by omega)
  have h3 : W * H ≤ 8 * 8 := Nat.mul_le_mul (by omega) (by omega)
  rw [← Int.natCast_mul]
  unfold wrap64
  omega
 obtain ⟨p, hp⟩ : ∃ p, sideB wide = p := ⟨_, rfl⟩
 obtain ⟨q, hq⟩ : ∃ q, sideB high = q := ⟨_, rfl⟩
 rw [hp] at HW hmul
 rw [hq] at HH hmul
 rw [hp, hq]
 clear hp hq
 have HM := H7 hmul
 clear hmul
 go_enter Tryz.func87, Tryz.ntmps87
 repeat ((fail_if_success (with_reducible refine stop_at (id := 1) ?_)); (first | go_values | go_skip | go_guarded | go_step | go_upon | go_back | (simp only [Int.not_lt, Int.not_le] at *; go_simp) | (go_values <;> (try go_simp)) | (go_ite <;> go_prune <;> (try go_simp)) | (split <;> (first | (rename_i hx; exact (hx _ rfl).elim) | go_prune))))
 have hs_ := (HS.out.alloc (.cells #[.int .i64 wide, .int .i64 high, .slice a n cap] 29))
 obtain ⟨w1, hw_⟩ : ∃ w1 : World, (w.alloc (.cells #[.int .i64 wide, .int .i64 high, .slice a n cap] 29)) = w1 := ⟨_, rfl⟩
 rw [hw_] at hs_
 try simp only [World.size_alloc] at hs_
 have HS := H7 hs_
 rw [hw_]
 clear hw_ hs_
 have z0 := h7c HS 0 0 rfl rfl
 have z1 := h7c HS 0 1 rfl rfl
 go_wp2_with fail
 clear z0 z1
 refine (HW.out _).mono ?_
 rintro e w2 ⟨rfl, hb_⟩
 have HS := H7 (HS.out.below hb_)
 clear hb_
 cases p with
 | false =>
  go_wp2_with fail
  go_ret
  exact ⟨rfl, HS.out.low⟩
 | true =>
  have z1 := h7c HS 0 1 rfl rfl
  go_wp2_with fail
  clear z1
  refine (HH.out _).mono ?_
  rintro e w3 ⟨rfl, hb_⟩
  have HS := H7 (HS.out.below hb_)
  clear hb_
  cases q with
  | false =>
   go_wp2_with fail
   go_ret
   exact ⟨rfl, HS.out.low⟩
  | true =>
   have z0 := h7c HS 0 0 rfl rfl
   have z1 := h7c HS 0 1 rfl rfl
   have z2 := h7c HS 0 2 rfl rfl
   have e1 := HM.out (by trivial) (by trivial)
   obtain ⟨M, hM⟩ : ∃ M, wide * high = M := ⟨_, rfl⟩
   rw [hM] at e1
   have HMM := H7 hM
   obtain ⟨c, hc⟩ : ∃ c, ((n : Int) == M) = c := ⟨_, rfl⟩
   have hc2 : (!((n : Int) == M)) = !c := by rw [hc]
   have HC := H7 hc
   cases c <;> (
    go_wp2_with fail
    go_ret
    exact ⟨by first | rfl | (rw [HMM.out, HC.out]; rfl), HS.out.low⟩)
def stSame (w1 h1 w2 h2 : Int) (l m : List ColT) : Bool := ((w1 == w2) && (h1 == h2)) && sameB l m
set_option maxRecDepth 100000 in
set_option maxHeartbeats 1000000 in
theorem stSame_any (wide high : Int) (a : Option Addr) (cap : Nat) (l : List ColT) (wide2 high2 : Int) (a2 : Option Addr) (cap2 : Nat) (m : List ColT) (hl : l.length ≤ 1000000000) (w : World)
 (he : Elems w (.slice a l.length cap) l.length 4 (rowC encC l)) (he2 : Elems w (.slice a2 m.length cap2) m.length 4 (rowC encC m)) :
 Calls Tryz.prog 46 #[.agg #[.int .i64 wide, .int .i64 high, .slice a l.length cap], .agg #[.int .i64 wide2, .int .i64 high2, .slice a2 m.length cap2]] w (Gives (.bool (stSame wide high wide2 high2 l m)) w) := by
 have HS := H7 (St.start w)
 have HE := H7 (fun w' (hb : Below w.heap.size w w') => eqC_any _ _ l m w' (he.below hb) (he2.below hb) hl)
 unfold stSame
 obtain ⟨n, hn⟩ : ∃ n, l.length = n := ⟨_, rfl⟩
 obtain ⟨k, hk⟩ : ∃ k, m.length = k := ⟨_, rfl⟩
 obtain ⟨s, hs⟩ : ∃ s, sameB l m = s := ⟨_, rfl⟩
 rw [hn, hk] at HE ⊢
 rw [hs] at HE ⊢
 obtain ⟨b1, h1⟩ : ∃ b1, (wide == wide2) = b1 := ⟨_, rfl⟩
 obtain ⟨b2, h2⟩ : ∃ b2, (high == high2) = b2 := ⟨_, rfl⟩
 rw [h1, h2]
 clear he he2 hl hn hk hs
 cases b1 <;> cases b2 <;> (
  go_enter Tryz.func46, Tryz.ntmps46
  repeat ((fail_if_success (with_reducible refine stop_at (id := 1) ?_)); (first | go_values | go_skip | go_guarded | go_step | go_upon | go_back | (simp only [Int.not_lt, Int.not_le] at *; go_simp) | (go_values <;> (try go_simp)) | (go_ite <;> go_prune <;> (try go_simp)) | (split <;> (first | (rename_i hx; exact (hx _ rfl).elim) | go_prune))))
  have hs_ := ((HS.out.alloc (.cells #[.int .i64 wide, .int .i64 high, .slice a n cap] 29)).alloc (.cells #[.int .i64 wide2, .int .i64 high2, .slice a2 k cap2] 29))
  obtain ⟨w1, hw_⟩ : ∃ w1 : World, ((w.alloc (.cells #[.int .i64 wide, .int .i64 high, .slice a n cap] 29)).alloc (.cells #[.int .i64 wide2, .int .i64 high2, .slice a2 k cap2] 29)) = w1 := ⟨_, rfl⟩
  rw [hw_] at hs_
  try simp only [World.size_alloc] at hs_
  have HS := H7 hs_
  rw [hw_]
  clear hw_ hs_
  have z0 := h7c HS 0 0 rfl rfl
  have z1 := h7c HS 0 1 rfl rfl
  have z2 := h7c HS 0 2 rfl rfl
  have y0 := h7c HS 1 0 rfl rfl
  have y1 := h7c HS 1 1 rfl rfl
  have y2 := h7c HS 1 2 rfl rfl
  go_wp2_with fail
  first
   | (go_ret; exact ⟨rfl, HS.out.low⟩)
   | (
    refine (HE.out _ HS.out.low).mono ?_
    rintro e w2 ⟨rfl, hb⟩
    have hlow := HS.out.low.trans (hb.mono HS.out.low.size)
    go_wp2_with fail
    go_ret
    exact ⟨rfl, hlow⟩))
end Go.Proofs.YtgdcfkbimkclaaaGreatDoor
/- What a clone is for those who only read it; rows beside a store. -/
namespace Go.Proofs.YtgdcfkbimkclaaaGreatDoor
open Go.RowKit Go.Shelf
/-- What a clone is, for those who only read it. -/
theorem clone_read {α : Type} {E : TypeId} {k n : Nat} {enc : α → List Value} {L : List α} {sv : Value} {w : World} {e : Ending} {w' : World} (hk : ∀ q, (enc q).length = k) (hn : L.length = n) (h : Cloned E k L.length (L.flatMap enc) sv w e w') :
 ∃ a cap, e = .returned (.slice a n cap) ∧ n ≤ cap ∧ Elems w' (.slice a n cap) n k (rowC enc L) ∧ Below w.heap.size w w' ∧ ∀ ad, a = some ad → w.heap.size ≤ ad.block := by
 obtain ⟨v, rfl, hr, -, hb⟩ := h
 subst hn
 have he := ownsRow_rows hk hr
 rcases hr.2 with ⟨rfl, h0⟩ | ⟨g, cap, cur, rfl, h1, h2, h3, h4⟩
 · exact ⟨none, 0, by rw [h0], by omega, by rw [h0] at he ⊢; exact he, hb, fun ad e => by cases e⟩
 · exact ⟨_, cap, rfl, h3, he, hb, fun ad e => by cases e; exact h1⟩
theorem elems_other {w : World} {a : Option Addr} {n cap k : Nat} {f : Nat → Value} (h : Elems w (.slice a n cap) n k f) {p : Nat} (hp : ∀ ad, a = some ad → ad.block ≠ p) (j : Nat) (v : Value) : Elems (w.setCell ⟨p, j, none⟩ v) (.slice a n cap) n k f := by
 rcases h with h | ⟨b, off, cap', e, hlt, hc⟩
 · exact .inl h
 · cases e
   refine .inr ⟨b, off, cap, rfl, by rw [World.size_setCell]; exact hlt, fun i hi => ?_⟩
   rw [← hc i hi]
   exact World.cell?_of_block (Below.heap_setCell _ _ _ b (hp ⟨b, off, none⟩ rfl))
/- Contracts of the functions of package ident that only compute. -/
/-- The greatest time. -/
def MaxT : Int := 4611686018427387904
structure IdT where
 time : Int
 site : Int
 seq : Int
def IdT.val (i : IdT) : Value := .agg #[.int .u64 i.time, .int .i64 i.site, .int .u64 i.seq]
def siteOk (n : Int) : Bool := decide (1 ≤ n ∧ n ≤ 8)
def idOk (i : IdT) : Bool := decide (1 ≤ i.time ∧ i.time ≤ MaxT) && (siteOk i.site && decide (1 ≤ i.seq ∧ i.seq ≤ MaxT))
theorem site_any (n : Int) (w : World) :
 Calls Tryz.prog 123 #[.int .i64 n] w fun e w' => e = .returned (.bool (siteOk n)) ∧ w = w' := by
 unfold siteOk
 by_cases h1 : 1 ≤ n
 · go_enter Tryz.func123, Tryz.ntmps123
   go_wp2
   go_ret
   exact ⟨by simp [h1], rfl⟩
 · go_enter Tryz.func123, Tryz.ntmps123
   go_wp2
   go_ret
   exact ⟨by simp; omega, rfl⟩
theorem idCheck_any (i : IdT) (w : World) :
 Calls Tryz.prog 85 #[i.val] w (Gives (.int .i64 (errOf (idOk i) 210)) w) := by
 obtain ⟨t, s, q⟩ := i
 unfold IdT.val idOk MaxT
 dsimp only
 by_cases h1 : 1 ≤ t
 · by_cases h2 : t ≤ 4611686018427387904
   · cases hs : siteOk s
     · go_enter Tryz.func85, Tryz.ntmps85
       go_wp2_with (go_at_call 123; refine (site_any _ _).mono ?_; rintro e w' ⟨rfl, rfl⟩)
       go_ret
       exact ⟨ret_int (by simp [errOf]), (B7 _ _).alloc (Nat.le_refl _) _⟩
     · by_cases h3 : 1 ≤ q
       · by_cases h4 : q ≤ 4611686018427387904
         · go_enter Tryz.func85, Tryz.ntmps85
           go_wp2_with (go_at_call 123; refine (site_any _ _).mono ?_; rintro e w' ⟨rfl, rfl⟩)
           go_ret
           exact ⟨ret_int (by simp [errOf, h1, h2, h3, h4]), (B7 _ _).alloc (Nat.le_refl _) _⟩
         · go_enter Tryz.func85, Tryz.ntmps85
           go_wp2_with (go_at_call 123; refine (site_any _ _).mono ?_; rintro e w' ⟨rfl, rfl⟩)
           go_ret
           exact ⟨ret_int (by simp [errOf]; omega), (B7 _ _).alloc (Nat.le_refl _) _⟩
       · go_enter Tryz.func85, Tryz.ntmps85
         go_wp2_with (go_at_call 123; refine (site_any _ _).mono ?_; rintro e w' ⟨rfl, rfl⟩)
         go_ret
         exact ⟨ret_int (by simp [errOf]; omega), (B7 _ _).alloc (Nat.le_refl _) _⟩
   · go_enter Tryz.func85, Tryz.ntmps85
     go_wp2_with fail
     go_ret
     exact ⟨ret_int (by simp [errOf]; omega), (B7 _ _).alloc (Nat.le_refl _) _⟩
 · go_enter Tryz.func85, Tryz.ntmps85
   go_wp2_with fail
   go_ret
   exact ⟨ret_int (by simp [errOf]; omega), (B7 _ _).alloc (Nat.le_refl _) _⟩
end Go.Proofs.YtgdcfkbimkclaaaGreatDoor
