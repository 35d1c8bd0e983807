/- Merged texts: FrB OpA OpB OpC Read. -/
import Derived.Test.YteklfmacnnmomaaGreatM3
import Derived.Deep.WholeRow
import Derived.Laws.EntriesVeiled
set_option linter.unusedSimpArgs false
set_option linter.unusedVariables false
/- Layer 18: operations on frontiers as values. -/
namespace Go.Proofs.YteklfmacnnmomaaGreat
open Go.RowKit Go.Shelf
section
variable {F : Fence} {n : Nat} {P : Program} {w : World} {o : Oper} {a : Act} {K : Act → World → Prop} {Q : Exit → Act → World → Prop}
theorem opIn_alloc (ty : TypeId) (ho : o.op = .alloc ty) (z : Array Value) (hz : (P.info? ty).map (·.zero) = some (some (.agg z))) (hK : K (a.put o.dst (.pointer (some ⟨w.heap.size, 0, none⟩))) (w.alloc (.cells z ty))) : o.wpIn F n P a w K Q := by
 unfold Oper.wpIn
 refine ⟨?_, ?_⟩
 · simp [Oper.about, ho]
 · rw [Oper.semAt_plain F _ _ (by rw [ho]; intro c hc; cases hc)]
   have : (Instr.alloc ty true (.tuple #[])).run P w = .ok (.pointer (some ⟨w.heap.size, 0, none⟩)) (w.alloc (.cells z ty)) := by
    cases hi : P.info? ty with
    | none => simp [hi] at hz
    | some i =>
     simp only [hi, Option.map_some, Option.some.injEq] at hz
     simp [Instr.alloc, zeroValue, typeInfo, hi, hz, newVar, newRow, Value.cells, go_sem]
   simp only [execOp, ho, Sem.run_bind, this, Result.andThen_ok]
   exact hK
/-- A value into the block that was made last. -/
theorem opIn_storeNew (ty : TypeId) (x y : Operand) (ho : o.op = .store ty x y) (v : World) (t : TypeId) (old cells : Array Value) (hw : w = v.alloc (.cells old t)) (hx : a.eval x = .pointer (some ⟨v.heap.size, 0, none⟩)) (hy : a.eval y = .agg cells)
 (hi : (P.info? ty).map (·.size) = some cells.size) (hs : old.size = cells.size) (h1 : cells.all (·.oneCell') = true) (hK : K (a.put o.dst undef) (v.alloc (.cells cells t))) : o.wpIn F n P a w K Q := by
 subst hw
 refine opIn_store ty x y ho v.heap.size t old cells hx hy (World.alloc_heap_new _ _) hi hs h1 ?_
 rw [World.setRow_alloc_new]
 exact hK
/-- A value into the middle of a block. -/
theorem opIn_store_mid (ty : TypeId) (x y : Operand) (ho : o.op = .store ty x y) (b off : Nat) (cells : Array Value) (hx : a.eval x = .pointer (some ⟨b, off, none⟩)) (hy : a.eval y = .agg cells)
 (ht : w.there b off cells.size) (hi : (P.info? ty).map (·.size) = some cells.size) (h1 : cells.all (·.oneCell') = true) (hK : K (a.put o.dst undef) (w.setCells b off cells.toList)) : o.wpIn F n P a w K Q := by
 unfold Oper.wpIn
 refine ⟨?_, ?_⟩
 · simp [Oper.about, ho]
 · rw [Oper.semAt_plain F _ _ (by rw [ho]; intro c hc; cases hc)]
   simp only [execOp, ho, hx, hy, Instr.storeAt, Instr.sureAddr, Sem.run_bind, Sem.run_pure, Result.andThen_ok, run_storeVar_mid w b off ty cells ht hi h1]
   exact hK
theorem opIn_index (t : TypeId) (x i : Operand) (ho : o.op = .index t x i) {xv iv v : Value} (hx : a.eval x = xv) (hi : a.eval i = iv) (hr : (Instr.index t xv iv).run P w = .ok v w) (hK : K (a.put o.dst v) w) : o.wpIn F n P a w K Q := by
 unfold Oper.wpIn
 refine ⟨?_, ?_⟩
 · simp [Oper.about, ho]
 · rw [Oper.semAt_plain F _ _ (by rw [ho]; intro c hc; cases hc)]
   simp only [execOp, ho, hx, hi, Sem.run_bind, hr, Result.andThen_ok]
   exact hK
end
theorem stop_atI {F : Fence} {n : Nat} {P : Program} {id : Nat} {ops : Array Oper} {d : Bool} {Q : Exit → Act → World → Prop} {a : Act} {w : World} (h : (Code.region id ops d).wpIn F n P Q a w) : (Code.region id ops d).wpIn F n P Q a w := h
section
variable {P : Program} {fn : Func} {tmps : Array Value} {w : World} {i j b : Nat} {ty t2 t : TypeId} {cs : Array Value} {fr : Nat × Nat} {d : TypeDesc} {u v : Value}
theorem resOne (hr : fn.results = #[.cell i ty]) (ht : tmps.getD i undef = .pointer (some ⟨b, 0, none⟩)) (hg : w.heap[b]? = some (.cells cs t fr)) (hu : P.underlying ty = some d) (hd : d.isRow = true) (hi : (P.info? ty).map (·.size) = some cs.size) :
 (results fn tmps).run P w = .ok (.agg cs) w := by
 have h := run_loadVar_row w b t ty cs fr d hg hu (by cases d <;> first | rfl | cases hd) hi
 rw [Array.getD_eq_getD_getElem?] at ht
 unfold results
 rw [hr]
 simp [ht, asAddr, h, Sem.run_bind, Result.andThen]
theorem resTwo (hr : fn.results = #[.cell i ty, .tmp j]) (ht : tmps.getD i undef = .pointer (some ⟨b, 0, none⟩)) (hv : tmps.getD j undef = v) (hg : w.heap[b]? = some (.cells cs t fr)) (hu : P.underlying ty = some d) (hd : d.isRow = true) (hi : (P.info? ty).map (·.size) = some cs.size) :
 (results fn tmps).run P w = .ok (.tuple #[.agg cs, v]) w := by
 have h := run_loadVar_row w b t ty cs fr d hg hu (by cases d <;> first | rfl | cases hd) hi
 rw [Array.getD_eq_getD_getElem?] at ht hv
 unfold results
 rw [hr]
 simp [ht, hv, asAddr, h, Sem.run_bind, Result.andThen]
theorem resCell (hr : fn.results = #[.cell i ty, .cell j t2]) (ht : tmps.getD i undef = .pointer (some ⟨b, 0, none⟩)) {q : Nat} (hv : tmps.getD j undef = .pointer (some ⟨q, 0, none⟩)) (hg : w.heap[b]? = some (.cells cs t fr)) (hu : P.underlying ty = some d) (hd : d.isRow = true) (hi : (P.info? ty).map (·.size) = some cs.size)
 (h2 : (loadVar t2 ⟨q, 0, none⟩).run P w = .ok v w) : (results fn tmps).run P w = .ok (.tuple #[.agg cs, v]) w := by
 have h := run_loadVar_row w b t ty cs fr d hg hu (by cases d <;> first | rfl | cases hd) hi
 rw [Array.getD_eq_getD_getElem?] at ht hv
 unfold results
 rw [hr]
 simp [ht, hv, asAddr, h, h2, Sem.run_bind, Result.andThen]
end
theorem there_of_block {w : World} {b o n : Nat} {cs : Array Value} {t : TypeId} (h : w.heap[b]? = some (.cells cs t (0, 0))) (hn : o + n ≤ cs.size) : w.there b o n := fun j hj =>
 ⟨by
  obtain ⟨v, hv⟩ : ∃ v, cs[o + j]? = some v := ⟨_, Array.getElem?_eq_getElem (by omega)⟩
  rw [c7b h hv]; rfl, f7b h _⟩
theorem size_F (f : Frt) : (Tryz.prog.info? 29).map (·.size) = some f.cells.size := by rw [f.size]; kernel_rfl
theorem size_P (p : Plg) : (Tryz.prog.info? 26).map (·.size) = some p.cells.size := by rw [p.size]; kernel_rfl
theorem size_Pl (p : Plg) : (Tryz.prog.info? 26).map (·.size) = some p.l.length := by rw [p.len]; kernel_rfl
theorem size_V (v : Nat → Int) : (Tryz.prog.info? 24).map (·.size) = some (lit9 v).size := by rw [lit9_size]; kernel_rfl
theorem size_Vl (v : Nat → Int) : (Tryz.prog.info? 24).map (·.size) = some (lit9 v).toList.length := by rw [show (lit9 v).toList.length = 9 from rfl]; kernel_rfl
theorem size_Sl (f : Frt) : (Tryz.prog.info? 27).map (·.size) = some f.tl.length := by rw [f.tlen]; kernel_rfl
theorem zero_F : (Tryz.prog.info? 29).map (·.zero) = some (some (.agg frZ.cells)) := by kernel_rfl
theorem zero_P : (Tryz.prog.info? 26).map (·.zero) = some (some (.agg plZ.cells)) := by kernel_rfl
theorem zero_V : (Tryz.prog.info? 24).map (·.zero) = some (some (.agg (lit9 fun _ => 0))) := by kernel_rfl
theorem lit9_one (v : Nat → Int) : (lit9 v).all (·.oneCell') = true := by unfold lit9; rw [List.all_toArray]; rfl
theorem built_F0 : Tryz.prog.built 29 [] = some frZ.cells := by kernel_rfl
theorem built_P0 : Tryz.prog.built 26 [] = some plZ.cells := by kernel_rfl
theorem run_indexSite (f : Frt) (k : Nat) (hk : k < 9) (w : World) : (Instr.index 27 (.agg f.tl.toArray) (.int .i64 (k : Int))).run Tryz.prog w = .ok (.agg (f.site k).cells) w := by
 have hn : (0 : Int) ≤ (k : Int) ∧ (k : Int) < 9 := by omega
 have h1 := Tryz.isAgg26 w
 have h2 := Tryz.sizeOf26 w
 have he : f.tl.toArray.extract (k * 12) (k * 12 + 12) = (f.site k).cells := by
  refine Array.ext_getElem? fun j => ?_
  rw [Array.getElem?_extract, List.size_toArray, f.tlen]
  by_cases hj : j < 12
  · rw [if_pos (by omega), List.getElem?_toArray, f.tl_get hk hj, show (f.site k).cells = (f.site k).l.toArray from rfl, List.getElem?_toArray]
  · rw [if_neg (by omega), Array.getElem?_eq_none (by rw [(f.site k).size]; omega)]
 rw [← he]
 simp [Instr.index, run_underlying Tryz.underlying27, asIntOf, hn, part, h1, h2, go_sem]
 intro h'
 omega
/-- A pledge that is in, of a time. -/
def plIn (x : Int) : Plg := ⟨true, x, 0, fun _ => 0⟩
theorem built_PIn (x : Int) : Tryz.prog.built 26 [(0, .bool true), (1, .int .u64 x)] = some (plIn x).cells := by kernel_rfl
theorem run_equalIn_rowsF {α : Type} {P : Program} (w : World) (m t e n K : Nat) (i0 : TypeInfo) (h : P.underlying t = some (.array n e)) (hi : P.info? e = some i0) (hs : i0.size = K)
 (xs ys : Array Value) (f g : Nat → α) (val : α → Value) (q : α → α → Bool) (hx : ∀ i, i < n → (part e xs (i * K)).run P w = .ok (val (f i)) w) (hy : ∀ i, i < n → (part e ys (i * K)).run P w = .ok (val (g i)) w)
 (he : ∀ a b, (Op.equalIn m e (val a) (val b)).run P w = .ok (q a b) w) :
 (Op.equalIn (m + 1) t (.agg xs) (.agg ys)).run P w = .ok ((List.range n).all fun k => q (f k) (g k)) w := by
 subst hs
 simp only [Op.equalIn, Sem.run_bind, run_underlying h, Result.andThen_ok, sizeOf, typeInfo, run_program, hi, Sem.run_pure]
 rw [Std.Legacy.Range.forIn_eq_forIn_range']
 simp only [Std.Legacy.Range.size, Nat.sub_zero, Nat.add_sub_cancel, Nat.div_one]
 rw [← List.range_eq_range']
 have key : ∀ l : List Nat, (∀ i ∈ l, i < n) → (forIn l ((none, ()) : Option Bool × Unit) fun i __s => do
  let a ← part e xs (i * i0.size)
  let b ← part e ys (i * i0.size)
  let r ← Op.equalIn m e a b
  if (!r) = true then pure (ForInStep.done (some false, ())) else pure (ForInStep.yield (none, ()))).run P w = .ok (if (l.all fun k => q (f k) (g k)) = true then (none, ()) else (some false, ())) w := by
  intro l
  induction l with
  | nil => intro _; rfl
  | cons i l ih =>
   intro hl
   simp only [List.forIn_cons, Sem.run_bind, hx i (hl i (by simp)), hy i (hl i (by simp)), Result.andThen_ok, he]
   cases hfg : q (f i) (g i)
   · simp [hfg]
   · simp only [Bool.not_true, Bool.false_eq_true, if_false, Sem.run_pure, Result.andThen_ok]
     rw [ih (fun j hj => hl j (by simp [hj]))]
     simp [hfg]
 rw [key (List.range n) (fun i hi => List.mem_range.1 hi)]
 cases (List.range n).all fun k => q (f k) (g k) <;> simp
theorem infoU : (Tryz.prog.info? 22).map (fun i => (i.zero, i.size, i.bytes)) = some (some (.int .u64 0), 1, 8) := by kernel_rfl
theorem intE_deep (m : Nat) (x y : Int) (w : World) : (Op.equalIn (m + 1) 22 (.int .u64 x) (.int .u64 y)).run Tryz.prog w = .ok (decide (x = y)) w := by
 simp [Op.equalIn, run_underlying Tryz.underlying22, go_sem]
 rw [Bool.eq_iff_iff]; simp
theorem vecE_deep (m : Nat) (u v : Nat → Int) (w : World) : (Op.equalIn (m + 2) 24 (.agg (lit9 u)) (.agg (lit9 v))).run Tryz.prog w = .ok (vecEq u v) w := by
 obtain ⟨i0, hi, _, hz1, _⟩ := info_parts infoU
 have hpart : ∀ (x : Nat → Int) (k : Nat), k < 9 → (part 22 (lit9 x) (k * 1)).run Tryz.prog w = .ok (.int .u64 (x k)) w := fun x k hk => by
  have h1 := Tryz.isAgg22 w
  rw [Nat.mul_one]
  simp [part, h1, go_sem, lit9_get x k hk]
 have := run_equalIn_rowsF w (m + 1) 24 22 9 1 i0 Tryz.underlying24 hi hz1 (lit9 u) (lit9 v) u v (fun x => .int .u64 x) (fun x y => decide (x = y)) (fun k hk => hpart u k hk) (fun k hk => hpart v k hk) (fun a b => intE_deep m a b w)
 rw [this]
 unfold vecEq
 congr 1
theorem boolE_deep (m : Nat) (x y : Bool) (w : World) : (Op.equalIn (m + 1) 4 (.bool x) (.bool y)).run Tryz.prog w = .ok (x == y) w := by
 simp [Op.equalIn, run_underlying Tryz.underlying4, go_sem]
theorem run_equalIn_struct {P : Program} (w : World) (m t : Nat) (fs : Array Field) (h : P.underlying t = some (.struct fs)) (h0 : P.stoodInHeld t = false) (xs ys : Array Value) (r : Field → Bool)
 (hf : ∀ f ∈ fs.toList, f.name ≠ "_" ∧ ∃ a b, (part f.type xs f.offset).run P w = .ok a w ∧ (part f.type ys f.offset).run P w = .ok b w ∧ (Op.equalIn m f.type a b).run P w = .ok (r f) w) :
 (Op.equalIn (m + 1) t (.agg xs) (.agg ys)).run P w = .ok (fs.toList.all r) w := by
 simp only [Op.equalIn, Sem.run_bind, run_underlying h, Result.andThen_ok, run_program, h0, Bool.false_eq_true, if_false, Sem.run_pure]
 rw [← Array.forIn_toList]
 have key : ∀ l : List Field, (∀ f ∈ l, f ∈ fs.toList) → (forIn l ((none, ()) : Option Bool × Unit) fun (f : Field) (__s : Option Bool × Unit) =>
  if f.name ≠ "_" then do
   let a ← part f.type xs f.offset
   let b ← part f.type ys f.offset
   let r ← Op.equalIn m f.type a b
   if (!r) = true then pure (ForInStep.done (some false, ())) else pure (ForInStep.yield (none, ()))
  else pure (ForInStep.yield (none, ()))).run P w = .ok (if (l.all r) = true then (none, ()) else (some false, ())) w := by
  intro l
  induction l with
  | nil => intro _; rfl
  | cons f l ih =>
   intro hl
   obtain ⟨hn, a, b, h1, h2, h3⟩ := hf f (hl f (by simp))
   simp only [List.forIn_cons, Sem.run_bind, if_pos hn, h1, h2, h3, Result.andThen_ok]
   cases hr : r f
   · simp [hr]
   · simp only [Bool.not_true, Bool.false_eq_true, if_false, Sem.run_pure, Result.andThen_ok]
     rw [ih (fun g hg => hl g (by simp [hg]))]
     simp [hr]
 rw [key fs.toList (fun _ h => h)]
 cases fs.toList.all r <;> simp
theorem plE_run (m : Nat) (p q : Plg) (w : World) : (Op.equalIn (m + 3) 26 (.agg p.cells) (.agg q.cells)).run Tryz.prog w = .ok (plEq p q) w := by
 have h0 : Tryz.prog.stoodInHeld 26 = false := by kernel_rfl
 have b1 := Tryz.isAgg4 w
 have b2 := Tryz.isAgg22 w
 have b3 := Tryz.isAgg24 w
 have b4 := Tryz.sizeOf24 w
 have pb : ∀ x : Plg, (part 4 x.cells 0).run Tryz.prog w = .ok (.bool x.inn) w := fun x => by simp [part, b1, go_sem, Plg.cells, Plg.l]
 have p1 : ∀ x : Plg, (part 22 x.cells 1).run Tryz.prog w = .ok (.int .u64 x.floor) w := fun x => by simp [part, b2, go_sem, Plg.cells, Plg.l]
 have p2 : ∀ x : Plg, (part 22 x.cells 2).run Tryz.prog w = .ok (.int .u64 x.seq) w := fun x => by simp [part, b2, go_sem, Plg.cells, Plg.l]
 have p3 : ∀ x : Plg, (part 24 x.cells 3).run Tryz.prog w = .ok (.agg (lit9 x.has)) w := fun x => by simp [part, b3, b4, go_sem, Plg.cells, Plg.l, lit9]
 rw [run_equalIn_struct w (m + 2) 26 _ Tryz.underlying26 h0 p.cells q.cells (fun f => if f.offset = 0 then p.inn == q.inn else if f.offset = 1 then decide (p.floor = q.floor) else if f.offset = 2 then decide (p.seq = q.seq) else vecEq p.has q.has) ?_]
 · simp only [List.all_cons, List.all_nil]
   unfold plEq vecEq
   refine congrArg (fun b => Result.ok b w) ?_
   rw [Bool.eq_iff_iff]
   simp
 · intro f hf
   simp only [List.mem_cons, List.not_mem_nil, or_false] at hf
   rcases hf with rfl | rfl | rfl | rfl
   · exact ⟨by decide, _, _, pb p, pb q, boolE_deep (m + 1) _ _ w⟩
   · exact ⟨by decide, _, _, p1 p, p1 q, intE_deep (m + 1) _ _ w⟩
   · exact ⟨by decide, _, _, p2 p, p2 q, intE_deep (m + 1) _ _ w⟩
   · exact ⟨by decide, _, _, p3 p, p3 q, vecE_deep m _ _ w⟩
theorem frE_run (f g : Frt) (w : World) : (Op.equal 29 (.agg f.cells) (.agg g.cells)).run Tryz.prog w = .ok (frEq f g) w := by
 have h0 : Tryz.prog.stoodInHeld 29 = false := by kernel_rfl
 have b2 := Tryz.isAgg22 w
 have b3 := Tryz.isAgg24 w
 have b4 := Tryz.sizeOf24 w
 have b5 := Tryz.isAgg27 w
 have b6 := Tryz.sizeOf27 w
 have b7 := Tryz.isAgg26 w
 have b8 := Tryz.sizeOf26 w
 have p0 : ∀ x : Frt, (part 22 x.cells 0).run Tryz.prog w = .ok (.int .u64 x.folded) w := fun x => by simp [part, b2, go_sem, x.get_head (k := 0) (by omega), Frt.head]
 have p2 : ∀ x : Frt, (part 22 x.cells 10).run Tryz.prog w = .ok (.int .u64 x.prop) w := fun x => by simp [part, b2, go_sem, x.get_head (k := 10) (by omega), Frt.head]
 have p1 : ∀ x : Frt, (part 24 x.cells 1).run Tryz.prog w = .ok (.agg (lit9 x.by_)) w := fun x => by
  have e : x.cells.extract 1 (1 + 9) = lit9 x.by_ := by
   refine Array.ext_getElem? fun j => ?_
   rw [Array.getElem?_extract, x.size]
   by_cases hj : j < 9
   · rw [if_pos (by omega), x.get_head (by omega), lit9_get _ j hj]
     match j, hj with
     | 0, _ => rfl
     | 1, _ => rfl
     | 2, _ => rfl
     | 3, _ => rfl
     | 4, _ => rfl
     | 5, _ => rfl
     | 6, _ => rfl
     | 7, _ => rfl
     | 8, _ => rfl
   · rw [if_neg (by omega), Array.getElem?_eq_none (by rw [lit9_size]; omega)]
  rw [← e]
  simp [part, b3, b4, go_sem]
 have p3 : ∀ x : Frt, (part 27 x.cells 11).run Tryz.prog w = .ok (.agg x.tl.toArray) w := fun x => by
  have e : x.cells.extract 11 (11 + 108) = x.tl.toArray := by
   refine Array.ext_getElem? fun j => ?_
   rw [Array.getElem?_extract, x.size]
   by_cases hj : j < 108
   · rw [if_pos (by omega), show x.cells = x.l.toArray from rfl, List.getElem?_toArray, List.getElem?_toArray, show x.l = x.head ++ x.tl from rfl, List.getElem?_append_right (by rw [show x.head.length = 11 from rfl]; omega), show x.head.length = 11 from rfl, show 11 + j - 11 = j by omega]
   · rw [if_neg (by omega), Array.getElem?_eq_none (by rw [List.size_toArray, x.tlen]; omega)]
  rw [← e]
  simp [part, b5, b6, go_sem]
 have hsite : ∀ (x : Frt) (k : Nat), k < 9 → (part 26 x.tl.toArray (k * 12)).run Tryz.prog w = .ok (.agg (x.site k).cells) w := fun x k hk => by
  have e : x.tl.toArray.extract (k * 12) (k * 12 + 12) = (x.site k).cells := by
   refine Array.ext_getElem? fun j => ?_
   rw [Array.getElem?_extract, List.size_toArray, x.tlen]
   by_cases hj : j < 12
   · rw [if_pos (by omega), List.getElem?_toArray, x.tl_get hk hj, show (x.site k).cells = (x.site k).l.toArray from rfl, List.getElem?_toArray]
   · rw [if_neg (by omega), Array.getElem?_eq_none (by rw [(x.site k).size]; omega)]
  rw [← e]
  simp [part, b7, b8, go_sem]
 obtain ⟨i0, hi, hs0⟩ : ∃ i0, Tryz.prog.info? 26 = some i0 ∧ i0.size = 12 := by
  have h : (Tryz.prog.info? 26).map (·.size) = some 12 := by kernel_rfl
  cases hi : Tryz.prog.info? 26 with
  | none => simp [hi] at h
  | some i0 => exact ⟨i0, rfl, by simpa [hi] using h⟩
 have hsites := run_equalIn_rowsF w 9998 27 26 9 12 i0 Tryz.underlying27 hi hs0 f.tl.toArray g.tl.toArray f.site g.site (fun p => .agg p.cells) plEq (fun k hk => hsite f k hk) (fun k hk => hsite g k hk) (fun a b => plE_run 9995 a b w)
 show (Op.equalIn (9999 + 1) 29 (.agg f.cells) (.agg g.cells)).run Tryz.prog w = _
 rw [run_equalIn_struct w 9999 29 _ Tryz.underlying29 h0 f.cells g.cells (fun q => if q.offset = 0 then decide (f.folded = g.folded) else if q.offset = 1 then vecEq f.by_ g.by_ else if q.offset = 10 then decide (f.prop = g.prop) else (List.range 9).all fun k => plEq (f.site k) (g.site k)) ?_]
 · simp only [List.all_cons, List.all_nil]
   unfold frEq vecEq
   refine congrArg (fun b => Result.ok b w) ?_
   rw [Bool.eq_iff_iff]
   simp
 · intro q hq
   simp only [List.mem_cons, List.not_mem_nil, or_false] at hq
   rcases hq with rfl | rfl | rfl | rfl
   · exact ⟨by decide, _, _, p0 f, p0 g, intE_deep 9998 _ _ w⟩
   · exact ⟨by decide, _, _, p1 f, p1 g, vecE_deep 9997 _ _ w⟩
   · exact ⟨by decide, _, _, p2 f, p2 g, intE_deep 9998 _ _ w⟩
   · exact ⟨by decide, _, _, p3 f, p3 g, hsites⟩
theorem run_neqF (f g : Frt) (w : World) : (binOp .neq 29 (.agg f.cells) (.agg g.cells)).run Tryz.prog w = .ok (.bool (!frEq f g)) w := by
 simp [binOp, frE_run f g w]
theorem run_eqlF (f g : Frt) (w : World) : (binOp .eql 29 (.agg f.cells) (.agg g.cells)).run Tryz.prog w = .ok (.bool (frEq f g)) w := by
 simp [binOp, frE_run f g w]
theorem run_neqP (p q : Plg) (w : World) : (binOp .neq 26 (.agg p.cells) (.agg q.cells)).run Tryz.prog w = .ok (.bool (!plEq p q)) w := by
 have := plE_run 9997 p q w
 simp [binOp, Op.equal, Op.maxDepth, this]
theorem run_neqV (u v : Nat → Int) (w : World) : (binOp .neq 24 (.agg (lit9 u)) (.agg (lit9 v))).run Tryz.prog w = .ok (.bool (!vecEq u v)) w := by
 have := vecE_deep 9998 u v w
 simp [binOp, Op.equal, Op.maxDepth, this]
theorem run_eqlV (u v : Nat → Int) (w : World) : (binOp .eql 24 (.agg (lit9 u)) (.agg (lit9 v))).run Tryz.prog w = .ok (.bool (vecEq u v)) w := by
 have := vecE_deep 9998 u v w
 simp [binOp, Op.equal, Op.maxDepth, this]
theorem guardF (b : BinOp) (t : TypeId) (x y : Operand) (u v : Array Value) (w : World) (h : Tryz.prog.eqGuardType Tryz.prog.depth t = false) (hb : b = .eql ∨ b = .neq) : (eqGuard b t x y (.agg u) (.agg v)).run Tryz.prog w = .ok () w := by
 rcases hb with rfl | rfl <;> simp [eqGuard, h]
theorem gtF : Tryz.prog.eqGuardType Tryz.prog.depth 29 = false := by kernel_rfl
theorem gtP : Tryz.prog.eqGuardType Tryz.prog.depth 26 = false := by kernel_rfl
theorem gtV : Tryz.prog.eqGuardType Tryz.prog.depth 24 = false := by kernel_rfl
theorem Plg.rngHas {w : World} {b : Nat} {p : Plg} {t : TypeId} {fr : Nat × Nat} (h : w.heap[b]? = some (.cells p.cells t fr)) : w.rangeAt b 3 (lit9 p.has).toList := fun j v hv => by
 have hj : j < 9 := (List.getElem?_eq_some_iff.1 hv).1
 refine c7b h ?_
 rw [← hv]
 match j, hj with
 | 0, _ => rfl
 | 1, _ => rfl
 | 2, _ => rfl
 | 3, _ => rfl
 | 4, _ => rfl
 | 5, _ => rfl
 | 6, _ => rfl
 | 7, _ => rfl
 | 8, _ => rfl
theorem plgCells {w : World} {b : Nat} {p : Plg} {t : TypeId} {f : Nat × Nat} (h : w.heap[b]? = some (.cells p.cells t f)) :
 w.cell? ⟨b, 0, none⟩ = some (.bool p.inn) ∧ w.cell? ⟨b, 1, none⟩ = some (.int .u64 p.floor) ∧ w.cell? ⟨b, 2, none⟩ = some (.int .u64 p.seq) := ⟨c7b h rfl, c7b h rfl, c7b h rfl⟩
/-! Results. -/
section
variable {fn : Func} {tmps : Array Value} {w : World} {i j b : Nat} {t : TypeId} {fr : Nat × Nat} {v : Value}
theorem resF {f : Frt} (hr : fn.results = #[.cell i 29]) (ht : tmps.getD i undef = .pointer (some ⟨b, 0, none⟩)) (hg : w.heap[b]? = some (.cells f.cells t fr)) : (results fn tmps).run Tryz.prog w = .ok (.agg f.cells) w :=
 resOne hr ht hg Tryz.underlying29 rfl (size_F f)
theorem resFt {f : Frt} (hr : fn.results = #[.cell i 29, .tmp j]) (ht : tmps.getD i undef = .pointer (some ⟨b, 0, none⟩)) (hv : tmps.getD j undef = v) (hg : w.heap[b]? = some (.cells f.cells t fr)) : (results fn tmps).run Tryz.prog w = .ok (.tuple #[.agg f.cells, v]) w :=
 resTwo hr ht hv hg Tryz.underlying29 rfl (size_F f)
theorem resVf {f : Nat → Int} (hr : fn.results = #[.cell i 24]) (ht : tmps.getD i undef = .pointer (some ⟨b, 0, none⟩)) (hg : w.heap[b]? = some (.cells (lit9 f) t fr)) : (results fn tmps).run Tryz.prog w = .ok (.agg (lit9 f)) w :=
 resOne hr ht hg Tryz.underlying24 rfl (size_V f)
theorem resVt {f : Nat → Int} (hr : fn.results = #[.cell i 24, .tmp j]) (ht : tmps.getD i undef = .pointer (some ⟨b, 0, none⟩)) (hv : tmps.getD j undef = v) (hg : w.heap[b]? = some (.cells (lit9 f) t fr)) : (results fn tmps).run Tryz.prog w = .ok (.tuple #[.agg (lit9 f), v]) w :=
 resTwo hr ht hv hg Tryz.underlying24 rfl (size_V f)
end
/-! The operations, for a walk. -/
section
variable {F : Fence} {n : Nat} {w : World} {o : Oper} {a : Act} {K : Act → World → Prop} {Q : Exit → Act → World → Prop}
theorem ldF (x : Operand) (ho : o.op = .load 29 x) {b : Nat} (hx : a.eval x = .pointer (some ⟨b, 0, none⟩)) {f : Frt} {t : TypeId} {fr : Nat × Nat} (hg : w.heap[b]? = some (.cells f.cells t fr)) (hK : K (a.put o.dst (.agg f.cells)) w) : o.wpIn F n Tryz.prog a w K Q :=
 opIn_load 29 x ho b hx t _ fr _ hg Tryz.underlying29 rfl (size_F f) hK
theorem ldP (x : Operand) (ho : o.op = .load 26 x) {b : Nat} (hx : a.eval x = .pointer (some ⟨b, 0, none⟩)) {p : Plg} {t : TypeId} {fr : Nat × Nat} (hg : w.heap[b]? = some (.cells p.cells t fr)) (hK : K (a.put o.dst (.agg p.cells)) w) : o.wpIn F n Tryz.prog a w K Q :=
 opIn_load 26 x ho b hx t _ fr _ hg Tryz.underlying26 rfl (size_P p) hK
theorem ldV (x : Operand) (ho : o.op = .load 24 x) {b : Nat} (hx : a.eval x = .pointer (some ⟨b, 0, none⟩)) {v : Nat → Int} {t : TypeId} {fr : Nat × Nat} (hg : w.heap[b]? = some (.cells (lit9 v) t fr)) (hK : K (a.put o.dst (.agg (lit9 v))) w) : o.wpIn F n Tryz.prog a w K Q :=
 opIn_load 24 x ho b hx t _ fr _ hg Tryz.underlying24 rfl (size_V v) hK
theorem ldBy (x : Operand) (ho : o.op = .load 24 x) {b : Nat} (hx : a.eval x = .pointer (some ⟨b, 1, none⟩)) {f : Frt} {t : TypeId} {fr : Nat × Nat} (hg : w.heap[b]? = some (.cells f.cells t fr)) (hK : K (a.put o.dst (.agg (lit9 f.by_))) w) : o.wpIn F n Tryz.prog a w K Q :=
 opIn_load_mid 24 x ho b 1 hx (lit9 f.by_).toList _ (Frt.rngBy hg) Tryz.underlying24 rfl (size_Vl _) hK
theorem ldHas (x : Operand) (ho : o.op = .load 24 x) {b : Nat} (hx : a.eval x = .pointer (some ⟨b, 3, none⟩)) {p : Plg} {t : TypeId} {fr : Nat × Nat} (hg : w.heap[b]? = some (.cells p.cells t fr)) (hK : K (a.put o.dst (.agg (lit9 p.has))) w) : o.wpIn F n Tryz.prog a w K Q :=
 opIn_load_mid 24 x ho b 3 hx (lit9 p.has).toList _ (Plg.rngHas hg) Tryz.underlying24 rfl (size_Vl _) hK
theorem ldSites (x : Operand) (ho : o.op = .load 27 x) {b : Nat} (hx : a.eval x = .pointer (some ⟨b, 11, none⟩)) {f : Frt} {t : TypeId} {fr : Nat × Nat} (hg : w.heap[b]? = some (.cells f.cells t fr)) (hK : K (a.put o.dst (.agg f.tl.toArray)) w) : o.wpIn F n Tryz.prog a w K Q :=
 opIn_load_mid 27 x ho b 11 hx f.tl _ (Frt.rngSites hg) Tryz.underlying27 rfl (size_Sl f) hK
theorem ldSite (x : Operand) (ho : o.op = .load 26 x) {b k : Nat} (hx : a.eval x = .pointer (some ⟨b, 11 + k * 12, none⟩)) {f : Frt} {t : TypeId} {fr : Nat × Nat} (hg : w.heap[b]? = some (.cells f.cells t fr)) (hk : k < 9) (hK : K (a.put o.dst (.agg (f.site k).cells)) w) : o.wpIn F n Tryz.prog a w K Q :=
 opIn_load_mid 26 x ho b (11 + k * 12) hx (f.site k).l _ (Frt.rng hg hk) Tryz.underlying26 rfl (size_Pl _) hK
theorem ldSiteHas (x : Operand) (ho : o.op = .load 24 x) {b k : Nat} (hx : a.eval x = .pointer (some ⟨b, 11 + k * 12 + 3, none⟩)) {f : Frt} {t : TypeId} {fr : Nat × Nat} (hg : w.heap[b]? = some (.cells f.cells t fr)) (hk : k < 9) (hK : K (a.put o.dst (.agg (lit9 (f.site k).has))) w) : o.wpIn F n Tryz.prog a w K Q :=
 opIn_load_mid 24 x ho b (11 + k * 12 + 3) hx (lit9 (f.site k).has).toList _ (Frt.rngHas hg hk) Tryz.underlying24 rfl (size_Vl _) hK
theorem nwF (ho : o.op = .alloc 29) (hK : K (a.put o.dst (.pointer (some ⟨w.heap.size, 0, none⟩))) (w.alloc (.cells frZ.cells 29))) : o.wpIn F n Tryz.prog a w K Q := opIn_alloc _ ho _ zero_F hK
theorem nwP (ho : o.op = .alloc 26) (hK : K (a.put o.dst (.pointer (some ⟨w.heap.size, 0, none⟩))) (w.alloc (.cells plZ.cells 26))) : o.wpIn F n Tryz.prog a w K Q := opIn_alloc _ ho _ zero_P hK
theorem nwV (ho : o.op = .alloc 24) (hK : K (a.put o.dst (.pointer (some ⟨w.heap.size, 0, none⟩))) (w.alloc (.cells (lit9 fun _ => 0) 24))) : o.wpIn F n Tryz.prog a w K Q := opIn_alloc _ ho _ zero_V hK
theorem stNewF (x y : Operand) (ho : o.op = .store 29 x y) {v : World} {t : TypeId} {old : Array Value} (hw : w = v.alloc (.cells old t)) {f : Frt} (hx : a.eval x = .pointer (some ⟨v.heap.size, 0, none⟩)) (hy : a.eval y = .agg f.cells) (hs : old.size = f.cells.size) (hK : K (a.put o.dst undef) (v.alloc (.cells f.cells t))) : o.wpIn F n Tryz.prog a w K Q :=
 opIn_storeNew 29 x y ho v t old f.cells hw hx hy (size_F f) hs f.one hK
theorem stNewP (x y : Operand) (ho : o.op = .store 26 x y) {v : World} {t : TypeId} {old : Array Value} (hw : w = v.alloc (.cells old t)) {f : Plg} (hx : a.eval x = .pointer (some ⟨v.heap.size, 0, none⟩)) (hy : a.eval y = .agg f.cells) (hs : old.size = f.cells.size) (hK : K (a.put o.dst undef) (v.alloc (.cells f.cells t))) : o.wpIn F n Tryz.prog a w K Q :=
 opIn_storeNew 26 x y ho v t old f.cells hw hx hy (size_P f) hs f.one hK
theorem stNewV (x y : Operand) (ho : o.op = .store 24 x y) {v : World} {t : TypeId} {old : Array Value} (hw : w = v.alloc (.cells old t)) {f : Nat → Int} (hx : a.eval x = .pointer (some ⟨v.heap.size, 0, none⟩)) (hy : a.eval y = .agg (lit9 f)) (hs : old.size = (lit9 f).size) (hK : K (a.put o.dst undef) (v.alloc (.cells (lit9 f) t))) : o.wpIn F n Tryz.prog a w K Q :=
 opIn_storeNew 24 x y ho v t old (lit9 f) hw hx hy (size_V f) hs (lit9_one f) hK
theorem stF (x y : Operand) (ho : o.op = .store 29 x y) {b : Nat} (hx : a.eval x = .pointer (some ⟨b, 0, none⟩)) {t : TypeId} {old : Array Value} {f : Frt} (hg : w.heap[b]? = some (.cells old t (0, 0))) (hy : a.eval y = .agg f.cells) (hs : old.size = f.cells.size) (hK : K (a.put o.dst undef) (w.setRow b f.cells)) : o.wpIn F n Tryz.prog a w K Q :=
 opIn_store 29 x y ho b t old f.cells hx hy hg (size_F f) hs f.one hK
theorem stV (x y : Operand) (ho : o.op = .store 24 x y) {b : Nat} (hx : a.eval x = .pointer (some ⟨b, 0, none⟩)) {t : TypeId} {old : Array Value} {f : Nat → Int} (hg : w.heap[b]? = some (.cells old t (0, 0))) (hy : a.eval y = .agg (lit9 f)) (hs : old.size = (lit9 f).size) (hK : K (a.put o.dst undef) (w.setRow b (lit9 f))) : o.wpIn F n Tryz.prog a w K Q :=
 opIn_store 24 x y ho b t old (lit9 f) hx hy hg (size_V f) hs (lit9_one f) hK
theorem stSite (x y : Operand) (ho : o.op = .store 26 x y) {b k : Nat} (hx : a.eval x = .pointer (some ⟨b, 11 + k * 12, none⟩)) {t : TypeId} {f : Frt} {p : Plg} (hg : w.heap[b]? = some (.cells f.cells t (0, 0))) (hk : k < 9) (hy : a.eval y = .agg p.cells) (hK : K (a.put o.dst undef) (w.setCells b (11 + k * 12) p.l)) : o.wpIn F n Tryz.prog a w K Q :=
 opIn_store_mid 26 x y ho b (11 + k * 12) p.cells hx hy (there_of_block hg (by rw [p.size, f.size]; omega)) (size_P p) p.one hK
theorem stSiteHas (x y : Operand) (ho : o.op = .store 24 x y) {b k : Nat} (hx : a.eval x = .pointer (some ⟨b, 11 + k * 12 + 3, none⟩)) {t : TypeId} {f : Frt} {v : Nat → Int} (hg : w.heap[b]? = some (.cells f.cells t (0, 0))) (hk : k < 9) (hy : a.eval y = .agg (lit9 v)) (hK : K (a.put o.dst undef) (w.setCells b (11 + k * 12 + 3) (lit9 v).toList)) : o.wpIn F n Tryz.prog a w K Q :=
 opIn_store_mid 24 x y ho b (11 + k * 12 + 3) (lit9 v) hx hy (there_of_block hg (by rw [lit9_size, f.size]; omega)) (size_V v) (lit9_one v) hK
theorem stBy (x y : Operand) (ho : o.op = .store 24 x y) {b : Nat} (hx : a.eval x = .pointer (some ⟨b, 1, none⟩)) {t : TypeId} {f : Frt} {v : Nat → Int} (hg : w.heap[b]? = some (.cells f.cells t (0, 0))) (hy : a.eval y = .agg (lit9 v)) (hK : K (a.put o.dst undef) (w.setCells b 1 (lit9 v).toList)) : o.wpIn F n Tryz.prog a w K Q :=
 opIn_store_mid 24 x y ho b 1 (lit9 v) hx hy (there_of_block hg (by rw [lit9_size, f.size]; omega)) (size_V v) (lit9_one v) hK
theorem bdF (parts : Array (Nat × Operand)) (ho : o.op = .build 29 parts) (hp : parts = #[]) (hK : K (a.put o.dst (.agg frZ.cells)) w) : o.wpIn F n Tryz.prog a w K Q := by
 subst hp
 exact opIn_build _ _ ho _ (by simpa using built_F0) hK
theorem bdP (parts : Array (Nat × Operand)) (ho : o.op = .build 26 parts) (hp : parts = #[]) (hK : K (a.put o.dst (.agg plZ.cells)) w) : o.wpIn F n Tryz.prog a w K Q := by
 subst hp
 exact opIn_build _ _ ho _ (by simpa using built_P0) hK
theorem bdI (y : Operand) (ho : o.op = .build 26 #[(0, .const (.bool true)), (1, y)]) {x : Int} (hx : a.eval y = .int .u64 x) (hK : K (a.put o.dst (.agg (plIn x).cells)) w) : o.wpIn F n Tryz.prog a w K Q :=
 opIn_build _ _ ho _ (by simp only [List.map_toArray, List.map_cons, List.map_nil, hx]; exact built_PIn x) hK
theorem ixS (x i : Operand) (ho : o.op = .index 27 x i) {f : Frt} (hx : a.eval x = .agg f.tl.toArray) {k : Nat} (hi : a.eval i = .int .i64 (k : Int)) (hk : k < 9) (hK : K (a.put o.dst (.agg (f.site k).cells)) w) : o.wpIn F n Tryz.prog a w K Q :=
 opIn_index _ x i ho hx hi (run_indexSite f k hk w) hK
theorem opIn_binF (b : BinOp) (t t' : TypeId) (x y : Operand) (ho : o.op = .binOp b t x y t') {xv yv v : Value} (hx : a.eval x = xv) (hy : a.eval y = yv) (hg : (eqGuard b t x y xv yv).run Tryz.prog w = .ok () w) (hr : (binOp b t xv yv).run Tryz.prog w = .ok v w) (hK : K (a.put o.dst v) w) : o.wpIn F n Tryz.prog a w K Q := by
 unfold Oper.wpIn
 refine ⟨?_, ?_⟩
 · simp [Oper.about, ho]
 · rw [Oper.semAt_plain F _ _ (by rw [ho]; intro c hc; cases hc)]
   simp [execOp, ho, hx, hy, hg, hr, Result.andThen]
   exact hK
theorem neF (t' : TypeId) (x y : Operand) (ho : o.op = .binOp .neq 29 x y t') {f g : Frt} (hx : a.eval x = .agg f.cells) (hy : a.eval y = .agg g.cells) (hK : K (a.put o.dst (.bool (!frEq f g))) w) : o.wpIn F n Tryz.prog a w K Q :=
 opIn_binF _ _ _ x y ho hx hy (guardF _ _ x y _ _ w gtF (.inr rfl)) (run_neqF f g w) hK
theorem eqF (t' : TypeId) (x y : Operand) (ho : o.op = .binOp .eql 29 x y t') {f g : Frt} (hx : a.eval x = .agg f.cells) (hy : a.eval y = .agg g.cells) (hK : K (a.put o.dst (.bool (frEq f g))) w) : o.wpIn F n Tryz.prog a w K Q :=
 opIn_binF _ _ _ x y ho hx hy (guardF _ _ x y _ _ w gtF (.inl rfl)) (run_eqlF f g w) hK
theorem neP (t' : TypeId) (x y : Operand) (ho : o.op = .binOp .neq 26 x y t') {f g : Plg} (hx : a.eval x = .agg f.cells) (hy : a.eval y = .agg g.cells) (hK : K (a.put o.dst (.bool (!plEq f g))) w) : o.wpIn F n Tryz.prog a w K Q :=
 opIn_binF _ _ _ x y ho hx hy (guardF _ _ x y _ _ w gtP (.inr rfl)) (run_neqP f g w) hK
theorem neV (t' : TypeId) (x y : Operand) (ho : o.op = .binOp .neq 24 x y t') {f g : Nat → Int} (hx : a.eval x = .agg (lit9 f)) (hy : a.eval y = .agg (lit9 g)) (hK : K (a.put o.dst (.bool (!vecEq f g))) w) : o.wpIn F n Tryz.prog a w K Q :=
 opIn_binF _ _ _ x y ho hx hy (guardF _ _ x y _ _ w gtV (.inr rfl)) (run_neqV f g w) hK
theorem eqV (t' : TypeId) (x y : Operand) (ho : o.op = .binOp .eql 24 x y t') {f g : Nat → Int} (hx : a.eval x = .agg (lit9 f)) (hy : a.eval y = .agg (lit9 g)) (hK : K (a.put o.dst (.bool (vecEq f g))) w) : o.wpIn F n Tryz.prog a w K Q :=
 opIn_binF _ _ _ x y ho hx hy (guardF _ _ x y _ _ w gtV (.inl rfl)) (run_eqlV f g w) hK
theorem neF' (t' : TypeId) (x y : Operand) (ho : o.op = .binOp .neq 29 x y t') {f g : Frt} (hx : a.eval x = .agg f.cells) (hy : a.eval y = .agg g.cells) {c : Bool} (hc : frEq f g = c) (hK : K (a.put o.dst (.bool (!c))) w) : o.wpIn F n Tryz.prog a w K Q := by
 subst hc
 exact neF t' x y ho hx hy hK
theorem eqF' (t' : TypeId) (x y : Operand) (ho : o.op = .binOp .eql 29 x y t') {f g : Frt} (hx : a.eval x = .agg f.cells) (hy : a.eval y = .agg g.cells) {c : Bool} (hc : frEq f g = c) (hK : K (a.put o.dst (.bool c)) w) : o.wpIn F n Tryz.prog a w K Q := by
 subst hc
 exact eqF t' x y ho hx hy hK
theorem neP' (t' : TypeId) (x y : Operand) (ho : o.op = .binOp .neq 26 x y t') {f g : Plg} (hx : a.eval x = .agg f.cells) (hy : a.eval y = .agg g.cells) {c : Bool} (hc : plEq f g = c) (hK : K (a.put o.dst (.bool (!c))) w) : o.wpIn F n Tryz.prog a w K Q := by
 subst hc
 exact neP t' x y ho hx hy hK
theorem neV' (t' : TypeId) (x y : Operand) (ho : o.op = .binOp .neq 24 x y t') {f g : Nat → Int} (hx : a.eval x = .agg (lit9 f)) (hy : a.eval y = .agg (lit9 g)) {c : Bool} (hc : vecEq f g = c) (hK : K (a.put o.dst (.bool (!c))) w) : o.wpIn F n Tryz.prog a w K Q := by
 subst hc
 exact neV t' x y ho hx hy hK
theorem eqV' (t' : TypeId) (x y : Operand) (ho : o.op = .binOp .eql 24 x y t') {f g : Nat → Int} (hx : a.eval x = .agg (lit9 f)) (hy : a.eval y = .agg (lit9 g)) {c : Bool} (hc : vecEq f g = c) (hK : K (a.put o.dst (.bool c)) w) : o.wpIn F n Tryz.prog a w K Q := by
 subst hc
 exact eqV t' x y ho hx hy hK
end
end Go.Proofs.YteklfmacnnmomaaGreat
/- Layer 12: kinds, and what they use. -/
namespace Go.Proofs.YteklfmacnnmomaaGreat
open Go.RowKit Go.Shelf
attribute [local go_sem] Oper.semAt_some
def isKind (k : Int) : Bool := decide (1 ≤ k ∧ k ≤ 8)
theorem isKind_iff {k : Int} : isKind k = true ↔ 1 ≤ k ∧ k ≤ 8 := by unfold isKind; exact decide_eq_true_iff
set_option maxRecDepth 100000 in
theorem opIs_any (k : Int) (w : World) : Calls Tryz.prog 93 #[.int .i64 k] w (Gives (.bool (isKind k)) w) := by
 unfold isKind
 rw [Bool.decide_and]
 obtain ⟨b1, h1⟩ : ∃ b1, decide (1 ≤ k) = b1 := ⟨_, rfl⟩
 obtain ⟨b2, h2⟩ : ∃ b2, decide (k ≤ 8) = b2 := ⟨_, rfl⟩
 rw [h1, h2]
 cases b1 <;> cases b2 <;> (
  go_enter Tryz.func93, Tryz.ntmps93
  go_wp2_with fail
  go_ret
  exact ⟨rfl, B7 _ _⟩)
set_option maxRecDepth 100000 in
theorem opPaints_any (k : Int) (w : World) : Calls Tryz.prog 98 #[.int .i64 k] w (Gives (.bool (isKind k && decide (k ≤ 6))) w) := by
 have HI := H7 (fun w' => opIs_any k w')
 obtain ⟨b1, h1⟩ : ∃ b1, isKind k = b1 := ⟨_, rfl⟩
 obtain ⟨b2, h2⟩ : ∃ b2, decide (k ≤ 6) = b2 := ⟨_, rfl⟩
 rw [h1] at HI
 rw [h1, h2]
 clear h1
 cases b1 <;> cases b2 <;> (
  go_enter Tryz.func98, Tryz.ntmps98
  go_wp2_with fail
  refine (HI.out _).mono ?_
  rintro e w2 ⟨rfl, hb⟩
  go_wp2_with fail
  go_ret
  exact ⟨rfl, hb⟩)
/-- The fields' names. -/
abbrev nX : Value := .string ⟨#[88]⟩
abbrev nY : Value := .string ⟨#[89]⟩
abbrev nX2 : Value := .string ⟨#[88, 50]⟩
abbrev nY2 : Value := .string ⟨#[89, 50]⟩
abbrev nSize : Value := .string ⟨#[83, 105, 122, 101]⟩
abbrev nColor : Value := .string ⟨#[67, 111, 108, 111, 114]⟩
abbrev nStamp : Value := .string ⟨#[83, 116, 97, 109, 112]⟩
abbrev nTarget : Value := .string ⟨#[84, 97, 114, 103, 101, 116]⟩
abbrev strO (c : Array Value) : Obj := .cells c 9 (0, 0)
/-- What is laid for the kinds. -/
structure WaysAt (g1 g2 g3 g4 g5 : Nat) (w : World) : Prop where
 brush : w.heap[g1]? = some (strO #[nX, nY, nX2, nY2, nSize, nColor])
 box : w.heap[g2]? = some (strO #[nX, nY, nX2, nY2, nColor])
 of : w.heap[g3]? = some (strO #[nTarget])
 fill : w.heap[g4]? = some (strO #[nX, nY, nSize, nColor])
 stamp : w.heap[g5]? = some (strO #[nX, nY, nStamp])
theorem WaysAt.below {g1 g2 g3 g4 g5 : Nat} {w w' : World} (h : WaysAt g1 g2 g3 g4 g5 w) (hb : Below w.heap.size w w') : WaysAt g1 g2 g3 g4 g5 w' :=
 ⟨(hb.block _ (b7t h.brush)).trans h.brush, (hb.block _ (b7t h.box)).trans h.box, (hb.block _ (b7t h.of)).trans h.of, (hb.block _ (b7t h.fill)).trans h.fill, (hb.block _ (b7t h.stamp)).trans h.stamp⟩
abbrev fV (n : FuncId) : Value := .func (.func n) #[] #[]
abbrev sl (g n : Nat) : Value := .slice (some ⟨g, 0, none⟩) n n
def kindsA (g1 g2 g3 g4 g5 : Nat) : Array Value :=
 #[.slice none 0 0, .nilFunc, .nilFunc, sl g1 6, fV 116, fV 117, sl g1 6, fV 116, fV 117,
  sl g2 5, fV 119, fV 120, sl g2 5, fV 121, fV 120, sl g4 4, fV 122, fV 115,
  sl g5 3, fV 123, fV 124, sl g3 1, fV 118, fV 114, sl g3 1, fV 118, fV 114]
def ways0 : Array Value := #[.slice none 0 0, .nilFunc, .nilFunc, .slice none 0 0, .nilFunc, .nilFunc, .slice none 0 0, .nilFunc, .nilFunc, .slice none 0 0, .nilFunc, .nilFunc, .slice none 0 0, .nilFunc, .nilFunc, .slice none 0 0, .nilFunc, .nilFunc, .slice none 0 0, .nilFunc, .nilFunc, .slice none 0 0, .nilFunc, .nilFunc, .slice none 0 0, .nilFunc, .nilFunc]
set_option maxRecDepth 100000 in
set_option maxHeartbeats 2000000 in
theorem ways_any (w : World) : Calls Tryz.prog 113 #[] w fun e w' => ∃ g1 g2 g3 g4 g5, e = .returned (.agg (kindsA g1 g2 g3 g4 g5)) ∧ WaysAt g1 g2 g3 g4 g5 w' ∧ Below w.heap.size w w' := by
 have HS := H7 (St.start w)
 go_enter Tryz.func113, Tryz.ntmps113
 repeat ((fail_if_success (with_reducible refine stop_at (id := 3) ?_)); (first | go_values | go_skip | go_guarded | go_step | go_upon | go_back | (simp only [Int.not_lt, Int.not_le] at *; go_simp) | (go_values <;> (try go_simp)) | (go_ite <;> go_prune <;> (try go_simp)) | (split <;> (first | (rename_i hx; exact (hx _ rfl).elim) | go_prune))))
 obtain ⟨Z, hZ⟩ : ∃ Z : Array Value, Z = ways0 := ⟨_, rfl⟩
 have HZ := H7 hZ
 have hz2 := hZ
 unfold ways0 at hz2
 rw [← hz2]
 clear hz2 hZ
 have hs_ := (HS.out.alloc (.cells Z 151))
 obtain ⟨w1, hw_⟩ : ∃ w1 : World, (w.alloc (.cells Z 151)) = w1 := ⟨_, rfl⟩
 rw [hw_] at hs_
 try simp only [World.size_alloc] at hs_
 have HS := H7 hs_
 rw [hw_]
 clear hw_ hs_
 repeat ((fail_if_success (with_reducible refine stop_at (id := 4) ?_)); (first | go_values | go_skip | go_guarded | go_step | go_upon | go_back | (simp only [Int.not_lt, Int.not_le] at *; go_simp) | (go_values <;> (try go_simp)) | (go_ite <;> go_prune <;> (try go_simp)) | (split <;> (first | (rename_i hx; exact (hx _ rfl).elim) | go_prune))))
 have hs_ := ((HS.out.alloc (.cells #[nX, nY, nX2, nY2, nSize, nColor] 9)).alloc (.cells #[sl w1.heap.size 6, fV 116, fV 117] 150))
 obtain ⟨w2, hw_⟩ : ∃ w2 : World, ((w1.alloc (.cells #[nX, nY, nX2, nY2, nSize, nColor] 9)).alloc (.cells #[sl w1.heap.size 6, fV 116, fV 117] 150)) = w2 := ⟨_, rfl⟩
 rw [hw_] at hs_
 try simp only [World.size_alloc] at hs_
 have HS := H7 hs_
 rw [hw_]
 clear hw_ hs_
 repeat ((fail_if_success (with_reducible refine stop_at (id := 5) ?_)); (first | go_values | go_skip | go_guarded | go_step | go_upon | go_back | (simp only [Int.not_lt, Int.not_le] at *; go_simp) | (go_values <;> (try go_simp)) | (go_ite <;> go_prune <;> (try go_simp)) | (split <;> (first | (rename_i hx; exact (hx _ rfl).elim) | go_prune))))
 have hs_ := (HS.out.alloc (.cells #[nX, nY, nX2, nY2, nColor] 9))
 obtain ⟨w3, hw_⟩ : ∃ w3 : World, (w2.alloc (.cells #[nX, nY, nX2, nY2, nColor] 9)) = w3 := ⟨_, rfl⟩
 rw [hw_] at hs_
 try simp only [World.size_alloc] at hs_
 have HS := H7 hs_
 rw [hw_]
 clear hw_ hs_
 repeat ((fail_if_success (with_reducible refine stop_at (id := 6) ?_)); (first | go_values | go_skip | go_guarded | go_step | go_upon | go_back | (simp only [Int.not_lt, Int.not_le] at *; go_simp) | (go_values <;> (try go_simp)) | (go_ite <;> go_prune <;> (try go_simp)) | (split <;> (first | (rename_i hx; exact (hx _ rfl).elim) | go_prune))))
 have hs_ := ((HS.out.alloc (.cells #[nTarget] 9)).alloc (.cells #[sl w3.heap.size 1, fV 118, fV 114] 150))
 obtain ⟨w4, hw_⟩ : ∃ w4 : World, ((w3.alloc (.cells #[nTarget] 9)).alloc (.cells #[sl w3.heap.size 1, fV 118, fV 114] 150)) = w4 := ⟨_, rfl⟩
 rw [hw_] at hs_
 try simp only [World.size_alloc] at hs_
 have HS := H7 hs_
 rw [hw_]
 clear hw_ hs_
 have x0 := h7c HS 3 0 rfl rfl
 have x1 := h7c HS 3 1 rfl rfl
 have x2 := h7c HS 3 2 rfl rfl
 have y0 := c7b (k := 0) (((HS.out.alloc (.cells #[nX, nY, nSize, nColor] 9)).alloc (.cells #[nX, nY, nStamp] 9)).blockAt 2 rfl) rfl
 have y1 := c7b (k := 1) (((HS.out.alloc (.cells #[nX, nY, nSize, nColor] 9)).alloc (.cells #[nX, nY, nStamp] 9)).blockAt 2 rfl) rfl
 have y2 := c7b (k := 2) (((HS.out.alloc (.cells #[nX, nY, nSize, nColor] 9)).alloc (.cells #[nX, nY, nStamp] 9)).blockAt 2 rfl) rfl
 have hst := (HS.out.alloc (.cells #[nX, nY, nSize, nColor] 9)).alloc (.cells #[nX, nY, nStamp] 9)
 have hzb := hst.blockAt 7 rfl
 have hzs : Z.size = (kindsA w1.heap.size w2.heap.size w3.heap.size w4.heap.size (w4.heap.size + 1)).size := by rw [HZ.out]; rfl
 refine (wpIn_wide (n := 0)).1 ?_
 iterate 44 gi_step
 refine opIn_store 151 _ _ rfl w.heap.size 151 Z (kindsA w1.heap.size w2.heap.size w3.heap.size w4.heap.size (w4.heap.size + 1)) rfl rfl hzb (by kernel_rfl) hzs (by unfold kindsA; rw [List.all_toArray]; rfl) ?_
 simp only [Act.put, List.setIfInBounds_toArray, List.set_cons_succ, List.set_cons_zero]
 have hs5 := hst.putRow (c' := kindsA w1.heap.size w2.heap.size w3.heap.size w4.heap.size (w4.heap.size + 1)) (pre := [_, _, _, _, _, _, _]) (by intro i hi; simp at hi; rcases hi with rfl | rfl | rfl | rfl | rfl | rfl | rfl <;> exact ⟨_, _, rfl⟩)
 clear x0 x1 x2 y0 y1 y2 hst hzb hzs
 obtain ⟨w5, hw5⟩ : ∃ w5, ((w4.alloc (.cells #[nX, nY, nSize, nColor] 9)).alloc (.cells #[nX, nY, nStamp] 9)).setRow w.heap.size (kindsA w1.heap.size w2.heap.size w3.heap.size w4.heap.size (w4.heap.size + 1)) = w5 := ⟨_, rfl⟩
 rw [hw5] at hs5
 rw [hw5]
 clear hw5
 have HS := H7 hs5
 clear hs5
 gi_wp2_with fail
 go_wp2_with fail
 have hl := run_loadVar_row (P := Tryz.prog) w5 w.heap.size 151 151 (kindsA w1.heap.size w2.heap.size w3.heap.size w4.heap.size (w4.heap.size + 1)) (0, 0) _ (HS.out.blockAt 7 rfl) Tryz.underlying151 rfl (by kernel_rfl)
 refine bodyPost_ret (results_cell1 Tryz.results113 rfl hl) rfl ⟨w1.heap.size, w2.heap.size, w3.heap.size, w4.heap.size, w4.heap.size + 1, rfl, ⟨HS.out.blockAt 6 rfl, HS.out.blockAt 4 rfl, HS.out.blockAt 3 rfl, HS.out.blockAt 1 rfl, ?_⟩, HS.out.low⟩
 exact HS.out.blockAt 0 (by simp)
/- Layer 12: uses. -/
def usesN (k : Int) : List Value :=
 if k = 1 ∨ k = 2 then [nX, nY, nX2, nY2, nSize, nColor] else if k = 3 ∨ k = 4 then [nX, nY, nX2, nY2, nColor] else if k = 5 then [nX, nY, nSize, nColor] else if k = 6 then [nX, nY, nStamp] else if k = 7 ∨ k = 8 then [nTarget] else []
/-- A row of names, in memory. -/
def UsesV (ns : List Value) (v : Value) (w : World) : Prop := (ns = [] ∧ v = .slice none 0 0) ∨ ∃ g, v = sl g ns.length ∧ w.heap[g]? = some (strO ns.toArray)
theorem UsesV.below {ns : List Value} {v : Value} {w w' : World} (h : UsesV ns v w) (hb : Below w.heap.size w w') : UsesV ns v w' := by
 rcases h with h | ⟨g, h1, h2⟩
 · exact .inl h
 · exact .inr ⟨g, h1, (hb.block _ (b7t h2)).trans h2⟩
theorem usesN_no {k : Int} (h : isKind k = false) : usesN k = [] := by
 have h2 : ¬ (1 ≤ k ∧ k ≤ 8) := fun h3 => by rw [isKind_iff.2 h3] at h; cases h
 unfold usesN
 rw [if_neg (by omega), if_neg (by omega), if_neg (by omega), if_neg (by omega), if_neg (by omega)]
/-- A kind's way, out of the array. -/
theorem run_index_way (cs : Array Value) (hc : cs.size = 27) (k : Nat) (hk : k < 9) (w : World) : (Instr.index 151 (.agg cs) (.int .i64 (k : Int))).run Tryz.prog w = .ok (.agg (cs.extract (k * 3) (k * 3 + 3))) w := by
 have hn : (0 : Int) ≤ (k : Int) ∧ (k : Int) < 9 := by omega
 have h1 := Tryz.isAgg150 w
 have h2 := Tryz.sizeOf150 w
 simp [Instr.index, run_underlying Tryz.underlying151, asIntOf, hn, part, h1, h2, go_sem, hc]
 try (intro h'; omega)
theorem run_uses_way (x y z : Value) (hx : ∃ a n c, x = .slice a n c) (w : World) : (Instr.field 150 (.agg #[x, y, z]) 0).run Tryz.prog w = .ok x w := by
 obtain ⟨a, n, c, rfl⟩ := hx
 have h1 := Tryz.isAgg141 w
 have h2 := Tryz.sizeOf141 w
 simp [Instr.field, run_underlying Tryz.underlying150, part, asAgg, h1, h2, go_sem]
theorem run_way1 (g1 g2 g3 g4 g5 : Nat) (w : World) : (Instr.index 151 (.agg (kindsA g1 g2 g3 g4 g5)) (.int .i64 1)).run Tryz.prog w = .ok (.agg #[sl g1 6, fV 116, fV 117]) w := (run_index_way (kindsA g1 g2 g3 g4 g5) rfl 1 (by decide) w).trans (by simp [kindsA])
theorem run_way2 (g1 g2 g3 g4 g5 : Nat) (w : World) : (Instr.index 151 (.agg (kindsA g1 g2 g3 g4 g5)) (.int .i64 2)).run Tryz.prog w = .ok (.agg #[sl g1 6, fV 116, fV 117]) w := (run_index_way (kindsA g1 g2 g3 g4 g5) rfl 2 (by decide) w).trans (by simp [kindsA])
theorem run_way3 (g1 g2 g3 g4 g5 : Nat) (w : World) : (Instr.index 151 (.agg (kindsA g1 g2 g3 g4 g5)) (.int .i64 3)).run Tryz.prog w = .ok (.agg #[sl g2 5, fV 119, fV 120]) w := (run_index_way (kindsA g1 g2 g3 g4 g5) rfl 3 (by decide) w).trans (by simp [kindsA])
theorem run_way4 (g1 g2 g3 g4 g5 : Nat) (w : World) : (Instr.index 151 (.agg (kindsA g1 g2 g3 g4 g5)) (.int .i64 4)).run Tryz.prog w = .ok (.agg #[sl g2 5, fV 121, fV 120]) w := (run_index_way (kindsA g1 g2 g3 g4 g5) rfl 4 (by decide) w).trans (by simp [kindsA])
theorem run_way5 (g1 g2 g3 g4 g5 : Nat) (w : World) : (Instr.index 151 (.agg (kindsA g1 g2 g3 g4 g5)) (.int .i64 5)).run Tryz.prog w = .ok (.agg #[sl g4 4, fV 122, fV 115]) w := (run_index_way (kindsA g1 g2 g3 g4 g5) rfl 5 (by decide) w).trans (by simp [kindsA])
theorem run_way6 (g1 g2 g3 g4 g5 : Nat) (w : World) : (Instr.index 151 (.agg (kindsA g1 g2 g3 g4 g5)) (.int .i64 6)).run Tryz.prog w = .ok (.agg #[sl g5 3, fV 123, fV 124]) w := (run_index_way (kindsA g1 g2 g3 g4 g5) rfl 6 (by decide) w).trans (by simp [kindsA])
theorem run_way7 (g1 g2 g3 g4 g5 : Nat) (w : World) : (Instr.index 151 (.agg (kindsA g1 g2 g3 g4 g5)) (.int .i64 7)).run Tryz.prog w = .ok (.agg #[sl g3 1, fV 118, fV 114]) w := (run_index_way (kindsA g1 g2 g3 g4 g5) rfl 7 (by decide) w).trans (by simp [kindsA])
theorem run_way8 (g1 g2 g3 g4 g5 : Nat) (w : World) : (Instr.index 151 (.agg (kindsA g1 g2 g3 g4 g5)) (.int .i64 8)).run Tryz.prog w = .ok (.agg #[sl g3 1, fV 118, fV 114]) w := (run_index_way (kindsA g1 g2 g3 g4 g5) rfl 8 (by decide) w).trans (by simp [kindsA])
set_option maxRecDepth 100000 in
set_option maxHeartbeats 2000000 in
theorem uses_any (k : Int) (w : World) : Calls Tryz.prog 106 #[.int .i64 k] w fun e w' => ∃ v, e = .returned v ∧ UsesV (usesN k) v w' ∧ Below w.heap.size w w' := by
 have HI := H7 (fun w' => opIs_any k w')
 cases hk : isKind k with
 | false =>
  rw [hk] at HI
  have HU := H7 (usesN_no hk)
  clear hk
  go_enter Tryz.func106, Tryz.ntmps106
  go_wp2_with fail
  refine (HI.out _).mono ?_
  rintro e w2 ⟨rfl, hb⟩
  go_wp2_with fail
  go_ret
  exact ⟨_, rfl, .inl ⟨HU.out, rfl⟩, hb⟩
 | true =>
  rw [hk] at HI
  have h8 := isKind_iff.1 hk
  rcases (show k = 1 ∨ k = 2 ∨ k = 3 ∨ k = 4 ∨ k = 5 ∨ k = 6 ∨ k = 7 ∨ k = 8 by omega) with rfl | rfl | rfl | rfl | rfl | rfl | rfl | rfl
  all_goals
   clear hk h8
   go_enter Tryz.func106, Tryz.ntmps106
   go_wp2_with fail
   refine (HI.out _).mono ?_
   rintro e w2 ⟨rfl, hb⟩
   go_wp2_with fail
   refine (ways_any w2).mono ?_
   rintro e w3 ⟨g1, g2, g3, g4, g5, rfl, hW, hb3⟩
   obtain ⟨A, hA⟩ : ∃ A, kindsA g1 g2 g3 g4 g5 = A := ⟨_, rfl⟩
   have r1 := run_way1 g1 g2 g3 g4 g5 w3
   have r2 := run_way2 g1 g2 g3 g4 g5 w3
   have r3 := run_way3 g1 g2 g3 g4 g5 w3
   have r4 := run_way4 g1 g2 g3 g4 g5 w3
   have r5 := run_way5 g1 g2 g3 g4 g5 w3
   have r6 := run_way6 g1 g2 g3 g4 g5 w3
   have r7 := run_way7 g1 g2 g3 g4 g5 w3
   have r8 := run_way8 g1 g2 g3 g4 g5 w3
   have u1 := fun (a n : Nat) (y z : Value) => run_uses_way (sl a n) y z ⟨_, _, _, rfl⟩ w3
   rw [hA] at r1 r2 r3 r4 r5 r6 r7 r8 ⊢
   clear hA
   go_wp2_with fail
   go_ret
   refine ⟨_, rfl, .inr ?_, hb.trans (hb3.mono hb.size)⟩
   first | exact ⟨g1, rfl, hW.brush⟩ | exact ⟨g2, rfl, hW.box⟩ | exact ⟨g4, rfl, hW.fill⟩ | exact ⟨g5, rfl, hW.stamp⟩ | exact ⟨g3, rfl, hW.of⟩
/- Layer 9: stamps: Check, Same; colours' rows. -/
theorem lay_eqC : Go.Proofs.SlLaysQ.n8 Tryz.prog ⟨fun | 8 => 112 | n => n, fun | 22 => 47 | 24 => 46 | 4 => 4 | 3 => 3 | 0 => 0 | n => n, fun | n => n⟩ := {
 mixed := by kernel_rfl
 f8 := ⟨Tryz.f112.name, by decide, Tryz.func112.trans (congrArg some (by kernel_rfl))⟩
 t22 := Tryz.underlying47
 a22 := Tryz.isAgg47
 z22 := Tryz.sizeOf47
 v22 := Tryz.zeroValue47
 t4 := Tryz.underlying4
 a4 := Tryz.isAgg4
 z4 := Tryz.sizeOf4
 v4 := Tryz.zeroValue4
 t3 := Tryz.underlying3
 a3 := Tryz.isAgg3
 z3 := Tryz.sizeOf3
 v3 := Tryz.zeroValue3
 t0 := Tryz.underlying0
 a0 := Tryz.isAgg0
 z0 := Tryz.sizeOf0
 v0 := Tryz.zeroValue0 }
theorem lay_cloneC : Go.Proofs.SlLaysE0.n41 Tryz.prog ⟨fun | 41 => 107 | n => n, fun | 22 => 47 | 23 => 46 | 4 => 4 | n => n, fun | n => n⟩ := {
 mixed := by kernel_rfl
 f41 := ⟨Tryz.f107.name, by decide, Tryz.func107.trans (congrArg some (by kernel_rfl))⟩
 t22 := Tryz.underlying47
 a22 := Tryz.isAgg47
 z22 := Tryz.sizeOf47
 v22 := Tryz.zeroValue47
 t4 := Tryz.underlying4
 a4 := Tryz.isAgg4
 z4 := Tryz.sizeOf4
 v4 := Tryz.zeroValue4 }
theorem run_neq_col (a b : ColT) (w : World) : (binOp .neq 46 (.agg (encC a).toArray) (.agg (encC b).toArray)).run Tryz.prog w = .ok (.bool (!decide (a = b))) w := by
 have h := colE_run a b w
 unfold ColT.val at h
 unfold encC
 simp [binOp, h]
theorem neq_col : NeqAt Tryz.prog 46 (fun x => .agg (encC x).toArray) (fun a b => decide (a = b)) := ⟨fun x y w => run_neq_col x y w, GuardAt.agg _ (by kernel_rfl)⟩
instance : Inhabited ColT := ⟨⟨0, 0, 0, 0⟩⟩
theorem encC_one : ∀ (q : ColT), ∀ u ∈ encC q, u.oneCell' = true := by
 intro q u hu
 unfold encC at hu
 simp only [List.mem_cons, List.not_mem_nil, or_false] at hu
 rcases hu with rfl | rfl | rfl | rfl <;> rfl
theorem infoCl : (Tryz.prog.info? 46).map (fun i => (i.zero, i.size, i.bytes)) = some (some (.agg #[.int .u8 0, .int .u8 0, .int .u8 0, .int .u8 0]), 4, 4) := by kernel_rfl
theorem eqC_any (s1 s2 : Value) (l m : List ColT) (w : World) (h1 : Elems w s1 l.length 4 (rowC encC l)) (h2 : Elems w s2 m.length 4 (rowC encC m)) (hl : l.length ≤ 1000000000) :
 Calls Tryz.prog 112 #[s1, s2] w (Gives (.bool (sameB l m)) w) := by
 rw [← allEq_sameB (fun a b : ColT => decide (a = b)) (fun a b => decide_eq_true_iff)]
 exact eqRows lay_eqC 4 Tryz.isAgg46 Tryz.sizeOf46 encC encC_len _ neq_col s1 s2 l m w h1 h2 hl
theorem cloneC_any (sv : Value) (l : List ColT) (w : World) (h : Elems w sv l.length 4 (rowC encC l)) (hl : l.length ≤ 1000000000) :
 Calls Tryz.prog 107 #[sv] w (Cloned 46 4 l.length (l.flatMap encC) sv w) := by
 obtain ⟨i0, hi, hz0, hz1, hz2⟩ := info_parts infoCl
 exact cloneRows lay_cloneC i0 _ 4 4 hi hz0 hz1 hz2 rfl (by omega) Tryz.sizeOf46 encC encC_len encC_one sv l w h hl (by omega)
def sideB (n : Int) : Bool := decide (1 ≤ n) && decide (n ≤ 8)
set_option maxRecDepth 100000 in
theorem stSide_any (n : Int) (w : World) : Calls Tryz.prog 109 #[.int .i64 n] w (Gives (.bool (sideB n)) w) := by
 unfold sideB
 obtain ⟨b1, h1⟩ : ∃ b1, decide (1 ≤ n) = b1 := ⟨_, rfl⟩
 obtain ⟨b2, h2⟩ : ∃ b2, decide (n ≤ 8) = b2 := ⟨_, rfl⟩
 rw [h1, h2]
 cases b1 <;> cases b2 <;> (
  go_enter Tryz.func109, Tryz.ntmps109
  go_wp2_with fail
  go_ret
  exact ⟨rfl, B7 _ _⟩)
def stOk (wide high : Int) (n : Nat) : Bool := (sideB wide && sideB high) && ((n : Int) == wide * high)
set_option maxRecDepth 100000 in
set_option maxHeartbeats 1000000 in
theorem stCheck_any (wide high : Int) (a : Option Addr) (n cap : Nat) (w : World) : Calls Tryz.prog 97 #[.agg #[.int .i64 wide, .int .i64 high, .slice a n cap]] w (Gives (.int .i64 (errOf (stOk wide high n) 190)) w) := by
 have HS := H7 (St.start w)
 have HW := H7 (fun w' => stSide_any wide w')
 have HH := H7 (fun w' => stSide_any high w')
 unfold stOk
 have hmul : sideB wide = true → sideB high = true → wrap64 (wide * high) = wide * high := fun h1 h2 => by
  unfold sideB at h1 h2
  simp only [Bool.and_eq_true, decide_eq_true_eq] at h1 h2
  obtain ⟨W, rfl⟩ := Int.eq_ofNat_of_zero_le (a := wide) (by omega)
  obtain ⟨H, rfl⟩ := Int.eq_ofNat_of_zero_le (a := high) (by omega)
  have h3 : W * H ≤ 8 * 8 := Nat.mul_le_mul (by omega) (by omega)
  rw [← Int.natCast_mul]
  unfold wrap64
  omega
 obtain ⟨p, hp⟩ : ∃ p, sideB wide = p := ⟨_, rfl⟩
 obtain ⟨q, hq⟩ : ∃ q, sideB high = q := ⟨_, rfl⟩
 rw [hp] at HW hmul
 rw [hq] at HH hmul
 rw [hp, hq]
 clear hp hq
 have HM := H7 hmul
 clear hmul
 go_enter Tryz.func97, Tryz.ntmps97
 repeat ((fail_if_success (with_reducible refine stop_at (id := 1) ?_)); (first | go_values | go_skip | go_guarded | go_step | go_upon | go_back | (simp only [Int.not_lt, Int.not_le] at *; go_simp) | (go_values <;> (try go_simp)) | (go_ite <;> go_prune <;> (try go_simp)) | (split <;> (first | (rename_i hx; exact (hx _ rfl).elim) | go_prune))))
 have hs_ := (HS.out.alloc (.cells #[.int .i64 wide, .int .i64 high, .slice a n cap] 49))
 obtain ⟨w1, hw_⟩ : ∃ w1 : World, (w.alloc (.cells #[.int .i64 wide, .int .i64 high, .slice a n cap] 49)) = w1 := ⟨_, rfl⟩
 rw [hw_] at hs_
 try simp only [World.size_alloc] at hs_
 have HS := H7 hs_
 rw [hw_]
 clear hw_ hs_
 have z0 := h7c HS 0 0 rfl rfl
 have z1 := h7c HS 0 1 rfl rfl
 go_wp2_with fail
 clear z0 z1
 refine (HW.out _).mono ?_
 rintro e w2 ⟨rfl, hb_⟩
 have HS := H7 (HS.out.below hb_)
 clear hb_
 cases p with
 | false =>
  go_wp2_with fail
  go_ret
  exact ⟨rfl, HS.out.low⟩
 | true =>
  have z1 := h7c HS 0 1 rfl rfl
  go_wp2_with fail
  clear z1
  refine (HH.out _).mono ?_
  rintro e w3 ⟨rfl, hb_⟩
  have HS := H7 (HS.out.below hb_)
  clear hb_
  cases q with
  | false =>
   go_wp2_with fail
   go_ret
   exact ⟨rfl, HS.out.low⟩
  | true =>
   have z0 := h7c HS 0 0 rfl rfl
   have z1 := h7c HS 0 1 rfl rfl
   have z2 := h7c HS 0 2 rfl rfl
   have e1 := HM.out (by trivial) (by trivial)
   obtain ⟨M, hM⟩ : ∃ M, wide * high = M := ⟨_, rfl⟩
   rw [hM] at e1
   have HMM := H7 hM
   obtain ⟨c, hc⟩ : ∃ c, ((n : Int) == M) = c := ⟨_, rfl⟩
   have hc2 : (!((n : Int) == M)) = !c := by rw [hc]
   have HC := H7 hc
   cases c <;> (
    go_wp2_with fail
    go_ret
    exact ⟨by first | rfl | (rw [HMM.out, HC.out]; rfl), HS.out.low⟩)
def stSame (w1 h1 w2 h2 : Int) (l m : List ColT) : Bool := ((w1 == w2) && (h1 == h2)) && sameB l m
set_option maxRecDepth 100000 in
set_option maxHeartbeats 1000000 in
theorem stSame_any (wide high : Int) (a : Option Addr) (cap : Nat) (l : List ColT) (wide2 high2 : Int) (a2 : Option Addr) (cap2 : Nat) (m : List ColT) (hl : l.length ≤ 1000000000) (w : World)
 (he : Elems w (.slice a l.length cap) l.length 4 (rowC encC l)) (he2 : Elems w (.slice a2 m.length cap2) m.length 4 (rowC encC m)) :
 Calls Tryz.prog 105 #[.agg #[.int .i64 wide, .int .i64 high, .slice a l.length cap], .agg #[.int .i64 wide2, .int .i64 high2, .slice a2 m.length cap2]] w (Gives (.bool (stSame wide high wide2 high2 l m)) w) := by
 have HS := H7 (St.start w)
 have HE := H7 (fun w' (hb : Below w.heap.size w w') => eqC_any _ _ l m w' (he.below hb) (he2.below hb) hl)
 unfold stSame
 obtain ⟨n, hn⟩ : ∃ n, l.length = n := ⟨_, rfl⟩
 obtain ⟨k, hk⟩ : ∃ k, m.length = k := ⟨_, rfl⟩
 obtain ⟨s, hs⟩ : ∃ s, sameB l m = s := ⟨_, rfl⟩
 rw [hn, hk] at HE ⊢
 rw [hs] at HE ⊢
 obtain ⟨b1, h1⟩ : ∃ b1, (wide == wide2) = b1 := ⟨_, rfl⟩
 obtain ⟨b2, h2⟩ : ∃ b2, (high == high2) = b2 := ⟨_, rfl⟩
 rw [h1, h2]
 clear he he2 hl hn hk hs
 cases b1 <;> cases b2 <;> (
  go_enter Tryz.func105, Tryz.ntmps105
  repeat ((fail_if_success (with_reducible refine stop_at (id := 1) ?_)); (first | go_values | go_skip | go_guarded | go_step | go_upon | go_back | (simp only [Int.not_lt, Int.not_le] at *; go_simp) | (go_values <;> (try go_simp)) | (go_ite <;> go_prune <;> (try go_simp)) | (split <;> (first | (rename_i hx; exact (hx _ rfl).elim) | go_prune))))
  have hs_ := ((HS.out.alloc (.cells #[.int .i64 wide, .int .i64 high, .slice a n cap] 49)).alloc (.cells #[.int .i64 wide2, .int .i64 high2, .slice a2 k cap2] 49))
  obtain ⟨w1, hw_⟩ : ∃ w1 : World, ((w.alloc (.cells #[.int .i64 wide, .int .i64 high, .slice a n cap] 49)).alloc (.cells #[.int .i64 wide2, .int .i64 high2, .slice a2 k cap2] 49)) = w1 := ⟨_, rfl⟩
  rw [hw_] at hs_
  try simp only [World.size_alloc] at hs_
  have HS := H7 hs_
  rw [hw_]
  clear hw_ hs_
  have z0 := h7c HS 0 0 rfl rfl
  have z1 := h7c HS 0 1 rfl rfl
  have z2 := h7c HS 0 2 rfl rfl
  have y0 := h7c HS 1 0 rfl rfl
  have y1 := h7c HS 1 1 rfl rfl
  have y2 := h7c HS 1 2 rfl rfl
  go_wp2_with fail
  first
   | (go_ret; exact ⟨rfl, HS.out.low⟩)
   | (
    refine (HE.out _ HS.out.low).mono ?_
    rintro e w2 ⟨rfl, hb⟩
    have hlow := HS.out.low.trans (hb.mono HS.out.low.size)
    go_wp2_with fail
    go_ret
    exact ⟨rfl, hlow⟩))
end Go.Proofs.YteklfmacnnmomaaGreat
/- What a clone is for those who only read it; rows beside a store. -/
namespace Go.Proofs.YteklfmacnnmomaaGreat
open Go.RowKit Go.Shelf
/-- What a clone is, for those who only read it. -/
theorem clone_read {α : Type} {E : TypeId} {k n : Nat} {enc : α → List Value} {L : List α} {sv : Value} {w : World} {e : Ending} {w' : World} (hk : ∀ q, (enc q).length = k) (hn : L.length = n) (h : Cloned E k L.length (L.flatMap enc) sv w e w') :
 ∃ a cap, e = .returned (.slice a n cap) ∧ n ≤ cap ∧ Elems w' (.slice a n cap) n k (rowC enc L) ∧ Below w.heap.size w w' ∧ ∀ ad, a = some ad → w.heap.size ≤ ad.block := by
 obtain ⟨v, rfl, hr, -, hb⟩ := h
 subst hn
 have he := ownsRow_rows hk hr
 rcases hr.2 with ⟨rfl, h0⟩ | ⟨g, cap, cur, rfl, h1, h2, h3, h4⟩
 · exact ⟨none, 0, by rw [h0], by omega, by rw [h0] at he ⊢; exact he, hb, fun ad e => by cases e⟩
 · exact ⟨_, cap, rfl, h3, he, hb, fun ad e => by cases e; exact h1⟩
theorem elems_other {w : World} {a : Option Addr} {n cap k : Nat} {f : Nat → Value} (h : Elems w (.slice a n cap) n k f) {p : Nat} (hp : ∀ ad, a = some ad → ad.block ≠ p) (j : Nat) (v : Value) : Elems (w.setCell ⟨p, j, none⟩ v) (.slice a n cap) n k f := by
 rcases h with h | ⟨b, off, cap', e, hlt, hc⟩
 · exact .inl h
 · cases e
   refine .inr ⟨b, off, cap, rfl, by rw [World.size_setCell]; exact hlt, fun i hi => ?_⟩
   rw [← hc i hi]
   exact World.cell?_of_block (Below.heap_setCell _ _ _ b (hp ⟨b, off, none⟩ rfl))
end Go.Proofs.YteklfmacnnmomaaGreat
