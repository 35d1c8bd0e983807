/- Merged texts: Bld Tile Made MadeB. -/
import Derived.Test.YtodpkgbpcpfamaaGreatM3
import Derived.Maps.OwnIn
/- Whole arrays that are built: cells that are never written out. -/
namespace Go.Proofs.YtodpkgbpcpfamaaGreat
set_option linter.unusedSimpArgs false
set_option linter.unusedVariables false
open Go.RowKit Go.Shelf

theorem foldl_get : ∀ (l : List Value) (cs : Array Value) (k : Nat), k + l.length ≤ cs.size → ∀ j, ((l.zipIdx k).foldl (fun (cs : Array Value) (p : Value × Nat) => cs.setIfInBounds (0 + p.2) p.1) cs)[j]? = if k ≤ j ∧ j < k + l.length then l[j - k]? else cs[j]?
 | [], cs, k, _, j => by
  have : ¬ (k ≤ j ∧ j < k + ([] : List Value).length) := by simp
  rw [if_neg this]; rfl
 | v :: l, cs, k, h, j => by
  simp only [List.length_cons] at h
  rw [List.zipIdx_cons, List.foldl_cons, foldl_get l _ (k + 1) (by rw [Array.size_setIfInBounds]; omega), Array.getElem?_setIfInBounds, Nat.zero_add]
  by_cases h1 : j = k
  · subst h1
    rw [if_neg (by omega), if_pos rfl, if_pos (by omega), if_pos (by simp)]
    simp
  · by_cases h2 : k + 1 ≤ j ∧ j < k + 1 + l.length
    · rw [if_pos h2, if_pos (by simp; omega), show j - k = (j - (k + 1)) + 1 by omega, List.getElem?_cons_succ]
    · rw [if_neg h2, if_neg (fun e => h1 e.symm), if_neg (by simp; omega)]
theorem fold_all (t cs : Array Value) (h : cs.size = t.size) : t.zipIdx.foldl (fun (cs : Array Value) (p : Value × Nat) => cs.setIfInBounds (0 + p.2) p.1) cs = t := by
 refine Array.ext_getElem? fun j => ?_
 rw [← Array.foldl_toList, Array.toList_zipIdx, foldl_get t.toList cs 0 (by simp; omega), Nat.sub_zero, Array.getElem?_toList]
 by_cases hj : j < t.size
 · rw [if_pos (by simp; omega)]
 · rw [if_neg (by simp; omega), Array.getElem?_eq_none (by omega), Array.getElem?_eq_none (by omega)]
theorem fill_one (t cs : Array Value) (h : cs.size = t.size) (place : Nat → Option (Nat × Nat)) (hp : place 0 = some (0, t.size)) : Instr.fill place cs [(0, .agg t)] = some t := by
 have h1 := fold_all t cs h
 simp only [Instr.fill, hp, Value.cells]
 have h3 : ¬ 0 + t.size > cs.size := by omega
 simp only [h1, h3]
 simp
/-- One block has turned. -/
theorem St.turn {w0 x y : World} {p : Nat} {o o' : Obj} {pre post : List It} (h : St w0 (pre ++ .blk p o :: post) x) (hpre : ∀ i ∈ pre, ∃ b ob, i = .blk b ob) (hp : y.heap[p]? = some o') (ht : Turned (fun j => j = p) x y) : St w0 (pre ++ .blk p o' :: post) y := by
 have hl : p < x.heap.size := block_lt (h.ok (.blk p o) (List.mem_append.2 (.inr (by simp))))
 obtain ⟨z, hz⟩ : ∃ z : World, { x with heap := x.heap.setIfInBounds p o' } = z := ⟨_, rfl⟩
 have hzp : z.heap[p]? = some o' := by rw [← hz]; simp [hl]
 have hzo : ∀ k, k ≠ p → z.heap[k]? = x.heap[k]? := fun k hk => by
  rw [← hz]
  show (x.heap.setIfInBounds p o')[k]? = _
  rw [Array.getElem?_setIfInBounds_ne (fun e => hk e.symm)]
 have hzs : z.heap.size = x.heap.size := by rw [← hz]; simp
 have h1 : St w0 (pre ++ .blk p o' :: post) z := h.set hpre hzp hzo ⟨by rw [← hz], by rw [← hz], by rw [← hz], by rw [hzs]; exact Nat.le_refl _, fun k hk => hzo k (by omega)⟩
 refine h1.below ⟨by rw [ht.os, ← hz], by rw [ht.tape, ← hz], by rw [ht.output, ← hz], by rw [hzs]; exact ht.size, fun k hk => ?_⟩
 rw [hzs] at hk
 by_cases e : k = p
 · subst e; rw [hp, hzp]
 · rw [ht.block k hk e, hzo k e]

theorem results_cell1 {P : Program} {fn : Func} {c : Tmp} {ty : TypeId} {tmps : Array Value} {ad : Addr} {v : Value} {w : World} (h : fn.results = #[.cell c ty]) (hp : tmps.getD c undef = .pointer (some ad)) (hl : (loadVar ty ad).run P w = .ok v w) : (results fn tmps).run P w = .ok v w := by
 have hp' : (tmps[c]?).getD undef = .pointer (some ad) := by rw [← Array.getD_eq_getD_getElem?]; exact hp
 simp [results, h, hp', asAddr, hl]
theorem results_cell2 {P : Program} {fn : Func} {c u : Tmp} {ty : TypeId} {tmps : Array Value} {ad : Addr} {v x : Value} {w : World} (h : fn.results = #[.cell c ty, .tmp u]) (hp : tmps.getD c undef = .pointer (some ad)) (hu : tmps.getD u undef = x) (hl : (loadVar ty ad).run P w = .ok v w) : (results fn tmps).run P w = .ok (.tuple #[v, x]) w := by
 have hp' : (tmps[c]?).getD undef = .pointer (some ad) := by rw [← Array.getD_eq_getD_getElem?]; exact hp
 have hu' : (tmps[u]?).getD undef = x := by rw [← Array.getD_eq_getD_getElem?]; exact hu
 simp [results, h, hp', hu', asAddr, hl]

section
variable {F : Fence} {n : Nat} {P : Program} {w : World} {o : Oper} {a : Act} {K : Act → World → Prop} {Q : Exit → Act → World → Prop}
theorem opIn_build (t : TypeId) (parts : Array (Nat × Operand)) (ho : o.op = .build t parts) (cells : Array Value) (hb : P.built t (parts.map fun (i, x) => (i, a.eval x)).toList = some cells) (hK : K (a.put o.dst (.agg cells)) w) : o.wpIn F n P a w K Q := by
 unfold Oper.wpIn
 refine ⟨?_, ?_⟩
 · simp [Oper.about, ho]
 · rw [Oper.semAt_plain F _ _ (by rw [ho]; intro c hc; cases hc)]
   simp only [execOp, ho, Sem.run_bind, run_build w t _ cells hb, Result.andThen_ok]
   exact hK
/-- A struct whose one field is an array. -/
theorem built_one {t : TypeId} {it : TypeInfo} {z : Value} {fs : Array Field} {f : Field} {fi : TypeInfo} (hi : P.info? t = some it) (hz : it.zero = some z) (hu : P.underlying t = some (.struct fs)) (hf : fs.toList = [f]) (h0 : f.offset = 0) (hfi : P.info? f.type = some fi)
 {cs : Array Value} (h1 : fi.size = cs.size) (h2 : z.cells.size = cs.size) : P.built t [(0, .agg cs)] = some cs := by
 have hp : fs.toList.mapM (fun f => (P.info? f.type).map fun i => (f.offset, i.size)) = some [(0, cs.size)] := by
  rw [hf]
  simp [hfi, h0, h1]
 unfold Program.built
 rw [hi, hu]
 simp only [hz, hp]
 exact fill_one cs z.cells h2 _ (by simp)
theorem built_one' {t : TypeId} {n : Nat} {fs : Array Field} (hi : (P.info? t).map (fun i => i.zero.map fun z => z.cells.size) = some (some n)) (hu : P.underlying t = some (.struct fs)) (hf : (fs.toList.map fun f => (f.offset, (P.info? f.type).map (·.size))) = [(0, some n)])
 {cs : Array Value} (h : cs.size = n) : P.built t [(0, .agg cs)] = some cs := by
 subst h
 cases hit : P.info? t with
 | none => simp [hit] at hi
 | some it =>
  simp only [hit, Option.map_some, Option.some.injEq] at hi
  cases hz : it.zero with
  | none => simp [hz] at hi
  | some z =>
   simp only [hz, Option.map_some, Option.some.injEq] at hi
   match hl : fs.toList with
   | [] => simp [hl] at hf
   | f :: g :: r => simp [hl] at hf
   | [f] =>
    simp only [hl, List.map_cons, List.map_nil, List.cons.injEq, Prod.mk.injEq, and_true] at hf
    cases hfi : P.info? f.type with
    | none => simp [hfi] at hf
    | some fi =>
     simp only [hfi, Option.map_some, Option.some.injEq] at hf
     exact built_one hit hz hu hl hf.1 hfi hf.2 hi
end
end Go.Proofs.YtodpkgbpcpfamaaGreat

/- Layer 4: a pixel of a tile is put; a tile with one place. -/
namespace Go.Proofs.YtodpkgbpcpfamaaGreat
set_option linter.unusedSimpArgs false
set_option linter.unusedVariables false
open Go.RowKit Go.Shelf
attribute [local go_sem] Oper.semAt_some

theorem encT_get (t : TileT) (k r : Nat) (hr : r < 4) : (encT t)[k * 4 + r]? = (t.1[k]?).bind fun c => (encC c)[r]? := by
 unfold encT
 exact flat_get encC_len t.1 k r hr
theorem set4_get {l : List Value} {i : Nat} {a b c d : Value} (h : i + 4 ≤ l.length) (j : Nat) : ((((l.set i a).set (i + 1) b).set (i + 2) c).set (i + 3) d)[j]? = if j = i then some a else if j = i + 1 then some b else if j = i + 2 then some c else if j = i + 3 then some d else l[j]? := by
 simp only [List.getElem?_set, List.length_set]
 by_cases h0 : j = i
 · subst h0
   rw [if_neg (by omega), if_neg (by omega), if_neg (by omega), if_pos rfl, if_pos (by omega), if_pos rfl]
 · by_cases h1 : j = i + 1
   · subst h1
     rw [if_neg (by omega), if_neg (by omega), if_pos rfl, if_pos (by omega), if_neg h0, if_pos rfl]
   · by_cases h2 : j = i + 2
     · subst h2
       rw [if_neg (by omega), if_pos rfl, if_pos (by omega), if_neg h0, if_neg h1, if_pos rfl]
     · by_cases h3 : j = i + 3
       · subst h3
         rw [if_pos rfl, if_pos (by omega), if_neg h0, if_neg h1, if_neg h2, if_pos rfl]
       · rw [if_neg (by omega), if_neg (by omega), if_neg (by omega), if_neg (by omega), if_neg h0, if_neg h1, if_neg h2, if_neg h3]
theorem encT_set (t : TileT) (k : Nat) (hk : k < 64) (c : ColT) : ((((encT t).set (k * 4) (.int .u8 c.r)).set (k * 4 + 1) (.int .u8 c.g)).set (k * 4 + 2) (.int .u8 c.b)).set (k * 4 + 3) (.int .u8 c.a) = encT (setT t k c) := by
 refine List.ext_getElem? fun j => ?_
 rw [set4_get (by rw [encT_len]; omega)]
 have hj : j = j / 4 * 4 + j % 4 := by omega
 have hr : j % 4 < 4 := by omega
 have e1 := encT_get (setT t k c) (j / 4) (j % 4) hr
 have e2 := encT_get t (j / 4) (j % 4) hr
 rw [← hj] at e1 e2
 rw [e1, e2]
 have hs : (setT t k c).1[j / 4]? = if k = j / 4 then some c else t.1[j / 4]? := by
  simp only [setT]
  rw [List.getElem?_set]
  by_cases h : k = j / 4
  · rw [if_pos h, if_pos (by rw [t.2]; omega), if_pos h]
  · rw [if_neg h, if_neg h]
 rw [hs]
 by_cases h : k = j / 4
 · rw [if_pos h]
   simp only [Option.bind_some]
   rcases (by omega : j % 4 = 0 ∨ j % 4 = 1 ∨ j % 4 = 2 ∨ j % 4 = 3) with e | e | e | e
   · rw [if_pos (by omega), e]; rfl
   · rw [if_neg (by omega), if_pos (by omega), e]; rfl
   · rw [if_neg (by omega), if_neg (by omega), if_pos (by omega), e]; rfl
   · rw [if_neg (by omega), if_neg (by omega), if_neg (by omega), if_pos (by omega), e]; rfl
 · rw [if_neg h, if_neg (by omega), if_neg (by omega), if_neg (by omega), if_neg (by omega)]
/-- A pixel of a block is put. -/
theorem heap_setT {w : World} {S : Nat} {t : TypeId} {f : Nat × Nat} {T : TileT} (h : w.heap[S]? = some (.cells (encT T).toArray t f)) (k : Nat) (hk : k < 64) (c : ColT) :
 ((((w.setCell ⟨S, k * 4, none⟩ (.int .u8 c.r)).setCell ⟨S, k * 4 + 1, none⟩ (.int .u8 c.g)).setCell ⟨S, k * 4 + 2, none⟩ (.int .u8 c.b)).setCell ⟨S, k * 4 + 3, none⟩ (.int .u8 c.a)).heap[S]? = some (.cells (encT (setT T k c)).toArray t f) := by
 have h1 := heap_set_same (heap_set_same (heap_set_same (heap_set_same h (k := k * 4) (.int .u8 c.r)) (k := k * 4 + 1) (.int .u8 c.g)) (k := k * 4 + 2) (.int .u8 c.b)) (k := k * 4 + 3) (.int .u8 c.a)
 rw [List.setIfInBounds_toArray, List.setIfInBounds_toArray, List.setIfInBounds_toArray, List.setIfInBounds_toArray, encT_set T k hk c] at h1
 exact h1

set_option maxRecDepth 100000 in
set_option maxHeartbeats 1000000 in
theorem tilePut_any (S : Nat) (T : TileT) (x y : Nat) (hx : x < 8) (hy : y < 8) (c : ColT) (w : World) (hs : w.heap[S]? = some (.cells (encT T).toArray 143 (0, 0))) :
 Calls Tryz.prog 73 #[.pointer (some ⟨S, 0, none⟩), .int .i64 x, .int .i64 y, c.val] w fun e w' => e = .returned (.bool true) ∧ w'.heap[S]? = some (.cells (encT (setT T (y * 8 + x) c)).toArray 143 (0, 0)) ∧ Turned (fun j => j = S) w w' := by
 have his : isB x y = true := by unfold isB; simp; omega
 have e1 : wrap64 ((y : Int) * 8) = (y : Int) * 8 := by unfold wrap64; omega
 have e2 : wrap64 ((y : Int) * 8 + x) = ((y * 8 + x : Nat) : Int) := by unfold wrap64; omega
 obtain ⟨i, hi⟩ : ∃ i, y * 8 + x = i := ⟨_, rfl⟩
 have hi64 : i < 64 := by omega
 rw [hi] at e2 ⊢
 have HE := Lib.hid (And.intro e1 e2)
 have HI := Lib.hid hi64
 have HH := Lib.hid hs
 have HS := Lib.hid (St.start w)
 obtain ⟨cc, hcc⟩ : ∃ cc, cc = c := ⟨_, rfl⟩
 have HCC := Lib.hid hcc
 rw [← hcc]
 obtain ⟨r, g, b, a⟩ := c
 have hcv : cc.val = .agg #[.int .u8 r, .int .u8 g, .int .u8 b, .int .u8 a] := by rw [hcc]; rfl
 rw [hcv]
 clear e1 e2 hi64 hs hcv hcc hi hx hy
 go_enter Tryz.func73, Tryz.ntmps73
 repeat ((fail_if_success (with_reducible refine stop_at (id := 1) ?_)); (first | go_values | go_skip | go_guarded | go_step | go_upon | go_back | (simp only [Int.not_lt, Int.not_le] at *; go_simp) | (go_values <;> (try go_simp)) | (go_ite <;> go_prune <;> (try go_simp)) | (split <;> (first | (rename_i hx; exact (hx _ rfl).elim) | go_prune))))
 have hs_ := (HS.out.alloc (.cells #[.int .u8 r, .int .u8 g, .int .u8 b, .int .u8 a] 27))
 obtain ⟨w1, hw_⟩ : ∃ w1 : World, (w.alloc (.cells #[.int .u8 r, .int .u8 g, .int .u8 b, .int .u8 a] 27)) = w1 := ⟨_, rfl⟩
 rw [hw_] at hs_
 try simp only [World.size_alloc] at hs_
 have HS := Lib.hid hs_
 rw [hw_]
 clear hw_ hs_
 go_wp2_with fail
 refine (is_any _ _ _).mono ?_
 rintro e w2 ⟨rfl, hb_⟩
 have HS := Lib.hid (HS.out.below hb_)
 clear hb_
 rw [his]
 repeat ((fail_if_success (with_reducible refine stop_at (id := 3) ?_)); (first | go_values | go_skip | go_guarded | go_step | go_upon | go_back | (simp only [Int.not_lt, Int.not_le] at *; go_simp) | (go_values <;> (try go_simp)) | (go_ite <;> go_prune <;> (try go_simp)) | (split <;> (first | (rename_i hx; exact (hx _ rfl).elim) | go_prune))))
 refine (wpIn_wide (n := 0)).1 ?_
 have e1 := HE.out.1
 have e2 := HE.out.2
 have hi64 := HI.out
 apply wp_region_vals 9 (Rl := [(eqv _), (eqv _), (eqv _), (eqv _), (eqv _), (eqv _), (eqv _), (eqv _), (eqv _)]) (C := (fun x y => Below x.heap.size x y))
 case hm => kernel_rfl
 case hk => rfl
 case hCr => exact (fun _ => Below.refl _ _)
 case hCt => intro _ _ _; exact (fun h k => grows_trans h k)
 case hst => exact ⟨fun _ _ _ _ h => h, fun _ _ _ _ h => h, fun _ _ _ _ h => h, fun _ _ _ _ h => h, fun _ _ _ _ h => h, fun _ _ _ _ h => h, fun _ _ _ _ h => h, fun _ _ _ _ h => h, fun _ _ _ _ h => h, trivial⟩
 case hfo => kernel_rfl
 case ht => kernel_rfl
 case hC0 => exact (grows_drew _)
 case hsteps =>
  refine ⟨?_, ?_, ?_, ?_, ?_, ?_, ?_, ?_, ?_, trivial⟩
  · intro a' w' hA hC hD; have s0 : a'.tmps[0]? = some _ := (hA.at 0 (by kernel_rfl)).trans rfl; clear hA hD; refine stepOk_plain rfl ?_; intro K hK; gi_wp2; exact hK _ _ rfl ((fun _ => Below.refl _ _) _)
  · intro a' w' hA hC hD; have s2 : a'.tmps[2]? = some _ := (hA.at 2 (by kernel_rfl)).trans rfl; clear hA hD; refine stepOk_plain rfl ?_; intro K hK; gi_wp2; exact hK _ _ rfl ((fun _ => Below.refl _ _) _)
  · intro a' w' hA hC hD; obtain ⟨u14, s14, r14⟩ := hD ⟨1, .data⟩ (by simp) rfl _ rfl; replace r14 : u14 = _ := r14; subst r14; clear hA hD; refine stepOk_plain rfl ?_; intro K hK; gi_wp2; exact hK _ _ rfl ((fun _ => Below.refl _ _) _)
  · intro a' w' hA hC hD; have s1 : a'.tmps[1]? = some _ := (hA.at 1 (by kernel_rfl)).trans rfl; clear hA hD; refine stepOk_plain rfl ?_; intro K hK; gi_wp2; exact hK _ _ rfl ((fun _ => Below.refl _ _) _)
  · intro a' w' hA hC hD; obtain ⟨u15, s15, r15⟩ := hD ⟨2, .data⟩ (by simp) rfl _ rfl; replace r15 : u15 = _ := r15; subst r15; obtain ⟨u16, s16, r16⟩ := hD ⟨3, .data⟩ (by simp) rfl _ rfl; replace r16 : u16 = _ := r16; subst r16; clear hA hD; refine stepOk_plain rfl ?_; intro K hK; gi_wp2; exact hK _ _ rfl ((fun _ => Below.refl _ _) _)
  · intro a' w' hA hC hD; have s7 : a'.tmps[7]? = some _ := (hA.at 7 (by kernel_rfl)).trans rfl
    have h1_ := (HS.out.below hC).blockAt 0 rfl; have c1_0 := cell_of_block (k := 0) h1_ rfl; have c1_1 := cell_of_block (k := 1) h1_ rfl; have c1_2 := cell_of_block (k := 2) h1_ rfl; have c1_3 := cell_of_block (k := 3) h1_ rfl; clear h1_
    clear hA hD; refine stepOk_plain rfl ?_; intro K hK; gi_wp2; exact hK _ _ rfl ((fun _ => Below.refl _ _) _)
  · intro a' w' hA hC hD; obtain ⟨u13, s13, r13⟩ := hD ⟨0, .data⟩ (by simp) rfl _ rfl; replace r13 : u13 = _ := r13; subst r13; clear hA hD; refine stepOk_plain rfl ?_; intro K hK; gi_wp2; exact hK _ _ rfl ((fun _ => Below.refl _ _) _)
  · intro a' w' hA hC hD; obtain ⟨u19, s19, r19⟩ := hD ⟨6, .data⟩ (by simp) rfl _ rfl; replace r19 : u19 = _ := r19; subst r19; clear hA hD; refine stepOk_plain rfl ?_; intro K hK; gi_wp2; exact hK _ _ rfl ((fun _ => Below.refl _ _) _)
  · intro a' w' hA hC hD; obtain ⟨u20, s20, r20⟩ := hD ⟨7, .data⟩ (by simp) rfl _ rfl; replace r20 : u20 = _ := r20; subst r20; obtain ⟨u17, s17, r17⟩ := hD ⟨4, .data⟩ (by simp) rfl _ rfl; replace r17 : u17 = _ := r17; subst r17; clear hA hD; refine stepOk_plain rfl ?_; intro K hK; gi_wp2; exact hK _ _ rfl ((fun _ => Below.refl _ _) _)
 case hend =>
  intro w3 hC
  simp only [EndFrom, eqv, forall_eq, Act.put, List.length_cons, List.length_nil, List.drop_succ_cons, List.drop_zero, Nat.reduceAdd, List.setIfInBounds_toArray, List.set_cons_succ, List.set_cons_zero]
  have HS := Lib.hid (HS.out.below hC)
  clear hC e1 e2 hi64
  have hb3 := (HS.out.low.block S (block_lt HH.out)).trans HH.out
  obtain ⟨d, hd⟩ : ∃ d, T.1[i]? = some d := ⟨_, List.getElem?_eq_getElem (by rw [T.2]; exact HI.out)⟩
  have cl : ∀ r v, (encC d)[r]? = some v → w3.cell? ⟨S, i * 4 + r, none⟩ = some v := fun r v hv => cell_of_block hb3 (by
   rw [List.getElem?_toArray, encT_get T i r (List.getElem?_eq_some_iff.1 hv).1, hd]; exact hv)
  have c0 := cl 0 _ rfl
  rw [Nat.add_zero] at c0
  have c1 := cl 1 _ rfl
  have c2 := cl 2 _ rfl
  have c3 := cl 3 _ rfl
  have f0 := free_of_block hb3
  have hend := heap_setT hb3 i HI.out cc
  rw [HCC.out] at hend
  have HEND := Lib.hid hend
  clear cl hd hend hb3 his
  gi_wp2
  clear c0 c1 c2 c3
  go_wp2_with fail
  go_ret
  rw [HCC.out]
  refine ⟨rfl, HEND.out, ?_⟩
  have h1 : ∀ {z : World} (k : Nat) (v : Value), Turned (fun j => j = S) w z → Turned (fun j => j = S) w (z.setCell ⟨S, k, none⟩ v) := fun k v h =>
   (h.trans (Turned.of_grown (grownBy_setCellAt _ S k v))).mono fun j _ hj => (by rcases hj with hj | hj; exact hj; exact Option.some.inj hj)
  exact h1 _ _ (h1 _ _ (h1 _ _ (h1 _ _ ((Turned.of_grown (below_grown HS.out.low)).mono fun j _ hj => (by cases hj)))))
theorem built_work {cs : Array Value} (h : cs.size = 256) : Tryz.prog.built 143 [(0, .agg cs)] = some cs := built_one' (n := 256) (by kernel_rfl) Tryz.underlying143 (by kernel_rfl) h

set_option maxRecDepth 100000 in
set_option maxHeartbeats 1000000 in
theorem tileWith_one (T : TileT) (x y : Nat) (hx : x < 8) (hy : y < 8) (c : ColT) (g cap : Nat) (w : World) (hg : w.heap[g]? = some (.cells #[.int .i64 x, .int .i64 y] 33 (0, 0))) :
 Calls Tryz.prog 67 #[.agg (encT T).toArray, c.val, .slice (some ⟨g, 0, none⟩) 1 cap] w (Gives (.tuple #[.agg (encT (setT T (y * 8 + x) c)).toArray, .int .i64 0]) w) := by
 have HP := Lib.hid (fun S w' h => tilePut_any S T x y hx hy c w' h)
 have HG := Lib.hid hg
 have HS := Lib.hid (St.start w)
 obtain ⟨T2, hT2⟩ : ∃ T2, setT T (y * 8 + x) c = T2 := ⟨_, rfl⟩
 rw [hT2] at HP ⊢
 have HSZ := Lib.hid (size_T T)
 have HSZ2 := Lib.hid (size_T T2)
 have HZ := Lib.hid (show (encT T2).toArray.all (·.oneCell') = true by
  rw [List.all_toArray, List.all_eq_true]
  intro u hu
  unfold encT at hu
  obtain ⟨d, -, hd⟩ := List.mem_flatMap.1 hu
  simp only [encC, List.mem_cons, List.not_mem_nil, or_false] at hd
  rcases hd with rfl | rfl | rfl | rfl <;> rfl)
 have HN := Lib.hid (show (encT T).toArray.size = 256 by simp [encT_len])
 have HN2 := Lib.hid (show (encT T2).toArray.size = 256 by simp [encT_len])
 obtain ⟨t1, ht1⟩ : ∃ t1, (encT T).toArray = t1 := ⟨_, rfl⟩
 obtain ⟨t2, ht2⟩ : ∃ t2, (encT T2).toArray = t2 := ⟨_, rfl⟩
 rw [ht1] at HP HSZ HN ⊢
 rw [ht2] at HP HSZ2 HZ HN2 ⊢
 obtain ⟨r, gr, b, a⟩ := c
 unfold ColT.val at HP ⊢
 simp only at HP ⊢
 clear hT2 hx hy hg ht1 ht2
 go_enter Tryz.func67, Tryz.ntmps67
 repeat ((fail_if_success (with_reducible refine stop_at (id := 1) ?_)); (first | go_values | go_skip | go_guarded | go_step | go_upon | go_back | (simp only [Int.not_lt, Int.not_le] at *; go_simp) | (go_values <;> (try go_simp)) | (go_ite <;> go_prune <;> (try go_simp)) | (split <;> (first | (rename_i hx; exact (hx _ rfl).elim) | go_prune))))
 have hs_ := (((HS.out.alloc (.cells t1 67)).alloc (.cells #[.int .u8 r, .int .u8 gr, .int .u8 b, .int .u8 a] 27)).alloc (.cells Tryz.zeroCells67 67))
 obtain ⟨w1, hw_⟩ : ∃ w1 : World, (((w.alloc (.cells t1 67)).alloc (.cells #[.int .u8 r, .int .u8 gr, .int .u8 b, .int .u8 a] 27)).alloc (.cells Tryz.zeroCells67 67)) = w1 := ⟨_, rfl⟩
 rw [hw_] at hs_
 try simp only [World.size_alloc] at hs_
 have HS := Lib.hid hs_
 rw [hw_]
 clear hw_ hs_
 refine (wpIn_wide (n := 0)).1 ?_
 gi_wp2_with fail
 refine opIn_load 67 _ rfl w.heap.size rfl 67 t1 (0, 0) _ (HS.out.blockAt 2 rfl) Tryz.underlying67 rfl HSZ.out ?_
 simp only [Act.put, List.setIfInBounds_toArray, List.set_cons_succ, List.set_cons_zero]
 gi_step
 refine opIn_build 143 _ rfl t1 (by simpa [Act.eval] using built_work HN.out) ?_
 simp only [Act.put, List.setIfInBounds_toArray, List.set_cons_succ, List.set_cons_zero]
 gi_wp2_with fail
 have hs_ := (HS.out.alloc (.cells t1 143))
 obtain ⟨w2, hw_⟩ : ∃ w2 : World, (w1.alloc (.cells t1 143)) = w2 := ⟨_, rfl⟩
 rw [hw_] at hs_
 try simp only [World.size_alloc] at hs_
 have HS := Lib.hid hs_
 rw [hw_]
 clear hw_ hs_
 go_wp2_with fail
 refine wp_loop_rounds 2 ?_
 rw [rounds_succ]
 have hg2 := (HS.out.low.block g (block_lt HG.out)).trans HG.out
 have c0 := cell_of_block (k := 0) hg2 rfl
 have c1 := cell_of_block (k := 1) hg2 rfl
 clear hg2
 repeat ((fail_if_success (with_reducible refine stop_at (id := 6) ?_)); (first | go_values | go_skip | go_guarded | go_step | go_upon | go_back | (simp only [Int.not_lt, Int.not_le] at *; go_simp) | (go_values <;> (try go_simp)) | (go_ite <;> go_prune <;> (try go_simp)) | (split <;> (first | (rename_i hx; exact (hx _ rfl).elim) | go_prune))))
 clear c0 c1
 have hs_ := (HS.out.alloc (.cells #[.int .i64 x, .int .i64 y] 33))
 obtain ⟨w3, hw_⟩ : ∃ w3 : World, (w2.alloc (.cells #[.int .i64 x, .int .i64 y] 33)) = w3 := ⟨_, rfl⟩
 rw [hw_] at hs_
 try simp only [World.size_alloc] at hs_
 have HS := Lib.hid hs_
 rw [hw_]
 clear hw_ hs_
 have p0 := cell_of_block (k := 0) (HS.out.blockAt 0 rfl) rfl
 have p1 := cell_of_block (k := 1) (HS.out.blockAt 0 rfl) rfl
 have q0 := cell_of_block (k := 0) (HS.out.blockAt 3 rfl) rfl
 have q1 := cell_of_block (k := 1) (HS.out.blockAt 3 rfl) rfl
 have q2 := cell_of_block (k := 2) (HS.out.blockAt 3 rfl) rfl
 have q3 := cell_of_block (k := 3) (HS.out.blockAt 3 rfl) rfl
 go_wp2_with fail
 clear p0 p1 q0 q1 q2 q3
 refine (HP.out _ _ (HS.out.blockAt 1 rfl)).mono ?_
 rintro e w4 ⟨rfl, hp4, ht4⟩
 have hs4 := HS.out.turn (pre := [.blk w2.heap.size (.cells #[.int .i64 x, .int .i64 y] 33 (0, 0))]) (by simp) hp4 ht4
 simp only [List.cons_append, List.nil_append] at hs4
 have HS := Lib.hid hs4
 clear hs4 hp4 ht4 HP
 go_wp2_with fail
 rw [rounds_succ]
 repeat ((fail_if_success (with_reducible refine stop_at (id := 9) ?_)); (first | go_values | go_skip | go_guarded | go_step | go_upon | go_back | (simp only [Int.not_lt, Int.not_le] at *; go_simp) | (go_values <;> (try go_simp)) | (go_ite <;> go_prune <;> (try go_simp)) | (split <;> (first | (rename_i hx; exact (hx _ rfl).elim) | go_prune))))
 refine (wpIn_wide (n := 0)).1 ?_
 gi_wp2_with fail
 refine opIn_load 67 _ rfl w1.heap.size rfl 143 t2 (0, 0) _ (HS.out.blockAt 1 rfl) Tryz.underlying67 rfl HSZ2.out ?_
 simp only [Act.put, List.setIfInBounds_toArray, List.set_cons_succ, List.set_cons_zero]
 gi_step
 refine opIn_store 67 _ _ rfl (w.heap.size + 1 + 1) 67 _ t2 rfl rfl (HS.out.blockAt 2 rfl) HSZ2.out (HN2.out.symm ▸ (by kernel_rfl)) HZ.out ?_
 simp only [Act.put, List.setIfInBounds_toArray, List.set_cons_succ, List.set_cons_zero]
 have hs5 := HS.out.putRow (c' := t2) (pre := [.blk w2.heap.size (.cells #[.int .i64 x, .int .i64 y] 33 (0, 0)), .blk w1.heap.size (.cells t2 143 (0, 0))]) (by simp)
 simp only [List.cons_append, List.nil_append] at hs5
 obtain ⟨w5, hw5⟩ : ∃ w5, w4.setRow (w.heap.size + 1 + 1) t2 = w5 := ⟨_, rfl⟩
 rw [hw5] at hs5
 rw [hw5]
 have HS := Lib.hid hs5
 clear hs5 hw5
 gi_wp2_with fail
 go_wp2_with fail
 have hl := run_loadVar_row (P := Tryz.prog) w5 (w.heap.size + 1 + 1) 67 67 t2 (0, 0) _ (HS.out.blockAt 2 rfl) Tryz.underlying67 rfl HSZ2.out
 refine bodyPost_ret (v := .tuple #[.agg t2, .int .i64 0]) (results_cell2 Tryz.results67 rfl rfl hl) rfl ⟨rfl, HS.out.low⟩
end Go.Proofs.YtodpkgbpcpfamaaGreat

/- Layer 5: what tiles come to: pointers; what pointers come to: tiles. -/
namespace Go.Proofs.YtodpkgbpcpfamaaGreat
set_option linter.unusedSimpArgs false
set_option linter.unusedVariables false
open Go.RowKit Go.Shelf
attribute [local go_sem] Oper.semAt_some

section
variable {α : Type} {w0 x y : World} {its : List It} {base : Nat} {e : TypeId} {k : Nat} {enc : α → List Value} {v : Value} {L : List α} {P : Program} {t : TypeId} {bytes : Nat}
/-- An element's cells. -/
theorem elem_range (hk : ∀ q, (enc q).length = k) {b off n cap : Nat} (h : Elems x (.slice (some ⟨b, off, none⟩) n cap) n k (rowC enc L)) {i : Nat} {q : α} (hq : L[i]? = some q) (hn : L.length = n) : x.rangeAt b (off + i * k) (enc q) := by
 intro r u hu
 have hr : r < k := by rw [← hk q]; exact (List.getElem?_eq_some_iff.1 hu).1
 have hi : i < n := by rw [← hn]; exact (List.getElem?_eq_some_iff.1 hq).1
 rcases h with ⟨e, h⟩ | ⟨b', off', cap', e, -, hcs⟩
 · cases e
 · cases e
   have hlt : i * k + r < n * k := by
    calc i * k + r < i * k + k := by omega
     _ = (i + 1) * k := by rw [Nat.add_mul, Nat.one_mul]
     _ ≤ n * k := Nat.mul_le_mul_right _ hi
   have h1 := hcs (i * k + r) hlt
   unfold rowC at h1
   rw [flat_get hk L _ _ hr, hq] at h1
   simp only [Option.bind_some, hu] at h1
   rw [Nat.add_assoc]
   exact h1
/-- append(row, q) in a fence; where the row lies then. -/
theorem wpListIn_app1l {F : Fence} {N : Nat} {ops : Array Oper} {rest : List Oper} {o : Oper} {a : Act} {Q : Exit → Act → World → Prop} (R : RowT P t e k bytes) (hk : ∀ q, (enc q).length = k) (h1 : ∀ q, ∀ u ∈ enc q, u.oneCell' = true)
 (HO : StO w0 its base e k enc v L x) (hb : Below x.heap.size x y) (q : α) (n : Nat) (hn : L.length = n) (hmax : n < 1000000000) (hby : bytes ≤ 1000)
 (s u : Operand) (hgd : o.guard = none) (ho : o.op = .call { callee := .builtin .append, args := #[s, u], argTypes := #[t, t] })
 (hs : a.eval s = v) (g : Nat) (hu : a.eval u = .slice (some ⟨g, 0, none⟩) 1 1) (hg : y.heap.size = g)
 (h : ∀ v' w', StO w0 its base e k enc v' (L ++ [q]) w' → (∃ ad cap, v' = .slice (some ad) (n + 1) cap) → y.grownBy w' v.ownBlock → (v'.ownBlock = v.ownBlock ∨ ∃ b, v'.ownBlock = some b ∧ y.heap.size < b) → wpListIn F N P ops Q rest (a.put o.dst v') w') :
 wpListIn F N P ops Q (o :: rest) a (y.alloc (.cells (enc q).toArray e (0, 0))) := by
 obtain ⟨i, z, hi, hz0, hz1, hz2, hz3⟩ := R.info
 subst hn
 subst hg
 have HY := HO.below hb
 have hbytes : (L.length + 1) * bytes ≤ 140737488355328 := Nat.le_trans (Nat.mul_le_mul (show L.length + 1 ≤ 1000000000 by omega) hby) (by omega)
 refine wpListIn_append_own_at _ hgd s u t ho base e i z k bytes R.un hi hz0 hz1 hz2 hz3 R.pos v L.length _ hs (HY.row.alloc _) ⟨y.heap.size, 0, none⟩ 1 1 (enc q) hu (by rw [hk, Nat.one_mul])
  (fun j x hx => cells_of_block (newBlock y (.cells (enc q).toArray e (0, 0)) _ rfl) j x (by simpa using hx)) (h1 q) (by unfold maxLen; omega) hbytes (by have := HY.hi; simp; omega) ?_
 intro v' w' hown hgrow _ hloc
 refine h v' w' ⟨(HY.st.below ((Below.refl _ _).alloc (Nat.le_refl _) _)).grown (fun j e => (HY.row.lt j e).1) HY.low HY.top hgrow, ?_, HY.low, HY.top, ?_⟩ ?_ (grownTrans (World.grownBy_alloc y _ _) hgrow) ?_
 · rw [List.length_append, List.flatMap_append]; simpa using hown
 · have := hgrow.size; have := HY.hi; simp at *; omega
 · rcases hown.2 with ⟨_, h0⟩ | ⟨g, cap, cur, rfl, _⟩
   · omega
   · exact ⟨_, cap, rfl⟩
 · rcases hloc with h | h
   · exact .inl h
   · exact .inr ⟨_, h, by simp⟩
/-- A new block whose cells are written at once. -/
theorem St.allocRow (h : St w0 its x) (z c : Array Value) (t : TypeId) : St w0 (.blk x.heap.size (.cells c t (0, 0)) :: its) ((x.alloc (.cells z t (0, 0))).setRow x.heap.size c) := by
 have h1 := (h.alloc (.cells z t (0, 0))).putRow (c' := c) (pre := []) (by simp)
 exact h1
end

def encQ (q : Nat) : List Value := [.pointer (some ⟨q, 0, none⟩)]
theorem encQ_len (q : Nat) : (encQ q).length = 1 := rfl
theorem encQ_one (q : Nat) : ∀ u ∈ encQ q, u.oneCell' = true := by intro u hu; simp [encQ] at hu; subst hu; rfl
theorem encT_one (t : TileT) : ∀ u ∈ encT t, u.oneCell' = true := by
 intro u hu
 unfold encT at hu
 obtain ⟨d, -, hd⟩ := List.mem_flatMap.1 hu
 simp only [encC, List.mem_cons, List.not_mem_nil, or_false] at hd
 rcases hd with rfl | rfl | rfl | rfl <;> rfl
theorem encT_all (t : TileT) : (encT t).toArray.all (·.oneCell') = true := by
 rw [List.all_toArray, List.all_eq_true]
 exact encT_one t
theorem rowQ : RowT Tryz.prog 86 91 1 8 := .of (z := .pointer none) Tryz.underlying86 (by kernel_rfl) rfl (by decide)
/-- Pointers to tiles. -/
structure TP (w : World) (qs : List Nat) (ts : List TileT) : Prop where
 len : qs.length = ts.length
 at_ : ∀ (i q : Nat) (t : TileT), qs[i]? = some q → ts[i]? = some t → w.heap[q]? = some (Obj.cells (encT t).toArray 67 (0, 0))
theorem TP.get {w : World} {qs : List Nat} {ts : List TileT} (h : TP w qs ts) {i q : Nat} (hq : qs[i]? = some q) : ∃ t, ts[i]? = some t ∧ w.heap[q]? = some (Obj.cells (encT t).toArray 67 (0, 0)) := by
 have hi := (List.getElem?_eq_some_iff.1 hq).1
 have : i < ts.length := by rw [← h.len]; exact hi
 exact ⟨_, List.getElem?_eq_getElem this, h.at_ i q _ hq (List.getElem?_eq_getElem this)⟩
theorem TP.nil (w : World) : TP w [] [] := ⟨rfl, fun i q t h => by simp at h⟩
theorem TP.kept {w w' : World} {qs : List Nat} {ts : List TileT} {row : Option Nat} (h : TP w qs ts) (hg : w.grownBy w' row) (hr : ∀ b, row = some b → ∃ cs f, w.heap[b]? = some (.cells cs 91 f)) : TP w' qs ts := by
 refine ⟨h.len, fun i q t hq ht => ?_⟩
 have h1 := h.at_ i q t hq ht
 refine (hg.block q (block_lt h1) fun e => ?_).trans h1
 obtain ⟨cs, f, h2⟩ := hr q e.symm
 rw [h2] at h1
 simp at h1
theorem TP.below {w w' : World} {qs : List Nat} {ts : List TileT} (h : TP w qs ts) (hb : Below w.heap.size w w') : TP w' qs ts := h.kept (below_grown hb) (fun _ e => by cases e)
theorem TP.snoc {w : World} {qs : List Nat} {ts : List TileT} {q : Nat} {t : TileT} (h : TP w qs ts) (hq : w.heap[q]? = some (Obj.cells (encT t).toArray 67 (0, 0))) : TP w (qs ++ [q]) (ts ++ [t]) := by
 refine ⟨by simp [h.len], fun i p u hp hu => ?_⟩
 rcases Nat.lt_or_ge i qs.length with hi | hi
 · rw [List.getElem?_append_left hi] at hp
   rw [List.getElem?_append_left (by rw [← h.len]; exact hi)] at hu
   exact h.at_ i p u hp hu
 · rw [List.getElem?_append_right hi] at hp
   rw [List.getElem?_append_right (by rw [← h.len]; exact hi)] at hu
   have e1 : i - qs.length = 0 := by have := (List.getElem?_eq_some_iff.1 hp).1; simp at this; omega
   have e2 : i - ts.length = 0 := by rw [← h.len]; exact e1
   rw [e1] at hp
   rw [e2] at hu
   simp at hp hu
   subst hp hu
   exact hq
theorem ownsRow_typed {w : World} {base : Nat} {e : TypeId} {k n : Nat} {v : Value} {xs : List Value} (h : w.ownsRow base e k v n xs) : ∀ b, v.ownBlock = some b → ∃ cs f, w.heap[b]? = some (.cells cs e f) := by
 intro b hb
 rcases h.2 with ⟨rfl, _⟩ | ⟨g, cap, cur, rfl, _, hg, _⟩
 · simp [Value.ownBlock] at hb
 · simp only [Value.ownBlock, Option.some.injEq] at hb
   subst hb
   exact ⟨cur, _, hg⟩

set_option maxRecDepth 100000 in
set_option maxHeartbeats 1000000 in
theorem ofCl_any (cs : Array Value) (w : World) : Calls Tryz.prog 49 #[.agg cs] w fun e w' => e = .returned (.pointer (some ⟨w.heap.size, 0, none⟩)) ∧ w.alloc (.cells cs 67) = w' := by
 go_enter Tryz.func49, Tryz.ntmps49
 go_wp2_with fail
 go_ret
 exact ⟨rfl, rfl⟩

/-- Pointers to tiles, as a row. -/
def GivesQ (ts : List TileT) (w : World) (e : Ending) (w' : World) : Prop := ∃ v qs, e = .returned v ∧ w'.ownsRow w.heap.size 91 1 v qs.length (qs.flatMap encQ) ∧ TP w' qs ts ∧ Below w.heap.size w w'
set_option maxRecDepth 100000 in
set_option maxHeartbeats 1000000 in
theorem madeOf_any (a : Option Addr) (n cap : Nat) (ts : List TileT) (hl : ts.length = n) (hn : n ≤ 1000) (w : World) (he : Elems w (.slice a n cap) n 256 (rowC encT ts)) :
 Calls Tryz.prog 48 #[.slice a n cap, .func (.func 49) #[] #[]] w (GivesQ ts w) := by
 have HS := Lib.hid (St.start w)
 have HE := Lib.hid he
 have HL := Lib.hid hl
 have HN := Lib.hid hn
 have HO := Lib.hid (StO.start HS.out 91 1 encQ)
 clear he hl
 go_enter Tryz.func48, Tryz.ntmps48
 go_wp2_with fail
 go_loopw [5, 10] (fun v i wr => ∃ (k : Nat) (qs : List Nat), k ≤ n ∧ i = .int .i64 (k : Int) ∧ StO w [] w.heap.size 91 1 encQ v qs wr ∧ TP wr qs (ts.take k)) (fun _ i _ => n - (intOf i).toNat)
 case atStart => exact ⟨0, [], by omega, rfl, HO.out, TP.nil _⟩
 case round =>
  obtain ⟨k, qs, hk, rfl, ho, htp⟩ := hrel
  clear HO HS
  have HO := Lib.hid ho
  have HTP := Lib.hid htp
  have HLQ := Lib.hid (show qs.length = k by have h1 := htp.len; rw [List.length_take, HL.out] at h1; omega)
  clear ho htp
  by_cases hlt : k < n
  · obtain ⟨t, ht⟩ : ∃ t, ts[k]? = some t := ⟨_, List.getElem?_eq_getElem (by rw [HL.out]; exact hlt)⟩
    obtain ⟨b, off, rfl⟩ : ∃ b off, a = some ⟨b, off, none⟩ := by
     rcases HE.out with ⟨e, h⟩ | ⟨b, off, cap', e, -, -⟩
     · omega
     · cases e; exact ⟨b, off, rfl⟩
    have HR := Lib.hid (elem_range encT_len (HE.out.below HO.out.st.low) ht HL.out)
    have HT := Lib.hid ht
    have HSZ := Lib.hid (size_T t)
    have HZ := Lib.hid (encT_all t)
    have HS := Lib.hid (St.start wr)
    clear ht
    repeat ((fail_if_success (with_reducible refine stop_at (id := 4) ?_)); (first | go_values | go_skip | go_guarded | go_step | go_upon | go_back | (simp only [Int.not_lt, Int.not_le] at *; go_simp) | (go_values <;> (try go_simp)) | (go_ite <;> go_prune <;> (try go_simp)) | (split <;> (first | (rename_i hx; exact (hx _ rfl).elim) | go_prune))))
    refine (wpIn_wide (n := 0)).1 ?_
    gi_wp2_with fail
    refine opIn_load_mid 67 _ rfl b (off + k * 256) rfl (encT t) _ HR.out Tryz.underlying67 rfl (HSZ.out.trans (by rw [List.size_toArray])) ?_
    simp only [Act.put, List.setIfInBounds_toArray, List.set_cons_succ, List.set_cons_zero]
    gi_step
    gi_step
    gi_step
    gi_step
    refine opIn_store 67 _ _ rfl wr.heap.size 67 Tryz.zeroCells67 (encT t).toArray rfl rfl (World.alloc_heap_new _ _) HSZ.out (Eq.trans (b := 256) (by kernel_rfl) (by rw [List.size_toArray, encT_len])) HZ.out ?_
    simp only [Act.put, List.setIfInBounds_toArray, List.set_cons_succ, List.set_cons_zero]
    have hs5 := HS.out.allocRow Tryz.zeroCells67 (encT t).toArray 67
    obtain ⟨w5, hw5⟩ : ∃ w5, (wr.alloc (.cells Tryz.zeroCells67 67)).setRow wr.heap.size (encT t).toArray = w5 := ⟨_, rfl⟩
    rw [hw5] at hs5
    rw [hw5]
    have HS := Lib.hid hs5
    clear hs5 hw5
    gi_wp2_with fail
    repeat ((fail_if_success (with_reducible refine stop_at (id := 5) ?_)); (first | go_values | go_skip | go_guarded | go_step | go_upon | go_back | (simp only [Int.not_lt, Int.not_le] at *; go_simp) | (go_values <;> (try go_simp)) | (go_ite <;> go_prune <;> (try go_simp)) | (split <;> (first | (rename_i hx; exact (hx _ rfl).elim) | go_prune))))
    refine (wpIn_wide (n := 0)).1 ?_
    gi_wp2_with fail
    refine opIn_load 67 _ rfl wr.heap.size rfl 67 (encT t).toArray (0, 0) _ (HS.out.blockAt 0 rfl) Tryz.underlying67 rfl HSZ.out ?_
    simp only [Act.put, List.setIfInBounds_toArray, List.set_cons_succ, List.set_cons_zero]
    gi_wp2_with fail
    refine (callsIn_wide.2 (ofCl_any _ _)).mono ?_
    rintro e w6 ⟨rfl, hw6⟩
    have hs6 := HS.out.alloc (.cells (encT t).toArray 67)
    rw [hw6] at hs6
    have HS := Lib.hid hs6
    clear hs6 hw6
    gi_wp2_with (gi_at_builtin; refine wpListIn_app1l rowQ encQ_len encQ_one HO.out HS.out.low w5.heap.size k HLQ.out (by have := HN.out; omega) (by decide) _ _ rfl rfl rfl _ rfl (by simp) ?_; intro v' w7 ho7 hsh hg7 hl7; clear hl7)
    have HO7 := Lib.hid ho7
    have HTP7 := Lib.hid (((HTP.out.below HS.out.low).snoc (HS.out.blockAt 0 rfl)).kept hg7 (fun b hb => ownsRow_typed (ownsRow_below HO.out.row HS.out.low) b hb))
    clear ho7 hg7
    go_wp2_with fail
    go_roundw
    case rel =>
     refine ⟨k + 1, qs ++ [w5.heap.size], hlt, by simp, HO7.out, ?_⟩
     rw [List.take_add_one, HT.out]
     exact HTP7.out
    case measure => simp [intOf]; omega
  · obtain rfl : k = n := by omega
    go_wp2_with fail
    go_ret
    have htp := HTP.out
    rw [List.take_of_length_le (Nat.le_of_eq HL.out)] at htp
    exact ⟨_, qs, rfl, HO.out.row, htp, HO.out.st.low⟩
end Go.Proofs.YtodpkgbpcpfamaaGreat

/- Layer 5: what pointers come to: tiles; what places come to: dots. -/
namespace Go.Proofs.YtodpkgbpcpfamaaGreat
set_option linter.unusedSimpArgs false
set_option linter.unusedVariables false
open Go.RowKit Go.Shelf
attribute [local go_sem] Oper.semAt_some

theorem sizeT (T : TileT) : (encT T).toArray.size = 256 := by rw [List.size_toArray, encT_len]
theorem sizeZ : (Tryz.zeroCells67 : Array Value).size = 256 := by kernel_rfl

set_option maxRecDepth 100000 in
set_option maxHeartbeats 1000000 in
theorem setCl_any (B : Nat) (p : PtT) (c : ColT) (w : World) (hb : w.heap[B]? = some (.cells #[.int .u8 c.r, .int .u8 c.g, .int .u8 c.b, .int .u8 c.a] 27 (0, 0))) : Calls Tryz.prog 53 #[p.val, .pointer (some ⟨B, 0, none⟩)] w (Gives (.agg (encD ⟨p.x, p.y, c⟩).toArray) w) := by
 have HB := Lib.hid hb
 have HS := Lib.hid (St.start w)
 obtain ⟨px, py⟩ := p
 obtain ⟨r, g, b, a⟩ := c
 unfold PtT.val encD
 simp only at HB ⊢
 clear hb
 go_enter Tryz.func53, Tryz.ntmps53
 repeat ((fail_if_success (with_reducible refine stop_at (id := 1) ?_)); (first | go_values | go_skip | go_guarded | go_step | go_upon | go_back | (simp only [Int.not_lt, Int.not_le] at *; go_simp) | (go_values <;> (try go_simp)) | (go_ite <;> go_prune <;> (try go_simp)) | (split <;> (first | (rename_i hx; exact (hx _ rfl).elim) | go_prune))))
 have hs_ := ((HS.out.alloc (.cells #[.int .i64 px, .int .i64 py] 33)).alloc (.cells #[.int .i64 0, .int .i64 0, .int .u8 0, .int .u8 0, .int .u8 0, .int .u8 0] 116))
 obtain ⟨w1, hw_⟩ : ∃ w1 : World, ((w.alloc (.cells #[.int .i64 px, .int .i64 py] 33)).alloc (.cells #[.int .i64 0, .int .i64 0, .int .u8 0, .int .u8 0, .int .u8 0, .int .u8 0] 116)) = w1 := ⟨_, rfl⟩
 rw [hw_] at hs_
 try simp only [World.size_alloc] at hs_
 have HS := Lib.hid hs_
 rw [hw_]
 clear hw_ hs_
 have hb1 := (HS.out.low.block B (block_lt HB.out)).trans HB.out
 have b0 := cell_of_block (k := 0) hb1 rfl
 have b1 := cell_of_block (k := 1) hb1 rfl
 have b2 := cell_of_block (k := 2) hb1 rfl
 have b3 := cell_of_block (k := 3) hb1 rfl
 clear hb1
 have p0 := cell_of_block (k := 0) (HS.out.blockAt 1 rfl) rfl
 have p1 := cell_of_block (k := 1) (HS.out.blockAt 1 rfl) rfl
 have d0 := cell_of_block (k := 0) (HS.out.blockAt 0 rfl) rfl
 have d1 := cell_of_block (k := 1) (HS.out.blockAt 0 rfl) rfl
 have d2 := cell_of_block (k := 2) (HS.out.blockAt 0 rfl) rfl
 have d3 := cell_of_block (k := 3) (HS.out.blockAt 0 rfl) rfl
 have d4 := cell_of_block (k := 4) (HS.out.blockAt 0 rfl) rfl
 have d5 := cell_of_block (k := 5) (HS.out.blockAt 0 rfl) rfl
 have f0 := free_of_block (HS.out.blockAt 0 rfl)
 go_wp2_with fail
 have hb6 := heap_set_same (heap_set_same (heap_set_same (heap_set_same (heap_set_same (heap_set_same (HS.out.blockAt 0 rfl) (k := 0) (.int .i64 px)) (k := 1) (.int .i64 py)) (k := 2) (.int .u8 r)) (k := 3) (.int .u8 g)) (k := 4) (.int .u8 b)) (k := 5) (.int .u8 a)
 simp only [List.setIfInBounds_toArray, List.set_cons_zero, List.set_cons_succ] at hb6
 have hl := run_loadVar_row (P := Tryz.prog) _ (w.heap.size + 1) 116 116 #[.int .i64 px, .int .i64 py, .int .u8 r, .int .u8 g, .int .u8 b, .int .u8 a] (0, 0) _ hb6 Tryz.underlying116 rfl (by kernel_rfl)
 refine bodyPost_ret (v := .agg #[.int .i64 px, .int .i64 py, .int .u8 r, .int .u8 g, .int .u8 b, .int .u8 a]) (results_cell1 Tryz.results53 rfl hl) rfl ⟨rfl, ?_⟩
 have h0 := HS.out.low
 have hs : ∀ {z : World} (k : Nat) (v : Value), Below w.heap.size w z → Below w.heap.size w (z.setCell ⟨w.heap.size + 1, k, none⟩ v) := fun k v h => h.setCell (Nat.le_add_right _ _) v
 exact hs _ _ (hs _ _ (hs _ _ (hs _ _ (hs _ _ (hs _ _ h0)))))
theorem encD_one : ∀ (d : DotT), ∀ u ∈ encD d, u.oneCell' = true := by
 intro d u hu
 simp only [encD, List.mem_cons, List.not_mem_nil, or_false] at hu
 rcases hu with rfl | rfl | rfl | rfl | rfl | rfl <;> rfl
theorem rowD : RowT Tryz.prog 113 116 6 24 := .of (z := .agg #[.int .i64 0, .int .i64 0, .int .u8 0, .int .u8 0, .int .u8 0, .int .u8 0]) Tryz.underlying113 (by kernel_rfl) rfl (by decide)

set_option maxRecDepth 100000 in
set_option maxHeartbeats 1000000 in
theorem madeDots_any (B : Nat) (c : ColT) (a : Option Addr) (n cap : Nat) (ps : List PtT) (hl : ps.length = n) (hn : n ≤ 1000000) (w : World) (hb : w.heap[B]? = some (.cells #[.int .u8 c.r, .int .u8 c.g, .int .u8 c.b, .int .u8 c.a] 27 (0, 0))) (he : Elems w (.slice a n cap) n 2 (rowC encP ps)) :
 Calls Tryz.prog 52 #[.slice a n cap, .func (.func 53) #[] #[.pointer (some ⟨B, 0, none⟩)]] w
  (GivesRow 116 6 (ps.map fun p => (⟨p.x, p.y, c⟩ : DotT)).length ((ps.map fun p => (⟨p.x, p.y, c⟩ : DotT)).flatMap encD) w) := by
 have HS := Lib.hid (St.start w)
 have HE := Lib.hid he
 have HB := Lib.hid hb
 have HL := Lib.hid hl
 have HN := Lib.hid hn
 have HO := Lib.hid (StO.start HS.out 116 6 encD)
 clear he hb hl
 go_enter Tryz.func52, Tryz.ntmps52
 go_wp2_with fail
 go_loopw [5, 10] (fun v i wr => ∃ (k : Nat), k ≤ n ∧ i = .int .i64 (k : Int) ∧ StO w [] w.heap.size 116 6 encD v ((ps.take k).map fun p => ⟨p.x, p.y, c⟩) wr) (fun _ i _ => n - (intOf i).toNat)
 case atStart => exact ⟨0, by omega, rfl, HO.out⟩
 case round =>
  obtain ⟨k, hk, rfl, ho⟩ := hrel
  clear HO HS
  have HO := Lib.hid ho
  clear ho
  by_cases hlt : k < n
  · obtain ⟨p, hp⟩ : ∃ p, ps[k]? = some p := ⟨_, List.getElem?_eq_getElem (by rw [HL.out]; exact hlt)⟩
    obtain ⟨b, off, rfl⟩ : ∃ b off, a = some ⟨b, off, none⟩ := by
     rcases HE.out with ⟨e, h⟩ | ⟨b, off, cap', e, -, -⟩
     · omega
     · cases e; exact ⟨b, off, rfl⟩
    have hr := elem_range encP_len (HE.out.below HO.out.st.low) hp HL.out
    have HPP := Lib.hid hp
    have HLK := Lib.hid (show ((ps.take k).map fun p => (⟨p.x, p.y, c⟩ : DotT)).length = k by rw [List.length_map, List.length_take, HL.out]; omega)
    have HBB := Lib.hid ((HO.out.st.low.block B (block_lt HB.out)).trans HB.out)
    have HS := Lib.hid (St.start wr)
    have HCL := Lib.hid (fun w' h => setCl_any B p c w' h)
    have HTK := Lib.hid (show (ps.take (k + 1)).map (fun p => (⟨p.x, p.y, c⟩ : DotT)) = (ps.take k).map (fun p => (⟨p.x, p.y, c⟩ : DotT)) ++ [⟨p.x, p.y, c⟩] by
     rw [List.take_add_one, hp]; simp)
    obtain ⟨px, py⟩ := p
    have c0 := hr 0 _ rfl
    have c1 := hr 1 _ rfl
    rw [Nat.add_zero] at c0
    clear hr hp
    unfold PtT.val encD at HCL
    simp only at HCL HTK
    go_wp2_with fail
    clear c0 c1
    have hs_ := (HS.out.alloc (.cells #[.int .i64 px, .int .i64 py] 33))
    obtain ⟨w3, hw_⟩ : ∃ w3 : World, (wr.alloc (.cells #[.int .i64 px, .int .i64 py] 33)) = w3 := ⟨_, rfl⟩
    rw [hw_] at hs_
    try simp only [World.size_alloc] at hs_
    have HS := Lib.hid hs_
    rw [hw_]
    clear hw_ hs_
    refine (HCL.out _ ((HS.out.low.block B (block_lt HBB.out)).trans HBB.out)).mono ?_
    rintro e w4 ⟨rfl, hb_⟩
    have HS := Lib.hid (HS.out.below hb_)
    clear hb_
    go_wp2_with (at_builtin; refine wpList_app1 rowD encD_len encD_one HO.out HS.out.low ⟨px, py, c⟩ k HLK.out (by have := HN.out; omega) (by decide) _ _ rfl rfl rfl _ rfl (by simp) ?_; intro v' w7 ho7 hsh)
    have HO7 := Lib.hid ho7
    clear ho7
    go_wp2_with fail
    go_roundw
    case rel =>
     refine ⟨k + 1, hlt, by simp, ?_⟩
     rw [HTK.out]
     exact HO7.out
    case measure => simp [intOf]; omega
  · obtain rfl : k = n := by omega
    go_wp2_with fail
    go_ret
    have ho := HO.out.row
    rw [List.take_of_length_le (by rw [HL.out]; exact Nat.le_refl _)] at ho
    exact ⟨_, rfl, ho, HO.out.st.low⟩
end Go.Proofs.YtodpkgbpcpfamaaGreat
