/- Merged texts: OpD OpF RgP RgX OpH. -/
import Derived.Test.YteklfmacnnmomaaGreatM4
import Derived.Test.YteklfmacnnmomaaGreatM2
import Derived.Test.YteklfmacnnmomaaGreatM1
set_option linter.unusedSimpArgs false
set_option linter.unusedVariables false
/- Layer 12: operations as values; Plain. -/
namespace Go.Proofs.YteklfmacnnmomaaGreat
open Go.RowKit Go.Shelf
attribute [local go_sem] Oper.semAt_some
structure OpT where
 id : IdT
 kind : Int
 x : Int
 y : Int
 x2 : Int
 y2 : Int
 size : Int
 c : ColT
 sw : Int
 sh : Int
 px : List ColT
 tg : IdT
def OpT.cells (o : OpT) (pv : Value) : Array Value :=
 #[.int .u64 o.id.time, .int .i64 o.id.site, .int .u64 o.id.seq, .int .i64 o.kind, .int .i64 o.x, .int .i64 o.y, .int .i64 o.x2, .int .i64 o.y2, .int .i64 o.size,
  .int .u8 o.c.r, .int .u8 o.c.g, .int .u8 o.c.b, .int .u8 o.c.a, .int .i64 o.sw, .int .i64 o.sh, pv, .int .u64 o.tg.time, .int .i64 o.tg.site, .int .u64 o.tg.seq]
/-- The pixels of an operation's stamp. -/
def PixV (px : List ColT) (pv : Value) (w : World) : Prop := ∃ a cap, pv = .slice a px.length cap ∧ px.length ≤ cap ∧ Elems w (.slice a px.length cap) px.length 4 (rowC encC px)
theorem PixV.below {px : List ColT} {pv : Value} {w w' : World} (h : PixV px pv w) (hb : Below w.heap.size w w') : PixV px pv w' := by
 obtain ⟨a, cap, h1, h2, h3⟩ := h
 exact ⟨a, cap, h1, h2, h3.below hb⟩
/-- An operation in a block of the call's own, beside a row of names. -/
structure PlS (w0 : World) (its : List It) (B : Nat) (out : OpT) (a : Option Addr) (n cap : Nat) (f : Nat → Value) (x : World) : Prop where
 st : St w0 its x
 ex : ∃ pa pcap, x.heap[B]? = some (.cells (out.cells (.slice pa out.px.length pcap)) 51 (0, 0)) ∧ out.px.length ≤ pcap ∧ Elems x (.slice pa out.px.length pcap) out.px.length 4 (rowC encC out.px) ∧ ∀ ad, pa = some ad → B < ad.block
 nm : Elems x (.slice a n cap) n 1 f
 ne : ∀ ad, a = some ad → ad.block ≠ B
 lo : w0.heap.size ≤ B
 top : ∀ i ∈ its, i.top ≤ B
theorem PlS.below {w0 x y : World} {its : List It} {B : Nat} {out : OpT} {a : Option Addr} {n cap : Nat} {f : Nat → Value} (h : PlS w0 its B out a n cap f x) (hb : Below x.heap.size x y) : PlS w0 its B out a n cap f y := by
 obtain ⟨pa, pcap, h1, h2, h3, h4⟩ := h.ex
 exact ⟨h.st.below hb, ⟨pa, pcap, (hb.block B (b7t h1)).trans h1, h2, h3.below hb, h4⟩, h.nm.below hb, h.ne, h.lo, h.top⟩
theorem elems_row {x : World} {pa : Option Addr} {n cap k : Nat} {f : Nat → Value} (h : Elems x (.slice pa n cap) n k f) {R : Nat} (hn : ∀ ad, pa = some ad → ad.block ≠ R) (cs : Array Value) : Elems (x.setRow R cs) (.slice pa n cap) n k f := by
 rcases h with h | ⟨b, off, cap', e, hlt, hc⟩
 · exact .inl h
 · cases e
   refine .inr ⟨b, off, cap, rfl, by simpa using hlt, fun i hi => ?_⟩
   rw [← hc i hi]
   exact World.cell?_of_block (setRow_other x R b cs (hn ⟨b, off, none⟩ rfl))
theorem PlS.blt {w0 x : World} {its : List It} {B : Nat} {out : OpT} {a : Option Addr} {n cap : Nat} {f : Nat → Value} (h : PlS w0 its B out a n cap f x) : B < x.heap.size := by
 obtain ⟨pa, pcap, h1, -⟩ := h.ex
 exact b7t h1
/-- One cell is written. -/
theorem PlS.put {w0 x : World} {its : List It} {B : Nat} {out : OpT} {a : Option Addr} {n cap : Nat} {f : Nat → Value} (h : PlS w0 its B out a n cap f x) (k : Nat) (v : Value) (out' : OpT) (hp : out'.px = out.px) (hc : ∀ pv, (out.cells pv).setIfInBounds k v = out'.cells pv) :
 PlS w0 its B out' a n cap f (x.setCell ⟨B, k, none⟩ v) := by
 obtain ⟨pa, pcap, h1, h2, h3, h4⟩ := h.ex
 refine ⟨h.st.grown (base := B) (row := some B) (fun j e => by cases e; omega) h.lo h.top (g7c x B k v), ⟨pa, pcap, ?_, by rw [hp]; exact h2, by rw [hp]; exact elems_other h3 (fun ad e => Nat.ne_of_gt (h4 ad e)) k v, h4⟩, elems_other h.nm h.ne k v, h.ne, h.lo, h.top⟩
 rw [hp, ← hc]
 exact h7s h1 v
/-- The stamp's pixels are written. -/
theorem PlS.putPx {w0 x : World} {its : List It} {B : Nat} {out : OpT} {a : Option Addr} {n cap : Nat} {f : Nat → Value} (h : PlS w0 its B out a n cap f x) (px : List ColT) (pa : Option Addr) (pcap : Nat) (hc : px.length ≤ pcap) (he : Elems x (.slice pa px.length pcap) px.length 4 (rowC encC px)) (hn : ∀ ad, pa = some ad → B < ad.block) :
 PlS w0 its B { out with px := px } a n cap f (x.setCell ⟨B, 15, none⟩ (.slice pa px.length pcap)) := by
 obtain ⟨pa0, pcap0, h1, -, -, -⟩ := h.ex
 exact ⟨h.st.grown (base := B) (row := some B) (fun j e => by cases e; omega) h.lo h.top (g7c x B 15 _), ⟨pa, pcap, h7s h1 _, hc, elems_other he (fun ad e => Nat.ne_of_gt (hn ad e)) 15 _, hn⟩, elems_other h.nm h.ne 15 _, h.ne, h.lo, h.top⟩
/-- The names' codes that a kind uses. -/
def usesC (k : Int) : List Nat := if k = 1 ∨ k = 2 then [0, 1, 2, 3, 4, 5] else if k = 3 ∨ k = 4 then [0, 1, 2, 3, 5] else if k = 5 then [0, 1, 4, 5] else if k = 6 then [0, 1, 6] else if k = 7 ∨ k = 8 then [7] else []
def nameV : Nat → Value
 | 0 => nX | 1 => nY | 2 => nX2 | 3 => nY2 | 4 => nSize | 5 => nColor | 6 => nStamp | _ => nTarget
theorem usesN_eq (k : Int) : usesN k = (usesC k).map nameV := by
 unfold usesN usesC
 split; rfl
 split; rfl
 split; rfl
 split; rfl
 split <;> rfl
theorem usesC_lt (k : Int) : ∀ c ∈ usesC k, c < 8 := by
 unfold usesC
 split; decide
 split; decide
 split; decide
 split; decide
 split <;> decide
theorem usesC_len (k : Int) : (usesC k).length ≤ 6 := by
 unfold usesC
 split; decide
 split; decide
 split; decide
 split; decide
 split <;> decide
/-- One field more. -/
def putF (o out : OpT) : Nat → OpT
 | 0 => { out with x := o.x } | 1 => { out with y := o.y } | 2 => { out with x2 := o.x2 } | 3 => { out with y2 := o.y2 } | 4 => { out with size := o.size } | 5 => { out with c := o.c }
 | 6 => { out with sw := o.sw, sh := o.sh, px := o.px } | _ => { out with tg := o.tg }
def out0 (o : OpT) : OpT := ⟨o.id, o.kind, 0, 0, 0, 0, 0, ⟨0, 0, 0, 0⟩, 0, 0, [], ⟨0, 0, 0⟩⟩
def plainO (o : OpT) : OpT := (usesC o.kind).foldl (putF o) (out0 o)
/-- What is put once j names are through. -/
def putTo (o : OpT) (j : Nat) : OpT := ((usesC o.kind).take j).foldl (putF o) (out0 o)
theorem putTo_step {o : OpT} {j c : Nat} (h : (usesC o.kind)[j]? = some c) : putTo o (j + 1) = putF o (putTo o j) c := by
 unfold putTo
 rw [List.take_add_one, h, List.foldl_append]
 rfl
theorem putTo_all (o : OpT) : putTo o (usesC o.kind).length = plainO o := by
 unfold putTo plainO
 rw [List.take_length]
theorem UsesV.elems {k : Int} {v : Value} {w : World} (h : UsesV (usesN k) v w) {B : Nat} (hB : ∀ g, v = sl g (usesC k).length → w.heap[g]? = some (strO (usesN k).toArray) → g ≠ B) :
 ∃ a cap, v = .slice a (usesC k).length cap ∧ Elems w (.slice a (usesC k).length cap) (usesC k).length 1 (fun i => nameV ((usesC k)[i]?.getD 0)) ∧ (∀ ad, a = some ad → ad.block ≠ B) ∧ ((usesC k).length = 0 ∨ ∃ g, a = some ⟨g, 0, none⟩) := by
 have hl : (usesN k).length = (usesC k).length := by rw [usesN_eq, List.length_map]
 rcases h with ⟨h1, rfl⟩ | ⟨g, rfl, hg⟩
 · have h0 : (usesC k).length = 0 := by rw [← hl, h1]; rfl
   rw [h0]
   exact ⟨none, 0, rfl, .inl ⟨rfl, rfl⟩, (fun ad e => by cases e), .inl rfl⟩
 · rw [hl] at *
   refine ⟨some ⟨g, 0, none⟩, (usesC k).length, rfl, .inr ⟨g, 0, _, rfl, b7t hg, fun j hj => ?_⟩, (fun ad e => by cases e; exact hB g rfl hg), .inr ⟨g, rfl⟩⟩
   have hj' : j < (usesC k).length := by omega
   rw [Nat.zero_add]
   refine c7b hg ?_
   rw [usesN_eq, List.getElem?_toArray, List.getElem?_map, List.getElem?_eq_getElem hj']
   show some (nameV (usesC k)[j]) = some (nameV ((usesC k)[j]?.getD 0))
   rw [List.getElem?_eq_getElem hj', Option.getD_some]
theorem opCells {w : World} {b : Nat} {o : OpT} {pv : Value} {t : TypeId} {f : Nat × Nat} (h : w.heap[b]? = some (.cells (o.cells pv) t f)) :
 w.cell? ⟨b, 0, none⟩ = some (.int .u64 o.id.time) ∧ w.cell? ⟨b, 1, none⟩ = some (.int .i64 o.id.site) ∧ w.cell? ⟨b, 2, none⟩ = some (.int .u64 o.id.seq) ∧ w.cell? ⟨b, 3, none⟩ = some (.int .i64 o.kind) ∧ w.cell? ⟨b, 4, none⟩ = some (.int .i64 o.x) ∧ w.cell? ⟨b, 5, none⟩ = some (.int .i64 o.y) ∧ w.cell? ⟨b, 6, none⟩ = some (.int .i64 o.x2) ∧ w.cell? ⟨b, 7, none⟩ = some (.int .i64 o.y2) ∧ w.cell? ⟨b, 8, none⟩ = some (.int .i64 o.size) ∧ w.cell? ⟨b, 9, none⟩ = some (.int .u8 o.c.r) ∧ w.cell? ⟨b, 10, none⟩ = some (.int .u8 o.c.g) ∧ w.cell? ⟨b, 11, none⟩ = some (.int .u8 o.c.b) ∧ w.cell? ⟨b, 12, none⟩ = some (.int .u8 o.c.a) ∧ w.cell? ⟨b, 13, none⟩ = some (.int .i64 o.sw) ∧ w.cell? ⟨b, 14, none⟩ = some (.int .i64 o.sh) ∧ w.cell? ⟨b, 15, none⟩ = some pv ∧ w.cell? ⟨b, 16, none⟩ = some (.int .u64 o.tg.time) ∧ w.cell? ⟨b, 17, none⟩ = some (.int .i64 o.tg.site) ∧ w.cell? ⟨b, 18, none⟩ = some (.int .u64 o.tg.seq) :=
 ⟨c7b h rfl, c7b h rfl, c7b h rfl, c7b h rfl, c7b h rfl, c7b h rfl, c7b h rfl, c7b h rfl, c7b h rfl, c7b h rfl, c7b h rfl, c7b h rfl, c7b h rfl, c7b h rfl, c7b h rfl, c7b h rfl, c7b h rfl, c7b h rfl, c7b h rfl⟩
theorem nameAt {w : World} {g n cap j : Nat} {f : Nat → Value} {v : Value} (h : Elems w (.slice (some ⟨g, 0, none⟩) n cap) n 1 f) (hj : j < n) (hv : f j = v) : w.cell? ⟨g, j, none⟩ = some v := by
 rcases h with ⟨e, -⟩ | ⟨b, off, cap', e, -, hc⟩
 · cases e
 · cases e
   have := hc j (by omega)
   rw [Nat.zero_add] at this
   exact this.trans (congrArg some hv)
theorem built_op (o : OpT) : Tryz.prog.built 51 [(0, .agg #[.int .u64 o.id.time, .int .i64 o.id.site, .int .u64 o.id.seq]), (1, .int .i64 o.kind)] = some ((out0 o).cells (.slice none 0 0)) := by kernel_rfl
def opZ : Array Value := #[.int .u64 0, .int .i64 0, .int .u64 0, .int .i64 0, .int .i64 0, .int .i64 0, .int .i64 0, .int .i64 0, .int .i64 0, .int .u8 0, .int .u8 0, .int .u8 0, .int .u8 0, .int .i64 0, .int .i64 0, .slice none 0 0, .int .u64 0, .int .i64 0, .int .u64 0]
set_option maxRecDepth 100000 in
set_option maxHeartbeats 4000000 in
theorem opPlain_any (o : OpT) (pv : Value) (hlen : o.px.length ≤ 1000000000) (w : World) (hp : PixV o.px pv w) :
 Calls Tryz.prog 95 #[.agg (o.cells pv)] w fun e w' => ∃ pv', e = .returned (.agg ((plainO o).cells pv')) ∧ PixV (plainO o).px pv' w' ∧ Below w.heap.size w w' := by
 obtain ⟨a0, cap0, rfl, hc0, he0⟩ := hp
 have HS := H7 ((St.start w).addRow he0)
 have HU := H7 (fun w' => uses_any o.kind w')
 have HLEN := H7 hlen
 clear he0 hlen hc0
 go_enter Tryz.func95, Tryz.ntmps95
 repeat ((fail_if_success (with_reducible refine stop_at (id := 1) ?_)); (first | go_values | go_skip | go_guarded | go_step | go_upon | go_back | (simp only [Int.not_lt, Int.not_le] at *; go_simp) | (go_values <;> (try go_simp)) | (go_ite <;> go_prune <;> (try go_simp)) | (split <;> (first | (rename_i hx; exact (hx _ rfl).elim) | go_prune))))
 rw [← opZ.eq_1]
 have hs_ := ((HS.out.alloc (.cells (o.cells (.slice a0 o.px.length cap0)) 51)).alloc (.cells opZ 51))
 obtain ⟨w1, hw_⟩ : ∃ w1 : World, ((w.alloc (.cells (o.cells (.slice a0 o.px.length cap0)) 51)).alloc (.cells opZ 51)) = w1 := ⟨_, rfl⟩
 rw [hw_] at hs_
 try simp only [World.size_alloc] at hs_
 have HS := H7 hs_
 rw [hw_]
 clear hw_ hs_
 obtain ⟨z0, z1, z2, z3, -, -, -, -, -, -, -, -, -, -, -, -, -, -, -⟩ := opCells (HS.out.blockAt 1 rfl)
 have HLO := H7 HS.out.size
 have HTOP := H7 HS.out.top
 have hst := HS.out.alloc (.cells opZ 51)
 have hg := hst.blockAt 0 rfl
 refine (wpIn_wide (n := 0)).1 ?_
 repeat ((fail_if_success (refine opIn_build 51 _ rfl ((out0 o).cells (.slice none 0 0)) ?_ ?_)); gi_step)
 refine opIn_build 51 _ rfl ((out0 o).cells (.slice none 0 0)) ?_ ?_
 · simp only [List.map_toArray, List.map_cons, List.map_nil, Act.eval]
   exact built_op o
 simp only [Act.put, List.setIfInBounds_toArray, List.set_cons_succ, List.set_cons_zero]
 repeat ((fail_if_success (refine opIn_store 51 _ _ rfl w1.heap.size 51 opZ ((out0 o).cells (.slice none 0 0)) rfl rfl hg (by kernel_rfl) rfl (by unfold OpT.cells; rw [List.all_toArray]; rfl) ?_)); gi_step)
 refine opIn_store 51 _ _ rfl w1.heap.size 51 opZ ((out0 o).cells (.slice none 0 0)) rfl rfl hg (by kernel_rfl) rfl (by unfold OpT.cells; rw [List.all_toArray]; rfl) ?_
 simp only [Act.put, List.setIfInBounds_toArray, List.set_cons_succ, List.set_cons_zero]
 try rw [← opZ.eq_1]
 have hs5 := hst.putRow (c' := (out0 o).cells (.slice none 0 0)) (pre := []) (by intro i hi; cases hi)
 obtain ⟨w2, hw2⟩ : ∃ w2, (w1.alloc (.cells opZ 51)).setRow w1.heap.size ((out0 o).cells (.slice none 0 0)) = w2 := ⟨_, rfl⟩
 rw [hw2] at hs5
 rw [hw2]
 have HS := H7 hs5
 clear hs5 hw2 hst hg
 clear z0 z1 z2 z3
 obtain ⟨-, -, -, z3, -, -, -, -, -, -, -, -, -, -, -, -, -, -, -⟩ := opCells (HS.out.blockAt 2 rfl)
 gi_wp2_with fail
 go_wp2_with fail
 refine (HU.out _).mono ?_
 rintro e w3 ⟨v, rfl, hu, hb⟩
 have hB := HS.out.lt 0 rfl
 obtain ⟨an, capn, rfl, hn, hne, hn0⟩ := hu.elems (B := w1.heap.size) (fun g e hg hgB => by
  subst hgB
  exact absurd (Obj.cells.inj (Option.some.inj (hg.symm.trans ((HS.out.below hb).blockAt 0 rfl)))).2.1 (by decide))
 have HS := H7 (HS.out.below hb)
 obtain ⟨B, hBe⟩ : ∃ B, w1.heap.size = B := ⟨_, rfl⟩
 rw [hBe] at HLO HTOP
 simp only [hBe] at HS hB hne ⊢
 have HP := H7 (show PlS w _ B (putTo o 0) an (usesC o.kind).length capn (fun i => nameV ((usesC o.kind)[i]?.getD 0)) w3 from ⟨HS.out.drop1, ⟨none, 0, HS.out.blockAt 0 rfl, Nat.le_refl _, .inl ⟨rfl, rfl⟩, (fun ad e => by cases e)⟩, hn, hne, HLO.out, HTOP.out⟩)
 clear HS hn hne hb hu hB z3 HLO HTOP hBe
 have HN0 := H7 hn0
 clear hn0
 obtain ⟨n, hn⟩ : ∃ n, (usesC o.kind).length = n := ⟨_, rfl⟩
 have HN := H7 hn
 rw [hn] at HP HN0
 simp only [hn]
 clear hn
 go_wp2_with fail
 clear HS
 go_loopw [15] (fun i wr => ∃ j : Nat, j ≤ n ∧ i = .int .i64 (j : Int) ∧ PlS w [It.blk (w.heap.size + 1) (Obj.cells opZ 51), It.blk w.heap.size (Obj.cells (o.cells (Value.slice a0 o.px.length cap0)) 51), It.row (Value.slice a0 o.px.length cap0) o.px.length 4 (rowC encC o.px) w.heap.size] B (putTo o j) an n capn (fun i => nameV ((usesC o.kind)[i]?.getD 0)) wr) (fun i _ => n - (intOf i).toNat)
 case atStart => exact ⟨0, Nat.zero_le _, rfl, HP.out⟩
 case round =>
  rename_i w4 _
  obtain ⟨j, hj, rfl, hp⟩ := hrel
  clear HP
  have HP := H7 hp
  clear hp
  by_cases hlt : j < n
  · obtain ⟨c, hc⟩ : ∃ c, (usesC o.kind)[j]? = some c := ⟨_, List.getElem?_eq_getElem (by rw [HN.out]; exact hlt)⟩
    have hc8 := usesC_lt _ c (List.mem_of_getElem? hc)
    have HJ := H7 hlt
    have HE1 := H7 (show wrap64 ((j : Int) + 1) = ((j + 1 : Nat) : Int) by have := usesC_len o.kind; rw [HN.out] at this; unfold wrap64; omega)
    obtain ⟨g, rfl⟩ : ∃ g, an = some ⟨g, 0, none⟩ := HN0.out.resolve_left (by omega)
    have n0 := nameAt (v := nameV c) HP.out.nm hlt (by simp only [hc]; rfl)
    have HST := H7 (putTo_step hc)
    obtain ⟨out, hout⟩ : ∃ out, putTo o j = out := ⟨_, rfl⟩
    rw [hout] at HP HST
    clear hout hc hj
    have hB := HP.out.st.blockAt 1 rfl
    obtain ⟨pa, pcap, h1, -⟩ := HP.out.ex
    have f0 := f7b h1
    rcases (show c = 0 ∨ c = 1 ∨ c = 2 ∨ c = 3 ∨ c = 4 ∨ c = 5 ∨ c = 6 ∨ c = 7 by omega) with rfl | rfl | rfl | rfl | rfl | rfl | rfl | rfl
    · obtain ⟨-, -, -, -, y4, -⟩ := opCells (hB)
      obtain ⟨-, -, -, -, z4, -⟩ := opCells (h1)
      simp only [nameV] at n0
      clear hB h1 hc8
      go_wp2_with fail
      go_roundw
      case rel => exact ⟨j + 1, HJ.out, by first | exact congrArg (Value.int .i64) HE1.out | exact congrArg (Value.int .i64) (Int.natCast_succ j).symm | (congr 1; omega), by rw [HST.out]; exact (HP.out.put 4 _ ({ out with x := o.x }) rfl (fun _ => rfl))⟩
      case measure => (try rw [HE1.out]); have := HJ.out; simp only [intOf]; omega
    · obtain ⟨-, -, -, -, -, y5, -⟩ := opCells (hB)
      obtain ⟨-, -, -, -, -, z5, -⟩ := opCells (h1)
      simp only [nameV] at n0
      clear hB h1 hc8
      go_wp2_with fail
      go_roundw
      case rel => exact ⟨j + 1, HJ.out, by first | exact congrArg (Value.int .i64) HE1.out | exact congrArg (Value.int .i64) (Int.natCast_succ j).symm | (congr 1; omega), by rw [HST.out]; exact (HP.out.put 5 _ ({ out with y := o.y }) rfl (fun _ => rfl))⟩
      case measure => (try rw [HE1.out]); have := HJ.out; simp only [intOf]; omega
    · obtain ⟨-, -, -, -, -, -, y6, -⟩ := opCells (hB)
      obtain ⟨-, -, -, -, -, -, z6, -⟩ := opCells (h1)
      simp only [nameV] at n0
      clear hB h1 hc8
      go_wp2_with fail
      go_roundw
      case rel => exact ⟨j + 1, HJ.out, by first | exact congrArg (Value.int .i64) HE1.out | exact congrArg (Value.int .i64) (Int.natCast_succ j).symm | (congr 1; omega), by rw [HST.out]; exact (HP.out.put 6 _ ({ out with x2 := o.x2 }) rfl (fun _ => rfl))⟩
      case measure => (try rw [HE1.out]); have := HJ.out; simp only [intOf]; omega
    · obtain ⟨-, -, -, -, -, -, -, y7, -⟩ := opCells (hB)
      obtain ⟨-, -, -, -, -, -, -, z7, -⟩ := opCells (h1)
      simp only [nameV] at n0
      clear hB h1 hc8
      go_wp2_with fail
      go_roundw
      case rel => exact ⟨j + 1, HJ.out, by first | exact congrArg (Value.int .i64) HE1.out | exact congrArg (Value.int .i64) (Int.natCast_succ j).symm | (congr 1; omega), by rw [HST.out]; exact (HP.out.put 7 _ ({ out with y2 := o.y2 }) rfl (fun _ => rfl))⟩
      case measure => (try rw [HE1.out]); have := HJ.out; simp only [intOf]; omega
    · obtain ⟨-, -, -, -, -, -, -, -, y8, -⟩ := opCells (hB)
      obtain ⟨-, -, -, -, -, -, -, -, z8, -⟩ := opCells (h1)
      simp only [nameV] at n0
      clear hB h1 hc8
      go_wp2_with fail
      go_roundw
      case rel => exact ⟨j + 1, HJ.out, by first | exact congrArg (Value.int .i64) HE1.out | exact congrArg (Value.int .i64) (Int.natCast_succ j).symm | (congr 1; omega), by rw [HST.out]; exact (HP.out.put 8 _ ({ out with size := o.size }) rfl (fun _ => rfl))⟩
      case measure => (try rw [HE1.out]); have := HJ.out; simp only [intOf]; omega
    · obtain ⟨-, -, -, -, -, -, -, -, -, y9, y10, y11, y12, -⟩ := opCells (hB)
      obtain ⟨-, -, -, -, -, -, -, -, -, z9, z10, z11, z12, -⟩ := opCells (h1)
      simp only [nameV] at n0
      clear hB h1 hc8
      go_wp2_with fail
      go_roundw
      case rel => exact ⟨j + 1, HJ.out, by first | exact congrArg (Value.int .i64) HE1.out | exact congrArg (Value.int .i64) (Int.natCast_succ j).symm | (congr 1; omega), by rw [HST.out]; exact ((((HP.out.put 9 _ ({ out with c := ⟨o.c.r, out.c.g, out.c.b, out.c.a⟩ }) rfl (fun _ => rfl)).put 10 _ ({ out with c := ⟨o.c.r, o.c.g, out.c.b, out.c.a⟩ }) rfl (fun _ => rfl)).put 11 _ ({ out with c := ⟨o.c.r, o.c.g, o.c.b, out.c.a⟩ }) rfl (fun _ => rfl)).put 12 _ ({ out with c := o.c }) rfl (fun _ => rfl))⟩
      case measure => (try rw [HE1.out]); have := HJ.out; simp only [intOf]; omega
    · simp only [nameV] at n0
      clear hB h1 f0
      repeat ((fail_if_success (with_reducible refine stop_at (id := 20) ?_)); (first | go_values | go_skip | go_guarded | go_step | go_upon | go_back | (simp only [Int.not_lt, Int.not_le] at *; go_simp) | (go_values <;> (try go_simp)) | (go_ite <;> go_prune <;> (try go_simp)) | (split <;> (first | (rename_i hx; exact (hx _ rfl).elim) | go_prune))))
      clear n0
      have HNE := H7 HP.out.blt
      refine (wpIn_wide (n := 0)).1 ?_
      apply w7v 12 (Rl := [(eqv _), (eqv _), (eqv _), (eqv _), (eqv _), (eqv _), (eqv _), (eqv _), (eqv _), (fun v_ w_ => ∃ a cap, v_ = .slice a o.px.length cap ∧ o.px.length ≤ cap ∧ Elems w_ (.slice a o.px.length cap) o.px.length 4 (rowC encC o.px) ∧ ∀ ad, a = some ad → B < ad.block), (fun v_ w_ => ∃ a cap, v_ = .agg #[.int .i64 o.sw, .int .i64 o.sh, .slice a o.px.length cap] ∧ o.px.length ≤ cap ∧ Elems w_ (.slice a o.px.length cap) o.px.length 4 (rowC encC o.px) ∧ ∀ ad, a = some ad → B < ad.block), (eqv _)]) (C := (fun x y => Below x.heap.size x y))
      case hm => kernel_rfl
      case hk => rfl
      case hCr => exact (fun _ => B7 _ _)
      case hCt => intro _ _ _; exact (fun h k => g7t h k)
      case hst => exact ⟨fun _ _ _ _ h => h, fun _ _ _ _ h => h, fun _ _ _ _ h => h, fun _ _ _ _ h => h, fun _ _ _ _ h => h, fun _ _ _ _ h => h, fun _ _ _ _ h => h, fun _ _ _ _ h => h, fun _ _ _ _ h => h, fun _ _ _ hC ⟨a, cap, h1, h2, h3, h4⟩ => ⟨a, cap, h1, h2, h3.below hC, h4⟩, fun _ _ _ hC ⟨a, cap, h1, h2, h3, h4⟩ => ⟨a, cap, h1, h2, h3.below hC, h4⟩, fun _ _ _ _ h => h, trivial⟩
      case hfo => kernel_rfl
      case ht => kernel_rfl
      case hC0 => exact (g7d _)
      case hsteps =>
       refine ⟨?_, ?_, ?_, ?_, ?_, ?_, ?_, ?_, ?_, ?_, ?_, ?_, trivial⟩
       · intro a' w' hA hC hD; have s1 := hA.to 1 (by kernel_rfl) rfl; clear hA hD; refine o7p rfl ?_; intro K hK; gi_wp2; exact hK _ _ rfl (B7 _ _)
       · intro a' w' hA hC hD; obtain ⟨u55, s55, rfl⟩ := hD ⟨0, .data⟩ (by simp) rfl _ rfl; clear hA hD; refine o7p rfl ?_; intro K hK; gi_wp2; exact hK _ _ rfl (B7 _ _)
       · intro a' w' hA hC hD; obtain ⟨u56, s56, rfl⟩ := hD ⟨1, .data⟩ (by simp) rfl _ rfl
         obtain ⟨-, -, -, -, -, -, -, -, -, -, -, -, -, y13, -⟩ := opCells ((HP.out.below hC).st.blockAt 1 rfl)
         clear hA hD; refine o7p rfl ?_; intro K hK; gi_wp2; exact hK _ _ rfl (B7 _ _)
       · intro a' w' hA hC hD; have s1 := hA.to 1 (by kernel_rfl) rfl; clear hA hD; refine o7p rfl ?_; intro K hK; gi_wp2; exact hK _ _ rfl (B7 _ _)
       · intro a' w' hA hC hD; obtain ⟨u58, s58, rfl⟩ := hD ⟨3, .data⟩ (by simp) rfl _ rfl; clear hA hD; refine o7p rfl ?_; intro K hK; gi_wp2; exact hK _ _ rfl (B7 _ _)
       · intro a' w' hA hC hD; obtain ⟨u59, s59, rfl⟩ := hD ⟨4, .data⟩ (by simp) rfl _ rfl
         obtain ⟨-, -, -, -, -, -, -, -, -, -, -, -, -, -, y14, -⟩ := opCells ((HP.out.below hC).st.blockAt 1 rfl)
         clear hA hD; refine o7p rfl ?_; intro K hK; gi_wp2; exact hK _ _ rfl (B7 _ _)
       · intro a' w' hA hC hD; have s1 := hA.to 1 (by kernel_rfl) rfl; clear hA hD; refine o7p rfl ?_; intro K hK; gi_wp2; exact hK _ _ rfl (B7 _ _)
       · intro a' w' hA hC hD; obtain ⟨u61, s61, rfl⟩ := hD ⟨6, .data⟩ (by simp) rfl _ rfl; clear hA hD; refine o7p rfl ?_; intro K hK; gi_wp2; exact hK _ _ rfl (B7 _ _)
       · intro a' w' hA hC hD; obtain ⟨u62, s62, rfl⟩ := hD ⟨7, .data⟩ (by simp) rfl _ rfl
         obtain ⟨-, -, -, -, -, -, -, -, -, -, -, -, -, -, -, y15, -⟩ := opCells ((HP.out.below hC).st.blockAt 1 rfl)
         clear hA hD; refine o7p rfl ?_; intro K hK; gi_wp2; exact hK _ _ rfl (B7 _ _)
       · intro a' w' hA hC hD; obtain ⟨u63, s63, rfl⟩ := hD ⟨8, .data⟩ (by simp) rfl _ rfl; clear hA hD; refine o7p rfl ?_; intro K hK
         gi_wp2_with fail; refine (callsIn_wide.2 (cloneC_any _ o.px _ ((HP.out.below hC).st.elems 2 rfl) HLEN.out)).mono ?_; rintro e w5 hcl; obtain ⟨a5, c5, rfl, h2, h3, hb5, h4⟩ := clone_read encC_len rfl hcl
         exact hK _ _ ⟨a5, c5, rfl, h2, h3, fun ad e => Nat.lt_of_lt_of_le (HP.out.below hC).blt (h4 ad e)⟩ hb5
       · intro a' w' hA hC hD; obtain ⟨u57, s57, rfl⟩ := hD ⟨2, .data⟩ (by simp) rfl _ rfl; obtain ⟨u60, s60, rfl⟩ := hD ⟨5, .data⟩ (by simp) rfl _ rfl; obtain ⟨u64, s64, r64⟩ := hD ⟨9, .data⟩ (by simp) rfl _ rfl; replace r64 : (fun v_ w_ => ∃ a cap, v_ = .slice a o.px.length cap ∧ o.px.length ≤ cap ∧ Elems w_ (.slice a o.px.length cap) o.px.length 4 (rowC encC o.px) ∧ ∀ ad, a = some ad → B < ad.block) u64 w' := r64
         obtain ⟨a5, c5, rfl, h2, h3, h4⟩ := r64
         clear hA hD; refine o7p rfl ?_; intro K hK; gi_wp2; exact hK _ _ ⟨a5, c5, rfl, h2, h3, h4⟩ (B7 _ _)
       · intro a' w' hA hC hD; have s3 := hA.to 3 (by kernel_rfl) rfl; clear hA hD; refine o7p rfl ?_; intro K hK; gi_wp2; exact hK _ _ rfl (B7 _ _)
      case hend =>
       intro w5 hC
       simp only [EndFrom, eqv, forall_eq, Act.put, List.length_cons, List.length_nil, List.drop_succ_cons, List.drop_zero, Nat.reduceAdd, List.setIfInBounds_toArray, List.set_cons_succ, List.set_cons_zero]
       have HP := H7 (HP.out.below hC)
       clear hC
       intro v9 h9 v10 h10
       clear h9
       obtain ⟨a5, c5, rfl, h2, h3, h4⟩ := h10
       have HC5 := H7 h2
       have HE5 := H7 h3
       have HN5 := H7 h4
       clear h2 h3 h4
       obtain ⟨pa, pcap, h1, -⟩ := HP.out.ex
       have f0 := f7b h1
       obtain ⟨-, -, -, -, -, -, -, -, -, -, -, -, -, z13, z14, z15, -⟩ := opCells (h1)
       clear h1
       gi_wp2
       go_wp2_with fail
       go_roundw
       case rel => exact ⟨j + 1, HJ.out, by first | exact congrArg (Value.int .i64) HE1.out | exact congrArg (Value.int .i64) (Int.natCast_succ j).symm | (congr 1; omega), by rw [HST.out]; exact (((HP.out.put 13 _ ({ out with sw := o.sw }) rfl (fun _ => rfl)).put 14 _ ({ out with sw := o.sw, sh := o.sh }) rfl (fun _ => rfl)).putPx o.px a5 c5 HC5.out (elems_other (elems_other HE5.out (fun ad e => Nat.ne_of_gt (HN5.out ad e)) 13 _) (fun ad e => Nat.ne_of_gt (HN5.out ad e)) 14 _) HN5.out)⟩
       case measure => (try rw [HE1.out]); have := HJ.out; simp only [intOf]; omega
    · obtain ⟨-, -, -, -, -, -, -, -, -, -, -, -, -, -, -, -, y16, y17, y18⟩ := opCells (hB)
      obtain ⟨-, -, -, -, -, -, -, -, -, -, -, -, -, -, -, -, z16, z17, z18⟩ := opCells (h1)
      simp only [nameV] at n0
      clear hB h1 hc8
      go_wp2_with fail
      go_roundw
      case rel => exact ⟨j + 1, HJ.out, by first | exact congrArg (Value.int .i64) HE1.out | exact congrArg (Value.int .i64) (Int.natCast_succ j).symm | (congr 1; omega), by rw [HST.out]; exact (((HP.out.put 16 _ ({ out with tg := ⟨o.tg.time, out.tg.site, out.tg.seq⟩ }) rfl (fun _ => rfl)).put 17 _ ({ out with tg := ⟨o.tg.time, o.tg.site, out.tg.seq⟩ }) rfl (fun _ => rfl)).put 18 _ ({ out with tg := o.tg }) rfl (fun _ => rfl))⟩
      case measure => (try rw [HE1.out]); have := HJ.out; simp only [intOf]; omega
  · have hjn : j = n := by omega
    subst hjn
    have HPA := H7 (putTo_all o)
    rw [HN.out] at HPA
    repeat ((fail_if_success (with_reducible refine stop_at (id := 22) ?_)); (first | go_values | go_skip | go_guarded | go_step | go_upon | go_back | (simp only [Int.not_lt, Int.not_le] at *; go_simp) | (go_values <;> (try go_simp)) | (go_ite <;> go_prune <;> (try go_simp)) | (split <;> (first | (rename_i hx; exact (hx _ rfl).elim) | go_prune))))
    rw [HPA.out] at HP
    clear HPA
    obtain ⟨pa, pcap, h1, h2, h3, h4⟩ := HP.out.ex
    have hR := HP.out.st.blockAt 0 rfl
    have hRB : w.heap.size + 1 < B := HP.out.top _ (List.mem_cons_self ..)
    refine (wpIn_wide (n := 0)).1 ?_
    repeat ((fail_if_success (refine opIn_load 51 _ rfl B rfl 51 _ (0, 0) _ h1 Tryz.underlying51 rfl (by kernel_rfl) ?_)); gi_step)
    refine opIn_load 51 _ rfl B rfl 51 _ (0, 0) _ h1 Tryz.underlying51 rfl (by kernel_rfl) ?_
    simp only [Act.put, List.setIfInBounds_toArray, List.set_cons_succ, List.set_cons_zero]
    repeat ((fail_if_success (refine opIn_store 51 _ _ rfl (w.heap.size + 1) 51 opZ ((plainO o).cells (.slice pa (plainO o).px.length pcap)) rfl rfl hR (by kernel_rfl) rfl (by unfold OpT.cells; rw [List.all_toArray]; rfl) ?_)); gi_step)
    refine opIn_store 51 _ _ rfl (w.heap.size + 1) 51 opZ ((plainO o).cells (.slice pa (plainO o).px.length pcap)) rfl rfl hR (by kernel_rfl) rfl (by unfold OpT.cells; rw [List.all_toArray]; rfl) ?_
    have hs5 := HP.out.st.putRow (c' := (plainO o).cells (.slice pa (plainO o).px.length pcap)) (pre := []) (by intro i hi; cases hi)
    have h6 := elems_row (R := w.heap.size + 1) h3 (fun ad e => Nat.ne_of_gt (Nat.lt_trans hRB (h4 ad e))) ((plainO o).cells (.slice pa (plainO o).px.length pcap))
    simp only [Act.put, List.setIfInBounds_toArray, List.set_cons_succ, List.set_cons_zero]
    obtain ⟨w5, hw5⟩ : ∃ w5, wr.setRow (w.heap.size + 1) ((plainO o).cells (.slice pa (plainO o).px.length pcap)) = w5 := ⟨_, rfl⟩
    rw [hw5] at hs5 h6
    rw [hw5]
    clear hw5 h1 h3 h4 hR hRB HP
    have HS := H7 hs5
    have H6 := H7 h6
    have H2 := H7 h2
    clear hs5 h6 h2
    gi_wp2_with fail
    go_wp2_with fail
    have hl := run_loadVar_row (P := Tryz.prog) w5 (w.heap.size + 1) 51 51 ((plainO o).cells (.slice pa (plainO o).px.length pcap)) (0, 0) _ (HS.out.blockAt 0 rfl) Tryz.underlying51 rfl (by kernel_rfl)
    exact bodyPost_ret (results_cell1 Tryz.results95 rfl hl) rfl ⟨_, rfl, ⟨pa, pcap, rfl, H2.out, H6.out⟩, HS.out.low⟩
/- Layer 12: from, to, need. -/
set_option maxRecDepth 100000 in
set_option maxHeartbeats 1000000 in
theorem op_from_any (o : OpT) (a : Option Addr) (n cap : Nat) (w : World) : Calls Tryz.prog 103 #[.agg (o.cells (.slice a n cap))] w
 (Gives (.agg #[.int .i64 o.x, .int .i64 o.y]) w) := by
 have HS := H7 (St.start w)
 go_enter Tryz.func103, Tryz.ntmps103
 repeat ((fail_if_success (with_reducible refine stop_at (id := 1) ?_)); (first | go_values | go_skip | go_guarded | go_step | go_upon | go_back | (simp only [Int.not_lt, Int.not_le] at *; go_simp) | (go_values <;> (try go_simp)) | (go_ite <;> go_prune <;> (try go_simp)) | (split <;> (first | (rename_i hx; exact (hx _ rfl).elim) | go_prune))))
 have hs_ := ((HS.out.alloc (.cells (o.cells (.slice a n cap)) 51)).alloc (.cells #[.int .i64 0, .int .i64 0] 139))
 obtain ⟨w1, hw_⟩ : ∃ w1 : World, ((w.alloc (.cells (o.cells (.slice a n cap)) 51)).alloc (.cells #[.int .i64 0, .int .i64 0] 139)) = w1 := ⟨_, rfl⟩
 rw [hw_] at hs_
 try simp only [World.size_alloc] at hs_
 have HS := H7 hs_
 rw [hw_]
 clear hw_ hs_
 obtain ⟨-, -, -, -, q4, q5, q6, q7, -⟩ := opCells (HS.out.blockAt 1 rfl)
 have f0 := f7b (HS.out.blockAt 0 rfl)
 have j0 := h7c HS 0 0 rfl rfl
 have j1 := h7c HS 0 1 rfl rfl
 go_wp2_with fail
 have h0 := HS.out.low
 refine bodyPost_ret (v := .agg #[.int .i64 o.x, .int .i64 o.y]) (by simp [results, Tryz.results103, go_sem, j0, j1]) rfl ⟨rfl, ?_⟩
 (repeat (first | exact B7 _ _ | assumption | refine Below.alloc ?_ (by first | omega | (simp; done) | (simp; omega)) _ | refine Below.setCell ?_ (by first | omega | (simp; done) | (simp; omega)) _ | refine Below.drew ?_))
set_option maxRecDepth 100000 in
set_option maxHeartbeats 1000000 in
theorem op_to_any (o : OpT) (a : Option Addr) (n cap : Nat) (w : World) : Calls Tryz.prog 104 #[.agg (o.cells (.slice a n cap))] w
 (Gives (.agg #[.int .i64 o.x2, .int .i64 o.y2]) w) := by
 have HS := H7 (St.start w)
 go_enter Tryz.func104, Tryz.ntmps104
 repeat ((fail_if_success (with_reducible refine stop_at (id := 1) ?_)); (first | go_values | go_skip | go_guarded | go_step | go_upon | go_back | (simp only [Int.not_lt, Int.not_le] at *; go_simp) | (go_values <;> (try go_simp)) | (go_ite <;> go_prune <;> (try go_simp)) | (split <;> (first | (rename_i hx; exact (hx _ rfl).elim) | go_prune))))
 have hs_ := ((HS.out.alloc (.cells (o.cells (.slice a n cap)) 51)).alloc (.cells #[.int .i64 0, .int .i64 0] 139))
 obtain ⟨w1, hw_⟩ : ∃ w1 : World, ((w.alloc (.cells (o.cells (.slice a n cap)) 51)).alloc (.cells #[.int .i64 0, .int .i64 0] 139)) = w1 := ⟨_, rfl⟩
 rw [hw_] at hs_
 try simp only [World.size_alloc] at hs_
 have HS := H7 hs_
 rw [hw_]
 clear hw_ hs_
 obtain ⟨-, -, -, -, q4, q5, q6, q7, -⟩ := opCells (HS.out.blockAt 1 rfl)
 have f0 := f7b (HS.out.blockAt 0 rfl)
 have j0 := h7c HS 0 0 rfl rfl
 have j1 := h7c HS 0 1 rfl rfl
 go_wp2_with fail
 have h0 := HS.out.low
 refine bodyPost_ret (v := .agg #[.int .i64 o.x2, .int .i64 o.y2]) (by simp [results, Tryz.results104, go_sem, j0, j1]) rfl ⟨rfl, ?_⟩
 (repeat (first | exact B7 _ _ | assumption | refine Below.alloc ?_ (by first | omega | (simp; done) | (simp; omega)) _ | refine Below.setCell ?_ (by first | omega | (simp; done) | (simp; omega)) _ | refine Below.drew ?_))
theorem opNeed_ok (w : World) : Calls Tryz.prog 91 #[.bool true] w fun e w' => e = .returned (.tuple #[]) ∧ w = w' := by
 go_enter Tryz.func91, Tryz.ntmps91
 go_wp2
 go_end0
 exact ⟨rfl, rfl⟩
theorem opNeed_no (w : World) : Calls Tryz.prog 91 #[.bool false] w fun e w' => e = .panicked [{ v := .iface 34 (.int .i64 220), recovered := false }] ∧ w = w' := by
 go_enter Tryz.func91, Tryz.ntmps91
 go_wp2
 exact ⟨rfl, rfl, rfl⟩
end Go.Proofs.YteklfmacnnmomaaGreat
/- A range over a function whose function panics ahead of its first round. -/
namespace Go.Proofs.YteklfmacnnmomaaGreat
open Go.RowKit Go.Shelf
theorem panic_marked {n : Nat} {P : Program} {fn : Func} {a : Act} {W : World} {D : Nat} {R : Ending → World → Prop} {chain : List PanicEntry} (hd : a.defers = [{ target := .collected D, args := #[] }]) (hK : W.heap[D]? = some (.deferred (some [])))
 (hR : R (.panicked chain) (W.putObj D (.deferred none))) (hc : ∀ e ∈ chain, e.recovered = false) : bodyPostM Fence.wide n P fn R (.panic chain) a W := by
 obtain ⟨t, ds⟩ := a
 cases hd
 exact ⟨by simp, .inl ⟨_, _, rfl, run_takeDeferred hK, hR⟩⟩
/- A range over a function whose rounds may panic: the walk is of a frame whose function there is. -/
/-- A walk in a frame of a function that there is. -/
def WpX (n : Nat) (P : Program) (c : Code) (Q : Exit → Act → World → Prop) (a : Act) (w : World) : Prop :=
 ∀ (b : Frame) (k : List Item) (cs : List Frame), b.roundOf = none → (∃ fd, P.funcs[b.fn]? = some fd) →
  ∃ e a' w', Q e a' w' ∧ ArrivesIn (Machine.fenced P Fence.wide) P (lone (b.atR a (.code c :: k)) cs w) b k cs e a' w'
theorem wpX_of {n : Nat} {P : Program} {c : Code} {Q : Exit → Act → World → Prop} {a : Act} {w : World} (h : c.wpIn Fence.wide n P Q a w) : WpX n P c Q a w := fun b k cs hro _ => h b k cs hro trivial (room_wide _)
theorem wpX_seq {n : Nat} {P : Program} {x y : Code} {Q : Exit → Act → World → Prop} {a : Act} {w : World} (h : WpX n P x (Exit.then (WpX n P y Q) Q) a w) : WpX n P (Code.seq x y) Q a w := by
 intro b k cs hro hb
 have h0 : (lone (b.atR a (.code (.seq x y) :: k)) cs w).fenced P Fence.wide := fenced_calm (n := n) trivial (room_wide _) rfl
 obtain ⟨e, a₁, w₁, hq, harr⟩ := h b (.code y :: k) cs hro hb
 cases e with
 | normal =>
  obtain ⟨e₂, a₂, w₂, hq₂, harr₂⟩ := hq b k cs hro hb
  exact ⟨e₂, a₂, w₂, hq₂, .of_steps (.head h0 stepR_seq harr) harr₂⟩
 | exit id => exact ⟨_, a₁, w₁, hq, .of_steps (.one h0 stepR_seq) (.pass (x := .code y) rfl (fun _ _ => .inl (by simp)) harr)⟩
 | goto l => exact ⟨_, a₁, w₁, hq, .of_steps (.one h0 stepR_seq) (.pass (x := .code y) rfl (fun _ _ => .inl (by simp)) harr)⟩
 | ret => exact ⟨_, a₁, w₁, hq, .of_steps (.one h0 stepR_seq) (.pass (x := .code y) rfl (fun _ _ => .inl (by simp)) harr)⟩
 | panic ch => exact ⟨_, a₁, w₁, hq, .of_steps (.one h0 stepR_seq) (.pass (x := .code y) rfl (fun _ _ => .inl (by simp)) harr)⟩
 | outgrown => exact ⟨_, a₁, w₁, hq, .of_steps (.one h0 stepR_seq) (.pass (x := .code y) rfl (fun _ _ => .inl (by simp)) harr)⟩
theorem callsX_of_marks {n : Nat} {P : Program} {f : FuncId} {fn : Func} {c : Code} {args : Array Value} {w : World} {R : Ending → World → Prop}
 (hf : P.funcs[f]? = some fn) (hb : fn.body = some c)
 (h : WpX n P c (bodyPostM Fence.wide n P fn R) { tmps := args ++ Array.replicate (fn.ntmps - args.size) undef, defers := [] } w) : CallsIn Fence.wide n P f args w R := by
 refine ⟨trivial, fun cs hr => ?_⟩
 let b : Frame := { (default : Frame) with fn := f, kind := .normal, roundOf := none }
 have henter : Frame.enter P f args .normal =
  b.atR { tmps := args ++ Array.replicate (fn.ntmps - args.size) undef, defers := [] } [.code c] := by
  simp [Frame.enter, Frame.atR, hf, hb, b]
 obtain ⟨e, a', w', hq, harr⟩ := h b [] cs rfl ⟨fn, hf⟩
 rw [← henter] at harr
 cases e with
 | normal =>
  obtain ⟨e', w'', fr', hR, hs, hfn, hl⟩ := leaves_stepsInM a'.defers .returning w' { b.atR a' [] with mode := .returning } cs rfl rfl rfl hf rfl trivial hr hq
  exact ⟨e', w'', fr', hR, ComesIn.of_steps (StepsIn.trans harr (.one (fenced_calm (fr := b.atR a' []) trivial hr rfl) (stepR_end rfl))) hs, hfn, hl⟩
 | ret =>
  obtain ⟨todo, hs₀⟩ := harr.1 rfl
  obtain ⟨e', w'', fr', hR, hs, hfn, hl⟩ := leaves_stepsInM a'.defers .returning w' { b.atR a' todo with mode := .returning } cs rfl rfl rfl hf rfl trivial hr hq
  exact ⟨e', w'', fr', hR, ComesIn.of_steps hs₀ hs, hfn, hl⟩
 | panic chain =>
  obtain ⟨todo, hs₀⟩ := harr
  obtain ⟨e', w'', fr', hR, hs, hfn, hl⟩ := leaves_stepsInM a'.defers (.panicking chain) w' { b.atR a' todo with mode := .panicking chain } cs rfl rfl rfl hf rfl trivial hr hq
  exact ⟨e', w'', fr', hR, ComesIn.of_steps hs₀ hs, hfn, hl⟩
 | exit id => exact hq.elim
 | goto l => exact hq.elim
 | outgrown => exact ⟨.outgrown, w', b, hq, harr.resolve_left (by simp [b]), rfl, trivial⟩
/-- How a round ends that may panic. -/
def roundPostX (P : Program) (l : Nat) (R : Ending → World → Prop) : Exit → Act → World → Prop
 | .normal, _, w => ∃ v w', (Instr.endRound l none).run P w = .ok v w' ∧ R (.returned v) w'
 | .panic chain, a, w => a.defers = [] ∧ R (.panicked chain) w
 | _, _, _ => False
theorem roundX {F : Fence} {n : Nat} {P : Program} {l : Nat} {f : FuncId} {tmps : Array Value} {assign body : Code} {w : World} {R : Ending → World → Prop} (hF : F.fn f) (hfd : ∃ fd, P.funcs[f]? = some fd)
 (h : assign.wpIn (F.inRound l) n P (Exit.then (fun a₁ w₁ => ∃ w₂, (Instr.beginRound l).run P w₁ = .ok () w₂ ∧ body.wpIn (F.inRound l) n P (roundPostX P l R) a₁ w₂) (fun _ _ _ => False))
  { tmps := tmps, defers := [] } w) :
 RoundIn F n P l f tmps assign body w R := by
 refine ⟨hF, fun c cs hr => ?_⟩
 let b : Frame := { (default : Frame) with fn := f, kind := .normal, roundOf := some l }
 have hb0 : Frame.round l f tmps assign body .normal = b.atR { tmps := tmps, defers := [] } [.code assign, .beginRound, .code body] := by
  simp [Frame.round, Frame.atR, b]
 have hr' : (F.inRound l).room ((c :: cs).length + 1 + n) := hr
 have hF' : (F.inRound l).fn b.fn := hF
 obtain ⟨e, a₁, w₁, hq, harr⟩ := h b [.beginRound, .code body] (c :: cs) rfl hF' hr'
 rw [← hb0] at harr
 cases e with
 | normal =>
  obtain ⟨w₂, hbr, hbody⟩ := hq
  have s1 : StepsIn (Machine.fenced P (F.inRound l)) P (lone (b.atR a₁ [.beginRound, .code body]) (c :: cs) w₁) (lone (b.atR a₁ [.code body]) (c :: cs) w₂) :=
   .one (fenced_calm (fr := b.atR a₁ [.beginRound, .code body]) hF' hr' rfl) (stepR_beginRound rfl hbr)
  obtain ⟨e₂, a₂, w₃, hq₂, harr₂⟩ := hbody b [] (c :: cs) rfl hF' hr'
  cases e₂ with
  | normal =>
   obtain ⟨v, w₄, hend, hR⟩ := hq₂
   exact ⟨.returned v, w₄, hR, (StepsIn.trans harr s1).trans (StepsIn.trans harr₂ (.one (fenced_calm (fr := b.atR a₂ []) hF' hr' rfl) (stepR_round_end rfl rfl hend)))⟩
  | panic chain =>
   obtain ⟨hd, hR⟩ := hq₂
   obtain ⟨todo, hs⟩ := harr₂
   have hl : ({ b.atR a₂ todo with mode := .panicking chain } : Frame).leaving P w₃ (.panicked chain) := ⟨rfl, hd, hfd⟩
   exact ⟨.panicked chain, w₃, hR, (StepsIn.trans harr s1).trans (StepsIn.trans hs (.one (fenced_leaving (n := n) (cs := c :: cs) hF' hr' hl) (step_leave_panicked hl)))⟩
  | ret => exact hq₂.elim
  | exit id => exact hq₂.elim
  | goto t => exact hq₂.elim
  | outgrown => exact hq₂.elim
 | exit id => exact hq.elim
 | goto t => exact hq.elim
 | ret => exact hq.elim
 | panic chain => exact hq.elim
 | outgrown => exact hq.elim
theorem wpX_rangeFunc {n : Nat} {P : Program} {g : Operand} {ps : Array Tmp} {assign body : Code} {Q : Exit → Act → World → Prop} {a : Act} {w : World}
 (h : ∀ fn, (∃ fd, P.funcs[fn]? = some fd) → ∃ (l : Nat) (mark : List Deferred) (w₁ : World) (d : Deferred) (w₁' : World) (f : FuncId) (args : Array Value) (w₂ : World),
  (Instr.enterLoop fn a.tmps ps assign body none).run P w = .ok (l, mark) w₁ ∧
  (resolve a.eval (rangeCall g l) 0).run P w₁ = .ok d w₁' ∧
  (invoke d.target d.args).run P w₁' = .ok (.enter f args) w₂ ∧
  CallsIn Fence.wide (n - 1) P f args w₂ (rangePost Fence.wide n P l Q { a with defers := mark ++ a.defers })) :
 WpX n P (Code.rangeFunc g ps assign body) Q a w := by
 intro b k cs hro hb
 obtain ⟨l, mark, w₁, d, w₁', f, args, w₂, he, hres, hinv, hF, hcall⟩ := h b.fn hb
 rw [← hro] at he
 have hr : Fence.wide.room (cs.length + 1 + n) := room_wide _
 have h0 : (lone (b.atR a (.code (.rangeFunc g ps assign body) :: k)) cs w).fenced P Fence.wide := by
  refine fenced_lone (.inl trivial) (fun f' hf' => trivial) (Fence.room_le hr (by omega))
 have henter := stepR_rangeFunc (P := P) (b := b) (a := a) (k := k) (cs := cs) (w := w) he hres hinv
 have hroom : Fence.wide.room ((b.atR { a with defers := mark ++ a.defers } (.inRangeFunc l :: k) :: cs).length + 1 + (n - 1)) := room_wide _
 obtain ⟨e, w₃, fr, hR, hsteps, hfn, hleave⟩ := hcall (b.atR { a with defers := mark ++ a.defers } (.inRangeFunc l :: k) :: cs) hroom
 cases e with
 | outgrown =>
  obtain ⟨a₀, w₀, hq⟩ := hR
  exact ⟨.outgrown, a₀, w₀, hq, .inr (Outgrown.of_steps (.one henter) hsteps)⟩
 | returned v =>
  have hl : (lone fr (b.atR { a with defers := mark ++ a.defers } (.inRangeFunc l :: k) :: cs) w₃).fenced P Fence.wide := fenced_leaving (n := n - 1) trivial hroom hleave
  obtain ⟨jump, w₄, hend, hj⟩ := hR
  have sback : StepsIn (Machine.fenced P Fence.wide) P (lone (b.atR a (.code (.rangeFunc g ps assign body) :: k)) cs w) (lone (b.atR { a with defers := mark ++ a.defers } ((jump.map Item.code).toList ++ k)) cs w₄) := by
   refine .head h0 henter (StepsIn.trans hsteps (.head hl ?_ (.one (fenced_calm (fr := b.atR { a with defers := mark ++ a.defers } (.endRangeFunc l :: k)) trivial hr rfl) (stepR_endRangeFunc hend))))
   rw [← finish_atR_inRangeFunc l v]; exact step_leave_returned hleave
  cases jump with
  | none => exact ⟨.normal, _, w₄, hj, sback⟩
  | some c =>
   obtain ⟨e', a'', w₅, hq, harr⟩ := hj b k cs hro trivial hr
   exact ⟨e', a'', w₅, hq, .of_steps sback harr⟩
 | panicked chain =>
  have hl : (lone fr (b.atR { a with defers := mark ++ a.defers } (.inRangeFunc l :: k) :: cs) w₃).fenced P Fence.wide := fenced_leaving (n := n - 1) trivial hroom hleave
  refine ⟨.panic chain, _, w₃, hR, .inRangeFunc l :: k, .head h0 henter (StepsIn.trans hsteps (.one hl ?_))⟩
  rw [← Frame.raise_atR]; exact step_leave_panicked hleave
theorem wpX_block {n : Nat} {P : Program} {id : Nat} {c : Code} {Q : Exit → Act → World → Prop} {a : Act} {w : World}
 (h : WpX n P c (fun e a' w' => (e = .normal ∧ Q .normal a' w') ∨ ∃ ch, e = .panic ch ∧ Q (.panic ch) a' w') a w) : WpX n P (Code.block id c) Q a w := by
 intro b k cs hro hb
 have hr : Fence.wide.room (cs.length + 1 + n) := room_wide _
 have h0 : (lone (b.atR a (.code (.block id c) :: k)) cs w).fenced P Fence.wide := fenced_calm trivial hr rfl
 obtain ⟨e, a₁, w₁, hq, harr⟩ := h b (.inBlock id :: k) cs hro hb
 rcases hq with ⟨rfl, hq⟩ | ⟨ch, rfl, hq⟩
 · exact ⟨.normal, a₁, w₁, hq, .head h0 stepR_block (StepsIn.trans harr (.one (fenced_calm trivial hr rfl) stepR_inBlock))⟩
 · exact ⟨_, a₁, w₁, hq, .of_steps (.one h0 stepR_block) harr⟩
/-- Rounds that ask something of each of N values, and leave by a panic where it does not hold. -/
theorem wpX_range_need {n : Nat} {P : Program} {g : Operand} {ps : Array Tmp} {assign body : Code} {Q : Exit → Act → World → Prop} {a : Act} {w : World}
 {gf : Nat} {lb : Array Value} (hg : a.eval g = .func (.func gf) #[] lb) (eg : ∀ args w, (callFunc gf args).run P w = .ok (.enter gf args) w)
 (N : Nat) (encs : Nat → Array Value) (hps : ∀ k, (encs k).size = ps.size) (chain : List PanicEntry) (okk : Nat → Bool) (pargs sets : Nat → List (Tmp × Value)) (hpa : ∀ k, (ps.zip (encs k)).toList = pargs k)
 (hseq : ∀ (l : Nat) (J : Nat → World → Prop) (Jp : World → Prop) (W : World), Below w.heap.size w W →
  (∀ k W1, k < N → J k W1 → YieldAt Fence.wide (n - 1 - 1) P l (encs k) W1 fun e W' => (e = .returned (.bool true) ∧ J (k + 1) W') ∨ (e = .panicked chain ∧ Jp W')) → J 0 W →
  CallsIn Fence.wide (n - 1) P gf (#[.func (.yield l) #[] #[]] ++ lb) W fun e W' => ((∃ v, e = .returned v) ∧ J N W') ∨ (e = .panicked chain ∧ Jp W'))
 (hassign : ∀ (l k : Nat) (W : World) (K : Act → World → Prop), K (loopAct a (pargs k ++ sets k)) W →
  assign.wpIn (Fence.wide.inRound l) (n - 1 - 1) P (Exit.then K (fun _ _ _ => False)) (loopAct a (pargs k)) W)
 (hbody : ∀ (l k : Nat) (W : World), k < N → body.wpIn (Fence.wide.inRound l) (n - 1 - 1) P (fun e a' W' => (e = .normal ∧ okk k = true ∧ W' = W) ∨ (e = .panic chain ∧ okk k = false ∧ a'.defers = [] ∧ W' = W)) (loopAct a (pargs k ++ sets k)) W)
 (hdone : (∀ k, k < N → okk k = true) → ∀ (D : Nat) (W : World), w.heap.size ≤ D → Below w.heap.size w W → W.heap[D]? = some (.deferred (some [])) → Q .normal { a with defers := { target := .collected D, args := #[] } :: a.defers } W)
 (hpan : (∃ k, k < N ∧ okk k = false) → ∀ (D : Nat) (W : World), w.heap.size ≤ D → Below w.heap.size w W → W.heap[D]? = some (.deferred (some [])) → Q (.panic chain) { a with defers := { target := .collected D, args := #[] } :: a.defers } W) :
 WpX n P (Code.rangeFunc g ps assign body) Q a w := by
 refine wpX_rangeFunc ?_
 intro fn hfn
 have hI : OwnFrom w.heap.size (fun (_ : Unit) W => Below w.heap.size w W) := ownFrom_below (Nat.le_refl _) (Nat.le_refl _)
 generalize hN : w.heap.size = M at *
 obtain ⟨rec, hrec⟩ : ∃ rec : LoopState → Option Code → Loop, rec = fun st pe => { state := st, pending := pe, fn, tmps := a.tmps, params := ps, assign, body, defers := M } := ⟨_, rfl⟩
 obtain ⟨W1, hW1⟩ : ∃ W1, (w.alloc (.deferred (some []))).alloc (.loop (rec .ready none)) = W1 := ⟨_, rfl⟩
 have hL1 : W1.heap[M + 1]? = some (.loop (rec .ready none)) := by
  rw [← hW1, ← hN]; have := World.alloc_heap_new (w.alloc (.deferred (some []))) (.loop (rec .ready none)); rwa [World.size_alloc] at this
 have hK1 : W1.heap[M]? = some (.deferred (some [])) := by
  rw [← hW1, ← hN]; exact (Below.heap_alloc _ _ _ (by simp)).trans (World.alloc_heap_new w _)
 have hb1 : Below M w W1 := by
  rw [← hW1]; exact ((B7 _ w).alloc (by omega) _).alloc (by simp; omega) _
 refine ⟨M + 1, [{ target := .collected M, args := #[] }], W1, { target := .fn (.func gf) lb, args := #[.func (.yield (M + 1)) #[] #[]] }, W1, gf,
  #[.func (.yield (M + 1)) #[] #[]] ++ lb, W1, ?_, ?_, ?_, ?_⟩
 · rw [← hW1, hrec, ← hN]; exact run_enterLoop_outer _ _ _ _ _
 · simp only [resolve, hg]
   simp [go_sem]
 · simp [invoke, go_sem, eg]
 · refine (hseq (M + 1) (fun k W => (∀ i, i < k → okk i = true) ∧ Below M w W ∧ W.heap[M + 1]? = some (.loop (rec .ready none)) ∧ W.heap[M]? = some (.deferred (some [])))
    (fun W => (∃ k, k < N ∧ okk k = false) ∧ Below M w W ∧ W.heap[M]? = some (.deferred (some []))) W1 hb1 ?_ ⟨fun i hi => absurd hi (Nat.not_lt_zero i), hb1, hL1, hK1⟩).mono ?_
   · rintro k W hk ⟨hall, hb, hl, hd⟩
     have hy := run_yield (P := P) (args := encs k) hl (by rw [hrec]; exact hps k)
     rw [hrec] at hy
     refine ⟨fn, _, assign, body, hy, roundX trivial hfn ?_⟩
     have ha := fun K h => hassign (M + 1) k W K h
     unfold loopAct at ha
     rw [← Array.foldl_toList, hpa k]
     refine ha _ ?_
     have hbd := hbody (M + 1) k
     unfold loopAct at hbd
     clear hy
     have hlt : M + 1 < W.heap.size := b7t hl
     refine ⟨_, run_beginRound hl (by rw [hrec]), ?_⟩
     have hl3 : (W.putObj (M + 1) (.loop { rec .ready none with state := .busy })).heap[M + 1]? = some (.loop { rec .ready none with state := .busy }) := World.putObj_heap_same hlt
     have hk3 : (W.putObj (M + 1) (.loop { rec .ready none with state := .busy })).heap[M]? = some (.deferred (some [])) := (World.putObj_heap_other (by omega)).trans hd
     have hb3 : Below M w (W.putObj (M + 1) (.loop { rec .ready none with state := .busy })) := hI.putObj (s := ()) _ hb (by omega) hl rfl
     refine wpIn_mono (hbd _ hk) ?_
     rintro e a3 V3 (⟨rfl, ho, rfl⟩ | ⟨rfl, ho, hdf, rfl⟩)
     · have hr := run_endRound (P := P) none hl3
       have hl5 := World.putObj_heap_same (o := .loop (rec .ready none)) (b7t hl3)
       refine ⟨_, _, hr, .inl ⟨rfl, ?_, ?_, ?_, ?_⟩⟩
       · intro i hi
         rcases Nat.lt_or_ge i k with h | h
         · exact hall i h
         · rw [show i = k by omega]; exact ho
       · exact hI.putObj (s := ()) _ hb3 (by omega) hl3 rfl
       · rw [hrec] at hl5 ⊢; exact hl5
       · exact (World.putObj_heap_other (by omega)).trans hk3
     · exact ⟨hdf, .inr ⟨rfl, ⟨k, hk, ho⟩, hb3, hk3⟩⟩
   · rintro e W2 (⟨⟨v, rfl⟩, hall, hb, hl, hd⟩ | ⟨rfl, hno, hb, hd⟩)
     · exact ⟨none, _, by have := run_endLoop (P := P) hl (by rw [hrec]; simp); rw [hrec] at this; exact this, hdone hall M _ (Nat.le_refl _) (hI.putObj (s := ()) _ hb (by omega) hl rfl) ((World.putObj_heap_other (by omega)).trans hd)⟩
     · exact hpan hno M _ (Nat.le_refl _) hb hd
theorem Turned.ofBelow {w w1 : World} (S : Nat → Prop) (hb : Below w.heap.size w w1) : Turned S w w1 := ⟨hb.os, hb.tape, hb.output, hb.size, fun k hk _ => hb.block k hk⟩
theorem Turned.setAt {S : Nat → Prop} {x y : World} (h : Turned S x y) (p k : Nat) (hp : x.heap.size ≤ p ∨ S p) (v : Value) : Turned S x (y.setCell ⟨p, k, none⟩ v) :=
 (h.trans (Turned.of_grown (g7c y p k v))).mono fun j hj hk => (by
  rcases hk with hk | hk
  · exact hk
  · cases hk
    rcases hp with hp | hp
    · omega
    · exact hp)
end Go.Proofs.YteklfmacnnmomaaGreat
/- Layer 12: numbers, tries. -/
namespace Go.Proofs.YteklfmacnnmomaaGreat
open Go.RowKit Go.Shelf
attribute [local go_sem] Oper.semAt_some
theorem numbers_any (o : OpT) (a : Option Addr) (n cap : Nat) (w : World) : Calls Tryz.prog 96 #[.agg (o.cells (.slice a n cap))] w fun e w' =>
 e = .returned (.func (.func 108) #[] #[.pointer (some ⟨w.heap.size, 0, none⟩)]) ∧ w.alloc (.cells (o.cells (.slice a n cap)) 51) = w' := by
 have hmf : ∀ (fn : Fn) (first cap : Array Value) (w : World), (Instr.makeFunc fn first cap).run Tryz.prog w = .ok (.func fn first cap) w := fun _ _ _ _ => rfl
 go_enter Tryz.func96, Tryz.ntmps96
 go_wp2_with fail
 go_ret
 exact ⟨rfl, rfl⟩
/-- The places of an operation. -/
def numAt (o : OpT) : Nat → Int
 | 0 => o.x | 1 => o.y | 2 => o.x2 | _ => o.y2
theorem info3 : (Tryz.prog.info? 3).map (fun i => (i.zero, i.size, i.bytes)) = some (some (.int .i64 0), 1, 8) := by kernel_rfl
theorem run_index4 (o : OpT) (k : Nat) (h : k < 4) (w : World) : (Instr.index 144 (.agg #[.int .i64 o.x, .int .i64 o.y, .int .i64 o.x2, .int .i64 o.y2]) (.int .i64 (k : Int))).run Tryz.prog w = .ok (.int .i64 (numAt o k)) w := by
 obtain ⟨i0, hi, _, hz1, _⟩ := info_parts info3
 refine run_index_int w 144 3 4 .i64 i0 Tryz.underlying144 Tryz.underlying3 hi hz1 _ k _ h ?_
 rcases (show k = 0 ∨ k = 1 ∨ k = 2 ∨ k = 3 by omega) with rfl | rfl | rfl | rfl <;> rfl
set_option maxRecDepth 100000 in
set_option maxHeartbeats 2000000 in
theorem numbers1_in (n : Nat) (hn : 1 ≤ n) (l B : Nat) (o : OpT) (pv : Value) (J : Nat → World → Prop) (Jp : World → Prop) (chain : List PanicEntry)
 (hY : ∀ k W1, k < 4 → J k W1 → YieldAt Fence.wide (n - 1) Tryz.prog l #[.int .i64 (numAt o k)] W1 fun e W' => (e = .returned (.bool true) ∧ J (k + 1) W') ∨ (e = .panicked chain ∧ Jp W'))
 (W : World) (hB : W.heap[B]? = some (.cells (o.cells pv) 51 (0, 0))) (h0 : J 0 W) :
 CallsIn Fence.wide n Tryz.prog 108 #[.func (.yield l) #[] #[], .pointer (some ⟨B, 0, none⟩)] W fun e W' => ((∃ v, e = .returned v) ∧ J 4 W') ∨ (e = .panicked chain ∧ Jp W') := by
 obtain ⟨-, -, -, -, q4, q5, q6, q7, -⟩ := opCells hB
 have HY := H7 hY
 have hidx := run_index4 o
 clear hY hB
 refine callsIn_of_wp Tryz.func108 rfl trivial ?_ rfl
 simp only [Tryz.ntmps108, List.size_toArray, List.length_cons, List.length_nil, Nat.reduceAdd, Nat.reduceSub, Array.replicate_succ, Array.replicate_zero, List.push_toArray, List.append_toArray, List.nil_append, List.cons_append]
 gi_wp2
 apply wpIn_scope
 gi_wp2
 apply wpIn_label
 gi_wp2
 gi_loopw [14] (fun i wr => ∃ k : Nat, k ≤ 4 ∧ i = .int .i64 k ∧ J k wr) (fun i _ => 4 - (intOf i).toNat)
 case atStart => exact ⟨0, by omega, rfl, h0⟩
 case round =>
  obtain ⟨k, hk, rfl, hJs⟩ := hrel
  by_cases hlt : k < 4
  · have hix := hidx k hlt
    obtain ⟨fn, tmps, assign, body, hy, hR⟩ := HY.out k wr hlt hJs
    gi_wp2
    refine hR.mono ?_
    rintro e W3 (⟨rfl, hJ3⟩ | ⟨rfl, hp3⟩)
    · gi_wp2
      go_roundw
      case rel => exact ⟨k + 1, by omega, by simp, hJ3⟩
      case measure => simp [intOf]; omega
    · gi_wp2
      exact ⟨rfl, .inr ⟨rfl, hp3⟩⟩
  · obtain rfl : k = 4 := by omega
    gi_wp2; rw [Exit.noGoto_normal]
    go_end0
    exact .inl ⟨⟨_, rfl⟩, hJs⟩
set_option maxRecDepth 100000 in
set_option maxHeartbeats 1000000 in
theorem opCatch_panicking (q : Nat) (y x : Int) (older : List PanicEntry) (w : World) (hq : w.heap[q]? = some (.cells #[.int .i64 y] 34 (0, 0))) :
 CallsD Tryz.prog 90 #[.pointer (some ⟨q, 0, none⟩)] (.panicking ({ v := .iface 34 (.int .i64 x), recovered := false } :: older)) w fun e u' w' =>
  e = .returned (.tuple #[]) ∧ u' = .panicking ({ v := .iface 34 (.int .i64 x), recovered := true } :: older) ∧ w' = w.setCell ⟨q, 0, none⟩ (.int .i64 x) := by
 have dq := c7b (k := 0) hq rfl
 have fq := f7b hq 0
 have lq := b7t hq
 have Hq := H7 hq
 clear hq
 refine callsD_of_wpS Tryz.func90 rfl fun c₀ cs hu => ?_
 simp only [Tryz.ntmps90, List.size_toArray, List.length_cons, List.length_nil, Nat.reduceAdd, Nat.reduceSub, Array.replicate_succ, Array.replicate_zero, List.push_toArray, List.append_toArray, List.nil_append, List.cons_append]
 apply wpS_seq
 apply wpS_region
 simp [wpOpsS, go_sem, recoverD, hu, Exit.thenS]
 refine wpS_of_wp ?_
 have hta : ∀ w, (Instr.typeAssert (.iface 34 (.int .i64 x)) 20 34 true).run Tryz.prog w = .ok (.tuple #[.int .i64 x, .bool true]) w := fun _ => by kernel_rfl
 go_wp2
 exact ⟨rfl, _, rfl, _, results_none rfl _ _ _, rfl, rfl, rfl⟩
theorem opCatch_idle (q : Addr) (w : World) :
 CallsD Tryz.prog 90 #[.pointer (some q)] .returning w fun e u' w' => e = .returned (.tuple #[]) ∧ u' = .returning ∧ w = w' := by
 refine callsD_of_wpS Tryz.func90 rfl fun c₀ cs hu => ?_
 simp only [Tryz.ntmps90, List.size_toArray, List.length_cons, List.length_nil, Nat.reduceAdd, Nat.reduceSub, Array.replicate_succ, Array.replicate_zero, List.push_toArray, List.append_toArray, List.nil_append, List.cons_append]
 apply wpS_seq
 apply wpS_region
 simp [wpOpsS, go_sem, recoverD, hu, Exit.thenS]
 refine wpS_of_wp ?_
 go_wp2
 exact ⟨rfl, c₀.mode, rfl, _, results_none rfl _ _ _, rfl, hu, rfl⟩
/-- It panics with an error's number. -/
def PanicO (x : Int) (e : Ending) : Prop := e = .panicked [{ v := .iface 34 (.int .i64 x), recovered := false }]
/-- How a closure ends that may turn blocks of S: K holds, or it panics. -/
def EndsO (S : Nat → Prop) (er : Int) (K : World → Prop) (w : World) (e : Ending) (w' : World) : Prop :=
 Turned S w w' ∧ (er = 0 → e = .returned (.tuple #[]) ∧ K w') ∧ (er ≠ 0 → PanicO er e)
set_option maxRecDepth 100000 in
set_option maxHeartbeats 2000000 in
theorem opTries_any (g : Nat) (caps : Array Value) (S : Nat → Prop) (er : Int) (K : World → Prop) (w : World) (hS : ∀ k, S k → k < w.heap.size) (hg : ∀ args w, (callFunc g args).run Tryz.prog w = .ok (.enter g args) w)
 (hK : ∀ (W : World) y v, W.heap[w.heap.size]? = some (.cells #[.int .i64 y] 34 (0, 0)) → K W → K (W.setCell ⟨w.heap.size, 0, none⟩ v))
 (h : ∀ w1, Below w.heap.size w w1 → w.heap.size < w1.heap.size → Calls Tryz.prog g caps w1 (EndsO S er K w1)) :
 Calls Tryz.prog 79 #[.func (.func g) #[] caps] w fun e w' => e = .returned (.int .i64 er) ∧ Turned S w w' ∧ (er = 0 → K w') := by
 have hmf : ∀ (fn : Fn) (first cap : Array Value) (w : World), (Instr.makeFunc fn first cap).run Tryz.prog w = .ok (.func fn first cap) w := fun _ _ _ _ => rfl
 have HS := H7 (St.start w)
 have Hx := H7 h
 have HK := H7 hK
 have HSS := H7 hS
 clear h hK hS
 go_enter_defers Tryz.func79, Tryz.ntmps79
 repeat ((fail_if_success (with_reducible refine stop_at (id := 2) ?_)); (first | go_values | go_skip | go_guarded | go_step | go_upon | go_back | (simp only [Int.not_lt, Int.not_le] at *; go_simp) | (go_values <;> (try go_simp)) | (go_ite <;> go_prune <;> (try go_simp)) | (split <;> (first | (rename_i hx; exact (hx _ rfl).elim) | go_prune))))
 have hs_ := (HS.out.alloc (.cells #[.int .i64 0] 34))
 obtain ⟨w1, hw_⟩ : ∃ w1 : World, (w.alloc (.cells #[.int .i64 0] 34)) = w1 := ⟨_, rfl⟩
 rw [hw_] at hs_
 try simp only [World.size_alloc] at hs_
 have HS := H7 hs_
 rw [hw_]
 clear hw_ hs_
 go_wp2_with fail
 refine (Hx.out w1 HS.out.low (HS.out.lt 0 rfl)).mono ?_
 intro e w4 hh
 obtain ⟨ht, hok, hno⟩ := hh
 have hlt : w.heap.size < w1.heap.size := HS.out.lt 0 rfl
 have t0 := H7 ((ht.block w.heap.size hlt (fun hs => by have := HSS.out _ hs; omega)).trans (HS.out.blockAt 0 rfl))
 have TT := H7 (show Turned S w w4 from ((Turned.ofBelow S HS.out.low).trans ht).mono (fun k _ hk => hk.elim id id))
 clear ht Hx hg
 by_cases her : er = 0
 · obtain ⟨rfl, hk⟩ := hok her
   have HKK := H7 (HK.out w4 _ (.int .i64 0) t0.out hk)
   have f0 := f7b t0.out
   have q0 := c7b (k := 0) t0.out rfl
   clear hok hno hk
   go_wp2_with fail
   clear f0 q0
   have g0 := h7s (k := 0) t0.out (.int .i64 0)
   have TT2 : Turned S w (w4.setCell ⟨w.heap.size, 0, none⟩ (.int .i64 0)) := TT.out.setAt w.heap.size 0 (.inl (Nat.le_refl _)) _
   have hk2 := HKK.out
   revert g0 TT2 hk2
   generalize World.setCell _ _ (Value.int IntKind.i64 0) = W2
   intro g0 TT2 hk2
   refine leaves_cons (f := 90) (args := #[.pointer (some ⟨w.heap.size, 0, none⟩)]) (by simp) (by simp [go_sem]) ?_
   refine (opCatch_idle _ _).mono ?_
   rintro e u' w'' ⟨rfl, rfl, rfl⟩
   have d0 := c7b (k := 0) g0 rfl
   exact ⟨.int .i64 0, by simp [results, Tryz.results79, go_sem, d0], by rw [her], TT2, fun _ => hk2⟩
 · have he2 := hno her
   unfold PanicO at he2
   subst he2
   clear hok hno
   refine leaves_cons (f := 90) (args := #[.pointer (some ⟨w.heap.size, 0, none⟩)]) (by simp) (by simp [go_sem]) ?_
   refine (opCatch_panicking _ _ _ _ _ t0.out).mono ?_
   rintro e u' W2 ⟨rfl, rfl, rfl⟩
   have d0 := c7b (k := 0) (h7s (k := 0) t0.out (.int .i64 er)) rfl
   exact ⟨.int .i64 er, by simp [results, Tryz.results79, go_sem, d0], rfl, TT.out.setAt w.heap.size 0 (.inl (Nat.le_refl _)) _, fun h => absurd h her⟩
end Go.Proofs.YteklfmacnnmomaaGreat
