/- Merged texts: SortI ShX ShP ShQ Fld ShR ShS ShY ShT ShU Cmp. -/
import Derived.Test.YthcdkkmjnglmjaaGreatDoorM5
import Derived.Test.YthcdkkmjnglmjaaGreatDoorM1
import Derived.Shelf.SortM.Plain
import Derived.Shelf.SortM.SortNone
set_option linter.unusedSimpArgs false
set_option linter.unusedVariables false
/- slices.SortFunc at a row of structs, with what it leaves alone; slices.Sort at a row of ints. -/
namespace Go.Proofs.YthcdkkmjnglmjaaGreatDoor
open Go.RowKit Go.Shelf
section
variable {α : Type} [Inhabited α] {P : Program} {ρ : Ren}
/-- 'sortRows', and what it leaves alone. -/
theorem sortRowsG (L : SlLaysF0.n6 P ρ) (k : Nat) (aE : ∀ w, (isAgg (ρ.t 24)).run P w = .ok true w) (zE : ∀ w, (Go.sizeOf (ρ.t 24)).run P w = .ok k w) (enc : α → List Value) (hk : ∀ x, (enc x).length = k) (h1 : ∀ x, ∀ v ∈ enc x, v.oneCell' = true)
 (cf : α → α → Int) (hO : Sort.SWO (ltOf cf)) (g : Nat) (cb : Array Value) (eg : ∀ args w, (callFunc g args).run P w = .ok (.enter g args) w)
 (hcmp : ∀ x y w, Calls P g (#[.agg (enc x).toArray, .agg (enc y).toArray] ++ cb) w (GivesG (.int .i64 (cf x y)) w)) 
 (sv : Value) (l : List α) (base : Nat) (w : World) (hrow : w.ownsRow base (ρ.t 24) k sv l.length (l.flatMap enc)) (hsz : l.length ≤ 1000000000) :
 Calls P (ρ.f 6) #[sv, .func (.func g) #[] cb] w fun e w' => e = .returned (.tuple #[]) ∧ ∃ s : List α, s.Perm l ∧ s.Pairwise (fun x y => ltOf cf y x = false) ∧ w'.ownsRow base (ρ.t 24) k sv l.length (s.flatMap enc) ∧ w.grownBy w' sv.ownBlock := by
 have hrow' := hrow
 obtain ⟨hlen, ⟨rfl, h0⟩ | ⟨b, cap, cur, rfl, hb, hblk, hcap, hmax, hcur, htake⟩⟩ := hrow
 · have e1 : l = [] := List.length_eq_zero_iff.1 h0
   subst e1
   refine (AnyF.slices_SortFunc_none L none 0 (.func (.func g) #[] cb) w).mono ?_
   rintro e w' ⟨rfl, rfl⟩
   exact ⟨rfl, [], .refl _, .nil, by simpa using hrow', World.grownBy.refl _ _⟩
 · by_cases hl0 : l.length = 0
   · have e1 : l = [] := List.length_eq_zero_iff.1 hl0
     subst e1
     refine (AnyF.slices_SortFunc_none L (some ⟨b, 0, none⟩) cap (.func (.func g) #[] cb) w).mono ?_
     rintro e w' ⟨rfl, rfl⟩
     exact ⟨rfl, [], .refl _, .nil, by simpa using hrow', World.grownBy.refl _ _⟩
   have hlt := b7t hblk
   have hH : Sort.HoldsK enc k w b 0 l.toArray := by
    intro j hj
    have hj' : j < l.length * k := by simpa using hj
    refine ⟨?_, f7b hblk _⟩
    refine c7b hblk ?_
    rw [Nat.zero_add]
    have h2 := flatK_get hk l j hj' _ htake
    rw [List.getElem?_take_of_lt hj'] at h2
    simpa using h2
   have hcon := AnyQ.slices_SortFunc L k aE zE enc hk h1 cf hO g cb b 0 cap l.toArray w eg (fun m os dk _ x y => (hcmp x y _).mono fun e w' h => ⟨h.1, h.2⟩) hH hlt (by simp; omega)
   simp only [List.size_toArray] at hcon
   refine hcon.mono ?_
   rintro e w' ⟨rfl, d', n, os, ⟨hsz', _, hperm⟩, hsort, rfl⟩
   obtain ⟨s, rfl⟩ : ∃ s : List α, d' = s.toArray := ⟨d'.toList, by simp⟩
   simp only [List.size_toArray] at hsz' hsort hperm
   have hp : s.Perm l := by
    have e1 : s.toArray.extract 0 l.length = s.toArray := by rw [← hsz']; simp
    have e2 : l.toArray.extract 0 l.length = l.toArray := by simp
    rw [e1, e2] at hperm
    exact hperm
   have hsl : s.length = l.length := hsz'
   have hpw : s.Pairwise (fun x y => ltOf cf y x = false) := by
    rw [List.pairwise_iff_getElem]
    intro i j hi hj hij
    have := hsort i j (Nat.zero_le _) hij (by omega)
    rw [getElem!_pos s.toArray i (by simpa using hi), getElem!_pos s.toArray j (by simpa using hj)] at this
    simpa using this
   have hgrow : ∀ j, j < w.heap.size → (sortWorldK enc k w b 0 n s.toArray os).heap[j]? = (w.heap.modify b (Sort.onCells (Sort.putCells id 0 (Sort.flatK enc k s.toArray))))[j]? := by
    intro j hj
    show ((w.heap.modify b (Sort.onCells (Sort.putCells id 0 (Sort.flatK enc k s.toArray)))) ++ os)[j]? = _
    exact Array.getElem?_append_left (by simpa using hj)
   refine ⟨rfl, s, hp, hpw, ⟨by rw [flat_length hk, hsl], .inr ⟨b, cap, Sort.putCells id 0 (Sort.flatK enc k s.toArray) cur, rfl, hb, ?_, hcap, hmax, by simp [Sort.putCells, hcur], ?_⟩⟩, rfl, rfl, rfl, ?_, ?_⟩
   · rw [hgrow b hlt, Array.getElem?_modify, if_pos rfl, hblk]
     rfl
   · apply List.ext_getElem?
     intro j
     by_cases hj : j < l.length * k
     · have h2 := flatK_get hk s j (by rw [hsl]; exact hj) _ rfl
       have h3 : l.length * k ≤ cur.size := by rw [hcur]; exact Nat.mul_le_mul_right k hcap
       rw [List.getElem?_take_of_lt hj, h2]
       simp only [Sort.putCells, Array.getElem?_toList, Array.getElem?_mapIdx]
       rw [Array.getElem?_eq_getElem (by omega)]
       simp [hsl, hj]
     · rw [List.getElem?_eq_none (by simp; omega), List.getElem?_eq_none (by rw [flat_length hk, hsl]; omega)]
   · show w.heap.size ≤ ((w.heap.modify b (Sort.onCells (Sort.putCells id 0 (Sort.flatK enc k s.toArray)))) ++ os).size
     simp
   · intro j hj hne
     rw [hgrow j hj, Array.getElem?_modify, if_neg (fun e => hne (by rw [e]; rfl))]
end
section
variable {P : Program} {ρ : Ren}
theorem sortInts (L : SlLaysM.n5 P ρ) (sv : Value) (l : List Int) (base : Nat) (w : World) (hrow : w.ownsRow base (ρ.t 25) 1 sv l.length (l.map (Value.int .i64))) (hsz : l.length ≤ 1000000000) :
 Calls P (ρ.f 5) #[sv] w fun e w' => e = .returned (.tuple #[]) ∧ w'.ownsRow base (ρ.t 25) 1 sv l.length ((l.mergeSort fun x y => decide (x ≤ y)).map (Value.int .i64)) ∧ w.grownBy w' sv.ownBlock := by
 have hrow' := hrow
 obtain ⟨hlen, ⟨rfl, h0⟩ | ⟨b, cap, cur, rfl, hb, hblk, hcap, hmax, hcur, htake⟩⟩ := hrow
 · have e1 : l = [] := List.length_eq_zero_iff.1 h0
   subst e1
   refine (AnyM.slices_Sort_int_none L none 0 w).mono ?_
   rintro e w' ⟨rfl, rfl⟩
   exact ⟨rfl, by simpa using hrow', World.grownBy.refl _ _⟩
 · have hlt := b7t hblk
   have hH : Sort.Holds (Value.int .i64) w b 0 l.toArray := by
    intro j hj
    have hj' : j < l.length := by simpa using hj
    refine ⟨?_, f7b hblk _⟩
    refine c7b hblk ?_
    rw [Nat.zero_add]
    have h2 : (l.map (Value.int .i64))[j]? = some (.int .i64 l[j]) := by simp [hj']
    rw [← htake, List.getElem?_take_of_lt (by omega)] at h2
    have e : l.toArray[j]! = l[j] := by rw [getElem!_pos l.toArray j (by simpa using hj)]; simp
    rw [e]
    simpa using h2
   refine (AnyM.slices_Sort_int L b 0 cap l w hH hlt (by omega)).mono ?_
   rintro e w' ⟨rfl, n, os, rfl⟩
   generalize hs : (l.mergeSort fun x y => decide (x ≤ y)) = s
   have hsl : s.length = l.length := by rw [← hs]; exact List.length_mergeSort l
   have hgrow : ∀ j, j < w.heap.size → (Sort.grow (Sort.putRow (Value.int .i64) (Sort.ahead w n) b 0 s.toArray) os).heap[j]? = (w.heap.modify b (Sort.onCells (Sort.putCells (Value.int .i64) 0 s.toArray)))[j]? := by
    intro j hj
    show ((w.heap.modify b (Sort.onCells (Sort.putCells (Value.int .i64) 0 s.toArray))) ++ os)[j]? = _
    exact Array.getElem?_append_left (by simpa using hj)
   refine ⟨rfl, ⟨by rw [List.length_map, hsl]; omega, .inr ⟨b, cap, Sort.putCells (Value.int .i64) 0 s.toArray cur, rfl, hb, ?_, hcap, hmax, by simp [Sort.putCells, hcur], ?_⟩⟩, rfl, rfl, rfl, ?_, ?_⟩
   · rw [hgrow b hlt, Array.getElem?_modify, if_pos rfl, hblk]
     rfl
   · apply List.ext_getElem?
     intro j
     by_cases hj : j < l.length * 1
     · have h3 : l.length ≤ cur.size := by rw [hcur]; omega
       rw [List.getElem?_take_of_lt hj]
       simp only [Sort.putCells, Array.getElem?_toList, Array.getElem?_mapIdx]
       rw [Array.getElem?_eq_getElem (by omega)]
       have hjs : j < s.length := by omega
       simp [hjs]
     · rw [List.getElem?_eq_none (by simp; omega), List.getElem?_eq_none (by rw [List.length_map, hsl]; omega)]
   · show w.heap.size ≤ ((w.heap.modify b (Sort.onCells (Sort.putCells (Value.int .i64) 0 s.toArray))) ++ os).size
     simp
   · intro j hj hne
     rw [hgrow j hj, Array.getElem?_modify, if_neg (fun e => hne (by rw [e]; rfl))]
end
end Go.Proofs.YthcdkkmjnglmjaaGreatDoor
/- Layer 6: sorted. -/
namespace Go.Proofs.YthcdkkmjnglmjaaGreatDoor
open Go.RowKit Go.Shelf Go.Maps
theorem lay_sortI : Go.Proofs.SlLaysM.n5 Tryz.prog ⟨fun | 5 => 125 | 7 => 130 | 8 => 127 | 10 => 142 | 11 => 143 | 12 => 144 | 13 => 145 | 14 => 146 | 15 => 147 | 16 => 148 | 17 => 149 | 18 => 150 | 19 => 139 | 20 => 140 | 30 => 156 | 31 => 152 | 32 => 153 | 33 => 157 | 34 => 158 | 35 => 115 | 40 => 160 | n => n, fun | 0 => 0 | 3 => 3 | 4 => 4 | 5 => 5 | 9 => 9 | 22 => 156 | 23 => 156 | 25 => 3 | 32 => 178 | 35 => 188 | 36 => 189 | 41 => 193 | 44 => 196 | 46 => 198 | 53 => 204 | 57 => 208 | 63 => 212 | 64 => 103 | n => n, fun | n => n⟩ := {
 mixed := by kernel_rfl
 f5 := ⟨Tryz.f125.name, by decide, Tryz.func125.trans (congrArg some (by kernel_rfl))⟩
 f7 := ⟨Tryz.f130.name, by decide, Tryz.func130.trans (congrArg some (by kernel_rfl))⟩
 f8 := Tryz.func127.trans (congrArg some (by kernel_rfl))
 f10 := ⟨Tryz.f142.name, by decide, Tryz.func142.trans (congrArg some (by kernel_rfl))⟩
 f11 := ⟨Tryz.f143.name, by decide, Tryz.func143.trans (congrArg some (by kernel_rfl))⟩
 f12 := ⟨Tryz.f144.name, by decide, Tryz.func144.trans (congrArg some (by kernel_rfl))⟩
 f13 := ⟨Tryz.f145.name, by decide, Tryz.func145.trans (congrArg some (by kernel_rfl))⟩
 f14 := ⟨Tryz.f146.name, by decide, Tryz.func146.trans (congrArg some (by kernel_rfl))⟩
 f15 := ⟨Tryz.f147.name, by decide, Tryz.func147.trans (congrArg some (by kernel_rfl))⟩
 f16 := ⟨Tryz.f148.name, by decide, Tryz.func148.trans (congrArg some (by kernel_rfl))⟩
 f17 := ⟨Tryz.f149.name, by decide, Tryz.func149.trans (congrArg some (by kernel_rfl))⟩
 f18 := ⟨Tryz.f150.name, by decide, Tryz.func150.trans (congrArg some (by kernel_rfl))⟩
 f19 := Tryz.func139.trans (congrArg some (by kernel_rfl))
 f20 := Tryz.func140.trans (congrArg some (by kernel_rfl))
 f30 := ⟨Tryz.f156.name, by decide, Tryz.func156.trans (congrArg some (by kernel_rfl))⟩
 f31 := Tryz.func152.trans (congrArg some (by kernel_rfl))
 f32 := Tryz.func153.trans (congrArg some (by kernel_rfl))
 f33 := ⟨Tryz.f157.name, by decide, Tryz.func157.trans (congrArg some (by kernel_rfl))⟩
 f34 := ⟨Tryz.f158.name, by decide, Tryz.func158.trans (congrArg some (by kernel_rfl))⟩
 f35 := ⟨Tryz.f115.name, by decide, Tryz.func115.trans (congrArg some (by kernel_rfl))⟩
 f40 := ⟨Tryz.f160.name, by decide, Tryz.func160.trans (congrArg some (by kernel_rfl))⟩
 t0 := Tryz.underlying0
 a0 := Tryz.isAgg0
 z0 := Tryz.sizeOf0
 v0 := Tryz.zeroValue0
 t3 := Tryz.underlying3
 a3 := Tryz.isAgg3
 z3 := Tryz.sizeOf3
 v3 := Tryz.zeroValue3
 t4 := Tryz.underlying4
 a4 := Tryz.isAgg4
 z4 := Tryz.sizeOf4
 v4 := Tryz.zeroValue4
 t5 := Tryz.underlying5
 a5 := Tryz.isAgg5
 z5 := Tryz.sizeOf5
 v5 := Tryz.zeroValue5
 t9 := Tryz.underlying9
 a9 := Tryz.isAgg9
 z9 := Tryz.sizeOf9
 v9 := Tryz.zeroValue9
 t22 := Tryz.underlying156
 a22 := Tryz.isAgg156
 z22 := Tryz.sizeOf156
 v22 := Tryz.zeroValue156
 t23 := Tryz.underlying156
 a23 := Tryz.isAgg156
 z23 := Tryz.sizeOf156
 v23 := Tryz.zeroValue156
 t25 := Tryz.underlying3
 a25 := Tryz.isAgg3
 z25 := Tryz.sizeOf3
 v25 := Tryz.zeroValue3
 t32 := Tryz.underlying178
 a32 := Tryz.isAgg178
 z32 := Tryz.sizeOf178
 v32 := Tryz.zeroValue178
 t35 := Tryz.underlying188
 a35 := Tryz.isAgg188
 z35 := Tryz.sizeOf188
 v35 := Tryz.zeroValue188
 t36 := Tryz.underlying189
 a36 := Tryz.isAgg189
 z36 := Tryz.sizeOf189
 v36 := Tryz.zeroValue189
 t41 := Tryz.underlying193
 a41 := Tryz.isAgg193
 z41 := Tryz.sizeOf193
 v41 := Tryz.zeroValue193
 t44 := Tryz.underlying196
 a44 := Tryz.isAgg196
 z44 := Tryz.sizeOf196
 v44 := Tryz.zeroValue196
 t46 := Tryz.underlying198
 a46 := Tryz.isAgg198
 z46 := Tryz.sizeOf198
 v46 := Tryz.zeroValue198
 t53 := Tryz.underlying204
 a53 := Tryz.isAgg204
 z53 := Tryz.sizeOf204
 v53 := Tryz.zeroValue204
 t57 := Tryz.underlying208
 a57 := Tryz.isAgg208
 z57 := Tryz.sizeOf208
 v57 := Tryz.zeroValue208
 t63 := Tryz.underlying212
 a63 := Tryz.isAgg212
 z63 := Tryz.sizeOf212
 v63 := Tryz.zeroValue212
 t64 := Tryz.underlying103
 a64 := Tryz.isAgg103
 z64 := Tryz.sizeOf103
 v64 := Tryz.zeroValue103 }
theorem rowI : RowT Tryz.prog 156 3 1 8 := .of (z := .int .i64 0) Tryz.underlying156 (by kernel_rfl) rfl (by decide)
def encI (y : Int) : List Value := [.int .i64 y]
theorem encI_len (y : Int) : (encI y).length = 1 := rfl
theorem encI_one (y : Int) : ∀ u ∈ encI y, u.oneCell' = true := by
 intro u hu
 simp [encI] at hu
 subst hu
 rfl
theorem encI_map (l : List Int) : l.flatMap encI = l.map (Value.int .i64) := by
 induction l with
 | nil => rfl
 | cons a l ih => simp [encI, ih]
theorem ownsMap_size {H : Type} {w : World} {P : Program} {k : TypeId} {R : Value → Option (DataW H × List MemPlace)} {b n : Nat} {D : DataW H} (h : w.ownsMap P k R b n D) : Maps.size D ≤ n := by
 obtain ⟨es, clock, _, _, hs, rfl⟩ := h
 have := (Go.WideShapes.sorted_perm (es.toList.map (Go.WideElems.rg P k R))).length_eq
 rw [size_eq, this]
 simpa using hs
/-- Other blocks are written. -/
theorem StO.other {α : Type} {w0 x y : World} {its : List It} {base : Nat} {e : TypeId} {k : Nat} {enc : α → List Value} {v : Value} {L : List α} {r : Nat} (h : StO w0 its base e k enc v L x) (hg : x.grownBy y (some r)) (h0 : w0.heap.size ≤ r) (ht : ∀ i ∈ its, i.top ≤ r) (hv : v.ownBlock ≠ some r) : StO w0 its base e k enc v L y :=
 ⟨h.st.grown (base := r) (fun j e => by cases e; exact Nat.le_refl _) h0 ht hg, h.row.kept hg (.inr hv), h.low, h.top, Nat.le_trans h.hi hg.size⟩
theorem sameKey_int (a b : Int) : (Lit.int .i64 a).sameKey (.int .i64 b) = decide (a = b) := by
 by_cases h : a = b
 · subst h; simp [Lit.sameKey]
 · simp [Lit.sameKey, h]
/-- The keys. -/
structure KeysP (D : DataW Value) (ks : List Int) (left : Lit → Bool) : Prop where
 left_ : ∀ y, left (.int .i64 y) = true ↔ Maps.has D (.int .i64 y) = true ∧ y ∉ ks
 nd : ks.Nodup
 has : ∀ y ∈ ks, Maps.has D (.int .i64 y) = true
theorem KeysP.step {D : DataW Value} {ks : List Int} {left : Lit → Bool} (h : KeysP D ks left) {x : Int} (hx : left (.int .i64 x) = true) : KeysP D (ks ++ [x]) (fun z => left z && !z.sameKey (.int .i64 x)) := by
 obtain ⟨h1, h2⟩ := (h.left_ x).1 hx
 refine ⟨fun y => ?_, List.nodup_append.2 ⟨h.nd, by simp, fun a ha b hb => ?_⟩, fun y hy => ?_⟩
 · rw [Bool.and_eq_true, h.left_ y, sameKey_int]
   simp only [Bool.not_eq_true', decide_eq_false_iff_not, List.mem_append, List.mem_singleton, not_or]
   constructor
   · rintro ⟨⟨a, b⟩, c⟩; exact ⟨a, b, c⟩
   · rintro ⟨a, b, c⟩; exact ⟨⟨a, b⟩, c⟩
 · simp at hb; subst hb; exact fun e => h2 (by rw [← e]; exact ha)
 · rcases List.mem_append.1 hy with hy | hy
   · exact h.has y hy
   · simp at hy; subst hy; exact h1
set_option maxRecDepth 100000 in
set_option maxHeartbeats 1000000 in
theorem sorted_any (b n : Nat) (D : DataW Value) (hn : n < 1000000000) (w : World) (h : w.ownsMap Tryz.prog 3 heldR b n D) :
 Calls Tryz.prog 111 #[.map (some b)] w fun e w' => ∃ (v : Value) (ks : List Int), e = .returned v ∧ w'.ownsRow w.heap.size 3 1 v ks.length (ks.map (Value.int .i64)) ∧ Below w.heap.size w w' ∧ ks.length ≤ n ∧
  ks.Pairwise (fun x y => x < y) ∧ ∀ y, y ∈ ks ↔ Maps.has D (.int .i64 y) = true := by
 have HM := H7 h
 have HN := H7 hn
 have HSZ := H7 (ownsMap_size h)
 clear h hn
 go_enter Tryz.func111, Tryz.ntmps111
 go_wp2_with (first | (at_range; refine wpList_range_own _ rfl _ _ rfl _ _ keyedI Tryz.underlying90 heldR b n D rfl HM.out ?_; intro w0 hrg0 hg0 hs0))
 go_frame
 obtain ⟨N1, hN1⟩ : ∃ N1, w0.heap.size = N1 := ⟨_, rfl⟩
 have hb0 : Below w.heap.size w w0 := ⟨hg0.os, hg0.tape, hg0.output, hg0.size, fun k hk => hg0.block k hk (by simp)⟩
 have HO := H7 (StO.start ((St.start w).below hb0) 3 1 encI)
 rw [hN1] at HO
 have HNN := H7 (show w.heap.size < N1 by omega)
 have HK0 := H7 (show KeysP D [] (Maps.has D) from ⟨fun y => by simp, List.nodup_nil, by simp⟩)
 have HRG := H7 hrg0
 have HSZ0 := H7 (show ([] : List Int).length + Maps.size D ≤ n by have := HSZ.out; simpa using this)
 clear hrg0 hg0 hs0 hb0 hN1
 go_loopw [3] (fun v wr => ∃ (ks : List Int) (left : Lit → Bool) (cnt : Nat), wr.ranges Tryz.prog 3 heldR b w.heap.size n D left cnt ∧ StO w [] N1 3 1 encI v ks wr ∧ KeysP D ks left ∧ ks.length + cnt ≤ n) (fun _ wr => wr.rangeLeft b w.heap.size)
 case atStart => exact ⟨[], _, _, HRG.out, HO.out, HK0.out, HSZ0.out⟩
 case round =>
  obtain ⟨ks, left, cnt, hrg, ho, hk, hcnt⟩ := hrel
  clear HRG HO HK0 HSZ0
  have HRG := H7 hrg
  have HO := H7 ho
  have HK := H7 hk
  have HC := H7 hcnt
  clear ho hk hcnt
  have HBL := H7 (show ks.length < 1000000000 by have := HC.out; have := HN.out; omega)
  have hvr : ∀ j, u3.ownBlock = some j → N1 ≤ j := fun j hj => (HO.out.row.lt j hj).1
  have HVR := H7 hvr
  clear hvr
  go_wp2_with (first | (at_next; refine wpList_next_ranges _ rfl _ rfl _ keyedI heldR (Value.int .i64) (fun v => v) (fun key kl hkey => by obtain ⟨x, hx, _⟩ := Maps.keyOf_int_inv Tryz.underlying3 hkey; exact ⟨x, hx⟩) (fun v y _ => ⟨v, rfl⟩) b _ n D left cnt rfl hrg ?_ ?_) | fail)
  · intro hc0 hl0
    have hks : ∀ y, y ∈ ks ↔ Maps.has D (.int .i64 y) = true := fun y => ⟨HK.out.has y, fun h => by
     refine Classical.byContradiction fun hn => ?_
     have := (HK.out.left_ y).2 ⟨h, hn⟩
     rw [hl0] at this
     cases this⟩
    have HKS := H7 hks
    have HC0 := H7 hc0
    have hrow := HO.out.row
    rw [encI_map] at hrow
    have HSO := H7 (sortInts lay_sortI u3 ks N1 wr hrow (by have := HBL.out; omega))
    clear hc0 hl0 hks hrow
    go_wp2_with fail
    refine HSO.out.mono ?_
    rintro e w4 ⟨rfl, hr4, hg4⟩
    have HR := H7 (And.intro hr4 hg4)
    clear hr4 hg4 HSO
    go_wp2_with fail
    go_ret
    refine ⟨u3, ks.mergeSort fun x y => decide (x ≤ y), rfl, ?_, ?_, ?_, ?_, ?_⟩
    · rw [List.length_mergeSort]
      exact ownsRow_mono HR.out.1 (Nat.le_of_lt HNN.out)
    · exact HO.out.st.low.grown HR.out.2 HO.out.st.low.size (fun j hj => Nat.le_trans (Nat.le_of_lt HNN.out) (HVR.out j hj))
    · rw [List.length_mergeSort]
      have := HC.out
      omega
    · have h1 := List.pairwise_mergeSort (le := fun x y : Int => decide (x ≤ y)) (fun a b c h1 h2 => by simp at *; omega) (fun a b => by simp; omega) ks
      have h2 : (ks.mergeSort fun x y => decide (x ≤ y)).Nodup := (List.mergeSort_perm ks _).nodup_iff.2 HK.out.nd
      refine (List.Pairwise.and h1 h2).imp fun {a b} h => ?_
      have h3 : a ≤ b := by simpa using h.1
      have h4 : a ≠ b := h.2
      omega
    · intro y
      rw [List.mem_mergeSort]
      exact HKS.out y
  · intro x c kl yD yP w4 cnt' hkey hlk hR hat hrg1 hlt hg1 hs1 hen
    obtain ⟨x', ex, rfl, _⟩ := Maps.keyOf_int_inv Tryz.underlying3 hkey
    cases ex
    have HK1 := H7 (HK.out.step hlk)
    have HO1 := H7 (HO.out.other hg1 (Nat.le_refl _) (by simp) (fun e => by have := HVR.out _ e; have := HNN.out; omega))
    have HRG1 := H7 hrg1
    have HLT := H7 hlt
    have HM0 := H7 hrg.left_eq
    clear hkey hlk hR hat hrg1 hlt hg1 hs1 HO HK HRG hrg
    go_wp2_with (at_builtin; refine wpList_app1g (enc := encI) (L := ks) rowI encI_len encI_one HO1.out (B7 _ _) x ks.length rfl HBL.out (by decide) _ _ rfl rfl rfl _ rfl rfl ?_; intro v' w5 ho5 hsh hg5; have HO5 := H7 ho5; have HG5 := H7 hg5; clear ho5 hsh hg5)
    have hrg5 := HRG1.out.kept HG5.out (by
     intro e
     have h1 := HVR.out _ e.symm
     have h2 := HRG1.out.ne
     have h3 := HNN.out
     have h4 := HM.out.lt
     omega) (by intro e; have := HVR.out _ e.symm; have := HNN.out; omega)
    have HRG5 := H7 hrg5
    clear hrg5 hen
    go_roundw
    case rel => exact ⟨ks ++ [x], _, cnt', HRG5.out, HO5.out, HK1.out, by have := HC.out; have := HLT.out; simp; omega⟩
    case measure => rw [HRG5.out.left_eq, HM0.out]; exact HLT.out
end Go.Proofs.YthcdkkmjnglmjaaGreatDoor
/- Layer 6, plain: a right row is determined by its places. -/
namespace Go.Proofs.YthcdkkmjnglmjaaGreatDoor
open Go.RowKit Go.Shelf
def ordP (a b : SpT) : Prop := a.y < b.y ∨ a.y = b.y ∧ a.t + 1 < b.f
structure RowP (l : List SpT) : Prop where
 sp : ∀ s ∈ l, s.f ≤ s.t
 ord : l.Pairwise ordP
theorem ordP_trans {a b c : SpT} (hb : b.f ≤ b.t) (h : ordP a b) (k : ordP b c) : ordP a c := by
 unfold ordP at *
 omega
theorem RightP.tail {s : SpT} {l : List SpT} (h : RightP (s :: l)) : RightP l :=
 ⟨fun k hk => by have := h.sp (k + 1) (by simp; omega); simpa using this, fun k hk => by have := h.ord (k + 1) (by simp; omega); simpa using this⟩
theorem spB_iff (s : SpT) : spB s = true ↔ (-256 ≤ s.y ∧ s.y ≤ 255) ∧ (-256 ≤ s.f ∧ s.f ≤ 255) ∧ (-256 ≤ s.t ∧ s.t ≤ 255) ∧ s.f ≤ s.t := by
 simp [spB, reachB]
theorem RightP.rowP : ∀ {l : List SpT}, RightP l → RowP l
 | [], _ => ⟨by simp, List.Pairwise.nil⟩
 | s :: l, h => by
  have hl := h.tail.rowP
  have hs := (spB_iff s).1 (by have := h.sp 0 (by simp); simpa using this)
  refine ⟨fun q hq => ?_, List.Pairwise.cons (fun q hq => ?_) hl.ord⟩
  · rcases List.mem_cons.1 hq with rfl | hq
    · omega
    · exact hl.sp q hq
  · cases l with
    | nil => cases hq
    | cons r l' =>
     have h1 : ordP s r := by
      have := h.ord 0 (by simp)
      simpa [ordB, ordP] using this
     rcases List.mem_cons.1 hq with rfl | hq
     · exact h1
     · exact ordP_trans (hl.sp r (by simp)) h1 ((List.pairwise_cons.1 hl.ord).1 q hq)
theorem hasB_iff (l : List SpT) (p : PtT) : hasB l p = true ↔ ∃ s ∈ l, s.y = p.y ∧ s.f ≤ p.x ∧ p.x ≤ s.t := by
 simp [hasB, List.any_eq_true, inB]
theorem rowP_unique : ∀ {l m : List SpT}, RowP l → RowP m → (∀ p, hasB l p = true ↔ hasB m p = true) → l = m
 | [], [], _, _, _ => rfl
 | [], r :: m, _, hm, h => by
  have h1 := hm.sp r (by simp)
  have := (h ⟨r.f, r.y⟩).2 ((hasB_iff _ _).2 ⟨r, by simp, rfl, Int.le_refl _, h1⟩)
  simp [hasB] at this
 | s :: l, [], hl, _, h => by
  have h1 := hl.sp s (by simp)
  have := (h ⟨s.f, s.y⟩).1 ((hasB_iff _ _).2 ⟨s, by simp, rfl, Int.le_refl _, h1⟩)
  simp [hasB] at this
 | s :: l, r :: m, hl, hm, h => by
  have s1 := hl.sp s (by simp)
  have r1 := hm.sp r (by simp)
  obtain ⟨so, lo⟩ := List.pairwise_cons.1 hl.ord
  obtain ⟨ro, mo⟩ := List.pairwise_cons.1 hm.ord
  have a1 := (hasB_iff _ _).1 ((h ⟨s.f, s.y⟩).1 ((hasB_iff _ _).2 ⟨s, by simp, rfl, Int.le_refl _, s1⟩))
  have a2 := (hasB_iff _ _).1 ((h ⟨r.f, r.y⟩).2 ((hasB_iff _ _).2 ⟨r, by simp, rfl, Int.le_refl _, r1⟩))
  have hge : ∀ q ∈ r :: m, r.y < q.y ∨ r.y = q.y ∧ r.f ≤ q.f := fun q hq => by
   rcases List.mem_cons.1 hq with rfl | hq
   · omega
   · have := ro q hq; unfold ordP at this; omega
  have hge' : ∀ q ∈ s :: l, s.y < q.y ∨ s.y = q.y ∧ s.f ≤ q.f := fun q hq => by
   rcases List.mem_cons.1 hq with rfl | hq
   · omega
   · have := so q hq; unfold ordP at this; omega
  obtain ⟨q, hq, q1, q2, q3⟩ := a1
  obtain ⟨q', hq', q1', q2', q3'⟩ := a2
  simp only at q1 q2 q3 q1' q2' q3'
  have b1 := hge q hq
  have b2 := hge' q' hq'
  have ey : s.y = r.y := by omega
  have ef : s.f = r.f := by omega
  have et1 : r.t ≤ s.t := by
   refine Int.not_lt.1 fun hlt => ?_
   obtain ⟨z, hz, z1, z2, z3⟩ := (hasB_iff _ _).1 ((h ⟨s.t + 1, s.y⟩).2 ((hasB_iff _ _).2 ⟨r, by simp, ey.symm, by simp only; omega, by simp only; omega⟩))
   simp only at z1 z2 z3
   rcases List.mem_cons.1 hz with rfl | hz
   · omega
   · have := so z hz; unfold ordP at this; omega
  have et2 : s.t ≤ r.t := by
   refine Int.not_lt.1 fun hlt => ?_
   obtain ⟨z, hz, z1, z2, z3⟩ := (hasB_iff _ _).1 ((h ⟨r.t + 1, r.y⟩).1 ((hasB_iff _ _).2 ⟨s, by simp, ey, by simp only; omega, by simp only; omega⟩))
   simp only at z1 z2 z3
   rcases List.mem_cons.1 hz with rfl | hz
   · omega
   · have := ro z hz; unfold ordP at this; omega
  have e : s = r := by
   cases s; cases r
   simp only at ey ef et1 et2
   rw [ey, ef, Int.le_antisymm et2 et1]
  subst e
  have := rowP_unique (l := l) (m := m) ⟨fun q hq => hl.sp q (by simp [hq]), lo⟩ ⟨fun q hq => hm.sp q (by simp [hq]), mo⟩ (fun p => by
   have key : ∀ {k : List SpT}, (∀ q ∈ k, ordP s q) → (hasB k p = true ↔ hasB (s :: k) p = true ∧ ¬ (s.y = p.y ∧ s.f ≤ p.x ∧ p.x ≤ s.t)) := by
    intro k hk
    rw [hasB_iff, hasB_iff]
    constructor
    · rintro ⟨q, hq, q1, q2, q3⟩
      refine ⟨⟨q, by simp [hq], q1, q2, q3⟩, fun hs => ?_⟩
      have := hk q hq; unfold ordP at this; omega
    · rintro ⟨⟨q, hq, q1, q2, q3⟩, hn⟩
      rcases List.mem_cons.1 hq with e | hq
      · rw [e] at q1 q2 q3
        exact absurd (And.intro q1 (And.intro q2 q3)) hn
      · exact ⟨q, hq, q1, q2, q3⟩
   rw [key so, key ro, h p])
  rw [this]
/- Layer 6, plain: the row of spans of a field of truths, place by place. -/
/-- L is the row of spans of the places of a box of which F holds. -/
structure RowOf (x1 y1 : Int) (n m : Nat) (F : Nat → Nat → Bool) (L : List SpT) : Prop where
 row : RowP L
 box : ∀ s ∈ L, y1 ≤ s.y ∧ s.y < y1 + n ∧ x1 ≤ s.f ∧ s.t < x1 + m
 has : ∀ p, hasB L p = true ↔ (y1 ≤ p.y ∧ p.y < y1 + n) ∧ (x1 ≤ p.x ∧ p.x < x1 + m) ∧ F (p.y - y1).toNat (p.x - x1).toNat = true
theorem RowOf.unique {x1 y1 : Int} {n m : Nat} {F : Nat → Nat → Bool} {L M : List SpT} (h : RowOf x1 y1 n m F L) (k : RowOf x1 y1 n m F M) : L = M :=
 rowP_unique h.row k.row fun p => (h.has p).trans (k.has p).symm
/-- So far: j rows, and i places. -/
structure RowTo (x1 y1 : Int) (m : Nat) (F : Nat → Nat → Bool) (L : List SpT) (j i : Nat) : Prop where
 row : RowP L
 box : ∀ s ∈ L, y1 ≤ s.y ∧ s.y ≤ y1 + j ∧ x1 ≤ s.f ∧ s.t < x1 + m ∧ (s.y = y1 + j → s.t < x1 + i)
 has : ∀ p, hasB L p = true ↔ (x1 ≤ p.x ∧ p.x < x1 + m) ∧ y1 ≤ p.y ∧ (p.y < y1 + j ∨ p.y = y1 + j ∧ p.x < x1 + i) ∧ F (p.y - y1).toNat (p.x - x1).toNat = true
/-- Is a span open? -/
def OpenTo (x1 y1 : Int) (L : List SpT) (j i : Nat) : Bool → Prop
 | true => ∃ L0 s, L = L0 ++ [s] ∧ s.y = y1 + (j : Int) ∧ s.t = x1 + (i : Int) - 1
 | false => ∀ s ∈ L, s.y = y1 + (j : Int) → s.t + 1 < x1 + (i : Int)
theorem rowP_nil : RowP [] := ⟨by simp, List.Pairwise.nil⟩
theorem hasB_app (L M : List SpT) (p : PtT) : hasB (L ++ M) p = (hasB L p || hasB M p) := by simp [hasB]
theorem hasB_one (s : SpT) (p : PtT) : hasB [s] p = inB p s := by simp [hasB]
variable {x1 y1 : Int} {m : Nat} {F : Nat → Nat → Bool} {L : List SpT} {j i : Nat}
theorem RowTo.skip (h : RowTo x1 y1 m F L j i) (hi : i < m) (hF : F j i = false) : RowTo x1 y1 m F L j (i + 1) ∧ OpenTo x1 y1 L j (i + 1) false := by
 refine ⟨⟨h.row, fun s hs => ?_, fun p => ?_⟩, fun s hs e => ?_⟩
 · obtain ⟨a, b, c, d, e⟩ := h.box s hs
   exact ⟨a, b, c, d, fun e' => by have := e e'; omega⟩
 · rw [h.has p]
   constructor
   · rintro ⟨a, b, c, d⟩
     exact ⟨a, b, by omega, d⟩
   · rintro ⟨a, b, c, d⟩
     refine ⟨a, b, ?_, d⟩
     rcases c with c | ⟨c1, c2⟩
     · exact .inl c
     · refine .inr ⟨c1, ?_⟩
       refine Int.not_le.1 fun hle => ?_
       rw [show (p.y - y1).toNat = j by omega, show (p.x - x1).toNat = i by omega, hF] at d
       cases d
 · have := (h.box s hs).2.2.2.2 e
   omega
theorem RowTo.open (h : RowTo x1 y1 m F L j i) (hi : i < m) (hF : F j i = true) {L0 : List SpT} {s : SpT} (hL : L = L0 ++ [s]) (hy : s.y = y1 + (j : Int)) (ht : s.t = x1 + (i : Int) - 1) :
 RowTo x1 y1 m F (L0 ++ [⟨s.y, s.f, x1 + (i : Int)⟩]) j (i + 1) ∧ OpenTo x1 y1 (L0 ++ [⟨s.y, s.f, x1 + (i : Int)⟩]) j (i + 1) true := by
 subst hL
 obtain ⟨h1, h2, h3⟩ := List.pairwise_append.1 h.row.ord
 have hs := h.row.sp s (by simp)
 obtain ⟨b1, b2, b3, b4, b5⟩ := h.box s (by simp)
 have hbefore : ∀ q ∈ L0, q.y < s.y ∨ q.y = s.y ∧ q.t + 1 < s.f := fun q hq => by
  have := h3 q hq s (by simp); unfold ordP at this; exact this
 refine ⟨⟨⟨fun q hq => ?_, ?_⟩, fun q hq => ?_, fun p => ?_⟩, _, _, rfl, hy, by simp; omega⟩
 · rcases List.mem_append.1 hq with hq | hq
   · exact h.row.sp q (by simp [hq])
   · simp at hq; subst hq; simp only; omega
 · refine List.pairwise_append.2 ⟨h1, List.pairwise_singleton _ _, fun q hq r hr => ?_⟩
   simp at hr; subst hr
   have := hbefore q hq
   unfold ordP; simp only; omega
 · rcases List.mem_append.1 hq with hq | hq
   · obtain ⟨a, b, c, d, e⟩ := h.box q (by simp [hq])
     exact ⟨a, b, c, d, fun e' => by have := e e'; omega⟩
   · simp at hq; subst hq
     simp only
     exact ⟨b1, b2, b3, by omega, fun _ => by omega⟩
 · have hp := h.has p
   rw [hasB_app, hasB_one, Bool.or_eq_true] at hp ⊢
   simp only [inB, decide_eq_true_eq] at hp ⊢
   constructor
   · rintro (a | ⟨a1, a2, a3⟩)
     · obtain ⟨c1, c2, c3, c4⟩ := hp.1 (.inl a)
       exact ⟨c1, c2, by omega, c4⟩
     · by_cases e : p.x ≤ s.t
       · obtain ⟨c1, c2, c3, c4⟩ := hp.1 (.inr ⟨a1, a2, e⟩)
         exact ⟨c1, c2, by omega, c4⟩
       · refine ⟨by omega, by omega, by omega, ?_⟩
         rw [show (p.y - y1).toNat = j by omega, show (p.x - x1).toNat = i by omega]
         exact hF
   · rintro ⟨c1, c2, c3, c4⟩
     by_cases e : p.y = y1 + (j : Int) ∧ p.x = x1 + (i : Int)
     · right; omega
     · rcases hp.2 ⟨c1, c2, by omega, c4⟩ with a | a
       · exact .inl a
       · right; omega
theorem RowTo.new (h : RowTo x1 y1 m F L j i) (hi : i < m) (hF : F j i = true) (ho : OpenTo x1 y1 L j i false) :
 RowTo x1 y1 m F (L ++ [⟨y1 + (j : Int), x1 + (i : Int), x1 + (i : Int)⟩]) j (i + 1) ∧ OpenTo x1 y1 (L ++ [⟨y1 + (j : Int), x1 + (i : Int), x1 + (i : Int)⟩]) j (i + 1) true := by
 refine ⟨⟨⟨fun q hq => ?_, ?_⟩, fun q hq => ?_, fun p => ?_⟩, _, _, rfl, rfl, by simp; omega⟩
 · rcases List.mem_append.1 hq with hq | hq
   · exact h.row.sp q hq
   · simp at hq; subst hq; simp
 · refine List.pairwise_append.2 ⟨h.row.ord, List.pairwise_singleton _ _, fun q hq r hr => ?_⟩
   simp at hr; subst hr
   have h1 := h.box q hq
   have h2 := ho q hq
   unfold ordP; simp only; omega
 · rcases List.mem_append.1 hq with hq | hq
   · obtain ⟨a, b, c, d, e⟩ := h.box q hq
     exact ⟨a, b, c, d, fun e' => by have := e e'; omega⟩
   · simp at hq; subst hq
     simp only
     exact ⟨by omega, by omega, by omega, by omega, fun _ => by omega⟩
 · have hp := h.has p
   rw [hasB_app, hasB_one, Bool.or_eq_true, hp]
   simp only [inB, decide_eq_true_eq]
   constructor
   · rintro (⟨c1, c2, c3, c4⟩ | ⟨a1, a2, a3⟩)
     · exact ⟨c1, c2, by omega, c4⟩
     · refine ⟨by omega, by omega, by omega, ?_⟩
       rw [show (p.y - y1).toNat = j by omega, show (p.x - x1).toNat = i by omega]
       exact hF
   · rintro ⟨c1, c2, c3, c4⟩
     by_cases e : p.y = y1 + (j : Int) ∧ p.x = x1 + (i : Int)
     · right; omega
     · left; exact ⟨c1, c2, by omega, c4⟩
theorem RowTo.down (h : RowTo x1 y1 m F L j m) : RowTo x1 y1 m F L (j + 1) 0 ∧ OpenTo x1 y1 L (j + 1) 0 false := by
 refine ⟨⟨h.row, fun s hs => ?_, fun p => ?_⟩, fun s hs e => ?_⟩
 · obtain ⟨a, b, c, d, e⟩ := h.box s hs
   exact ⟨a, by omega, c, d, fun e' => by omega⟩
 · rw [h.has p]
   constructor
   · rintro ⟨a, b, c, d⟩
     exact ⟨a, b, by omega, d⟩
   · rintro ⟨a, b, c, d⟩
     exact ⟨a, b, by omega, d⟩
 · have := (h.box s hs).2.1
   omega
/- Fields of truths: rows of rows. -/
def upd2 (F : Nat → Nat → Bool) (j i : Nat) (u : Bool) : Nat → Nat → Bool := fun a b => if a = j ∧ b = i then u else F a b
/- Layer 6: the document's Row. -/
/-- A field that is read. -/
def FldR (w : World) (g n m : Nat) (F : Nat → Nat → Bool) : Prop := g < w.heap.size ∧ ∀ j, j < n → ∃ b, b < w.heap.size ∧ w.cell? ⟨g, j, none⟩ = some (.slice (some ⟨b, 0, none⟩) m m) ∧ ∀ i, i < m → w.cell? ⟨b, i, none⟩ = some (.bool (F j i))
theorem FldR.below {w w' : World} {g n m : Nat} {F : Nat → Nat → Bool} (h : FldR w g n m F) (hb : Below w.heap.size w w') : FldR w' g n m F := by
 refine ⟨Nat.lt_of_lt_of_le h.1 hb.size, fun j hj => ?_⟩
 obtain ⟨b, h1, h2, h3⟩ := h.2 j hj
 exact ⟨b, Nat.lt_of_lt_of_le h1 hb.size, (hb.cell (p := ⟨g, j, none⟩) h.1).trans h2, fun i hi => (hb.cell (p := ⟨b, i, none⟩) h1).trans (h3 i hi)⟩
/- Layer 6: the document's Rect. -/
/-- L is THE row of spans of the places of which P holds. -/
structure SetRow (P : PtT → Prop) (L : List SpT) : Prop where
 row : RowP L
 has : ∀ p, hasB L p = true ↔ P p
theorem SetRow.unique {P : PtT → Prop} {L M : List SpT} (h : SetRow P L) (k : SetRow P M) : L = M := rowP_unique h.row k.row fun p => (h.has p).trans (k.has p).symm
theorem SetRow.congr {P Q : PtT → Prop} {L : List SpT} (h : SetRow P L) (e : ∀ p, P p ↔ Q p) : SetRow Q L := ⟨h.row, fun p => (h.has p).trans (e p)⟩
theorem RowOf.setRow {x1 y1 : Int} {n m : Nat} {F : Nat → Nat → Bool} {L : List SpT} {P : PtT → Prop} (h : RowOf x1 y1 n m F L) (hin : ∀ p, P p → (y1 ≤ p.y ∧ p.y < y1 + n) ∧ (x1 ≤ p.x ∧ p.x < x1 + m)) (hF : ∀ r c : Nat, F r c = true ↔ P ⟨x1 + c, y1 + r⟩) : SetRow P L := by
 refine ⟨h.row, fun p => (h.has p).trans ?_⟩
 have key : ∀ p : PtT, (y1 ≤ p.y ∧ x1 ≤ p.x) → (F (p.y - y1).toNat (p.x - x1).toNat = true ↔ P p) := fun p hp => by
  rw [hF]
  have e1 : x1 + ((p.x - x1).toNat : Int) = p.x := by omega
  have e2 : y1 + ((p.y - y1).toNat : Int) = p.y := by omega
  rw [e1, e2]
 constructor
 · rintro ⟨a, b, c⟩; exact (key p ⟨a.1, b.1⟩).1 c
 · intro hp; obtain ⟨a, b⟩ := hin p hp; exact ⟨a, b, (key p ⟨a.1, b.1⟩).2 hp⟩
theorem upd2_true {F : Nat → Nat → Bool} {j i a b : Nat} : upd2 F j i true a b = true ↔ (a = j ∧ b = i) ∨ F a b = true := by
 unfold upd2
 by_cases h : a = j ∧ b = i
 · simp [h]
 · rw [if_neg h]; simp [h]
/-- The places of a rectangle. -/
def RectP (a b p : PtT) : Prop := (min a.x b.x ≤ p.x ∧ p.x ≤ max a.x b.x) ∧ (min a.y b.y ≤ p.y ∧ p.y ≤ max a.y b.y)
/-- a number on the way from a to b -/
theorem way_at {a b : Int} {j : Nat} (hj : (j : Int) ≤ wayN a b) : min a b ≤ a + sideN a b * (j : Int) ∧ a + sideN a b * (j : Int) ≤ max a b ∧ sideN a b * (j : Int) = a + sideN a b * (j : Int) - a ∧ -(j : Int) ≤ sideN a b * (j : Int) ∧ sideN a b * (j : Int) ≤ (j : Int) := by
 unfold wayN at hj
 unfold sideN
 by_cases h : b < a
 · rw [if_pos h] at hj ⊢; omega
 · rw [if_neg h] at hj ⊢; omega
theorem way_back {a b c : Int} (h1 : min a b ≤ c) (h2 : c ≤ max a b) : ∃ j : Nat, (j : Int) ≤ wayN a b ∧ c = a + sideN a b * (j : Int) := by
 unfold wayN sideN
 by_cases h : b < a
 · rw [if_pos h, if_pos h]; exact ⟨(a - c).toNat, by omega, by omega⟩
 · rw [if_neg h, if_neg h]; exact ⟨(c - a).toNat, by omega, by omega⟩
/-- So far: J whole rows, and I places of the next. -/
def RectF (a b : PtT) (J I : Nat) (F : Nat → Nat → Bool) : Prop := ∀ r c : Nat, F r c = true ↔ ∃ j i : Nat, (j < J ∨ j = J ∧ i < I) ∧ (i : Int) ≤ wayN a.x b.x ∧ -79 + (r : Int) = a.y + sideN a.y b.y * (j : Int) ∧ -79 + (c : Int) = a.x + sideN a.x b.x * (i : Int)
theorem RectF.step {a b : PtT} {J I R C : Nat} {F : Nat → Nat → Bool} (h : RectF a b J I F) (hI : (I : Int) ≤ wayN a.x b.x) (hR : -79 + (R : Int) = a.y + sideN a.y b.y * (J : Int)) (hC : -79 + (C : Int) = a.x + sideN a.x b.x * (I : Int)) : RectF a b J (I + 1) (upd2 F R C true) := by
 intro r c
 rw [upd2_true, h r c]
 constructor
 · rintro (⟨rfl, rfl⟩ | ⟨j, i, h1, h2, h3, h4⟩)
   · exact ⟨J, I, .inr ⟨rfl, by omega⟩, hI, hR, hC⟩
   · exact ⟨j, i, by omega, h2, h3, h4⟩
 · rintro ⟨j, i, h1, h2, h3, h4⟩
   by_cases e : j = J ∧ i = I
   · obtain ⟨rfl, rfl⟩ := e
     left; omega
   · right; exact ⟨j, i, by omega, h2, h3, h4⟩
theorem RectF.down {a b : PtT} {J I : Nat} {F : Nat → Nat → Bool} (h : RectF a b J I F) (hI : (I : Int) = wayN a.x b.x + 1) : RectF a b (J + 1) 0 F := by
 intro r c
 rw [h r c]
 constructor
 · rintro ⟨j, i, h1, h2, h3, h4⟩; exact ⟨j, i, by omega, h2, h3, h4⟩
 · rintro ⟨j, i, h1, h2, h3, h4⟩; exact ⟨j, i, by omega, h2, h3, h4⟩
theorem RectF.all {a b : PtT} {J : Nat} {F : Nat → Nat → Bool} (h : RectF a b J 0 F) (hJ : (J : Int) = wayN a.y b.y + 1) (r c : Nat) : F r c = true ↔ RectP a b ⟨-79 + (c : Int), -79 + (r : Int)⟩ := by
 rw [h r c]
 unfold RectP
 constructor
 · rintro ⟨j, i, h1, h2, h3, h4⟩
   simp only
   rw [h3, h4]
   have a1 := way_at h2
   have a2 := way_at (a := a.y) (b := b.y) (j := j) (by omega)
   exact ⟨⟨a1.1, a1.2.1⟩, a2.1, a2.2.1⟩
 · rintro ⟨⟨h1, h2⟩, h3, h4⟩
   obtain ⟨i, i1, i2⟩ := way_back h1 h2
   obtain ⟨j, j1, j2⟩ := way_back h3 h4
   exact ⟨j, i, by omega, i1, j2, i2⟩
theorem drawn_iff (p : PtT) : drawnB p = true ↔ (-64 ≤ p.x ∧ p.x ≤ 127) ∧ (-64 ≤ p.y ∧ p.y ≤ 127) := by simp [drawnB]; omega
/- Layer 6, plain: rows that are merged. -/
theorem GrOf_mem {L : List SpT} {y : Int} {s : SpT} : s ∈ GrOf L y ↔ s ∈ L ∧ s.y = y := by simp [GrOf]
theorem hasB_GrOf (L : List SpT) (p : PtT) : hasB (GrOf L p.y) p = hasB L p := by
 rw [Bool.eq_iff_iff, hasB_iff, hasB_iff]
 constructor
 · rintro ⟨s, hs, h⟩; exact ⟨s, (GrOf_mem.1 hs).1, h⟩
 · rintro ⟨s, hs, h⟩; exact ⟨s, GrOf_mem.2 ⟨hs, h.1⟩, h⟩
theorem hasB_perm {l m : List SpT} (h : l.Perm m) (p : PtT) : hasB l p = hasB m p := by
 rw [Bool.eq_iff_iff, hasB_iff, hasB_iff]
 exact ⟨fun ⟨s, hs, k⟩ => ⟨s, h.mem_iff.1 hs, k⟩, fun ⟨s, hs, k⟩ => ⟨s, h.mem_iff.2 hs, k⟩⟩
theorem sum_add {ks : List Int} {f g : Int → Nat} : (ks.map fun y => f y + g y).sum = (ks.map f).sum + (ks.map g).sum := by
 induction ks with
 | nil => rfl
 | cons a l ih => simp only [List.map_cons, List.sum_cons, ih]; omega
theorem sum_one {ks : List Int} (h : ks.Nodup) (c : Int) : (ks.map fun y => if y = c then 1 else 0).sum ≤ 1 := by
 induction ks with
 | nil => simp
 | cons a l ih =>
  obtain ⟨h1, h2⟩ := List.nodup_cons.1 h
  simp only [List.map_cons, List.sum_cons]
  by_cases e : a = c
  · subst e
    have : (l.map fun y => if y = a then 1 else 0).sum = 0 := by
     clear ih h2 h
     induction l with
     | nil => rfl
     | cons b l ih =>
      have hb : ¬ b = a := fun e => h1 (by simp [e])
      simp only [List.map_cons, List.sum_cons, if_neg hb, Nat.zero_add]
      exact ih (fun hm => h1 (List.mem_cons_of_mem _ hm))
    simp [this]
  · simp [e]; exact ih h2
theorem GrOf_sum {ks : List Int} (h : ks.Nodup) : ∀ L : List SpT, (ks.map fun y => (GrOf L y).length).sum ≤ L.length
 | [] => by
  have : ∀ l : List Int, (l.map fun y => (GrOf [] y).length).sum = 0 := fun l => by
   induction l with
   | nil => rfl
   | cons a l ih => simp only [List.map_cons, List.sum_cons, ih]; rfl
  rw [this]; exact Nat.zero_le _
 | s :: L => by
  have e : (fun y => (GrOf (s :: L) y).length) = fun y => (GrOf L y).length + (if y = s.y then 1 else 0) := by
   funext y
   unfold GrOf
   by_cases h : y = s.y
   · subst h; simp
   · have : ¬ s.y = y := fun e => h e.symm
     simp [h, this]
  rw [e, sum_add]
  have h1 := GrOf_sum h L
  have h2 := sum_one h s.y
  simp only [List.length_cons]
  omega
/-- R is the row of the spans 'done', all of one Y. -/
structure MgTo (y : Int) (dn R : List SpT) : Prop where
 row : RowP R
 y_ : ∀ r ∈ R, r.y = y
 f_ : ∀ r ∈ R, ∃ q ∈ dn, q.f = r.f
 t_ : ∀ r ∈ R, ∃ q ∈ dn, q.t = r.t
 has : ∀ p, hasB R p = true ↔ hasB dn p = true
 len : R.length ≤ dn.length
theorem mgTo_start (y : Int) : MgTo y [] [] := ⟨rowP_nil, by simp, by simp, by simp, fun p => Iff.rfl, by simp⟩
theorem MgTo.merge {y : Int} {dn R0 : List SpT} {r s : SpT} (h : MgTo y dn (R0 ++ [r])) (hy : s.y = y) (hft : s.f ≤ s.t) (hge : ∀ q ∈ dn, q.f ≤ s.f) (hle : s.f ≤ r.t + 1) : MgTo y (dn ++ [s]) (R0 ++ [⟨r.y, r.f, max r.t s.t⟩]) := by
 obtain ⟨h1, h2, h3⟩ := List.pairwise_append.1 h.row.ord
 have hr := h.row.sp r (by simp)
 have hry := h.y_ r (by simp)
 obtain ⟨q0, hq0, hqf⟩ := h.f_ r (by simp)
 have hrf : r.f ≤ s.f := by rw [← hqf]; exact hge q0 hq0
 refine ⟨⟨fun q hq => ?_, List.pairwise_append.2 ⟨h1, List.pairwise_singleton _ _, fun q hq x hx => ?_⟩⟩, fun q hq => ?_, fun q hq => ?_, fun q hq => ?_, fun p => ?_, ?_⟩
 · rcases List.mem_append.1 hq with hq | hq
   · exact h.row.sp q (by simp [hq])
   · simp at hq; subst hq; simp only; omega
 · simp at hx; subst hx
   have := h3 q hq r (by simp)
   unfold ordP at this ⊢
   simp only
   omega
 · rcases List.mem_append.1 hq with hq | hq
   · exact h.y_ q (by simp [hq])
   · simp at hq; subst hq; exact hry
 · rcases List.mem_append.1 hq with hq | hq
   · obtain ⟨a, b, c⟩ := h.f_ q (by simp [hq]); exact ⟨a, by simp [b], c⟩
   · simp at hq; subst hq; exact ⟨q0, by simp [hq0], hqf⟩
 · rcases List.mem_append.1 hq with hq | hq
   · obtain ⟨a, b, c⟩ := h.t_ q (by simp [hq]); exact ⟨a, by simp [b], c⟩
   · simp at hq; subst hq
     rcases Int.le_total r.t s.t with h' | h'
     · exact ⟨s, by simp, by simp only; omega⟩
     · obtain ⟨a, b, c⟩ := h.t_ r (by simp); exact ⟨a, by simp [b], by simp only; omega⟩
 · have := h.has p
   rw [hasB_app, hasB_one, Bool.or_eq_true] at this
   rw [hasB_app, hasB_one, hasB_app, hasB_one, Bool.or_eq_true, Bool.or_eq_true, ← this]
   simp only [inB, decide_eq_true_eq]
   constructor
   · rintro (a | ⟨a, b, c⟩)
     · exact .inl (.inl a)
     · by_cases e : p.x ≤ r.t
       · exact .inl (.inr ⟨a, b, e⟩)
       · right; omega
   · rintro ((a | ⟨a, b, c⟩) | ⟨a, b, c⟩)
     · exact .inl a
     · right; omega
     · right; omega
 · have := h.len; simp at this ⊢; omega
theorem MgTo.new {y : Int} {dn R : List SpT} {s : SpT} (h : MgTo y dn R) (hy : s.y = y) (hft : s.f ≤ s.t) (hgt : ∀ R0 r, R = R0 ++ [r] → r.t + 1 < s.f) : MgTo y (dn ++ [s]) (R ++ [s]) := by
 have hall : ∀ q ∈ R, q.t + 1 < s.f := by
  intro q hq
  rcases List.eq_nil_or_concat R with e | ⟨R0, r, e⟩
  · rw [e] at hq; cases hq
  · have e' : R = R0 ++ [r] := by rw [e, List.concat_eq_append]
    have h1 := hgt R0 r e'
    rw [e'] at hq
    rcases List.mem_append.1 hq with hq | hq
    · have ho := h.row.ord
      rw [e'] at ho
      have h2 := (List.pairwise_append.1 ho).2.2 q hq r (by simp)
      have h3 := h.y_ q (by rw [e']; simp [hq])
      have h4 := h.y_ r (by rw [e']; simp)
      have h5 := h.row.sp r (by rw [e']; simp)
      unfold ordP at h2
      omega
    · simp at hq; subst hq; exact h1
 refine ⟨⟨fun q hq => ?_, List.pairwise_append.2 ⟨h.row.ord, List.pairwise_singleton _ _, fun q hq x hx => ?_⟩⟩, fun q hq => ?_, fun q hq => ?_, fun q hq => ?_, fun p => ?_, ?_⟩
 · rcases List.mem_append.1 hq with hq | hq
   · exact h.row.sp q hq
   · simp at hq; subst hq; exact hft
 · simp at hx; subst hx
   have h1 := hall q hq
   have h2 := h.y_ q hq
   unfold ordP; omega
 · rcases List.mem_append.1 hq with hq | hq
   · exact h.y_ q hq
   · simp at hq; subst hq; exact hy
 · rcases List.mem_append.1 hq with hq | hq
   · obtain ⟨a, b, c⟩ := h.f_ q hq; exact ⟨a, by simp [b], c⟩
   · simp at hq; subst hq; exact ⟨q, by simp, rfl⟩
 · rcases List.mem_append.1 hq with hq | hq
   · obtain ⟨a, b, c⟩ := h.t_ q hq; exact ⟨a, by simp [b], c⟩
   · simp at hq; subst hq; exact ⟨q, by simp, rfl⟩
 · rw [hasB_app, hasB_app, Bool.or_eq_true, Bool.or_eq_true, h.has p]
 · have := h.len; simp; omega
/-- M is the row of the spans of L of the first k Y. -/
structure RowK (L : List SpT) (ks : List Int) (k : Nat) (M : List SpT) : Prop where
 row : RowP M
 y_ : ∀ r ∈ M, r.y ∈ ks.take k
 has : ∀ p, hasB M p = true ↔ p.y ∈ ks.take k ∧ hasB L p = true
 t_ : ∀ r ∈ M, ∃ q ∈ L, q.t = r.t
 len : M.length ≤ ((ks.take k).map fun y => (GrOf L y).length).sum
theorem rowK_start (L : List SpT) (ks : List Int) : RowK L ks 0 [] := ⟨rowP_nil, by simp, fun p => by simp [hasB], by simp, by simp⟩
theorem RowK.step {L : List SpT} {ks : List Int} {k : Nat} {M R s : List SpT} {y : Int} (h : RowK L ks k M) (hks : ks.Pairwise (fun x y => x < y)) (hy : ks[k]? = some y) (hp : s.Perm (GrOf L y)) (hm : MgTo y s R) : RowK L ks (k + 1) (M ++ R) := by
 have ht : ks.take (k + 1) = ks.take k ++ [y] := by rw [List.take_add_one, hy]; simp
 have hlt : ∀ z ∈ ks.take k, z < y := by
  intro z hz
  have hks' := hks
  rw [← List.take_append_drop (k + 1) ks, ht] at hks'
  exact (List.pairwise_append.1 (List.pairwise_append.1 hks').1).2.2 z hz y (by simp)
 refine ⟨⟨fun q hq => ?_, List.pairwise_append.2 ⟨h.row.ord, hm.row.ord, fun q hq x hx => ?_⟩⟩, fun q hq => ?_, fun p => ?_, fun q hq => ?_, ?_⟩
 · rcases List.mem_append.1 hq with hq | hq
   · exact h.row.sp q hq
   · exact hm.row.sp q hq
 · have h1 := hlt _ (h.y_ q hq)
   have h2 := hm.y_ x hx
   unfold ordP; omega
 · rw [ht]
   rcases List.mem_append.1 hq with hq | hq
   · simp [h.y_ q hq]
   · simp [hm.y_ q hq]
 · rw [hasB_app, Bool.or_eq_true, h.has p, hm.has p, hasB_perm hp, ht]
   simp only [List.mem_append, List.mem_singleton]
   constructor
   · rintro (⟨a, b⟩ | a)
     · exact ⟨.inl a, b⟩
     · obtain ⟨q, hq, k1, k2, k3⟩ := (hasB_iff _ _).1 a
       have := GrOf_mem.1 hq
       have e : p.y = y := by omega
       refine ⟨.inr e, ?_⟩
       rw [← hasB_GrOf, e]; exact a
   · rintro ⟨a | a, b⟩
     · exact .inl ⟨a, b⟩
     · right; rw [← a, hasB_GrOf]; exact b
 · rcases List.mem_append.1 hq with hq | hq
   · exact h.t_ q hq
   · obtain ⟨a, b, c⟩ := hm.t_ q hq
     exact ⟨a, (GrOf_mem.1 (hp.mem_iff.1 b)).1, c⟩
 · have h1 := h.len
   have h2 := hm.len
   have h3 := hp.length_eq
   rw [ht, List.map_append, List.sum_append, List.length_append]
   simp only [List.map_cons, List.map_nil, List.sum_cons, List.sum_nil]
   omega
theorem RowK.setRow {L : List SpT} {ks : List Int} {M : List SpT} (h : RowK L ks ks.length M) (hk : ∀ s ∈ L, s.y ∈ ks) : SetRow (fun p => hasB L p = true) M := by
 refine ⟨h.row, fun p => (h.has p).trans ?_⟩
 rw [List.take_length]
 refine ⟨fun ⟨_, b⟩ => b, fun b => ⟨?_, b⟩⟩
 obtain ⟨s, hs, h1, _⟩ := (hasB_iff _ _).1 b
 rw [← h1]; exact hk s hs
/- Layer 6: the document's Union, Sweep. -/
/-- A slice of rows of spans. -/
def RowsR (w : World) (a : Option Addr) (ls : List (List SpT)) : Prop := ∀ k l, ls[k]? = some l → ∃ b off a' cap', a = some ⟨b, off, none⟩ ∧ b < w.heap.size ∧ w.cell? ⟨b, off + k, none⟩ = some (.slice a' l.length cap') ∧ Elems w (.slice a' l.length cap') l.length 3 (rowC encS l)
theorem RowsR.below {w w' : World} {a : Option Addr} {ls : List (List SpT)} (h : RowsR w a ls) (hb : Below w.heap.size w w') : RowsR w' a ls := fun k l hk => by
 obtain ⟨b, off, a', cap', h1, h2, h3, h4⟩ := h k l hk
 exact ⟨b, off, a', cap', h1, Nat.lt_of_lt_of_le h2 hb.size, (hb.cell (p := ⟨b, off + k, none⟩) h2).trans h3, h4.below hb⟩
/-- The field of the places of a row. -/
def UnF (M : List SpT) (F : Nat → Nat → Bool) : Prop := ∀ r c : Nat, F r c = true ↔ hasB M ⟨-256 + (c : Int), -256 + (r : Int)⟩ = true
theorem UnF.step {M : List SpT} {F : Nat → Nat → Bool} {y f x : Int} {R C : Nat} (h : UnF (M ++ [⟨y, f, x - 1⟩]) F) (hf : f ≤ x) (hR : -256 + (R : Int) = y) (hC : -256 + (C : Int) = x) : UnF (M ++ [⟨y, f, x⟩]) (upd2 F R C true) := fun r c => by
 have := h r c
 rw [hasB_app, hasB_one, Bool.or_eq_true] at this
 rw [upd2_true, this, hasB_app, hasB_one, Bool.or_eq_true]
 simp only [inB, decide_eq_true_eq]
 constructor
 · rintro (⟨rfl, rfl⟩ | h | ⟨h1, h2, h3⟩)
   · right; omega
   · exact .inl h
   · right; omega
 · rintro (h | ⟨h1, h2, h3⟩)
   · exact .inr (.inl h)
   · by_cases e : -256 + (c : Int) = x
     · left; omega
     · right; right; omega
theorem UnF.same {M : List SpT} {F : Nat → Nat → Bool} {s : SpT} {t : Int} (h : UnF (M ++ [⟨s.y, s.f, t⟩]) F) (ht : t = s.t) : UnF (M ++ [s]) F := by subst ht; exact h
theorem take_flat {ls : List (List SpT)} {k : Nat} {l : List SpT} (h : ls[k]? = some l) : (ls.take (k + 1)).flatten = (ls.take k).flatten ++ l := by rw [List.take_add_one, h]; simp
theorem take_snoc {l : List SpT} {q : Nat} {s : SpT} (h : l[q]? = some s) : l.take (q + 1) = l.take q ++ [s] := by rw [List.take_add_one, h]; simp
/- Layer 6: the document's Sweep. -/
theorem le_of_sq {x s : Int} (hs : 0 ≤ s) (h : x * x ≤ s * s) : x ≤ s := by
 refine Int.not_lt.1 fun hlt => ?_
 have h1 : s * s < x * x := Int.lt_of_lt_of_le (Int.mul_lt_mul_of_pos_left hlt (show 0 < s + 1 by omega) |> fun h => (by
  have h2 : (s + 1) * (s + 1) ≤ x * x := Int.mul_le_mul (by omega) (by omega) (by omega) (by omega)
  have h3 : s * s < (s + 1) * (s + 1) := by
   have : (s + 1) * (s + 1) = s * s + 2 * s + 1 := by rw [Int.add_mul, Int.mul_add]; omega
   omega
  exact Int.lt_of_lt_of_le h3 h2)) (Int.le_refl _)
 omega
theorem inRef_in {size : Int} {round : Bool} {c p : PtT} (hs : 0 ≤ size) (h : inRef size round c p = true) : (c.x - size ≤ p.x ∧ p.x ≤ c.x + size) ∧ (c.y - size ≤ p.y ∧ p.y ≤ c.y + size) := by
 have key : wayN c.x p.x ≤ size ∧ wayN c.y p.y ≤ size := by
  unfold inRef at h
  cases round
  · simpa using h
  · simp only [cond_true, decide_eq_true_eq] at h
    have h1 := Int.mul_nonneg (wayN_nonneg c.x p.x) (wayN_nonneg c.x p.x)
    have h2 := Int.mul_nonneg (wayN_nonneg c.y p.y) (wayN_nonneg c.y p.y)
    exact ⟨le_of_sq hs (by omega), le_of_sq hs (by omega)⟩
 unfold wayN at key
 split at key <;> split at key <;> omega
/-- The field of the places of which Q holds. -/
def SwF (Q : PtT → Prop) (F : Nat → Nat → Bool) : Prop := ∀ r c : Nat, F r c = true ↔ Q ⟨-79 + (c : Int), -79 + (r : Int)⟩
theorem SwF.congr {Q Q' : PtT → Prop} {F : Nat → Nat → Bool} (h : SwF Q F) (e : ∀ p, Q p ↔ Q' p) : SwF Q' F := fun r c => (h r c).trans (e _)
/-- What the places M sweep, and the place c so far. -/
def SwQ (size : Int) (round : Bool) (M : List PtT) (c : PtT) (y x : Int) (p : PtT) : Prop := (∃ c' ∈ M, inRef size round c' p = true) ∨ (inRef size round c p = true ∧ (p.y < y ∨ p.y = y ∧ p.x < x))
def SwM (size : Int) (round : Bool) (M : List PtT) (p : PtT) : Prop := ∃ c' ∈ M, inRef size round c' p = true
section
variable {size : Int} {round : Bool} {M : List PtT} {c : PtT} {y x : Int} {F : Nat → Nat → Bool}
theorem SwF.step (h : SwF (SwQ size round M c y x) F) {R C : Nat} (hR : -79 + (R : Int) = y) (hC : -79 + (C : Int) = x) (hi : inRef size round c ⟨x, y⟩ = true) : SwF (SwQ size round M c y (x + 1)) (upd2 F R C true) := fun r k => by
 rw [upd2_true, h r k]
 unfold SwQ
 simp only
 constructor
 · rintro (⟨rfl, rfl⟩ | h | ⟨h1, h2⟩)
   · right; rw [hR, hC]; exact ⟨hi, by omega⟩
   · exact .inl h
   · exact .inr ⟨h1, by omega⟩
 · rintro (h | ⟨h1, h2⟩)
   · exact .inr (.inl h)
   · by_cases e : -79 + (r : Int) = y ∧ -79 + (k : Int) = x
     · left; omega
     · right; right; exact ⟨h1, by omega⟩
theorem SwF.skip (h : SwF (SwQ size round M c y x) F) (hi : inRef size round c ⟨x, y⟩ = false) : SwF (SwQ size round M c y (x + 1)) F := h.congr fun p => by
 unfold SwQ
 constructor
 · rintro (h | ⟨h1, h2⟩)
   · exact .inl h
   · exact .inr ⟨h1, by omega⟩
 · rintro (h | ⟨h1, h2⟩)
   · exact .inl h
   · refine .inr ⟨h1, ?_⟩
     by_cases e : p.y = y ∧ p.x = x
     · obtain ⟨px, py⟩ := p
       simp only at e
       rw [e.1, e.2, hi] at h1
       cases h1
     · omega
theorem SwF.down (h : SwF (SwQ size round M c y (c.x + size + 1)) F) (hs : 0 ≤ size) : SwF (SwQ size round M c (y + 1) (c.x - size)) F := h.congr fun p => by
 unfold SwQ
 constructor
 · rintro (h | ⟨h1, h2⟩)
   · exact .inl h
   · exact .inr ⟨h1, by omega⟩
 · rintro (h | ⟨h1, h2⟩)
   · exact .inl h
   · have := inRef_in hs h1; exact .inr ⟨h1, by omega⟩
theorem SwF.done {q : Int} (h : SwF (SwQ size round M c (c.y + size + 1) q) F) (hs : 0 ≤ size) : SwF (SwM size round (M ++ [c])) F := h.congr fun p => by
 unfold SwM SwQ
 constructor
 · rintro (⟨c', h1, h2⟩ | ⟨h1, h2⟩)
   · exact ⟨c', by simp [h1], h2⟩
   · exact ⟨c, by simp, h1⟩
 · rintro ⟨c', h1, h2⟩
   rcases List.mem_append.1 h1 with h1 | h1
   · exact .inl ⟨c', h1, h2⟩
   · simp at h1; subst h1
     have := inRef_in hs h2
     exact .inr ⟨h2, by omega⟩
end
theorem take_snocP {l : List PtT} {q : Nat} {s : PtT} (h : l[q]? = some s) : l.take (q + 1) = l.take q ++ [s] := by rw [List.take_add_one, h]; simp
end Go.Proofs.YthcdkkmjnglmjaaGreatDoor
/- cmp.Compare at ints. -/
namespace Go.Proofs.YthcdkkmjnglmjaaGreatDoor
open Go.RowKit Go.Shelf
theorem isNaN_int (x : Int) (w : World) : Calls Tryz.prog 115 #[.int .i64 x] w fun e w' => e = .returned (.bool false) ∧ w = w' := by
 go_enter Tryz.func115, Tryz.ntmps115
 go_wp2
 go_ret
 exact ⟨rfl, rfl⟩
theorem cmp_int (x y : Int) (w : World) : Calls Tryz.prog 98 #[.int .i64 x, .int .i64 y] w fun e w' => e = .returned (.int .i64 (Lib.compareInt x y)) ∧ w = w' := by
 unfold Lib.compareInt
 by_cases h1 : x < y
 · go_enter Tryz.func98, Tryz.ntmps98
   go_wp2_with (go_at_call 115; refine (isNaN_int _ _).mono ?_; rintro e w' ⟨rfl, rfl⟩)
   go_ret
   exact ⟨ret_int (by simp [h1]), rfl⟩
 · by_cases h2 : y < x
   · go_enter Tryz.func98, Tryz.ntmps98
     go_wp2_with (go_at_call 115; refine (isNaN_int _ _).mono ?_; rintro e w' ⟨rfl, rfl⟩)
     go_ret
     exact ⟨rfl, rfl⟩
   · go_enter Tryz.func98, Tryz.ntmps98
     go_wp2_with (go_at_call 115; refine (isNaN_int _ _).mono ?_; rintro e w' ⟨rfl, rfl⟩)
     go_ret
     exact ⟨rfl, rfl⟩
theorem cmp_lt (x y : Int) : decide (Lib.compareInt x y < 0) = decide (x < y) := by
 unfold Lib.compareInt
 by_cases h1 : x < y
 · simp [h1]
 · by_cases h2 : y < x <;> simp [h1, h2]
end Go.Proofs.YthcdkkmjnglmjaaGreatDoor
