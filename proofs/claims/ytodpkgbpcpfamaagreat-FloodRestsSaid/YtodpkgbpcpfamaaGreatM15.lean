/- Merged texts: Gath Pts. -/
import Derived.Test.YtodpkgbpcpfamaaGreatM14
/- Layer 8: gathered, for each closure. -/
namespace Go.Proofs.YtodpkgbpcpfamaaGreat
set_option linter.unusedSimpArgs false
set_option linter.unusedVariables false
open Go.RowKit Go.Shelf
attribute [local go_sem] Oper.semAt_some

/-- Place k of a canvas W wide, row by row. -/
def ptK (W k : Nat) : PtT := ⟨((k % W : Nat) : Int), ((k / W : Nat) : Int)⟩
def gathL (W : Nat) (is : Nat → Bool) (k : Nat) : List PtT := ((List.range k).filter is).map (ptK W)
theorem gathL_succ (W : Nat) (is : Nat → Bool) (k : Nat) : gathL W is (k + 1) = gathL W is k ++ (if is k = true then [ptK W k] else []) := by
 unfold gathL
 rw [List.range_succ, List.filter_append, List.map_append]
 congr 1
 by_cases h : is k = true <;> simp [h]
theorem gathL_len (W : Nat) (is : Nat → Bool) (k : Nat) : (gathL W is k).length ≤ k := by
 unfold gathL
 rw [List.length_map]
 exact Nat.le_trans (List.length_filter_le _ _) (by simp)
theorem ptK_at {W x y : Nat} (hx : x < W) : ptK W (y * W + x) = ⟨(x : Int), (y : Int)⟩ := by
 unfold ptK
 rw [show (y * W + x) % W = x by rw [Nat.add_comm, Nat.add_mul_mod_self_right]; exact Nat.mod_eq_of_lt hx, show (y * W + x) / W = y by rw [Nat.add_comm, Nat.add_mul_div_right _ _ (by omega), Nat.div_eq_of_lt hx]; omega]
/-- What gathered keeps behind k places. -/
structure GatS (y0 : World) (S : Nat) (W : Nat) (is : Nat → Bool) (Inv : Nat → World → Prop) (k : Nat) (v : Value) (x : World) : Prop where
 o : StO (cutW y0 S) [] y0.heap.size 33 2 encP v (gathL W is k) x
 inv : Inv k x
 tu : Turned (fun j => j = S) y0 x
 sl : S < y0.heap.size
theorem GatS.start {y0 : World} {S W : Nat} {is : Nat → Bool} {Inv : Nat → World → Prop} (hS : S < y0.heap.size) (h0 : Inv 0 y0) : GatS y0 S W is Inv 0 (.slice none 0 0) y0 :=
 ⟨StO.start (its := []) ⟨by rw [cutW_size (Nat.le_of_lt hS)]; exact cutW_below (Nat.le_of_lt hS), by simp, trivial, by simp⟩ _ _ _, h0, Turned.refl _ _, hS⟩
theorem GatS.oturn {y0 : World} {S W : Nat} {is : Nat → Bool} {Inv : Nat → World → Prop} {k : Nat} {v : Value} {x y : World} (h : GatS y0 S W is Inv k v x) (ht : Turned (fun j => j = S) x y) : StO (cutW y0 S) [] y0.heap.size 33 2 encP v (gathL W is k) y := by
 have hcz := cutW_size (Nat.le_of_lt h.sl)
 refine ⟨⟨?_, by simp, trivial, by simp⟩, ?_, h.o.low, by simp, Nat.le_trans h.o.hi ht.size⟩
 · have h1 := h.o.st.low
   rw [hcz] at h1 ⊢
   exact h1.trans (ht.below (by have := h1.size; rw [hcz] at this; exact this) (fun j hj => by rw [hj]; exact Nat.le_refl _))
 · refine ⟨h.o.row.1, ?_⟩
   rcases h.o.row.2 with h1 | ⟨g, cap, cur, e1, hg, hgg, rest⟩
   · exact .inl h1
   · exact .inr ⟨g, cap, cur, e1, hg, (ht.block g (block_lt hgg) (fun e => by have := h.sl; omega)).trans hgg, rest⟩
theorem GatS.turn {y0 : World} {S W : Nat} {is : Nat → Bool} {Inv : Nat → World → Prop} {k k' : Nat} {v : Value} {x y : World} (h : GatS y0 S W is Inv k v x) (ht : Turned (fun j => j = S) x y) (hi : Inv k' y) (hl : gathL W is k' = gathL W is k) : GatS y0 S W is Inv k' v y :=
 ⟨by rw [hl]; exact h.oturn ht, hi, (h.tu.trans ht).mono fun k _ hk => (by rcases hk with hk | hk <;> exact hk), h.sl⟩
theorem GatS.below {y0 : World} {S W : Nat} {is : Nat → Bool} {Inv : Nat → World → Prop} {k : Nat} {v : Value} {x y : World} (hloc : ∀ k wr wr', Inv k wr → (∀ j, j < y0.heap.size → wr'.heap[j]? = wr.heap[j]?) → Inv k wr') (h : GatS y0 S W is Inv k v x) (hb : Below x.heap.size x y) : GatS y0 S W is Inv k v y :=
 ⟨h.o.below hb, hloc k x y h.inv (fun j hj => hb.block j (Nat.lt_of_lt_of_le hj h.o.hi)), h.tu.belowT hb, h.sl⟩
theorem GatS.app2 {y0 : World} {S W : Nat} {is : Nat → Bool} {Inv : Nat → World → Prop} {k : Nat} {v v' : Value} {x y : World} (hloc : ∀ k wr wr', Inv k wr → (∀ j, j < y0.heap.size → wr'.heap[j]? = wr.heap[j]?) → Inv k wr') {L L' : List PtT} (ho0 : StO (cutW y0 S) [] y0.heap.size 33 2 encP v L x) (htu : Turned (fun j => j = S) y0 x) (hsl : S < y0.heap.size) (hi : Inv k x)
 (ho : StO (cutW y0 S) [] y0.heap.size 33 2 encP v' L' y) (hL : gathL W is k = L') (hg : x.grownBy y v.ownBlock) : GatS y0 S W is Inv k v' y := by
 have hlt : ∀ j, v.ownBlock = some j → y0.heap.size ≤ j := fun j hj => (ho0.row.lt j hj).1
 refine ⟨by rw [hL]; exact ho, hloc k x y hi (fun j hj => hg.block j (Nat.lt_of_lt_of_le hj ho0.hi) (fun e => by have := hlt j e.symm; omega)), ?_, hsl⟩
 exact (htu.trans (Turned.of_grown hg)).mono fun k hk hd => (by
  rcases hd with hd | hd
  · exact hd
  · have := hlt k hd.symm; omega)

/-- What gathered gives. -/
def GivesGath (S W : Nat) (is : Nat → Bool) (Inv : Nat → World → Prop) (K : Nat) (w : World) (e : Ending) (w' : World) : Prop := ∃ v, e = .returned v ∧ w'.ownsRow w.heap.size 33 2 v (gathL W is K).length ((gathL W is K).flatMap encP) ∧ Inv K w' ∧ Turned (fun j => j = S) w w'

set_option maxRecDepth 100000 in
set_option maxHeartbeats 1000000 in
theorem gath_points (S : Nat) (W H : Nat) (hW : W ≤ 32) (hH : H ≤ 32) (p1 : Value) (is : Nat → Bool) (Inv : Nat → World → Prop) (w : World) (hS : S < w.heap.size)
 (hcell : ∀ k wr, Inv k wr → wr.cell? ⟨S, 1, none⟩ = some (.int .i64 W) ∧ wr.cell? ⟨S, 2, none⟩ = some (.int .i64 H))
 (hloc : ∀ k wr wr', Inv k wr → (∀ j, j < w.heap.size → wr'.heap[j]? = wr.heap[j]?) → Inv k wr')
 (hcall : ∀ (x y : Nat) wr, x < W → y < H → Inv (y * W + x) wr → Turned (fun j => j = S) w wr → Calls Tryz.prog 50 #[.agg #[.int .i64 x, .int .i64 y], p1] wr fun e w' => e = .returned (.tuple #[.agg #[.int .i64 x, .int .i64 y], .bool (is (y * W + x))]) ∧ Inv (y * W + x + 1) w' ∧ Turned (fun j => j = S) wr w')
 (h0 : Inv 0 w) : Calls Tryz.prog 40 #[.pointer (some ⟨S, 0, none⟩), .func (.func 50) #[] #[p1]] w (GivesGath S W is Inv (H * W) w) := by
 have HG := Lib.hid (GatS.start (W := W) (is := is) hS h0)
 have HCE := Lib.hid hcell
 have HLO := Lib.hid hloc
 have HCA := Lib.hid hcall
 have HB := Lib.hid (And.intro hW hH)
 clear hW hH hS hcell hloc hcall h0
 go_enter Tryz.func40, Tryz.ntmps40
 have s2 := (HCE.out 0 w HG.out.inv).2
 go_wp2
 clear s2
 go_loopw [5, 14] (fun v i wr => ∃ k : Nat, k ≤ H ∧ i = .int .i64 (k : Int) ∧ GatS w S W is Inv (k * W) v wr) (fun _ i _ => H - (intOf i).toNat)
 case atStart => exact ⟨0, by omega, rfl, by rw [Nat.zero_mul]; exact HG.out⟩
 case round =>
  obtain ⟨k, hk, rfl, hg⟩ := hrel
  clear HG
  have HG := Lib.hid hg
  clear hg
  by_cases hlt : k < H
  · have HLT := Lib.hid hlt
    have s1 := (HCE.out _ wr HG.out.inv).1
    have e2 : wrap64 ((k : Int) + 1) = ((k + 1 : Nat) : Int) := by have := HB.out; unfold wrap64; omega
    go_wp2
    clear s1
    go_loopw [5, 21] (fun v i wi => ∃ j : Nat, j ≤ W ∧ i = .int .i64 (j : Int) ∧ GatS w S W is Inv (k * W + j) v wi) (fun _ i _ => W - (intOf i).toNat)
    case atStart => exact ⟨0, by omega, rfl, HG.out⟩
    case round =>
     obtain ⟨j, hj, rfl, hg⟩ := hrel
     clear HG
     have HG := Lib.hid hg
     clear hg
     by_cases hlt2 : j < W
     · have HLT2 := Lib.hid hlt2
       have e3 : wrap64 ((j : Int) + 1) = ((j + 1 : Nat) : Int) := by have := HB.out; unfold wrap64; omega
       have HCC := Lib.hid (HCA.out j k wr hlt2 HLT.out HG.out.inv HG.out.tu)
       have HLS := Lib.hid (gathL_succ W is (k * W + j))
       rw [ptK_at hlt2] at HLS
       have HLE := Lib.hid (show (gathL W is (k * W + j)).length < 1000000 by
        have h1 := gathL_len W is (k * W + j)
        have h2 : k * W ≤ 32 * 32 := Nat.mul_le_mul (by have := HB.out; have := HLT.out; omega) HB.out.1
        have := HB.out
        omega)
       obtain ⟨ib, hib⟩ : ∃ ib, is (k * W + j) = ib := ⟨_, rfl⟩
       rw [hib] at HCC HLS
       clear hib
       go_wp2_with fail
       refine HCC.out.mono ?_
       rintro e w2 ⟨rfl, hinv, htu⟩
       have HI2 := Lib.hid hinv
       have HT2 := Lib.hid htu
       have HS := Lib.hid (St.start w2)
       clear hinv htu HCC
       have HG2 := HG.out.o
       repeat ((fail_if_success (with_reducible refine stop_at (id := 9) ?_)); (first | go_values | go_skip | go_guarded | go_step | go_upon | go_back | (simp only [Int.not_lt, Int.not_le] at *; go_simp) | (go_values <;> (try go_simp)) | (go_ite <;> go_prune <;> (try go_simp)) | (split <;> (first | (rename_i hx; exact (hx _ rfl).elim) | go_prune))))
       have hs_ := (HS.out.alloc (.cells #[.int .i64 j, .int .i64 k] 33))
       obtain ⟨w3, hw_⟩ : ∃ w3 : World, (w2.alloc (.cells #[.int .i64 j, .int .i64 k] 33)) = w3 := ⟨_, rfl⟩
       rw [hw_] at hs_
       try simp only [World.size_alloc] at hs_
       have HS := Lib.hid hs_
       rw [hw_]
       clear hw_ hs_
       have HT3 := Lib.hid (HT2.out.belowT HS.out.low)
       have HI3 := Lib.hid (HLO.out _ _ w3 HI2.out (fun q hq => HS.out.low.block q (Nat.lt_of_lt_of_le hq (Nat.le_trans HG.out.o.hi HT2.out.size))))
       have k0 := cell_of_block (k := 0) (HS.out.blockAt 0 rfl) rfl
       have k1 := cell_of_block (k := 1) (HS.out.blockAt 0 rfl) rfl
       clear HG2
       cases ib
       · have HG3 := Lib.hid (HG.out.turn HT3.out HI3.out (by rw [HLS.out]; simp))
         clear k0 k1
         go_wp2
         go_roundw
         case rel => exact ⟨j + 1, HLT2.out, congrArg (Value.int .i64) e3, HG3.out⟩
         case measure => rw [e3]; have := HLT2.out; simp only [intOf]; omega
       · have HO3 := Lib.hid (HG.out.oturn HT3.out)
         have HTU := Lib.hid ((HG.out.tu.trans HT3.out).mono (S' := fun q => q = S) fun q _ hq => (by rcases hq with hq | hq <;> exact hq))
         have HSL := Lib.hid HG.out.sl
         go_wp2_with (at_builtin; refine wpList_app1g rowP encP_len encP_one HO3.out (Below.refl _ _) ⟨(j : Int), (k : Int)⟩ _ rfl (by have := HLE.out; omega) (by decide) _ _ rfl rfl rfl _ rfl (by simp) ?_; intro v' w5 ho5 hsh hgr; have HO5 := Lib.hid ho5; have HGR := Lib.hid hgr; clear ho5 hsh hgr)
         have HG5 := Lib.hid (GatS.app2 (k := k * W + j + 1) HLO.out HO3.out HTU.out HSL.out HI3.out HO5.out (by rw [HLS.out]; rfl) HGR.out)
         go_roundw
         case rel => exact ⟨j + 1, HLT2.out, congrArg (Value.int .i64) e3, HG5.out⟩
         case measure => rw [e3]; have := HLT2.out; simp only [intOf]; omega
     · have hjw : j = W := by omega
       subst hjw
       clear hlt2 hj
       go_wp2
       go_roundw
       case rel => exact ⟨k + 1, HLT.out, congrArg (Value.int .i64) e2, by rw [Nat.add_mul, Nat.one_mul]; exact HG.out⟩
       case measure => rw [e2]; have := HLT.out; simp only [intOf]; omega
  · have hkn : k = H := by omega
    subst hkn
    clear hlt hk
    go_wp2
    go_ret
    exact ⟨_, rfl, HG.out.o.row, HG.out.inv, HG.out.tu⟩
set_option maxRecDepth 100000 in
set_option maxHeartbeats 1000000 in
theorem gath_parts (S : Nat) (W H : Nat) (hW : W ≤ 32) (hH : H ≤ 32) (p1 p2 : Value) (is : Nat → Bool) (Inv : Nat → World → Prop) (w : World) (hS : S < w.heap.size)
 (hcell : ∀ k wr, Inv k wr → wr.cell? ⟨S, 1, none⟩ = some (.int .i64 W) ∧ wr.cell? ⟨S, 2, none⟩ = some (.int .i64 H))
 (hloc : ∀ k wr wr', Inv k wr → (∀ j, j < w.heap.size → wr'.heap[j]? = wr.heap[j]?) → Inv k wr')
 (hcall : ∀ (x y : Nat) wr, x < W → y < H → Inv (y * W + x) wr → Turned (fun j => j = S) w wr → Calls Tryz.prog 41 #[.agg #[.int .i64 x, .int .i64 y], p1, p2] wr fun e w' => e = .returned (.tuple #[.agg #[.int .i64 x, .int .i64 y], .bool (is (y * W + x))]) ∧ Inv (y * W + x + 1) w' ∧ Turned (fun j => j = S) wr w')
 (h0 : Inv 0 w) : Calls Tryz.prog 40 #[.pointer (some ⟨S, 0, none⟩), .func (.func 41) #[] #[p1, p2]] w (GivesGath S W is Inv (H * W) w) := by
 have HG := Lib.hid (GatS.start (W := W) (is := is) hS h0)
 have HCE := Lib.hid hcell
 have HLO := Lib.hid hloc
 have HCA := Lib.hid hcall
 have HB := Lib.hid (And.intro hW hH)
 clear hW hH hS hcell hloc hcall h0
 go_enter Tryz.func40, Tryz.ntmps40
 have s2 := (HCE.out 0 w HG.out.inv).2
 go_wp2
 clear s2
 go_loopw [5, 14] (fun v i wr => ∃ k : Nat, k ≤ H ∧ i = .int .i64 (k : Int) ∧ GatS w S W is Inv (k * W) v wr) (fun _ i _ => H - (intOf i).toNat)
 case atStart => exact ⟨0, by omega, rfl, by rw [Nat.zero_mul]; exact HG.out⟩
 case round =>
  obtain ⟨k, hk, rfl, hg⟩ := hrel
  clear HG
  have HG := Lib.hid hg
  clear hg
  by_cases hlt : k < H
  · have HLT := Lib.hid hlt
    have s1 := (HCE.out _ wr HG.out.inv).1
    have e2 : wrap64 ((k : Int) + 1) = ((k + 1 : Nat) : Int) := by have := HB.out; unfold wrap64; omega
    go_wp2
    clear s1
    go_loopw [5, 21] (fun v i wi => ∃ j : Nat, j ≤ W ∧ i = .int .i64 (j : Int) ∧ GatS w S W is Inv (k * W + j) v wi) (fun _ i _ => W - (intOf i).toNat)
    case atStart => exact ⟨0, by omega, rfl, HG.out⟩
    case round =>
     obtain ⟨j, hj, rfl, hg⟩ := hrel
     clear HG
     have HG := Lib.hid hg
     clear hg
     by_cases hlt2 : j < W
     · have HLT2 := Lib.hid hlt2
       have e3 : wrap64 ((j : Int) + 1) = ((j + 1 : Nat) : Int) := by have := HB.out; unfold wrap64; omega
       have HCC := Lib.hid (HCA.out j k wr hlt2 HLT.out HG.out.inv HG.out.tu)
       have HLS := Lib.hid (gathL_succ W is (k * W + j))
       rw [ptK_at hlt2] at HLS
       have HLE := Lib.hid (show (gathL W is (k * W + j)).length < 1000000 by
        have h1 := gathL_len W is (k * W + j)
        have h2 : k * W ≤ 32 * 32 := Nat.mul_le_mul (by have := HB.out; have := HLT.out; omega) HB.out.1
        have := HB.out
        omega)
       obtain ⟨ib, hib⟩ : ∃ ib, is (k * W + j) = ib := ⟨_, rfl⟩
       rw [hib] at HCC HLS
       clear hib
       go_wp2_with fail
       refine HCC.out.mono ?_
       rintro e w2 ⟨rfl, hinv, htu⟩
       have HI2 := Lib.hid hinv
       have HT2 := Lib.hid htu
       have HS := Lib.hid (St.start w2)
       clear hinv htu HCC
       have HG2 := HG.out.o
       repeat ((fail_if_success (with_reducible refine stop_at (id := 9) ?_)); (first | go_values | go_skip | go_guarded | go_step | go_upon | go_back | (simp only [Int.not_lt, Int.not_le] at *; go_simp) | (go_values <;> (try go_simp)) | (go_ite <;> go_prune <;> (try go_simp)) | (split <;> (first | (rename_i hx; exact (hx _ rfl).elim) | go_prune))))
       have hs_ := (HS.out.alloc (.cells #[.int .i64 j, .int .i64 k] 33))
       obtain ⟨w3, hw_⟩ : ∃ w3 : World, (w2.alloc (.cells #[.int .i64 j, .int .i64 k] 33)) = w3 := ⟨_, rfl⟩
       rw [hw_] at hs_
       try simp only [World.size_alloc] at hs_
       have HS := Lib.hid hs_
       rw [hw_]
       clear hw_ hs_
       have HT3 := Lib.hid (HT2.out.belowT HS.out.low)
       have HI3 := Lib.hid (HLO.out _ _ w3 HI2.out (fun q hq => HS.out.low.block q (Nat.lt_of_lt_of_le hq (Nat.le_trans HG.out.o.hi HT2.out.size))))
       have k0 := cell_of_block (k := 0) (HS.out.blockAt 0 rfl) rfl
       have k1 := cell_of_block (k := 1) (HS.out.blockAt 0 rfl) rfl
       clear HG2
       cases ib
       · have HG3 := Lib.hid (HG.out.turn HT3.out HI3.out (by rw [HLS.out]; simp))
         clear k0 k1
         go_wp2
         go_roundw
         case rel => exact ⟨j + 1, HLT2.out, congrArg (Value.int .i64) e3, HG3.out⟩
         case measure => rw [e3]; have := HLT2.out; simp only [intOf]; omega
       · have HO3 := Lib.hid (HG.out.oturn HT3.out)
         have HTU := Lib.hid ((HG.out.tu.trans HT3.out).mono (S' := fun q => q = S) fun q _ hq => (by rcases hq with hq | hq <;> exact hq))
         have HSL := Lib.hid HG.out.sl
         go_wp2_with (at_builtin; refine wpList_app1g rowP encP_len encP_one HO3.out (Below.refl _ _) ⟨(j : Int), (k : Int)⟩ _ rfl (by have := HLE.out; omega) (by decide) _ _ rfl rfl rfl _ rfl (by simp) ?_; intro v' w5 ho5 hsh hgr; have HO5 := Lib.hid ho5; have HGR := Lib.hid hgr; clear ho5 hsh hgr)
         have HG5 := Lib.hid (GatS.app2 (k := k * W + j + 1) HLO.out HO3.out HTU.out HSL.out HI3.out HO5.out (by rw [HLS.out]; rfl) HGR.out)
         go_roundw
         case rel => exact ⟨j + 1, HLT2.out, congrArg (Value.int .i64) e3, HG5.out⟩
         case measure => rw [e3]; have := HLT2.out; simp only [intOf]; omega
     · have hjw : j = W := by omega
       subst hjw
       clear hlt2 hj
       go_wp2
       go_roundw
       case rel => exact ⟨k + 1, HLT.out, congrArg (Value.int .i64) e2, by rw [Nat.add_mul, Nat.one_mul]; exact HG.out⟩
       case measure => rw [e2]; have := HLT.out; simp only [intOf]; omega
  · have hkn : k = H := by omega
    subst hkn
    clear hlt hk
    go_wp2
    go_ret
    exact ⟨_, rfl, HG.out.o.row, HG.out.inv, HG.out.tu⟩
set_option maxRecDepth 100000 in
set_option maxHeartbeats 1000000 in
theorem gath_rim (S : Nat) (W H : Nat) (hW : W ≤ 32) (hH : H ≤ 32) (p1 : Value) (is : Nat → Bool) (Inv : Nat → World → Prop) (w : World) (hS : S < w.heap.size)
 (hcell : ∀ k wr, Inv k wr → wr.cell? ⟨S, 1, none⟩ = some (.int .i64 W) ∧ wr.cell? ⟨S, 2, none⟩ = some (.int .i64 H))
 (hloc : ∀ k wr wr', Inv k wr → (∀ j, j < w.heap.size → wr'.heap[j]? = wr.heap[j]?) → Inv k wr')
 (hcall : ∀ (x y : Nat) wr, x < W → y < H → Inv (y * W + x) wr → Turned (fun j => j = S) w wr → Calls Tryz.prog 45 #[.agg #[.int .i64 x, .int .i64 y], p1] wr fun e w' => e = .returned (.tuple #[.agg #[.int .i64 x, .int .i64 y], .bool (is (y * W + x))]) ∧ Inv (y * W + x + 1) w' ∧ Turned (fun j => j = S) wr w')
 (h0 : Inv 0 w) : Calls Tryz.prog 40 #[.pointer (some ⟨S, 0, none⟩), .func (.func 45) #[] #[p1]] w (GivesGath S W is Inv (H * W) w) := by
 have HG := Lib.hid (GatS.start (W := W) (is := is) hS h0)
 have HCE := Lib.hid hcell
 have HLO := Lib.hid hloc
 have HCA := Lib.hid hcall
 have HB := Lib.hid (And.intro hW hH)
 clear hW hH hS hcell hloc hcall h0
 go_enter Tryz.func40, Tryz.ntmps40
 have s2 := (HCE.out 0 w HG.out.inv).2
 go_wp2
 clear s2
 go_loopw [5, 14] (fun v i wr => ∃ k : Nat, k ≤ H ∧ i = .int .i64 (k : Int) ∧ GatS w S W is Inv (k * W) v wr) (fun _ i _ => H - (intOf i).toNat)
 case atStart => exact ⟨0, by omega, rfl, by rw [Nat.zero_mul]; exact HG.out⟩
 case round =>
  obtain ⟨k, hk, rfl, hg⟩ := hrel
  clear HG
  have HG := Lib.hid hg
  clear hg
  by_cases hlt : k < H
  · have HLT := Lib.hid hlt
    have s1 := (HCE.out _ wr HG.out.inv).1
    have e2 : wrap64 ((k : Int) + 1) = ((k + 1 : Nat) : Int) := by have := HB.out; unfold wrap64; omega
    go_wp2
    clear s1
    go_loopw [5, 21] (fun v i wi => ∃ j : Nat, j ≤ W ∧ i = .int .i64 (j : Int) ∧ GatS w S W is Inv (k * W + j) v wi) (fun _ i _ => W - (intOf i).toNat)
    case atStart => exact ⟨0, by omega, rfl, HG.out⟩
    case round =>
     obtain ⟨j, hj, rfl, hg⟩ := hrel
     clear HG
     have HG := Lib.hid hg
     clear hg
     by_cases hlt2 : j < W
     · have HLT2 := Lib.hid hlt2
       have e3 : wrap64 ((j : Int) + 1) = ((j + 1 : Nat) : Int) := by have := HB.out; unfold wrap64; omega
       have HCC := Lib.hid (HCA.out j k wr hlt2 HLT.out HG.out.inv HG.out.tu)
       have HLS := Lib.hid (gathL_succ W is (k * W + j))
       rw [ptK_at hlt2] at HLS
       have HLE := Lib.hid (show (gathL W is (k * W + j)).length < 1000000 by
        have h1 := gathL_len W is (k * W + j)
        have h2 : k * W ≤ 32 * 32 := Nat.mul_le_mul (by have := HB.out; have := HLT.out; omega) HB.out.1
        have := HB.out
        omega)
       obtain ⟨ib, hib⟩ : ∃ ib, is (k * W + j) = ib := ⟨_, rfl⟩
       rw [hib] at HCC HLS
       clear hib
       go_wp2_with fail
       refine HCC.out.mono ?_
       rintro e w2 ⟨rfl, hinv, htu⟩
       have HI2 := Lib.hid hinv
       have HT2 := Lib.hid htu
       have HS := Lib.hid (St.start w2)
       clear hinv htu HCC
       have HG2 := HG.out.o
       repeat ((fail_if_success (with_reducible refine stop_at (id := 9) ?_)); (first | go_values | go_skip | go_guarded | go_step | go_upon | go_back | (simp only [Int.not_lt, Int.not_le] at *; go_simp) | (go_values <;> (try go_simp)) | (go_ite <;> go_prune <;> (try go_simp)) | (split <;> (first | (rename_i hx; exact (hx _ rfl).elim) | go_prune))))
       have hs_ := (HS.out.alloc (.cells #[.int .i64 j, .int .i64 k] 33))
       obtain ⟨w3, hw_⟩ : ∃ w3 : World, (w2.alloc (.cells #[.int .i64 j, .int .i64 k] 33)) = w3 := ⟨_, rfl⟩
       rw [hw_] at hs_
       try simp only [World.size_alloc] at hs_
       have HS := Lib.hid hs_
       rw [hw_]
       clear hw_ hs_
       have HT3 := Lib.hid (HT2.out.belowT HS.out.low)
       have HI3 := Lib.hid (HLO.out _ _ w3 HI2.out (fun q hq => HS.out.low.block q (Nat.lt_of_lt_of_le hq (Nat.le_trans HG.out.o.hi HT2.out.size))))
       have k0 := cell_of_block (k := 0) (HS.out.blockAt 0 rfl) rfl
       have k1 := cell_of_block (k := 1) (HS.out.blockAt 0 rfl) rfl
       clear HG2
       cases ib
       · have HG3 := Lib.hid (HG.out.turn HT3.out HI3.out (by rw [HLS.out]; simp))
         clear k0 k1
         go_wp2
         go_roundw
         case rel => exact ⟨j + 1, HLT2.out, congrArg (Value.int .i64) e3, HG3.out⟩
         case measure => rw [e3]; have := HLT2.out; simp only [intOf]; omega
       · have HO3 := Lib.hid (HG.out.oturn HT3.out)
         have HTU := Lib.hid ((HG.out.tu.trans HT3.out).mono (S' := fun q => q = S) fun q _ hq => (by rcases hq with hq | hq <;> exact hq))
         have HSL := Lib.hid HG.out.sl
         go_wp2_with (at_builtin; refine wpList_app1g rowP encP_len encP_one HO3.out (Below.refl _ _) ⟨(j : Int), (k : Int)⟩ _ rfl (by have := HLE.out; omega) (by decide) _ _ rfl rfl rfl _ rfl (by simp) ?_; intro v' w5 ho5 hsh hgr; have HO5 := Lib.hid ho5; have HGR := Lib.hid hgr; clear ho5 hsh hgr)
         have HG5 := Lib.hid (GatS.app2 (k := k * W + j + 1) HLO.out HO3.out HTU.out HSL.out HI3.out HO5.out (by rw [HLS.out]; rfl) HGR.out)
         go_roundw
         case rel => exact ⟨j + 1, HLT2.out, congrArg (Value.int .i64) e3, HG5.out⟩
         case measure => rw [e3]; have := HLT2.out; simp only [intOf]; omega
     · have hjw : j = W := by omega
       subst hjw
       clear hlt2 hj
       go_wp2
       go_roundw
       case rel => exact ⟨k + 1, HLT.out, congrArg (Value.int .i64) e2, by rw [Nat.add_mul, Nat.one_mul]; exact HG.out⟩
       case measure => rw [e2]; have := HLT.out; simp only [intOf]; omega
  · have hkn : k = H := by omega
    subst hkn
    clear hlt hk
    go_wp2
    go_ret
    exact ⟨_, rfl, HG.out.o.row, HG.out.inv, HG.out.tu⟩
end Go.Proofs.YtodpkgbpcpfamaaGreat

/- Layer 8: the closures that gathered calls. -/
namespace Go.Proofs.YtodpkgbpcpfamaaGreat
set_option linter.unusedSimpArgs false
set_option linter.unusedVariables false
open Go.RowKit Go.Shelf
attribute [local go_sem] Oper.semAt_some

set_option maxRecDepth 100000 in
set_option maxHeartbeats 1000000 in
theorem pts_cl (Bs S c : Nat) (W H : Int) (m : Nat → Nat) (v : Value) (x y : Nat) (hx : x < 32) (hy : y < 32) (w : World) (hb : w.cell? ⟨Bs, 0, none⟩ = some (.pointer (some ⟨S, 0, none⟩))) (hs : w.heap[S]? = some (seaO c W H m v)) :
 Calls Tryz.prog 50 #[.agg #[.int .i64 x, .int .i64 y], .pointer (some ⟨Bs, 0, none⟩)] w (Gives (.tuple #[.agg #[.int .i64 x, .int .i64 y], .bool (decide (0 < m (y * 32 + x)))]) w) := by
 have HB := Lib.hid (And.intro (cell_lt hb) (block_lt hs))
 have HH := Lib.hid (And.intro hb hs)
 have HS := Lib.hid (St.start w)
 have HI := Lib.hid (show y * 32 + x < 1024 by omega)
 obtain ⟨mv, hmv⟩ : ∃ mv, m (y * 32 + x) = mv := ⟨_, rfl⟩
 have HMV := Lib.hid hmv
 rw [hmv]
 clear hmv hb hs
 go_enter Tryz.func50, Tryz.ntmps50
 repeat ((fail_if_success (with_reducible refine stop_at (id := 1) ?_)); (first | go_values | go_skip | go_guarded | go_step | go_upon | go_back | (simp only [Int.not_lt, Int.not_le] at *; go_simp) | (go_values <;> (try go_simp)) | (go_ite <;> go_prune <;> (try go_simp)) | (split <;> (first | (rename_i hx; exact (hx _ rfl).elim) | go_prune))))
 have hs_ := ((HS.out.alloc (.cells #[.int .i64 x, .int .i64 y] 33)).alloc (.cells #[.int .i64 0, .int .i64 0] 33))
 obtain ⟨w1, hw_⟩ : ∃ w1 : World, ((w.alloc (.cells #[.int .i64 x, .int .i64 y] 33)).alloc (.cells #[.int .i64 0, .int .i64 0] 33)) = w1 := ⟨_, rfl⟩
 rw [hw_] at hs_
 try simp only [World.size_alloc] at hs_
 have HS := Lib.hid hs_
 rw [hw_]
 clear hw_ hs_
 have HP := Lib.hid (HS.out.blockAt 1 rfl)
 have HZ := Lib.hid (HS.out.blockAt 0 rfl)
 have HL := Lib.hid (fun (w' : World) (hC : Below (w.heap.size + 1) w1 w') => HS.out.low.trans (hC.mono (by omega)))
 refine (wpIn_wide (n := 0)).1 ?_
 apply wp_region_vals 13 (Rl := [(eqv _), (eqv _), (eqv _), (eqv _), (eqv _), (eqv _), (eqv _), (eqv _), (eqv _), (eqv _), (eqv _), (eqv _), (fun v_ w_ => w_.heap[w.heap.size + 1]? = some (.cells #[.int .i64 x, .int .i64 y] 33 (0, 0)))]) (C := (fun x' y' => FillC (w.heap.size + 1) (.cells #[.int .i64 0, .int .i64 0] 33 (0, 0)) (.cells #[.int .i64 x, .int .i64 y] 33 (0, 0)) x' y'))
 case hm => kernel_rfl
 case hk => rfl
 case hCr => exact (fun x => FillC.refl _ _ _ x)
 case hCt => intro _ _ _; exact (fun h k => FillC.trans h k)
 case hst => exact ⟨fun _ _ _ _ h => h, fun _ _ _ _ h => h, fun _ _ _ _ h => h, fun _ _ _ _ h => h, fun _ _ _ _ h => h, fun _ _ _ _ h => h, fun _ _ _ _ h => h, fun _ _ _ _ h => h, fun _ _ _ _ h => h, fun _ _ _ _ h => h, fun _ _ _ _ h => h, fun _ _ _ _ h => h, fun _ _ _ hC h => FillC.filled hC h, trivial⟩
 case hfo => kernel_rfl
 case ht => kernel_rfl
 case hC0 => exact (FillC.grow (grows_drew _) (Nat.le_of_lt (HS.out.lt 0 rfl)))
 case hsteps =>
  refine ⟨?_, ?_, ?_, ?_, ?_, ?_, ?_, ?_, ?_, ?_, ?_, ?_, ?_, trivial⟩
  · intro a' w' hA hC hD; have s2 : a'.tmps[2]? = some _ := (hA.at 2 (by kernel_rfl)).trans rfl
    have h1_ := (hC.1.block w.heap.size (by omega)).trans HP.out; have b0 := cell_of_block (k := 0) h1_ rfl; have b1 := cell_of_block (k := 1) h1_ rfl; clear h1_
    clear hA hD; refine stepOk_plain rfl ?_; intro K hK; gi_wp2; exact hK _ _ rfl ((fun x => FillC.refl _ _ _ x) _)
  · intro a' w' hA hC hD; have s1 : a'.tmps[1]? = some _ := (hA.at 1 (by kernel_rfl)).trans rfl
    have b1 := ((HL.out w' hC.1).cell (p := ⟨Bs, 0, none⟩) HB.out.1).trans HH.out.1
    clear hA hD; refine stepOk_plain rfl ?_; intro K hK; gi_wp2; exact hK _ _ rfl ((fun x => FillC.refl _ _ _ x) _)
  · intro a' w' hA hC hD; have s2 : a'.tmps[2]? = some _ := (hA.at 2 (by kernel_rfl)).trans rfl; clear hA hD; refine stepOk_plain rfl ?_; intro K hK; gi_wp2; exact hK _ _ rfl ((fun x => FillC.refl _ _ _ x) _)
  · intro a' w' hA hC hD; obtain ⟨u7, s7, r7⟩ := hD ⟨2, .data⟩ (by simp) rfl _ rfl; replace r7 : u7 = _ := r7; subst r7
    have h1_ := (hC.1.block w.heap.size (by omega)).trans HP.out; have b1 := cell_of_block (k := 1) h1_ rfl; clear h1_
    clear hA hD; refine stepOk_plain rfl ?_; intro K hK; gi_wp2; exact hK _ _ rfl ((fun x => FillC.refl _ _ _ x) _)
  · intro a' w' hA hC hD; have s2 : a'.tmps[2]? = some _ := (hA.at 2 (by kernel_rfl)).trans rfl; clear hA hD; refine stepOk_plain rfl ?_; intro K hK; gi_wp2; exact hK _ _ rfl ((fun x => FillC.refl _ _ _ x) _)
  · intro a' w' hA hC hD; obtain ⟨u9, s9, r9⟩ := hD ⟨4, .data⟩ (by simp) rfl _ rfl; replace r9 : u9 = _ := r9; subst r9
    have h1_ := (hC.1.block w.heap.size (by omega)).trans HP.out; have b1 := cell_of_block (k := 0) h1_ rfl; clear h1_
    clear hA hD; refine stepOk_plain rfl ?_; intro K hK; gi_wp2; exact hK _ _ rfl ((fun x => FillC.refl _ _ _ x) _)
  · intro a' w' hA hC hD; obtain ⟨u6, s6, r6⟩ := hD ⟨1, .data⟩ (by simp) rfl _ rfl; replace r6 : u6 = _ := r6; subst r6; clear hA hD; refine stepOk_plain rfl ?_; intro K hK; gi_wp2; exact hK _ _ rfl ((fun x => FillC.refl _ _ _ x) _)
  · intro a' w' hA hC hD; obtain ⟨u11, s11, r11⟩ := hD ⟨6, .data⟩ (by simp) rfl _ rfl; replace r11 : u11 = _ := r11; subst r11; clear hA hD; refine stepOk_plain rfl ?_; intro K hK; gi_wp2; exact hK _ _ rfl ((fun x => FillC.refl _ _ _ x) _)
  · intro a' w' hA hC hD; obtain ⟨u12, s12, r12⟩ := hD ⟨7, .data⟩ (by simp) rfl _ rfl; replace r12 : u12 = _ := r12; subst r12; obtain ⟨u8, s8, r8⟩ := hD ⟨3, .data⟩ (by simp) rfl _ rfl; replace r8 : u8 = _ := r8; subst r8; clear hA hD; refine stepOk_plain rfl ?_; intro K hK; gi_wp2; exact hK _ _ rfl ((fun x => FillC.refl _ _ _ x) _)
  · intro a' w' hA hC hD; obtain ⟨u13, s13, r13⟩ := hD ⟨8, .data⟩ (by simp) rfl _ rfl; replace r13 : u13 = _ := r13; subst r13; obtain ⟨u10, s10, r10⟩ := hD ⟨5, .data⟩ (by simp) rfl _ rfl; replace r10 : u10 = _ := r10; subst r10; clear hA hD; refine stepOk_plain rfl ?_; intro K hK; gi_wp2; exact hK _ _ rfl ((fun x => FillC.refl _ _ _ x) _)
  · intro a' w' hA hC hD; obtain ⟨u14, s14, r14⟩ := hD ⟨9, .data⟩ (by simp) rfl _ rfl; replace r14 : u14 = _ := r14; subst r14
    have b1 := cell_of_block (((HL.out w' hC.1).block S HB.out.2).trans HH.out.2) (seaA_met c W H m v (i := y * 32 + x) HI.out); rw [← Nat.add_assoc, HMV.out] at b1
    clear hA hD; refine stepOk_plain rfl ?_; intro K hK; gi_wp2; exact hK _ _ rfl ((fun x => FillC.refl _ _ _ x) _)
  · intro a' w' hA hC hD; obtain ⟨u15, s15, r15⟩ := hD ⟨10, .data⟩ (by simp) rfl _ rfl; replace r15 : u15 = _ := r15; subst r15; clear hA hD; refine stepOk_plain rfl ?_; intro K hK; gi_wp2; exact hK _ _ rfl ((fun x => FillC.refl _ _ _ x) _)
  · intro a' w' hA hC hD; have s3 : a'.tmps[3]? = some _ := (hA.at 3 (by kernel_rfl)).trans rfl; obtain ⟨u5, s5, r5⟩ := hD ⟨0, .data⟩ (by simp) rfl _ rfl; replace r5 : u5 = _ := r5; subst r5
    have he := FillC.either hC (.inl HZ.out); have HE := Lib.hid he; obtain ⟨y0, y1, hy⟩ := either2 he; have d0 := cell_of_block (k := 0) (v := y0) hy rfl; have d1 := cell_of_block (k := 1) (v := y1) hy rfl; have fr := free_of_block hy; clear he hy
    clear hA hD; refine stepOk_plain rfl ?_; intro K hK; gi_wp2; exact hK undef _ (fill2 (n₀ := w.heap.size + 1) (Nat.le_refl _) HE.out).2 (fill2 (n₀ := w.heap.size + 1) (Nat.le_refl _) HE.out).1
 case hend =>
  intro w4 hC
  simp only [EndFrom, eqv, forall_eq, Act.put, List.length_cons, List.length_nil, List.drop_succ_cons, List.drop_zero, Nat.reduceAdd, List.setIfInBounds_toArray, List.set_cons_succ, List.set_cons_zero]
  intro v3 h1
  have HLB := Lib.hid (HL.out w4 hC.1)
  have k0 := cell_of_block (k := 0) h1 rfl
  have k1 := cell_of_block (k := 1) h1 rfl
  clear hC h1
  gi_wp2
  go_wp2_with fail
  refine bodyPost_ret (v := .tuple #[.agg #[.int .i64 x, .int .i64 y], .bool (decide (0 < mv))]) (by simp [results, Tryz.results50, go_sem, k0, k1]) rfl ⟨rfl, HLB.out⟩

theorem CanAt.recut {w w' : World} {c S : Nat} {C : CanT} (h : CanAt (cutW w S) c C) (ht : Turned (fun j => j = S) w w') (hS : S ≤ w.heap.size) : CanAt (cutW w' S) c C :=
 h.below (by
  rw [cutW_size hS]
  refine ⟨ht.os, ht.tape, ht.output, by rw [cutW_size hS, cutW_size (Nat.le_trans hS ht.size)]; exact Nat.le_refl _, fun k hk => ?_⟩
  exact ((cutW_below (Nat.le_trans hS ht.size)).block k hk).symm.trans ((ht.block k (by omega) (by omega)).trans ((cutW_below hS).block k hk)))
/-- What Parts keeps behind a place. -/
def partM (C : CanT) (t : Int) (m : Nat → Nat) (p : PtT) : Nat → Nat := if m (ixP p) = 0 then (runB (nearP C p t) (8 * (C.wide : Int)) (8 * (C.high : Int)) m p).m else m

set_option maxRecDepth 100000 in
set_option maxHeartbeats 1000000 in
theorem parts_cl (C : CanT) (c S Bs Bt : Nat) (t : Int) (ht : 0 ≤ t) (m : Nat → Nat) (v : Value) (x y : Nat) (hx : x < 8 * C.wide) (hy : y < 8 * C.high) (w : World) (hC : CanAt (cutW w S) c C) (hs : w.heap[S]? = some (seaO c (8 * (C.wide : Int)) (8 * (C.high : Int)) m v))
 (hb : w.cell? ⟨Bs, 0, none⟩ = some (.pointer (some ⟨S, 0, none⟩))) (hb2 : w.cell? ⟨Bt, 0, none⟩ = some (.int .i64 t)) :
 Calls Tryz.prog 41 #[.agg #[.int .i64 x, .int .i64 y], .pointer (some ⟨Bs, 0, none⟩), .pointer (some ⟨Bt, 0, none⟩)] w fun e w' => e = .returned (.tuple #[.agg #[.int .i64 x, .int .i64 y], .bool (decide (m (y * 32 + x) = 0))]) ∧ (∃ v', w'.heap[S]? = some (seaO c (8 * (C.wide : Int)) (8 * (C.high : Int)) (partM C t m ⟨(x : Int), (y : Int)⟩) v')) ∧ Turned (fun j => j = S) w w' := by
 have hwh : 8 * C.wide ≤ 32 ∧ 8 * C.high ≤ 32 := by have h1 := hC.ok.wide; have h2 := hC.ok.high; omega
 have hix : ixP ⟨(x : Int), (y : Int)⟩ = y * 32 + x := by unfold ixP; simp only; omega
 have hon : onB (8 * (C.wide : Int)) (8 * (C.high : Int)) ⟨(x : Int), (y : Int)⟩ = true := onB_iff.2 ⟨⟨by simp only; omega, by simp only; omega⟩, by simp only; omega, by simp only; omega⟩
 have HGO := Lib.hid (fun (w' : World) (v0 : Value) h1 h2 h3 => goes_any C c S m v0 ⟨(x : Int), (y : Int)⟩ t w' h1 h2 hon h3 ht)
 have HB := Lib.hid (And.intro (cell_lt hb) (And.intro (cell_lt hb2) (block_lt hs)))
 have HH := Lib.hid (And.intro hb (And.intro hb2 hs))
 have HCA := Lib.hid hC
 have HS := Lib.hid (St.start w)
 have HI := Lib.hid (show y * 32 + x < 1024 by omega)
 have x1 : x < 32 := by omega
 have x2 : y < 32 := by omega
 unfold partM
 rw [hix]
 rw [hix] at HGO
 obtain ⟨mv, hmv⟩ : ∃ mv, m (y * 32 + x) = mv := ⟨_, rfl⟩
 have HMV := Lib.hid hmv
 rw [hmv]
 rw [hmv] at HGO
 unfold PtT.val at HGO
 simp only at HGO
 obtain ⟨M, hM⟩ : ∃ M, (runB (nearP C ⟨(x : Int), (y : Int)⟩ t) (8 * (C.wide : Int)) (8 * (C.high : Int)) m ⟨(x : Int), (y : Int)⟩).m = M := ⟨_, rfl⟩
 rw [hM] at HGO ⊢
 obtain ⟨W, hW⟩ : ∃ W, 8 * (C.wide : Int) = W := ⟨_, rfl⟩
 obtain ⟨H, hH⟩ : ∃ H, 8 * (C.high : Int) = H := ⟨_, rfl⟩
 rw [hW, hH] at HGO HH ⊢
 clear hmv hb hb2 hs hC hx hy hwh hix hon ht hM hW hH
 cases mv with
 | succ mv =>
  have hd : decide (((mv : Int) + 1) = 0) = false := by simp; omega
  have hd2 : decide (mv + 1 = 0) = false := by simp
  rw [hd2, if_neg (Nat.succ_ne_zero mv)]
  go_enter Tryz.func41, Tryz.ntmps41
  repeat ((fail_if_success (with_reducible refine stop_at (id := 1) ?_)); (first | go_values | go_skip | go_guarded | go_step | go_upon | go_back | (simp only [Int.not_lt, Int.not_le] at *; go_simp) | (go_values <;> (try go_simp)) | (go_ite <;> go_prune <;> (try go_simp)) | (split <;> (first | (rename_i hx; exact (hx _ rfl).elim) | go_prune))))
  have hs_ := ((HS.out.alloc (.cells #[.int .i64 x, .int .i64 y] 33)).alloc (.cells #[.int .i64 0, .int .i64 0] 33))
  obtain ⟨w1, hw_⟩ : ∃ w1 : World, ((w.alloc (.cells #[.int .i64 x, .int .i64 y] 33)).alloc (.cells #[.int .i64 0, .int .i64 0] 33)) = w1 := ⟨_, rfl⟩
  rw [hw_] at hs_
  try simp only [World.size_alloc] at hs_
  have HS := Lib.hid hs_
  rw [hw_]
  clear hw_ hs_
  refine (wpIn_wide (n := 0)).1 ?_
  apply wp_region_vals 11 (Rl := [(eqv _), (eqv _), (eqv _), (eqv _), (eqv _), (eqv _), (eqv _), (eqv _), (eqv _), (eqv _), (eqv _)]) (C := (fun x y => Below x.heap.size x y))
  case hm => kernel_rfl
  case hk => rfl
  case hCr => exact (fun _ => Below.refl _ _)
  case hCt => intro _ _ _; exact (fun h k => grows_trans h k)
  case hst => exact ⟨fun _ _ _ _ h => h, fun _ _ _ _ h => h, fun _ _ _ _ h => h, fun _ _ _ _ h => h, fun _ _ _ _ h => h, fun _ _ _ _ h => h, fun _ _ _ _ h => h, fun _ _ _ _ h => h, fun _ _ _ _ h => h, fun _ _ _ _ h => h, fun _ _ _ _ h => h, trivial⟩
  case hfo => kernel_rfl
  case ht => kernel_rfl
  case hC0 => exact (grows_drew _)
  case hsteps =>
   refine ⟨?_, ?_, ?_, ?_, ?_, ?_, ?_, ?_, ?_, ?_, ?_, trivial⟩
   · intro a' w' hA hC hD; have s1 : a'.tmps[1]? = some _ := (hA.at 1 (by kernel_rfl)).trans rfl
     have b1 := ((HS.out.below hC).low.cell (p := ⟨Bs, 0, none⟩) HB.out.1).trans HH.out.1
     clear hA hD; refine stepOk_plain rfl ?_; intro K hK; gi_wp2; exact hK _ _ rfl ((fun _ => Below.refl _ _) _)
   · intro a' w' hA hC hD; have s3 : a'.tmps[3]? = some _ := (hA.at 3 (by kernel_rfl)).trans rfl; clear hA hD; refine stepOk_plain rfl ?_; intro K hK; gi_wp2; exact hK _ _ rfl ((fun _ => Below.refl _ _) _)
   · intro a' w' hA hC hD; obtain ⟨u8, s8, r8⟩ := hD ⟨1, .data⟩ (by simp) rfl _ rfl; replace r8 : u8 = _ := r8; subst r8
     have h1_ := (HS.out.below hC).blockAt 1 rfl; have c1_0 := cell_of_block (k := 0) h1_ rfl; have c1_1 := cell_of_block (k := 1) h1_ rfl; clear h1_
     clear hA hD; refine stepOk_plain rfl ?_; intro K hK; gi_wp2; exact hK _ _ rfl ((fun _ => Below.refl _ _) _)
   · intro a' w' hA hC hD; have s3 : a'.tmps[3]? = some _ := (hA.at 3 (by kernel_rfl)).trans rfl; clear hA hD; refine stepOk_plain rfl ?_; intro K hK; gi_wp2; exact hK _ _ rfl ((fun _ => Below.refl _ _) _)
   · intro a' w' hA hC hD; obtain ⟨u10, s10, r10⟩ := hD ⟨3, .data⟩ (by simp) rfl _ rfl; replace r10 : u10 = _ := r10; subst r10
     have h1_ := (HS.out.below hC).blockAt 1 rfl; have c1_0 := cell_of_block (k := 0) h1_ rfl; have c1_1 := cell_of_block (k := 1) h1_ rfl; clear h1_
     clear hA hD; refine stepOk_plain rfl ?_; intro K hK; gi_wp2; exact hK _ _ rfl ((fun _ => Below.refl _ _) _)
   · intro a' w' hA hC hD; obtain ⟨u7, s7, r7⟩ := hD ⟨0, .data⟩ (by simp) rfl _ rfl; replace r7 : u7 = _ := r7; subst r7; clear hA hD; refine stepOk_plain rfl ?_; intro K hK; gi_wp2; exact hK _ _ rfl ((fun _ => Below.refl _ _) _)
   · intro a' w' hA hC hD; obtain ⟨u12, s12, r12⟩ := hD ⟨5, .data⟩ (by simp) rfl _ rfl; replace r12 : u12 = _ := r12; subst r12; clear hA hD; refine stepOk_plain rfl ?_; intro K hK; gi_wp2; exact hK _ _ rfl ((fun _ => Below.refl _ _) _)
   · intro a' w' hA hC hD; obtain ⟨u13, s13, r13⟩ := hD ⟨6, .data⟩ (by simp) rfl _ rfl; replace r13 : u13 = _ := r13; subst r13; obtain ⟨u9, s9, r9⟩ := hD ⟨2, .data⟩ (by simp) rfl _ rfl; replace r9 : u9 = _ := r9; subst r9; clear hA hD; refine stepOk_plain rfl ?_; intro K hK; gi_wp2; exact hK _ _ rfl ((fun _ => Below.refl _ _) _)
   · intro a' w' hA hC hD; obtain ⟨u14, s14, r14⟩ := hD ⟨7, .data⟩ (by simp) rfl _ rfl; replace r14 : u14 = _ := r14; subst r14; obtain ⟨u11, s11, r11⟩ := hD ⟨4, .data⟩ (by simp) rfl _ rfl; replace r11 : u11 = _ := r11; subst r11; clear hA hD; refine stepOk_plain rfl ?_; intro K hK; gi_wp2; exact hK _ _ rfl ((fun _ => Below.refl _ _) _)
   · intro a' w' hA hC hD; obtain ⟨u15, s15, r15⟩ := hD ⟨8, .data⟩ (by simp) rfl _ rfl; replace r15 : u15 = _ := r15; subst r15
     have b1 := cell_of_block (((HS.out.below hC).low.block S HB.out.2.2).trans HH.out.2.2) (seaA_met c W H m v (i := y * 32 + x) HI.out); rw [← Nat.add_assoc, HMV.out] at b1
     clear hA hD; refine stepOk_plain rfl ?_; intro K hK; gi_wp2; exact hK _ _ rfl ((fun _ => Below.refl _ _) _)
   · intro a' w' hA hC hD; obtain ⟨u16, s16, r16⟩ := hD ⟨9, .data⟩ (by simp) rfl _ rfl; replace r16 : u16 = _ := r16; subst r16; clear hA hD; refine stepOk_plain rfl ?_; intro K hK; gi_wp2; exact hK _ _ rfl ((fun _ => Below.refl _ _) _)
  case hend =>
   intro w4 hC
   simp only [EndFrom, eqv, forall_eq, Act.put, List.length_cons, List.length_nil, List.drop_succ_cons, List.drop_zero, Nat.reduceAdd, List.setIfInBounds_toArray, List.set_cons_succ, List.set_cons_zero]
   have HS := Lib.hid (HS.out.below hC)
   clear hC
   have p0 := cell_of_block (k := 0) (HS.out.blockAt 1 rfl) rfl
   have p1 := cell_of_block (k := 1) (HS.out.blockAt 1 rfl) rfl
   have r0 := cell_of_block (k := 0) (HS.out.blockAt 0 rfl) rfl
   have r1 := cell_of_block (k := 1) (HS.out.blockAt 0 rfl) rfl
   have f0 := free_of_block (HS.out.blockAt 0 rfl)
   gi_wp2
   go_wp2_with fail
   have hq := heap_set_same (heap_set_same (HS.out.blockAt 0 rfl) (k := 0) (.int .i64 x)) (k := 1) (.int .i64 y)
   have k0 := cell_of_block (k := 0) hq rfl
   have k1 := cell_of_block (k := 1) hq rfl
   have hlow := (HS.out.low.setCell (p := ⟨w.heap.size + 1, 0, none⟩) (Nat.le_succ _) (.int .i64 x)).setCell (p := ⟨w.heap.size + 1, 1, none⟩) (Nat.le_succ _) (.int .i64 y)
   have hz : ((mv : Int) + 1 == 0) = false := by simp; omega
   rw [hz]
   refine bodyPost_ret (v := .tuple #[.agg #[.int .i64 x, .int .i64 y], .bool false]) (by simp [results, Tryz.results41, go_sem, k0, k1]) rfl ⟨rfl, ⟨v, (hlow.block S HB.out.2.2).trans HH.out.2.2⟩, (Turned.refl _ _).belowT hlow⟩
 | zero =>
  have hd2 : decide (0 = 0) = true := rfl
  rw [hd2, if_pos rfl]
  have HG0 := Lib.hid (fun w' v0 h1 h2 => HGO.out w' v0 h1 h2 rfl)
  clear hd2 HGO
  go_enter Tryz.func41, Tryz.ntmps41
  repeat ((fail_if_success (with_reducible refine stop_at (id := 1) ?_)); (first | go_values | go_skip | go_guarded | go_step | go_upon | go_back | (simp only [Int.not_lt, Int.not_le] at *; go_simp) | (go_values <;> (try go_simp)) | (go_ite <;> go_prune <;> (try go_simp)) | (split <;> (first | (rename_i hx; exact (hx _ rfl).elim) | go_prune))))
  have hs_ := ((HS.out.alloc (.cells #[.int .i64 x, .int .i64 y] 33)).alloc (.cells #[.int .i64 0, .int .i64 0] 33))
  obtain ⟨w1, hw_⟩ : ∃ w1 : World, ((w.alloc (.cells #[.int .i64 x, .int .i64 y] 33)).alloc (.cells #[.int .i64 0, .int .i64 0] 33)) = w1 := ⟨_, rfl⟩
  rw [hw_] at hs_
  try simp only [World.size_alloc] at hs_
  have HS := Lib.hid hs_
  rw [hw_]
  clear hw_ hs_
  refine (wpIn_wide (n := 0)).1 ?_
  apply wp_region_vals 11 (Rl := [(eqv _), (eqv _), (eqv _), (eqv _), (eqv _), (eqv _), (eqv _), (eqv _), (eqv _), (eqv _), (eqv _)]) (C := (fun x y => Below x.heap.size x y))
  case hm => kernel_rfl
  case hk => rfl
  case hCr => exact (fun _ => Below.refl _ _)
  case hCt => intro _ _ _; exact (fun h k => grows_trans h k)
  case hst => exact ⟨fun _ _ _ _ h => h, fun _ _ _ _ h => h, fun _ _ _ _ h => h, fun _ _ _ _ h => h, fun _ _ _ _ h => h, fun _ _ _ _ h => h, fun _ _ _ _ h => h, fun _ _ _ _ h => h, fun _ _ _ _ h => h, fun _ _ _ _ h => h, fun _ _ _ _ h => h, trivial⟩
  case hfo => kernel_rfl
  case ht => kernel_rfl
  case hC0 => exact (grows_drew _)
  case hsteps =>
   refine ⟨?_, ?_, ?_, ?_, ?_, ?_, ?_, ?_, ?_, ?_, ?_, trivial⟩
   · intro a' w' hA hC hD; have s1 : a'.tmps[1]? = some _ := (hA.at 1 (by kernel_rfl)).trans rfl
     have b1 := ((HS.out.below hC).low.cell (p := ⟨Bs, 0, none⟩) HB.out.1).trans HH.out.1
     clear hA hD; refine stepOk_plain rfl ?_; intro K hK; gi_wp2; exact hK _ _ rfl ((fun _ => Below.refl _ _) _)
   · intro a' w' hA hC hD; have s3 : a'.tmps[3]? = some _ := (hA.at 3 (by kernel_rfl)).trans rfl; clear hA hD; refine stepOk_plain rfl ?_; intro K hK; gi_wp2; exact hK _ _ rfl ((fun _ => Below.refl _ _) _)
   · intro a' w' hA hC hD; obtain ⟨u8, s8, r8⟩ := hD ⟨1, .data⟩ (by simp) rfl _ rfl; replace r8 : u8 = _ := r8; subst r8
     have h1_ := (HS.out.below hC).blockAt 1 rfl; have c1_0 := cell_of_block (k := 0) h1_ rfl; have c1_1 := cell_of_block (k := 1) h1_ rfl; clear h1_
     clear hA hD; refine stepOk_plain rfl ?_; intro K hK; gi_wp2; exact hK _ _ rfl ((fun _ => Below.refl _ _) _)
   · intro a' w' hA hC hD; have s3 : a'.tmps[3]? = some _ := (hA.at 3 (by kernel_rfl)).trans rfl; clear hA hD; refine stepOk_plain rfl ?_; intro K hK; gi_wp2; exact hK _ _ rfl ((fun _ => Below.refl _ _) _)
   · intro a' w' hA hC hD; obtain ⟨u10, s10, r10⟩ := hD ⟨3, .data⟩ (by simp) rfl _ rfl; replace r10 : u10 = _ := r10; subst r10
     have h1_ := (HS.out.below hC).blockAt 1 rfl; have c1_0 := cell_of_block (k := 0) h1_ rfl; have c1_1 := cell_of_block (k := 1) h1_ rfl; clear h1_
     clear hA hD; refine stepOk_plain rfl ?_; intro K hK; gi_wp2; exact hK _ _ rfl ((fun _ => Below.refl _ _) _)
   · intro a' w' hA hC hD; obtain ⟨u7, s7, r7⟩ := hD ⟨0, .data⟩ (by simp) rfl _ rfl; replace r7 : u7 = _ := r7; subst r7; clear hA hD; refine stepOk_plain rfl ?_; intro K hK; gi_wp2; exact hK _ _ rfl ((fun _ => Below.refl _ _) _)
   · intro a' w' hA hC hD; obtain ⟨u12, s12, r12⟩ := hD ⟨5, .data⟩ (by simp) rfl _ rfl; replace r12 : u12 = _ := r12; subst r12; clear hA hD; refine stepOk_plain rfl ?_; intro K hK; gi_wp2; exact hK _ _ rfl ((fun _ => Below.refl _ _) _)
   · intro a' w' hA hC hD; obtain ⟨u13, s13, r13⟩ := hD ⟨6, .data⟩ (by simp) rfl _ rfl; replace r13 : u13 = _ := r13; subst r13; obtain ⟨u9, s9, r9⟩ := hD ⟨2, .data⟩ (by simp) rfl _ rfl; replace r9 : u9 = _ := r9; subst r9; clear hA hD; refine stepOk_plain rfl ?_; intro K hK; gi_wp2; exact hK _ _ rfl ((fun _ => Below.refl _ _) _)
   · intro a' w' hA hC hD; obtain ⟨u14, s14, r14⟩ := hD ⟨7, .data⟩ (by simp) rfl _ rfl; replace r14 : u14 = _ := r14; subst r14; obtain ⟨u11, s11, r11⟩ := hD ⟨4, .data⟩ (by simp) rfl _ rfl; replace r11 : u11 = _ := r11; subst r11; clear hA hD; refine stepOk_plain rfl ?_; intro K hK; gi_wp2; exact hK _ _ rfl ((fun _ => Below.refl _ _) _)
   · intro a' w' hA hC hD; obtain ⟨u15, s15, r15⟩ := hD ⟨8, .data⟩ (by simp) rfl _ rfl; replace r15 : u15 = _ := r15; subst r15
     have b1 := cell_of_block (((HS.out.below hC).low.block S HB.out.2.2).trans HH.out.2.2) (seaA_met c W H m v (i := y * 32 + x) HI.out); rw [← Nat.add_assoc, HMV.out] at b1
     clear hA hD; refine stepOk_plain rfl ?_; intro K hK; gi_wp2; exact hK _ _ rfl ((fun _ => Below.refl _ _) _)
   · intro a' w' hA hC hD; obtain ⟨u16, s16, r16⟩ := hD ⟨9, .data⟩ (by simp) rfl _ rfl; replace r16 : u16 = _ := r16; subst r16; clear hA hD; refine stepOk_plain rfl ?_; intro K hK; gi_wp2; exact hK _ _ rfl ((fun _ => Below.refl _ _) _)
  case hend =>
   intro w4 hC
   simp only [EndFrom, eqv, forall_eq, Act.put, List.length_cons, List.length_nil, List.drop_succ_cons, List.drop_zero, Nat.reduceAdd, List.setIfInBounds_toArray, List.set_cons_succ, List.set_cons_zero]
   have HS := Lib.hid (HS.out.below hC)
   clear hC
   gi_wp2
   have p0 := cell_of_block (k := 0) (HS.out.blockAt 1 rfl) rfl
   have p1 := cell_of_block (k := 1) (HS.out.blockAt 1 rfl) rfl
   have b1 := (HS.out.low.cell (p := ⟨Bs, 0, none⟩) HB.out.1).trans HH.out.1
   have b2 := (HS.out.low.cell (p := ⟨Bt, 0, none⟩) HB.out.2.1).trans HH.out.2.1
   have hs4 : w4.heap[S]? = _ := (HS.out.low.block S HB.out.2.2).trans HH.out.2.2
   have HG := Lib.hid (HG0.out w4 v (HCA.out.recut ((Turned.refl _ _).belowT HS.out.low) (Nat.le_of_lt HB.out.2.2)) hs4)
   clear hs4
   go_wp2_with fail
   clear p0 p1 b1 b2
   refine HG.out.mono ?_
   rintro e w5 ⟨⟨u, rfl⟩, ⟨v', hs5⟩, ht5⟩
   have hp5 := (ht5.block w.heap.size (HS.out.lt 1 rfl) (by have := HB.out.2.2; omega)).trans (HS.out.blockAt 1 rfl)
   have hr5 := (ht5.block (w.heap.size + 1) (HS.out.lt 0 rfl) (by have := HB.out.2.2; omega)).trans (HS.out.blockAt 0 rfl)
   have HT5 := Lib.hid (((Turned.refl (fun j => j = S) w).belowT HS.out.low).trans ht5)
   have HS5 := Lib.hid hs5
   have HR5 := Lib.hid hr5
   have p0 := cell_of_block (k := 0) hp5 rfl
   have p1 := cell_of_block (k := 1) hp5 rfl
   have r0 := cell_of_block (k := 0) hr5 rfl
   have r1 := cell_of_block (k := 1) hr5 rfl
   have f0 := free_of_block hr5
   clear hs5 ht5 hp5 hr5 HG
   go_wp2_with fail
   have hq := heap_set_same (heap_set_same HR5.out (k := 0) (.int .i64 x)) (k := 1) (.int .i64 y)
   have k0 := cell_of_block (k := 0) hq rfl
   have k1 := cell_of_block (k := 1) hq rfl
   have hne : w.heap.size + 1 ≠ S := by have := HB.out.2.2; omega
   have hs6 := heap_set_other (heap_set_other HS5.out hne (k := 0) (.int .i64 x)) hne (k := 1) (.int .i64 y)
   have ht6 := ((HT5.out.mono (S' := fun j => j = S) (fun j _ hj => by rcases hj with hj | hj <;> exact hj)).setNew (w.heap.size + 1) 0 (.inl (Nat.le_succ _)) (.int .i64 x)).setNew (w.heap.size + 1) 1 (.inl (Nat.le_succ _)) (.int .i64 y)
   refine bodyPost_ret (v := .tuple #[.agg #[.int .i64 x, .int .i64 y], .bool true]) (by simp [results, Tryz.results41, go_sem, k0, k1]) rfl ⟨rfl, ⟨v', hs6⟩, ht6⟩
end Go.Proofs.YtodpkgbpcpfamaaGreat
