/- Merged texts: Meet ShP ShN ShM. -/
import Derived.Test.YtodpkgbpcpfamaaGreatM9
import Derived.Test.YtodpkgbpcpfamaaGreatM1
import Derived.Maps.AppendAt
import Derived.Maps.OwnSet
import Derived.Maps.RangeWalk
/- Layer 8: meet. -/
namespace Go.Proofs.YtodpkgbpcpfamaaGreat
set_option linter.unusedSimpArgs false
set_option linter.unusedVariables false
open Go.RowKit Go.Shelf
attribute [local go_sem] Oper.semAt_some

/-- A row's block behind an append: the same, or a new one. -/
def LocS (v v' : Value) (n : Nat) : Prop := v'.ownBlock = v.ownBlock ∨ ∃ g, v'.ownBlock = some g ∧ n ≤ g
/-- As long as a flag is down. -/
def KeepsIfS (b : Bool) (p : Prop) : Prop := b = false → p
theorem SeaS.ownNe {y0 : World} {pre post : List It} {bs : List Nat} {base S c : Nat} {W H : Int} {s : Bf} {v : Value} {x : World} (h : SeaS y0 pre post bs base S c W H s v x) : ∀ j, v.ownBlock = some j → S < j ∧ base ≤ j ∧ j < x.heap.size := fun j hj => by
 have h1 := h.o.row.lt j hj
 have h2 := h.o.top (.blk S (seaO c W H s.m v)) (List.mem_append.2 (.inr (by simp)))
 simp only [It.top] at h2
 omega
theorem SeaS.app {y0 : World} {pre post : List It} {bs : List Nat} {base S c : Nat} {W H : Int} {m : Nat → Nat} {l : List PtT} {v v' : Value} {x y : World} (h : SeaS y0 pre post bs base S c W H ⟨m, l⟩ v x) (hbs : ∀ b ∈ bs, b < x.heap.size) (p : PtT)
 (hg : x.grownBy y v.ownBlock) (hr : y.ownsRow base 33 2 v' (l ++ [p]).length ((l ++ [p]).flatMap encP)) (hl : LocS v v' x.heap.size) : SeaS y0 pre post bs base S c W H ⟨m, l ++ [p]⟩ v' (y.setCell ⟨S, 1027, none⟩ v') := by
 have hst : St (cutW y0 S) (pre ++ .blk S (seaO c W H m v) :: post) y := h.o.st.grown (fun j e => (h.o.row.lt j e).1) h.o.low h.o.top hg
 have hlt : ∀ j, v'.ownBlock = some j → j ≠ S := fun j hj e => by
  have h1 := (hr.lt j hj).1
  have h2 := h.o.top (.blk S (seaO c W H m v)) (List.mem_append.2 (.inr (by simp)))
  simp only [It.top] at h2
  omega
 refine ⟨⟨hst.putAt h.hp 1027 _ (seaA_setv c W H m v v'), ?_, h.o.low, fun i hi => ?_, by rw [World.size_setCell]; exact Nat.le_trans h.o.hi hg.size⟩, fun j hj hm => ?_, ?_, h.hp, h.y0s⟩
 · refine ⟨hr.1, ?_⟩
   rcases hr.2 with h1 | ⟨g, cap, cur, rfl, h2, h3, h4⟩
   · exact .inl h1
   · exact .inr ⟨g, cap, cur, rfl, h2, (Below.heap_setCell y ⟨S, 1027, none⟩ _ g (hlt g rfl)).trans h3, h4⟩
 · rcases List.mem_append.1 hi with h1 | h1
   · exact h.o.top i (List.mem_append.2 (.inl h1))
   · rcases List.mem_cons.1 h1 with rfl | h1
     · have h2 := h.o.top (.blk S (seaO c W H m v)) (List.mem_append.2 (.inr (by simp)))
       simp only [It.top] at h2 ⊢
       exact h2
     · exact h.o.top i (List.mem_append.2 (.inr (by simp [h1])))
 · rcases hl with e | ⟨g, e, hge⟩
   · rw [e] at hj; exact h.nb j hj hm
   · rw [e] at hj; cases hj; have := hbs _ hm; omega
 · refine ((h.tu.trans (Turned.of_grown hg)).trans (Turned.of_grown (grownBy_setCellAt y S 1027 v'))).mono fun j hj hd => ?_
   rcases hd with (hd | hd) | hd
   · exact hd
   · have := (h.o.row.lt j hd.symm).1; have := h.y0s; omega
   · exact Option.some.inj hd
/-- What a step of a search leaves alone. -/
theorem SeaS.keeps {y0 : World} {pre post : List It} {bs : List Nat} {base S c : Nat} {W H : Int} {s : Bf} {v : Value} {x y : World} (h : SeaS y0 pre post bs base S c W H s v x) (hbs : ∀ b ∈ bs, b < x.heap.size) (hSb : S ∉ bs) (ht : Turned (fun j => j = S ∨ v.ownBlock = some j) x y) : KeepsAt bs x y ∧ KeepsOthers x y := by
 refine ⟨fun b hb => ht.block b (hbs b hb) fun hd => ?_, ht.size, fun j o hj ho => (ht.block j (block_lt hj) fun hd => ?_).trans hj⟩
 · rcases hd with rfl | hd
   · exact hSb hb
   · exact h.nb b hd hb
 · rcases hd with rfl | hd
   · rw [h.at_] at hj; cases hj; cases ho
   · rcases h.o.row.2 with ⟨h1, -⟩ | ⟨g, cap, cur, h1, h2, h3, -⟩
     · rw [h1] at hd; cases hd
     · rw [h1] at hd
       obtain rfl : g = j := by simpa [Value.ownBlock] using hd
       rw [h3] at hj; cases hj; cases ho

set_option maxRecDepth 100000 in
set_option maxHeartbeats 1000000 in
theorem meet_any (y0 : World) (pre post : List It) (bs : List Nat) (base S c : Nat) (W H : Int) (s : Bf) (v : Value) (w : World) (hS : SeaS y0 pre post bs base S c W H s v w) (hbs : ∀ b ∈ bs, b < w.heap.size) (hW : W ≤ 32) (hH : H ≤ 32) (p : PtT) (hp : onB W H p = true) (k : Nat) (hk : k < 1000000) (hl : s.l.length < 1000000) :
 Calls Tryz.prog 44 #[.pointer (some ⟨S, 0, none⟩), p.val, .int .i64 k] w fun e w' => e = .returned (.tuple #[]) ∧ (∃ v', SeaS y0 pre post bs base S c W H (s.meet p k) v' w' ∧ LocS v v' w.heap.size) ∧ Turned (fun j => j = S ∨ v.ownBlock = some j) w w' := by
 have hi := ixP_lt hW hH hp
 obtain ⟨⟨hx0, hxW⟩, hy0, hyH⟩ := onB_iff.1 hp
 obtain ⟨pp, hpp⟩ : ∃ pp, pp = p := ⟨_, rfl⟩
 have HPP := Lib.hid hpp
 rw [← hpp]
 rw [← hpp] at hi
 obtain ⟨x, y⟩ := p
 obtain ⟨m, l⟩ := s
 simp only at hx0 hxW hy0 hyH hl
 obtain ⟨x, rfl⟩ := Int.eq_ofNat_of_zero_le hx0
 obtain ⟨y, rfl⟩ := Int.eq_ofNat_of_zero_le hy0
 have hxy : y < 32 ∧ x < 32 := by omega
 have hix : ixP pp = y * 32 + x := by rw [hpp]; unfold ixP; simp only; omega
 have hpv : pp.val = .agg #[.int .i64 x, .int .i64 y] := by rw [hpp]; rfl
 have hpe : encP pp = [.int .i64 x, .int .i64 y] := by rw [hpp]; rfl
 unfold Bf.meet
 rw [hix] at hi ⊢
 rw [hpv]
 simp only
 have HH := Lib.hid hS
 have HB := Lib.hid (And.intro hbs (And.intro hk hl))
 have HXY := Lib.hid hxy
 have HI := Lib.hid hi
 have HA := Lib.hid hS.at_
 have HPE := Lib.hid hpe
 have HS := Lib.hid (St.start w)
 clear hS hbs hp hx0 hxW hy0 hyH hix hk hl hW hH hpp hpv hpe HPP
 obtain ⟨mv, hmv⟩ : ∃ mv, m (y * 32 + x) = mv := ⟨_, rfl⟩
 rw [hmv]
 have HMV := Lib.hid hmv
 have x1 : x < 32 := hxy.2
 have x2 : y < 32 := hxy.1
 clear hmv hxy hi
 cases mv with
 | succ mv =>
  rw [if_neg (Nat.succ_ne_zero mv)]
  go_enter Tryz.func44, Tryz.ntmps44
  repeat ((fail_if_success (with_reducible refine stop_at (id := 1) ?_)); (first | go_values | go_skip | go_guarded | go_step | go_upon | go_back | (simp only [Int.not_lt, Int.not_le] at *; go_simp) | (go_values <;> (try go_simp)) | (go_ite <;> go_prune <;> (try go_simp)) | (split <;> (first | (rename_i hx; exact (hx _ rfl).elim) | go_prune))))
  have hs_ := (HS.out.alloc (.cells #[.int .i64 x, .int .i64 y] 33))
  obtain ⟨w1, hw_⟩ : ∃ w1 : World, (w.alloc (.cells #[.int .i64 x, .int .i64 y] 33)) = w1 := ⟨_, rfl⟩
  rw [hw_] at hs_
  try simp only [World.size_alloc] at hs_
  have HS := Lib.hid hs_
  rw [hw_]
  clear hw_ hs_
  refine (wpIn_wide (n := 0)).1 ?_
  apply wp_region_vals 11 (Rl := [(eqv _), (eqv _), (eqv _), (eqv _), (eqv _), (eqv _), (eqv _), (eqv _), (eqv _), (eqv _), (eqv _)]) (C := (fun x y => Below x.heap.size x y))
  case hm => kernel_rfl
  case hk => rfl
  case hCr => exact (fun _ => Below.refl _ _)
  case hCt => intro _ _ _; exact (fun h k => grows_trans h k)
  case hst => exact ⟨fun _ _ _ _ h => h, fun _ _ _ _ h => h, fun _ _ _ _ h => h, fun _ _ _ _ h => h, fun _ _ _ _ h => h, fun _ _ _ _ h => h, fun _ _ _ _ h => h, fun _ _ _ _ h => h, fun _ _ _ _ h => h, fun _ _ _ _ h => h, fun _ _ _ _ h => h, trivial⟩
  case hfo => kernel_rfl
  case ht => kernel_rfl
  case hC0 => exact (grows_drew _)
  case hsteps =>
   refine ⟨?_, ?_, ?_, ?_, ?_, ?_, ?_, ?_, ?_, ?_, ?_, trivial⟩
   · intro a' w' hA hC hD; have s0 : a'.tmps[0]? = some _ := (hA.at 0 (by kernel_rfl)).trans rfl; clear hA hD; refine stepOk_plain rfl ?_; intro K hK; gi_wp2; exact hK _ _ rfl ((fun _ => Below.refl _ _) _)
   · intro a' w' hA hC hD; have s4 : a'.tmps[4]? = some _ := (hA.at 4 (by kernel_rfl)).trans rfl; clear hA hD; refine stepOk_plain rfl ?_; intro K hK; gi_wp2; exact hK _ _ rfl ((fun _ => Below.refl _ _) _)
   · intro a' w' hA hC hD; obtain ⟨u7, s7, r7⟩ := hD ⟨1, .data⟩ (by simp) rfl _ rfl; replace r7 : u7 = _ := r7; subst r7
     have h1_ := (HS.out.below hC).blockAt 0 rfl; have c1_0 := cell_of_block (k := 0) h1_ rfl; have c1_1 := cell_of_block (k := 1) h1_ rfl; clear h1_
     clear hA hD; refine stepOk_plain rfl ?_; intro K hK; gi_wp2; exact hK _ _ rfl ((fun _ => Below.refl _ _) _)
   · intro a' w' hA hC hD; have s4 : a'.tmps[4]? = some _ := (hA.at 4 (by kernel_rfl)).trans rfl; clear hA hD; refine stepOk_plain rfl ?_; intro K hK; gi_wp2; exact hK _ _ rfl ((fun _ => Below.refl _ _) _)
   · intro a' w' hA hC hD; obtain ⟨u9, s9, r9⟩ := hD ⟨3, .data⟩ (by simp) rfl _ rfl; replace r9 : u9 = _ := r9; subst r9
     have h1_ := (HS.out.below hC).blockAt 0 rfl; have c1_0 := cell_of_block (k := 0) h1_ rfl; have c1_1 := cell_of_block (k := 1) h1_ rfl; clear h1_
     clear hA hD; refine stepOk_plain rfl ?_; intro K hK; gi_wp2; exact hK _ _ rfl ((fun _ => Below.refl _ _) _)
   · intro a' w' hA hC hD; obtain ⟨u6, s6, r6⟩ := hD ⟨0, .data⟩ (by simp) rfl _ rfl; replace r6 : u6 = _ := r6; subst r6; clear hA hD; refine stepOk_plain rfl ?_; intro K hK; gi_wp2; exact hK _ _ rfl ((fun _ => Below.refl _ _) _)
   · intro a' w' hA hC hD; obtain ⟨u11, s11, r11⟩ := hD ⟨5, .data⟩ (by simp) rfl _ rfl; replace r11 : u11 = _ := r11; subst r11; clear hA hD; refine stepOk_plain rfl ?_; intro K hK; gi_wp2; exact hK _ _ rfl ((fun _ => Below.refl _ _) _)
   · intro a' w' hA hC hD; obtain ⟨u12, s12, r12⟩ := hD ⟨6, .data⟩ (by simp) rfl _ rfl; replace r12 : u12 = _ := r12; subst r12; obtain ⟨u8, s8, r8⟩ := hD ⟨2, .data⟩ (by simp) rfl _ rfl; replace r8 : u8 = _ := r8; subst r8; clear hA hD; refine stepOk_plain rfl ?_; intro K hK; gi_wp2; exact hK _ _ rfl ((fun _ => Below.refl _ _) _)
   · intro a' w' hA hC hD; obtain ⟨u13, s13, r13⟩ := hD ⟨7, .data⟩ (by simp) rfl _ rfl; replace r13 : u13 = _ := r13; subst r13; obtain ⟨u10, s10, r10⟩ := hD ⟨4, .data⟩ (by simp) rfl _ rfl; replace r10 : u10 = _ := r10; subst r10; clear hA hD; refine stepOk_plain rfl ?_; intro K hK; gi_wp2; exact hK _ _ rfl ((fun _ => Below.refl _ _) _)
   · intro a' w' hA hC hD; obtain ⟨u14, s14, r14⟩ := hD ⟨8, .data⟩ (by simp) rfl _ rfl; replace r14 : u14 = _ := r14; subst r14
     have c1 := cell_of_block (((HS.out.below hC).low.block S (block_lt HA.out)).trans HA.out) (seaA_met c W H m v (i := y * 32 + x) HI.out); rw [← Nat.add_assoc, HMV.out] at c1
     clear hA hD; refine stepOk_plain rfl ?_; intro K hK; gi_wp2; exact hK _ _ rfl ((fun _ => Below.refl _ _) _)
   · intro a' w' hA hC hD; obtain ⟨u15, s15, r15⟩ := hD ⟨9, .data⟩ (by simp) rfl _ rfl; replace r15 : u15 = _ := r15; subst r15; clear hA hD; refine stepOk_plain rfl ?_; intro K hK; gi_wp2; exact hK _ _ rfl ((fun _ => Below.refl _ _) _)
  case hend =>
   intro w4 hC
   simp only [EndFrom, eqv, forall_eq, Act.put, List.length_cons, List.length_nil, List.drop_succ_cons, List.drop_zero, Nat.reduceAdd, List.setIfInBounds_toArray, List.set_cons_succ, List.set_cons_zero]
   have HS := Lib.hid (HS.out.below hC)
   clear hC
   have hne : decide (((mv : Int) + 1) = 0) = false := by simp; omega
   gi_wp2
   go_wp2_with fail
   go_end0
   exact ⟨rfl, ⟨v, HH.out.below HS.out.low, .inl rfl⟩, (Turned.of_grown (below_grown HS.out.low)).mono fun j _ hj => (by cases hj)⟩
 | zero =>
  rw [if_pos rfl]
  obtain ⟨vf, hvf⟩ : ∃ vf : Unit → Value, v = vf () := ⟨fun _ => v, rfl⟩
  subst hvf
  have HNB := Lib.hid HH.out.ownNe
  obtain ⟨m', hm'⟩ : ∃ m' : Nat → Nat, (fun i => if i = y * 32 + x then k + 1 else m i) = m' := ⟨_, rfl⟩
  rw [hm']
  have HM := Lib.hid hm'
  clear hm'
  go_enter Tryz.func44, Tryz.ntmps44
  repeat ((fail_if_success (with_reducible refine stop_at (id := 1) ?_)); (first | go_values | go_skip | go_guarded | go_step | go_upon | go_back | (simp only [Int.not_lt, Int.not_le] at *; go_simp) | (go_values <;> (try go_simp)) | (go_ite <;> go_prune <;> (try go_simp)) | (split <;> (first | (rename_i hx; exact (hx _ rfl).elim) | go_prune))))
  have hs_ := (HS.out.alloc (.cells #[.int .i64 x, .int .i64 y] 33))
  obtain ⟨w1, hw_⟩ : ∃ w1 : World, (w.alloc (.cells #[.int .i64 x, .int .i64 y] 33)) = w1 := ⟨_, rfl⟩
  rw [hw_] at hs_
  try simp only [World.size_alloc] at hs_
  have HS := Lib.hid hs_
  rw [hw_]
  clear hw_ hs_
  refine (wpIn_wide (n := 0)).1 ?_
  apply wp_region_vals 11 (Rl := [(eqv _), (eqv _), (eqv _), (eqv _), (eqv _), (eqv _), (eqv _), (eqv _), (eqv _), (eqv _), (eqv _)]) (C := (fun x y => Below x.heap.size x y))
  case hm => kernel_rfl
  case hk => rfl
  case hCr => exact (fun _ => Below.refl _ _)
  case hCt => intro _ _ _; exact (fun h k => grows_trans h k)
  case hst => exact ⟨fun _ _ _ _ h => h, fun _ _ _ _ h => h, fun _ _ _ _ h => h, fun _ _ _ _ h => h, fun _ _ _ _ h => h, fun _ _ _ _ h => h, fun _ _ _ _ h => h, fun _ _ _ _ h => h, fun _ _ _ _ h => h, fun _ _ _ _ h => h, fun _ _ _ _ h => h, trivial⟩
  case hfo => kernel_rfl
  case ht => kernel_rfl
  case hC0 => exact (grows_drew _)
  case hsteps =>
   refine ⟨?_, ?_, ?_, ?_, ?_, ?_, ?_, ?_, ?_, ?_, ?_, trivial⟩
   · intro a' w' hA hC hD; have s0 : a'.tmps[0]? = some _ := (hA.at 0 (by kernel_rfl)).trans rfl; clear hA hD; refine stepOk_plain rfl ?_; intro K hK; gi_wp2; exact hK _ _ rfl ((fun _ => Below.refl _ _) _)
   · intro a' w' hA hC hD; have s4 : a'.tmps[4]? = some _ := (hA.at 4 (by kernel_rfl)).trans rfl; clear hA hD; refine stepOk_plain rfl ?_; intro K hK; gi_wp2; exact hK _ _ rfl ((fun _ => Below.refl _ _) _)
   · intro a' w' hA hC hD; obtain ⟨u7, s7, r7⟩ := hD ⟨1, .data⟩ (by simp) rfl _ rfl; replace r7 : u7 = _ := r7; subst r7
     have h1_ := (HS.out.below hC).blockAt 0 rfl; have c1_0 := cell_of_block (k := 0) h1_ rfl; have c1_1 := cell_of_block (k := 1) h1_ rfl; clear h1_
     clear hA hD; refine stepOk_plain rfl ?_; intro K hK; gi_wp2; exact hK _ _ rfl ((fun _ => Below.refl _ _) _)
   · intro a' w' hA hC hD; have s4 : a'.tmps[4]? = some _ := (hA.at 4 (by kernel_rfl)).trans rfl; clear hA hD; refine stepOk_plain rfl ?_; intro K hK; gi_wp2; exact hK _ _ rfl ((fun _ => Below.refl _ _) _)
   · intro a' w' hA hC hD; obtain ⟨u9, s9, r9⟩ := hD ⟨3, .data⟩ (by simp) rfl _ rfl; replace r9 : u9 = _ := r9; subst r9
     have h1_ := (HS.out.below hC).blockAt 0 rfl; have c1_0 := cell_of_block (k := 0) h1_ rfl; have c1_1 := cell_of_block (k := 1) h1_ rfl; clear h1_
     clear hA hD; refine stepOk_plain rfl ?_; intro K hK; gi_wp2; exact hK _ _ rfl ((fun _ => Below.refl _ _) _)
   · intro a' w' hA hC hD; obtain ⟨u6, s6, r6⟩ := hD ⟨0, .data⟩ (by simp) rfl _ rfl; replace r6 : u6 = _ := r6; subst r6; clear hA hD; refine stepOk_plain rfl ?_; intro K hK; gi_wp2; exact hK _ _ rfl ((fun _ => Below.refl _ _) _)
   · intro a' w' hA hC hD; obtain ⟨u11, s11, r11⟩ := hD ⟨5, .data⟩ (by simp) rfl _ rfl; replace r11 : u11 = _ := r11; subst r11; clear hA hD; refine stepOk_plain rfl ?_; intro K hK; gi_wp2; exact hK _ _ rfl ((fun _ => Below.refl _ _) _)
   · intro a' w' hA hC hD; obtain ⟨u12, s12, r12⟩ := hD ⟨6, .data⟩ (by simp) rfl _ rfl; replace r12 : u12 = _ := r12; subst r12; obtain ⟨u8, s8, r8⟩ := hD ⟨2, .data⟩ (by simp) rfl _ rfl; replace r8 : u8 = _ := r8; subst r8; clear hA hD; refine stepOk_plain rfl ?_; intro K hK; gi_wp2; exact hK _ _ rfl ((fun _ => Below.refl _ _) _)
   · intro a' w' hA hC hD; obtain ⟨u13, s13, r13⟩ := hD ⟨7, .data⟩ (by simp) rfl _ rfl; replace r13 : u13 = _ := r13; subst r13; obtain ⟨u10, s10, r10⟩ := hD ⟨4, .data⟩ (by simp) rfl _ rfl; replace r10 : u10 = _ := r10; subst r10; clear hA hD; refine stepOk_plain rfl ?_; intro K hK; gi_wp2; exact hK _ _ rfl ((fun _ => Below.refl _ _) _)
   · intro a' w' hA hC hD; obtain ⟨u14, s14, r14⟩ := hD ⟨8, .data⟩ (by simp) rfl _ rfl; replace r14 : u14 = _ := r14; subst r14
     have c1 := cell_of_block (((HS.out.below hC).low.block S (block_lt HA.out)).trans HA.out) (seaA_met c W H m (vf ()) (i := y * 32 + x) HI.out); rw [← Nat.add_assoc, HMV.out] at c1
     clear hA hD; refine stepOk_plain rfl ?_; intro K hK; gi_wp2; exact hK _ _ rfl ((fun _ => Below.refl _ _) _)
   · intro a' w' hA hC hD; obtain ⟨u15, s15, r15⟩ := hD ⟨9, .data⟩ (by simp) rfl _ rfl; replace r15 : u15 = _ := r15; subst r15; clear hA hD; refine stepOk_plain rfl ?_; intro K hK; gi_wp2; exact hK _ _ rfl ((fun _ => Below.refl _ _) _)
  case hend =>
   intro w2 hC
   simp only [EndFrom, eqv, forall_eq, Act.put, List.length_cons, List.length_nil, List.drop_succ_cons, List.drop_zero, Nat.reduceAdd, List.setIfInBounds_toArray, List.set_cons_succ, List.set_cons_zero]
   have HS := Lib.hid (HS.out.below hC)
   clear hC
   gi_wp2
   repeat ((fail_if_success (with_reducible refine stop_at (id := 2) ?_)); (first | go_values | go_skip | go_guarded | go_step | go_upon | go_back | (simp only [Int.not_lt, Int.not_le] at *; go_simp) | (go_values <;> (try go_simp)) | (go_ite <;> go_prune <;> (try go_simp)) | (split <;> (first | (rename_i hx; exact (hx _ rfl).elim) | go_prune))))
   have e1 : wrap64 ((k : Int) + 1) = ((k + 1 : Nat) : Int) := by have := HB.out; unfold wrap64; omega
   refine (wpIn_wide (n := 0)).1 ?_
   apply wp_region_vals 11 (Rl := [(eqv _), (eqv _), (eqv _), (eqv _), (eqv _), (eqv _), (eqv _), (eqv _), (eqv _), (eqv _), (eqv _)]) (C := (fun x y => Below x.heap.size x y))
   case hm => kernel_rfl
   case hk => rfl
   case hCr => exact (fun _ => Below.refl _ _)
   case hCt => intro _ _ _; exact (fun h k => grows_trans h k)
   case hst => exact ⟨fun _ _ _ _ h => h, fun _ _ _ _ h => h, fun _ _ _ _ h => h, fun _ _ _ _ h => h, fun _ _ _ _ h => h, fun _ _ _ _ h => h, fun _ _ _ _ h => h, fun _ _ _ _ h => h, fun _ _ _ _ h => h, fun _ _ _ _ h => h, fun _ _ _ _ h => h, trivial⟩
   case hfo => kernel_rfl
   case ht => kernel_rfl
   case hC0 => exact (grows_drew _)
   case hsteps =>
    refine ⟨?_, ?_, ?_, ?_, ?_, ?_, ?_, ?_, ?_, ?_, ?_, trivial⟩
    · intro a' w' hA hC hD; have s0 : a'.tmps[0]? = some _ := (hA.at 0 (by kernel_rfl)).trans rfl; clear hA hD; refine stepOk_plain rfl ?_; intro K hK; gi_wp2; exact hK _ _ rfl ((fun _ => Below.refl _ _) _)
    · intro a' w' hA hC hD; have s4 : a'.tmps[4]? = some _ := (hA.at 4 (by kernel_rfl)).trans rfl; clear hA hD; refine stepOk_plain rfl ?_; intro K hK; gi_wp2; exact hK _ _ rfl ((fun _ => Below.refl _ _) _)
    · intro a' w' hA hC hD; obtain ⟨u18, s18, r18⟩ := hD ⟨1, .data⟩ (by simp) rfl _ rfl; replace r18 : u18 = _ := r18; subst r18
      have h1_ := (HS.out.below hC).blockAt 0 rfl; have c1_0 := cell_of_block (k := 0) h1_ rfl; have c1_1 := cell_of_block (k := 1) h1_ rfl; clear h1_
      clear hA hD; refine stepOk_plain rfl ?_; intro K hK; gi_wp2; exact hK _ _ rfl ((fun _ => Below.refl _ _) _)
    · intro a' w' hA hC hD; have s4 : a'.tmps[4]? = some _ := (hA.at 4 (by kernel_rfl)).trans rfl; clear hA hD; refine stepOk_plain rfl ?_; intro K hK; gi_wp2; exact hK _ _ rfl ((fun _ => Below.refl _ _) _)
    · intro a' w' hA hC hD; obtain ⟨u20, s20, r20⟩ := hD ⟨3, .data⟩ (by simp) rfl _ rfl; replace r20 : u20 = _ := r20; subst r20
      have h1_ := (HS.out.below hC).blockAt 0 rfl; have c1_0 := cell_of_block (k := 0) h1_ rfl; have c1_1 := cell_of_block (k := 1) h1_ rfl; clear h1_
      clear hA hD; refine stepOk_plain rfl ?_; intro K hK; gi_wp2; exact hK _ _ rfl ((fun _ => Below.refl _ _) _)
    · intro a' w' hA hC hD; have s2 : a'.tmps[2]? = some _ := (hA.at 2 (by kernel_rfl)).trans rfl; clear hA hD; refine stepOk_plain rfl ?_; intro K hK; gi_wp2; exact hK _ _ rfl ((fun _ => Below.refl _ _) _)
    · intro a' w' hA hC hD; obtain ⟨u22, s22, r22⟩ := hD ⟨5, .data⟩ (by simp) rfl _ rfl; replace r22 : u22 = _ := r22; subst r22; clear hA hD; refine stepOk_plain rfl ?_; intro K hK; gi_wp2; exact hK _ _ rfl ((fun _ => Below.refl _ _) _)
    · intro a' w' hA hC hD; obtain ⟨u17, s17, r17⟩ := hD ⟨0, .data⟩ (by simp) rfl _ rfl; replace r17 : u17 = _ := r17; subst r17; clear hA hD; refine stepOk_plain rfl ?_; intro K hK; gi_wp2; exact hK _ _ rfl ((fun _ => Below.refl _ _) _)
    · intro a' w' hA hC hD; obtain ⟨u24, s24, r24⟩ := hD ⟨7, .data⟩ (by simp) rfl _ rfl; replace r24 : u24 = _ := r24; subst r24; clear hA hD; refine stepOk_plain rfl ?_; intro K hK; gi_wp2; exact hK _ _ rfl ((fun _ => Below.refl _ _) _)
    · intro a' w' hA hC hD; obtain ⟨u25, s25, r25⟩ := hD ⟨8, .data⟩ (by simp) rfl _ rfl; replace r25 : u25 = _ := r25; subst r25; obtain ⟨u19, s19, r19⟩ := hD ⟨2, .data⟩ (by simp) rfl _ rfl; replace r19 : u19 = _ := r19; subst r19; clear hA hD; refine stepOk_plain rfl ?_; intro K hK; gi_wp2; exact hK _ _ rfl ((fun _ => Below.refl _ _) _)
    · intro a' w' hA hC hD; obtain ⟨u26, s26, r26⟩ := hD ⟨9, .data⟩ (by simp) rfl _ rfl; replace r26 : u26 = _ := r26; subst r26; obtain ⟨u21, s21, r21⟩ := hD ⟨4, .data⟩ (by simp) rfl _ rfl; replace r21 : u21 = _ := r21; subst r21; clear hA hD; refine stepOk_plain rfl ?_; intro K hK; gi_wp2; exact hK _ _ rfl ((fun _ => Below.refl _ _) _)
   case hend =>
    intro w3 hC
    simp only [EndFrom, eqv, forall_eq, Act.put, List.length_cons, List.length_nil, List.drop_succ_cons, List.drop_zero, Nat.reduceAdd, List.setIfInBounds_toArray, List.set_cons_succ, List.set_cons_zero]
    have HS := Lib.hid (HS.out.below hC)
    clear hC
    have hb3 := (HS.out.low.block S (block_lt HA.out)).trans HA.out
    have f1 := free_of_block hb3 (3 + y * 32 + x)
    have c1 := cell_of_block hb3 (seaA_met c W H m (vf ()) (i := y * 32 + x) HI.out)
    rw [← Nat.add_assoc, HMV.out] at c1
    have hput := (HH.out.below HS.out.low).put (k := y * 32 + x) HI.out (k + 1)
    rw [← Nat.add_assoc, show ((k + 1 : Nat) : Int) = (k : Int) + 1 from rfl] at hput
    have hq := (heap_set_other (HS.out.blockAt 0 rfl) (b' := S) (k := 3 + y * 32 + x) (by have := block_lt HA.out; omega) (.int .i64 ((k : Int) + 1)))
    have ht4 : Turned (fun j => j = S) w (w3.setCell ⟨S, 3 + y * 32 + x, none⟩ (.int .i64 ((k : Int) + 1))) := ((Turned.of_grown (below_grown HS.out.low)).trans (Turned.of_grown (grownBy_setCellAt w3 S (3 + y * 32 + x) (.int .i64 ((k : Int) + 1))))).mono fun j _ hj => (by rcases hj with hj | hj; cases hj; exact Option.some.inj hj)
    clear hb3
    gi_wp2; clear f1 c1
    generalize hw4 : w3.setCell ⟨S, 3 + y * 32 + x, none⟩ (.int .i64 ((k : Int) + 1)) = w4 at hput hq ht4 ⊢
    clear hw4 e1
    have HH4 := Lib.hid hput
    have HQ := Lib.hid hq
    have HT4 := Lib.hid ht4
    have HNB := Lib.hid hput.ownNe
    have HB4 : Hid (∀ b ∈ bs, b < w4.heap.size) := Lib.hid fun b hb => Nat.lt_of_lt_of_le (HB.out.1 b hb) ht4.size
    rw [HM.out] at HH4
    have HNE := Lib.hid (fun j (hj : (vf ()).ownBlock = some j) => show j ≠ w.heap.size from fun e => by have := (HNB.out j hj).2; have h5 := (HH.out.ownNe j hj).2.2; omega)
    clear hput hq ht4
    obtain ⟨pq, hpq⟩ : ∃ pq, w.heap.size = pq := ⟨_, rfl⟩
    rw [hpq] at HQ HNE
    simp only [hpq]
    repeat ((fail_if_success (with_reducible refine stop_at (id := 3) ?_)); (first | go_values | go_skip | go_guarded | go_step | go_upon | go_back | (simp only [Int.not_lt, Int.not_le] at *; go_simp) | (go_values <;> (try go_simp)) | (go_ite <;> go_prune <;> (try go_simp)) | (split <;> (first | (rename_i hx; exact (hx _ rfl).elim) | go_prune))))
    have HS := Lib.hid (St.start w4)
    have HSB := Lib.hid (fun w' (hC : w4.grownBy w' (vf ()).ownBlock) => (hC.block S (block_lt HH4.out.at_) (fun e => by have := (HNB.out _ e.symm).1; omega)).trans HH4.out.at_)
    have HPB := Lib.hid (fun w' (hC : w4.grownBy w' (vf ()).ownBlock) => (hC.block pq (block_lt HQ.out) (fun e => HNE.out _ e.symm rfl)).trans HQ.out)
    obtain ⟨i0, hi, hz0, hz1, hz2⟩ := info_parts infoP
    have HIN := Lib.hid (And.intro hi (And.intro hz0 (And.intro hz1 hz2)))
    clear hi hz0 hz1 hz2
    refine (wpIn_wide (n := 0)).1 ?_
    apply wp_region_store 8 7 (fun b_ w_ => KeepsIfS b_ (w_.ownsRow base 33 2 (vf ()) l.length (l.flatMap encP))) (Rl := [(eqv _), (eqv _), (eqv _), (eqv _), (eqv _), (eqv _), (fun v_ w_ => ∃ b, v_ = .slice (some ⟨b, 0, none⟩) 1 1 ∧ (vf ()).ownBlock ≠ some b ∧ w_.heap[b]? = some (.cells #[.int .i64 x, .int .i64 y] 33 (0, 0))), (fun v_ w_ => w_.ownsRow base 33 2 v_ (l ++ [pp]).length ((l ++ [pp]).flatMap encP) ∧ LocS (vf ()) v_ w4.heap.size)]) (C := (fun x y => x.grownBy y (vf ()).ownBlock)) (C0 := (fun x y => Below x.heap.size x y))
    case hm => kernel_rfl
    case hk => rfl
    case hCr => exact (fun x => World.grownBy.refl x _)
    case hCt => intro _ _ _; exact (fun h k => grownTrans h k)
    case h00 => exact (fun x => Below.refl _ x)
    case h0C => intro _ _; exact fun h => ⟨h.os, h.tape, h.output, h.size, fun k hk _ => h.block k hk⟩
    case hst => exact ⟨fun _ _ _ _ h => h, fun _ _ _ _ h => h, fun _ _ _ _ h => h, fun _ _ _ _ h => h, fun _ _ _ _ h => h, fun _ _ _ _ h => h, fun v x y hC ⟨b, h1, h2, h3⟩ => ⟨b, h1, h2, (hC.block b (block_lt h3) h2.symm).trans h3⟩, fun v x y hC ⟨h1, h2⟩ => ⟨ownsRow_below h1 hC, h2⟩, trivial⟩
    case hfo => kernel_rfl
    case ht => kernel_rfl
    case hC0 => exact (⟨rfl, rfl, rfl, Nat.le_refl _, fun _ _ _ => rfl⟩)
    case hsk => decide
    case hso => decide
    case hsg => rfl
    case hsteps =>
     refine ⟨?_, ?_, ?_, ?_, ?_, ?_, ?_, ?_, trivial⟩
     · intro a' w' b_ hA hC hJ hB1 hB2 hD
       skip
       clear hB1 hB2
       have s0 : a'.tmps[0]? = some _ := (hA.at 0 (by kernel_rfl)).trans rfl; clear hA hD; refine stepOk_plain rfl ?_; intro K hK; gi_wp2; exact hK _ _ rfl ⟨(fun x => Below.refl _ x) _, hJ⟩
     · intro a' w' b_ hA hC hJ hB1 hB2 hD
       obtain rfl := hB1 (by kernel_rfl)
       clear hB1 hB2
       have s0 : a'.tmps[0]? = some _ := (hA.at 0 (by kernel_rfl)).trans rfl; clear hA hD; refine stepOk_plain rfl ?_; intro K hK; gi_wp2; exact hK _ _ rfl ⟨(fun x => Below.refl _ x) _, hJ⟩
     · intro a' w' b_ hA hC hJ hB1 hB2 hD
       obtain rfl := hB1 (by kernel_rfl)
       clear hB1 hB2
       obtain ⟨u29, s29, r29⟩ := hD ⟨1, .data⟩ (by simp) rfl _ rfl; replace r29 : u29 = _ := r29; subst r29; clear hA hD; refine stepOk_plain rfl ?_; intro K hK; gi_wp2; exact hK _ _ rfl ⟨(fun x => Below.refl _ x) _, hJ⟩
     · intro a' w' b_ hA hC hJ hB1 hB2 hD
       obtain rfl := hB1 (by kernel_rfl)
       clear hB1 hB2
       obtain ⟨u30, s30, r30⟩ := hD ⟨2, .data⟩ (by simp) rfl _ rfl; replace r30 : u30 = _ := r30; subst r30; clear hA hD; refine stepOk_plain rfl ?_; intro K hK; gi_wp2; exact hK _ _ rfl ⟨(fun x => Below.refl _ x) _, hJ⟩
     · intro a' w' b_ hA hC hJ hB1 hB2 hD
       obtain rfl := hB1 (by kernel_rfl)
       clear hB1 hB2
       obtain ⟨u31, s31, r31⟩ := hD ⟨3, .data⟩ (by simp) rfl _ rfl; replace r31 : u31 = _ := r31; subst r31
       have b1 := cell_of_block (HSB.out w' hC) (seaA_waits c W H m' (vf ()))
       clear hA hD; refine stepOk_plain rfl ?_; intro K hK; gi_wp2; exact hK _ _ rfl ⟨(fun x => Below.refl _ x) _, hJ⟩
     · intro a' w' b_ hA hC hJ hB1 hB2 hD
       obtain rfl := hB1 (by kernel_rfl)
       clear hB1 hB2
       have s4 : a'.tmps[4]? = some _ := (hA.at 4 (by kernel_rfl)).trans rfl
       have b0 := cell_of_block (k := 0) (HPB.out w' hC) rfl; have b1 := cell_of_block (k := 1) (HPB.out w' hC) rfl
       clear hA hD; refine stepOk_plain rfl ?_; intro K hK; gi_wp2; exact hK _ _ rfl ⟨(fun x => Below.refl _ x) _, hJ⟩
     · intro a' w' b_ hA hC hJ hB1 hB2 hD
       obtain rfl := hB1 (by kernel_rfl)
       clear hB1 hB2
       obtain ⟨u33, s33, r33⟩ := hD ⟨5, .data⟩ (by simp) rfl _ rfl; replace r33 : u33 = _ := r33; subst r33; clear hA hD; refine stepOk_plain rfl ?_; intro K hK; gi_wp2; exact hK _ _ ⟨w'.heap.size, rfl, fun e => by have := (HNB.out _ e).2; have := hC.size; omega, newBlock _ _ _ rfl⟩ ⟨(Below.refl _ _).alloc (Nat.le_refl _) _, fun hb => (hJ hb).alloc _⟩
     · intro a' w' b_ hA hC hJ hB1 hB2 hD
       obtain rfl := hB2 rfl
       clear hB1 hB2
       obtain ⟨u32, s32, r32⟩ := hD ⟨4, .data⟩ (by simp) rfl _ rfl; replace r32 : u32 = _ := r32; subst r32; obtain ⟨u34, s34, r34⟩ := hD ⟨6, .data⟩ (by simp) rfl _ rfl; replace r34 : (fun v_ w_ => ∃ b, v_ = .slice (some ⟨b, 0, none⟩) 1 1 ∧ (vf ()).ownBlock ≠ some b ∧ w_.heap[b]? = some (.cells #[.int .i64 x, .int .i64 y] 33 (0, 0))) u34 w' := r34
       obtain ⟨g, hg34, hbn, hbk⟩ := r34; subst hg34
       clear hA hD; refine stepOk_plain rfl ?_; intro K hK
       have HI_ := HIN.out; obtain ⟨v', w'', hrun, hr1, hr2, _, hr4⟩ := run_append_own_at (P := Tryz.prog) w' base 46 46 33 i0 (.agg #[.int .i64 0, .int .i64 0]) 2 16 Tryz.underlying46 HI_.1 HI_.2.1 HI_.2.2.1 HI_.2.2.2 rfl (by decide) (vf ()) l.length (l.flatMap encP) (hJ rfl) ⟨g, 0, none⟩ 1 1 (encP pp) rfl (by rw [HPE.out]; exact fun j x hx => cells_of_block hbk j x (by simpa using hx)) (encP_one pp) (by have := HB.out.2.2; unfold maxLen; omega) (by have := HB.out.2.2; omega) (Nat.le_trans HH4.out.o.hi hC.size); refine opIn_append _ _ _ rfl (by simp [Act.eval, s32]) (by simp [Act.eval, s34]) hrun (hK v' w'' ⟨?_, ?_⟩ ⟨hr2, fun h => by cases h⟩); (rw [List.length_append, List.flatMap_append]; simpa using hr1); (rcases hr4 with h | h; exact .inl h; exact .inr ⟨_, h, hC.size⟩)
       skip
    case hJ0 => exact fun _ => HH4.out.o.row.drew
    case hend =>
     intro w5 hC hJ
     simp only [EndFrom, eqv, forall_eq, Act.put, List.length_cons, List.length_nil, List.drop_succ_cons, List.drop_zero, Nat.reduceAdd, List.setIfInBounds_toArray, List.set_cons_succ, List.set_cons_zero]
     rintro v1 - v2 ⟨hr1, hr2⟩
     have hsb := HSB.out w5 hC
     have f1 := free_of_block hsb 1027
     have c1 := cell_of_block hsb (seaA_waits c W H m' (vf ()))
     have happ := HH4.out.app HB4.out pp hC hr1 hr2
     have ht6 : Turned (fun j => j = S ∨ (vf ()).ownBlock = some j) w (w5.setCell ⟨S, 1027, none⟩ v2) := ((HT4.out.trans (Turned.of_grown hC)).trans (Turned.of_grown (grownBy_setCellAt w5 S 1027 v2))).mono fun j _ hj => (by
      rcases hj with (hj | hj) | hj
      · exact .inl hj
      · exact .inr hj.symm
      · exact .inl (Option.some.inj hj))
     have hloc : LocS (vf ()) v2 w.heap.size := by
      rcases hr2 with h | ⟨g, h, hge⟩
      · exact .inl h
      · exact .inr ⟨g, h, Nat.le_trans HT4.out.size hge⟩
     have HRES := Lib.hid (And.intro (And.intro happ hloc) ht6)
     obtain ⟨g2, n2, cap2, rfl⟩ : ∃ g n cap, v2 = .slice (some ⟨g, 0, none⟩) n cap := by
      rcases hr1.2 with ⟨_, h0⟩ | ⟨g, cap, cur, e, _⟩
      · simp at h0
      · exact ⟨g, _, cap, e⟩
     clear happ ht6 hr1 hr2 hC hJ hsb hloc
     gi_wp2
     go_wp2_with fail
     go_end0
     exact ⟨rfl, ⟨_, HRES.out.1.1, by have h := HRES.out.1.2; rw [hpq] at h; exact h⟩, HRES.out.2⟩
end Go.Proofs.YtodpkgbpcpfamaaGreat

/- Layer 6, plain: a right row is determined by its places. -/
namespace Go.Proofs.YtodpkgbpcpfamaaGreat
set_option linter.unusedSimpArgs false
set_option linter.unusedVariables false
open Go.RowKit Go.Shelf

def ordP (a b : SpT) : Prop := a.y < b.y ∨ a.y = b.y ∧ a.t + 1 < b.f
structure RowP (l : List SpT) : Prop where
 sp : ∀ s ∈ l, s.f ≤ s.t
 ord : l.Pairwise ordP
theorem ordP_trans {a b c : SpT} (hb : b.f ≤ b.t) (h : ordP a b) (k : ordP b c) : ordP a c := by
 unfold ordP at *
 omega
theorem RightP.tail {s : SpT} {l : List SpT} (h : RightP (s :: l)) : RightP l :=
 ⟨fun k hk => by have := h.sp (k + 1) (by simp; omega); simpa using this, fun k hk => by have := h.ord (k + 1) (by simp; omega); simpa using this⟩
theorem spB_iff (s : SpT) : spB s = true ↔ (-256 ≤ s.y ∧ s.y ≤ 255) ∧ (-256 ≤ s.f ∧ s.f ≤ 255) ∧ (-256 ≤ s.t ∧ s.t ≤ 255) ∧ s.f ≤ s.t := by
 simp [spB, reachB]
theorem RightP.rowP : ∀ {l : List SpT}, RightP l → RowP l
 | [], _ => ⟨by simp, List.Pairwise.nil⟩
 | s :: l, h => by
  have hl := h.tail.rowP
  have hs := (spB_iff s).1 (by have := h.sp 0 (by simp); simpa using this)
  refine ⟨fun q hq => ?_, List.Pairwise.cons (fun q hq => ?_) hl.ord⟩
  · rcases List.mem_cons.1 hq with rfl | hq
    · omega
    · exact hl.sp q hq
  · cases l with
    | nil => cases hq
    | cons r l' =>
     have h1 : ordP s r := by
      have := h.ord 0 (by simp)
      simpa [ordB, ordP] using this
     rcases List.mem_cons.1 hq with rfl | hq
     · exact h1
     · exact ordP_trans (hl.sp r (by simp)) h1 ((List.pairwise_cons.1 hl.ord).1 q hq)
theorem hasB_iff (l : List SpT) (p : PtT) : hasB l p = true ↔ ∃ s ∈ l, s.y = p.y ∧ s.f ≤ p.x ∧ p.x ≤ s.t := by
 simp [hasB, List.any_eq_true, inB]
theorem rowP_unique : ∀ {l m : List SpT}, RowP l → RowP m → (∀ p, hasB l p = true ↔ hasB m p = true) → l = m
 | [], [], _, _, _ => rfl
 | [], r :: m, _, hm, h => by
  have h1 := hm.sp r (by simp)
  have := (h ⟨r.f, r.y⟩).2 ((hasB_iff _ _).2 ⟨r, by simp, rfl, Int.le_refl _, h1⟩)
  simp [hasB] at this
 | s :: l, [], hl, _, h => by
  have h1 := hl.sp s (by simp)
  have := (h ⟨s.f, s.y⟩).1 ((hasB_iff _ _).2 ⟨s, by simp, rfl, Int.le_refl _, h1⟩)
  simp [hasB] at this
 | s :: l, r :: m, hl, hm, h => by
  have s1 := hl.sp s (by simp)
  have r1 := hm.sp r (by simp)
  obtain ⟨so, lo⟩ := List.pairwise_cons.1 hl.ord
  obtain ⟨ro, mo⟩ := List.pairwise_cons.1 hm.ord
  have a1 := (hasB_iff _ _).1 ((h ⟨s.f, s.y⟩).1 ((hasB_iff _ _).2 ⟨s, by simp, rfl, Int.le_refl _, s1⟩))
  have a2 := (hasB_iff _ _).1 ((h ⟨r.f, r.y⟩).2 ((hasB_iff _ _).2 ⟨r, by simp, rfl, Int.le_refl _, r1⟩))
  have hge : ∀ q ∈ r :: m, r.y < q.y ∨ r.y = q.y ∧ r.f ≤ q.f := fun q hq => by
   rcases List.mem_cons.1 hq with rfl | hq
   · omega
   · have := ro q hq; unfold ordP at this; omega
  have hge' : ∀ q ∈ s :: l, s.y < q.y ∨ s.y = q.y ∧ s.f ≤ q.f := fun q hq => by
   rcases List.mem_cons.1 hq with rfl | hq
   · omega
   · have := so q hq; unfold ordP at this; omega
  obtain ⟨q, hq, q1, q2, q3⟩ := a1
  obtain ⟨q', hq', q1', q2', q3'⟩ := a2
  simp only at q1 q2 q3 q1' q2' q3'
  have b1 := hge q hq
  have b2 := hge' q' hq'
  have ey : s.y = r.y := by omega
  have ef : s.f = r.f := by omega
  have et1 : r.t ≤ s.t := by
   refine Int.not_lt.1 fun hlt => ?_
   obtain ⟨z, hz, z1, z2, z3⟩ := (hasB_iff _ _).1 ((h ⟨s.t + 1, s.y⟩).2 ((hasB_iff _ _).2 ⟨r, by simp, ey.symm, by simp only; omega, by simp only; omega⟩))
   simp only at z1 z2 z3
   rcases List.mem_cons.1 hz with rfl | hz
   · omega
   · have := so z hz; unfold ordP at this; omega
  have et2 : s.t ≤ r.t := by
   refine Int.not_lt.1 fun hlt => ?_
   obtain ⟨z, hz, z1, z2, z3⟩ := (hasB_iff _ _).1 ((h ⟨r.t + 1, r.y⟩).1 ((hasB_iff _ _).2 ⟨s, by simp, ey, by simp only; omega, by simp only; omega⟩))
   simp only at z1 z2 z3
   rcases List.mem_cons.1 hz with rfl | hz
   · omega
   · have := ro z hz; unfold ordP at this; omega
  have e : s = r := by
   cases s; cases r
   simp only at ey ef et1 et2
   rw [ey, ef, Int.le_antisymm et2 et1]
  subst e
  have := rowP_unique (l := l) (m := m) ⟨fun q hq => hl.sp q (by simp [hq]), lo⟩ ⟨fun q hq => hm.sp q (by simp [hq]), mo⟩ (fun p => by
   have key : ∀ {k : List SpT}, (∀ q ∈ k, ordP s q) → (hasB k p = true ↔ hasB (s :: k) p = true ∧ ¬ (s.y = p.y ∧ s.f ≤ p.x ∧ p.x ≤ s.t)) := by
    intro k hk
    rw [hasB_iff, hasB_iff]
    constructor
    · rintro ⟨q, hq, q1, q2, q3⟩
      refine ⟨⟨q, by simp [hq], q1, q2, q3⟩, fun hs => ?_⟩
      have := hk q hq; unfold ordP at this; omega
    · rintro ⟨⟨q, hq, q1, q2, q3⟩, hn⟩
      rcases List.mem_cons.1 hq with e | hq
      · rw [e] at q1 q2 q3
        exact absurd (And.intro q1 (And.intro q2 q3)) hn
      · exact ⟨q, hq, q1, q2, q3⟩
   rw [key so, key ro, h p])
  rw [this]
end Go.Proofs.YtodpkgbpcpfamaaGreat

/- Layer 6: All, Count. -/
namespace Go.Proofs.YtodpkgbpcpfamaaGreat
set_option linter.unusedSimpArgs false
set_option linter.unusedVariables false
open Go.RowKit Go.Shelf
attribute [local go_sem] Oper.semAt_some

/-- The places of a span; of a row. -/
def spPts (s : SpT) : List PtT := (List.range (s.t - s.f + 1).toNat).map fun (i : Nat) => ⟨s.f + (i : Int), s.y⟩
def ptsL (l : List SpT) : List PtT := l.flatMap spPts
noncomputable def allL (l : List SpT) : List PtT := bif rightB l then ptsL l else []
theorem spPts_len (s : SpT) : (spPts s).length = (s.t - s.f + 1).toNat := by simp [spPts]
theorem spPts_get (s : SpT) (i : Nat) (h : i < (s.t - s.f + 1).toNat) : (spPts s)[i]? = some ⟨s.f + (i : Int), s.y⟩ := by simp [spPts, h]
/-- How many places the first k spans have. -/
def posL (l : List SpT) (k : Nat) : Nat := (ptsL (l.take k)).length
theorem posL_succ {l : List SpT} {k : Nat} {s : SpT} (hx : l[k]? = some s) : posL l (k + 1) = posL l k + (s.t - s.f + 1).toNat := by
 unfold posL ptsL
 rw [List.take_add_one, hx]
 simp [spPts_len]
theorem posL_all (l : List SpT) : posL l l.length = (ptsL l).length := by unfold posL; rw [List.take_length]
theorem ptsL_split {l : List SpT} {k : Nat} {s : SpT} (hx : l[k]? = some s) : ptsL l = ptsL (l.take k) ++ (spPts s ++ ptsL (l.drop (k + 1))) := by
 obtain ⟨hk, e⟩ := List.getElem?_eq_some_iff.1 hx
 unfold ptsL
 conv => lhs; rw [← List.take_append_drop k l, List.drop_eq_getElem_cons hk, e]
 simp
theorem ptsL_at {l : List SpT} {k : Nat} {s : SpT} (hx : l[k]? = some s) (i : Nat) (hi : i < (s.t - s.f + 1).toNat) : (ptsL l)[posL l k + i]? = some ⟨s.f + (i : Int), s.y⟩ := by
 rw [ptsL_split hx]
 unfold posL
 rw [List.getElem?_append_right (by omega), Nat.add_sub_cancel_left, List.getElem?_append_left (by rw [spPts_len]; exact hi), spPts_get s i hi]
theorem posL_le {l : List SpT} {k : Nat} {s : SpT} (hx : l[k]? = some s) (i : Nat) (hi : i ≤ (s.t - s.f + 1).toNat) : posL l k + i ≤ (ptsL l).length := by
 rw [ptsL_split hx]
 unfold posL
 simp [spPts_len]
 omega
theorem Elems.keepsAt {w w' : World} {bs : List Nat} {a : Option Addr} {n cap size : Nat} {c : Nat → Value} (h : Elems w (.slice a n cap) n size c) (hb : ∀ b off, a = some ⟨b, off, none⟩ → b ∈ bs) (hk : KeepsAt bs w w') : Elems w' (.slice a n cap) n size c := by
 rcases h with h | ⟨b, off, cap', e, hlt, hc⟩
 · exact .inl h
 · cases e
   have e1 := hk b (hb b off rfl)
   refine .inr ⟨b, off, cap, rfl, ?_, fun j hj => by rw [← hc j hj]; simp only [World.cell?, e1]⟩
   rw [Array.getElem?_eq_getElem hlt] at e1
   exact (Array.getElem?_eq_some_iff.1 e1).1
theorem cell_keepsAt {w w' : World} {bs : List Nat} {b o : Nat} {v : Value} (h : w.cell? ⟨b, o, none⟩ = some v) (hb : b ∈ bs) (hk : KeepsAt bs w w') : w'.cell? ⟨b, o, none⟩ = some v := by
 rw [← h]; simp only [World.cell?, hk b hb]
theorem keepsAt_lt {w w' : World} {bs : List Nat} (hk : KeepsAt bs w w') (h : ∀ b ∈ bs, b < w.heap.size) : ∀ b ∈ bs, b < w'.heap.size := fun b hb => by
 have h1 := hk b hb
 rw [Array.getElem?_eq_getElem (h b hb)] at h1
 exact (Array.getElem?_eq_some_iff.1 h1).1

/-- Between two places. -/
structure AllAt (own : World → Nat → Prop) (bs : List Nat) (N0 : Nat) (N : Nat) (J : List (Fin N) → World → Prop) (W : World) (p : Nat) (wr : World) : Prop where
 j : J (firsts N p) wr
 ko : KO own bs N0 W wr
 wf : ∀ q, own wr q → q < wr.heap.size
theorem AllAt.below {own : World → Nat → Prop} {bs : List Nat} {N0 N : Nat} {J : List (Fin N) → World → Prop} {W : World} {p : Nat} {wr w' : World} (h : AllAt own bs N0 N J W p wr) (ho : OwnSt own N0) (hJd : ∀ pre x y, J pre x → Below x.heap.size x y → J pre y)
 (hN : N0 ≤ W.heap.size) (hbs : ∀ b ∈ bs, b < W.heap.size) (hb : Below wr.heap.size wr w') : AllAt own bs N0 N J W p w' := by
 have k := KO.of_below (own := own) (bs := bs) ho hb (Nat.le_trans hN h.ko.size) (keepsAt_lt h.ko.at_ hbs)
 exact ⟨hJd _ _ _ h.j hb, h.ko.trans k, k.wf h.wf⟩

set_option maxRecDepth 100000 in
set_option maxHeartbeats 2000000 in
theorem all1_right (n : Nat) (hn : 1 ≤ n) (own : World → Nat → Prop) (N0 : Nat) (ho : OwnSt own N0) (L Bs : Nat) (bs : List Nat) (a : Option Addr) (m cap : Nat) (l : List SpT) (hl : l.length = m) (hm : m ≤ 1000000000) (hr : rightB l = true)
 (J Jx : List (Fin (ptsL l).length) → World → Prop) (hJd : ∀ pre x y, J pre x → Below x.heap.size x y → J pre y) (hb1 : Bs ∈ bs) (hb2 : ∀ b off, a = some ⟨b, off, none⟩ → b ∈ bs)
 (hY : ∀ pre x W, J pre W → pre.length < (ptsL l).length → YieldAt Fence.wide (n - 1) Tryz.prog L #[((ptsL l)[x.1]).val] W fun e W' =>
  (e = .returned (.bool true) ∧ J (pre ++ [x]) W' ∧ KO own bs N0 W W') ∨ (e = .returned (.bool false) ∧ Jx (pre ++ [x]) W'))
 (W : World) (hN : N0 ≤ W.heap.size) (hBs : ∀ c ∈ bs, c < W.heap.size) (hwf : ∀ q, own W q → q < W.heap.size) (hc : W.cell? ⟨Bs, 0, none⟩ = some (.slice a m cap)) (hh : Elems W (.slice a m cap) m 3 (rowC encS l)) (h0 : J [] W) :
 CallsIn Fence.wide n Tryz.prog 35 #[.func (.yield L) #[] #[], .pointer (some ⟨Bs, 0, none⟩)] W fun e W' => (∃ v, e = .returned v) ∧
  ((∃ ys, ys = List.finRange (ptsL l).length ∧ J ys W') ∨ (∃ pre, pre <+: List.finRange (ptsL l).length ∧ Jx pre W')) := by
 have HY := Lib.hid hY
 have HL := Lib.hid hl
 have HR := Lib.hid hr
 have HO := Lib.hid ho
 have HCH := Lib.hid (check_any a m cap l hl hm W hh)
 have HD := Lib.hid (fun (p : Nat) (x y : World) (h : AllAt own bs N0 (ptsL l).length J W p x) (hb : Below x.heap.size x y) => h.below ho hJd hN hBs hb)
 have HC : Hid (∀ wr, KeepsAt bs W wr → wr.cell? ⟨Bs, 0, none⟩ = some (.slice a m cap) ∧ Elems wr (.slice a m cap) m 3 (rowC encS l)) := Lib.hid fun wr hk => ⟨cell_keepsAt hc hb1 hk, hh.keepsAt hb2 hk⟩
 have HA := Lib.hid (show AllAt own bs N0 (ptsL l).length J W 0 W from ⟨h0, KO.refl _ _ _ _, hwf⟩)
 have HN := Lib.hid hN
 have HRP := Lib.hid ((rightB_iff l).1 hr)
 have c0 := (HC.out W (KeepsAt.refl _ _)).1
 clear hY hl hr ho hJd hb1 hb2 hBs hc hh h0 hwf hN
 refine callsIn_of_wp Tryz.func35 rfl trivial ?_ rfl
 simp only [Tryz.ntmps35, List.size_toArray, List.length_cons, List.length_nil, Nat.reduceAdd, Nat.reduceSub, Array.replicate_succ, Array.replicate_zero, List.push_toArray, List.append_toArray, List.nil_append, List.cons_append]
 gi_wp2
 apply wpIn_scope
 gi_wp2_with fail
 refine (callsIn_wide.2 HCH.out).mono ?_
 rintro e w2 ⟨rfl, hb_⟩
 have HA := Lib.hid (HD.out _ _ _ HA.out hb_)
 rw [HR.out, errOf_true]
 clear hb_ HCH c0
 have c0 := (HC.out w2 HA.out.ko.at_).1
 gi_wp2
 apply wpIn_label
 gi_wp2
 clear c0
 gi_loopw [11] (fun i wr => ∃ k : Nat, k ≤ m ∧ i = .int .i64 k ∧ AllAt own bs N0 (ptsL l).length J W (posL l k) wr) (fun i _ => m - (intOf i).toNat)
 case atStart => exact ⟨0, by omega, rfl, HA.out⟩
 case round =>
  obtain ⟨k, hk, rfl, ha⟩ := hrel
  clear HA
  have HA := Lib.hid ha
  clear ha
  by_cases hlt : k < m
  · have HLT := Lib.hid (show k < l.length by rw [HL.out]; exact hlt)
    have wk : wrap64 ((k : Int) + 1) = ((k + 1 : Nat) : Int) := by unfold wrap64; omega
    obtain ⟨s, hx⟩ : ∃ s, l[k]? = some s := ⟨_, List.getElem?_eq_getElem HLT.out⟩
    obtain ⟨bb, off, rfl, hbb, c0, c1, c2⟩ := spCells HL.out (HC.out wr HA.out.ko.at_).2 k s hx
    have hs := (spB_iff s).1 (by have := HRP.out.sp k HLT.out; rwa [(List.getElem?_eq_some_iff.1 hx).2] at this)
    have HAT := Lib.hid (fun i hi => ptsL_at hx i hi)
    have HLE := Lib.hid (fun i hi => posL_le hx i hi)
    have HS := Lib.hid (posL_succ hx)
    have HSB := Lib.hid hs
    obtain ⟨sy, sf, st⟩ := s
    simp only at c0 c1 c2 HAT HLE HS HSB
    clear hx hbb hs
    gi_wp2
    obtain ⟨q, hq⟩ : ∃ q, wr.heap.size = q := ⟨_, rfl⟩
    obtain ⟨w3, hw3⟩ : ∃ w3, wr.alloc (.cells #[.int .i64 sy, .int .i64 sf, .int .i64 st] 43) = w3 := ⟨_, rfl⟩
    have hb3 : Below wr.heap.size wr w3 := by rw [← hw3]; exact (Below.refl _ _).alloc (Nat.le_refl _) _
    have HA3 := Lib.hid (HD.out _ _ _ HA.out hb3)
    have hq3 : w3.heap[q]? = some (.cells #[.int .i64 sy, .int .i64 sf, .int .i64 st] 43 (0, 0)) := by rw [← hw3, ← hq]; exact World.alloc_heap_new wr _
    have hno : ¬ own w3 q := by
     intro h
     have h1 := (HO.out wr w3 (fun k hk => hb3.block k (by have := HN.out; have := HA.out.ko.size; omega)) q).1 h
     have := HA.out.wf q h1
     omega
    have hNq : N0 ≤ q := by have := HN.out; have := HA.out.ko.size; omega
    have HNQ := Lib.hid hNq
    have HQ := Lib.hid (And.intro hno hq3)
    rw [hw3]
    simp only [hq]
    clear hw3 hq hb3 hq3 hno hNq c0 c1 c2 HA
    gi_loopw [5] (fun x wi => ∃ i : Nat, (i : Int) ≤ st - sf + 1 ∧ x = .int .i64 (sf + (i : Int)) ∧ AllAt own bs N0 (ptsL l).length J W (posL l k + i) wi ∧ ¬ own wi q ∧ wi.heap[q]? = some (.cells #[.int .i64 sy, .int .i64 sf, .int .i64 st] 43 (0, 0))) (fun x _ => (st + 1 - intOf x).toNat)
    case atStart => exact ⟨0, by have := HSB.out; omega, by simp, HA3.out, HQ.out⟩
    case round =>
     obtain ⟨i, hi, rfl, ha, hno, hq3⟩ := hrel
     have HA := Lib.hid ha
     have HNO := Lib.hid hno
     have HQ3 := Lib.hid hq3
     have k0 := cell_of_block (k := 0) hq3 rfl
     have k2 := cell_of_block (k := 2) hq3 rfl
     clear ha hno hq3 HA3 HQ
     by_cases hlt2 : sf + (i : Int) ≤ st
     · have wi1 : wrap64 (sf + (i : Int) + 1) = sf + ((i + 1 : Nat) : Int) := by have := HSB.out; unfold wrap64; omega
       have hii : i < (st - sf + 1).toNat := by omega
       have hpl : posL l k + i < (ptsL l).length := by have := HLE.out (i + 1) (by omega); omega
       obtain ⟨fn, tmps, assign, body, hy, hR⟩ := HY.out _ (⟨posL l k + i, hpl⟩ : Fin (ptsL l).length) wr HA.out.j (by rw [firsts_length (by omega)]; exact hpl)
       have he : (ptsL l)[posL l k + i] = ⟨sf + (i : Int), sy⟩ := by have := HAT.out i hii; rw [List.getElem?_eq_getElem hpl] at this; exact Option.some.inj this
       simp only [he, PtT.val] at hy
       have hs := firsts_succ (N := (ptsL l).length) (k := posL l k + i) hpl
       rw [hs] at hR
       have HPL := Lib.hid hpl
       clear hs he hii hpl
       gi_wp2
       refine hR.mono ?_
       rintro e w4 (⟨rfl, hJ4, hk4⟩ | ⟨rfl, hJx⟩)
       · obtain ⟨n4, q4⟩ := hk4.rest q _ HNQ.out HQ3.out rfl HNO.out
         have HA4 := Lib.hid (show AllAt own bs N0 (ptsL l).length J W (posL l k + (i + 1)) w4 from ⟨hJ4, HA.out.ko.trans hk4, hk4.wf HA.out.wf⟩)
         have HQ4 := Lib.hid (And.intro n4 q4)
         clear hJ4 hk4 n4 q4
         gi_wp2
         go_roundw
         case rel => exact ⟨i + 1, by omega, by rw [wi1], HA4.out, HQ4.out⟩
         case measure => simp [intOf]; omega
       · have HJ3 := Lib.hid hJx
         clear hJx
         gi_wp2; rw [Exit.noGoto_normal]
         go_end0
         exact ⟨⟨_, rfl⟩, .inr ⟨_, firsts_prefix _ _, HJ3.out⟩⟩
     · have HE := Lib.hid (show posL l k + i = posL l (k + 1) by (rw [HS.out, show i = (st - sf + 1).toNat by omega]))
       clear hi
       gi_wp2
       go_roundw
       case rel => exact ⟨k + 1, hlt, by simp, by have := HA.out; rwa [HE.out] at this⟩
       case measure => simp [intOf]; omega
  · obtain rfl : k = m := by omega
    have HJ := Lib.hid (show J (List.finRange (ptsL l).length) wr by have := HA.out.j; rwa [← HL.out, posL_all, firsts_all] at this)
    clear hk hlt
    gi_wp2; rw [Exit.noGoto_normal]
    go_end0
    exact ⟨⟨_, rfl⟩, .inl ⟨_, rfl, HJ.out⟩⟩

set_option maxRecDepth 100000 in
theorem all1_wrong (n : Nat) (L Bs : Nat) (a : Option Addr) (m cap : Nat) (l : List SpT) (hl : l.length = m) (hm : m ≤ 1000000000) (hr : rightB l = false) (R : World → Prop) (hJd : ∀ x y, R x → Below x.heap.size x y → R y)
 (W : World) (hc : W.cell? ⟨Bs, 0, none⟩ = some (.slice a m cap)) (hh : Elems W (.slice a m cap) m 3 (rowC encS l)) (h0 : R W) :
 CallsIn Fence.wide n Tryz.prog 35 #[.func (.yield L) #[] #[], .pointer (some ⟨Bs, 0, none⟩)] W fun e W' => (∃ v, e = .returned v) ∧ R W' := by
 have HR := Lib.hid hr
 have HCH := Lib.hid (check_any a m cap l hl hm W hh)
 have HJ := Lib.hid (fun y hb => hJd W y h0 hb)
 clear hh hr hJd h0
 refine callsIn_of_wp Tryz.func35 rfl trivial ?_ rfl
 simp only [Tryz.ntmps35, List.size_toArray, List.length_cons, List.length_nil, Nat.reduceAdd, Nat.reduceSub, Array.replicate_succ, Array.replicate_zero, List.push_toArray, List.append_toArray, List.nil_append, List.cons_append]
 gi_wp2
 apply wpIn_scope
 gi_wp2_with fail
 refine (callsIn_wide.2 HCH.out).mono ?_
 rintro e w2 ⟨rfl, hb_⟩
 have HK := Lib.hid (HJ.out _ hb_)
 rw [HR.out, errOf_false]
 clear hb_ HCH hc
 gi_wp2; rw [Exit.noGoto_ret]
 refine bodyPost_ret (results_none rfl _ _ _) rfl ?_
 exact ⟨⟨_, rfl⟩, HK.out⟩

theorem all_iter (own : World → Nat → Prop) (w : World) (ho : OwnSt own w.heap.size) (hwf : ∀ q, own w q → q < w.heap.size) (Bs : Nat) (bs : List Nat) (a : Option Addr) (m cap : Nat) (l : List SpT) (hl : l.length = m) (hm : m ≤ 1000000000) (A : List PtT) (hA : allL l = A)
 (hbs : ∀ c ∈ bs, c < w.heap.size) (hb1 : Bs ∈ bs) (hb2 : ∀ b off, a = some ⟨b, off, none⟩ → b ∈ bs) (hc : w.cell? ⟨Bs, 0, none⟩ = some (.slice a m cap)) (hh : Elems w (.slice a m cap) m 3 (rowC encS l)) :
 IterO Tryz.prog 35 #[.pointer (some ⟨Bs, 0, none⟩)] A.length (fun i => #[(A[i.1]).val]) own bs w := by
 unfold allL at hA
 cases hr : rightB l
 · rw [hr, cond_false] at hA
   subst hA
   intro n hn1 L J Jx W hW hJ _ hY h0
   refine (all1_wrong n L Bs a m cap l hl hm hr (J []) (fun x y h hb => hJ [] x y none h (below_grown hb) (by simp)) W ((hW.cell (p := ⟨Bs, 0, none⟩) (hbs Bs hb1)).trans hc) (hh.below hW) h0).mono ?_
   rintro e w' ⟨h1, h2⟩
   exact ⟨h1, .inl ⟨_, rfl, h2⟩⟩
 · rw [hr, cond_true] at hA
   subst hA
   intro n hn1 L J Jx W hW hJ _ hY h0
   have e := ho w W (fun k hk => hW.block k hk)
   exact all1_right n hn1 own w.heap.size ho L Bs bs a m cap l hl hm hr J Jx (fun pre x y h hb => hJ pre x y none h (below_grown hb) (by simp)) hb1 hb2 hY W hW.size (fun c hc => Nat.lt_of_lt_of_le (hbs c hc) hW.size) (fun q hq => Nat.lt_of_lt_of_le (hwf q ((e q).1 hq)) hW.size)
    ((hW.cell (p := ⟨Bs, 0, none⟩) (hbs Bs hb1)).trans hc) (hh.below hW) h0

theorem all_any (a : Option Addr) (n cap : Nat) (w : World) :
 Calls Tryz.prog 13 #[.slice a n cap] w fun e w' => e = .returned (.func (.func 35) #[] #[.pointer (some ⟨w.heap.size, 0, none⟩)]) ∧ w.alloc (.cells #[.slice a n cap] 34) = w' := by
 go_enter Tryz.func13, Tryz.ntmps13
 go_wp2
 go_ret
 exact ⟨rfl, rfl⟩

end Go.Proofs.YtodpkgbpcpfamaaGreat

/- Layer 6: the map of rows, by Y. -/
namespace Go.Proofs.YtodpkgbpcpfamaaGreat
set_option linter.unusedSimpArgs false
set_option linter.unusedVariables false
open Go.RowKit Go.Shelf Go.Maps

def heldR (v : Value) : Option (DataW Value × List MemPlace) := some (.held v, [])
def nilS : Value := .slice none 0 0
def inK (y : Int) : Prop := -1000 ≤ y ∧ y ≤ 1000
theorem inK_wf {y : Int} (h : inK y) : (Lit.int .i64 y).wf = true := WalkArith.wf_i64 (by unfold inK at h; omega)

/-- Block b is a map that holds at each Y a row of the call's own; no two in one block. -/
structure GrD (w : World) (base b n : Nat) (D : DataW Value) (F : Int → Value) (G : Int → List SpT) : Prop where
 map : w.ownsMap Tryz.prog 3 heldR b n D
 at_ : ∀ y, inK y → D.atKey (.int .i64 y) (.held nilS) = .held (F y)
 row : ∀ y, inK y → w.ownsRow base 43 3 (F y) (G y).length ((G y).flatMap encS)
 apart : ∀ y z j, inK y → inK z → y ≠ z → (F y).ownBlock = some j → (F z).ownBlock ≠ some j
 has : ∀ y, inK y → (Maps.has D (.int .i64 y) = true ↔ G y ≠ [])
 only : ∀ k, Maps.has D k = true → ∃ y, inK y ∧ k = .int .i64 y
 lt : b < base

theorem keyedI : Keyed Tryz.prog 3 := int_keyed Tryz.underlying3
theorem GrD.look {w : World} {base b n : Nat} {D : DataW Value} {F : Int → Value} {G : Int → List SpT} (h : GrD w base b n D F G) {y : Int} (hy : inK y) :
 (Instr.lookup 76 (.map (some b)) (.int .i64 y) false).run Tryz.prog w = .ok (F y) w := by
 obtain ⟨v, ps, hrun, hv⟩ := h.map.lookup keyedI Tryz.underlying76 (Tryz.zeroValue34 w) (zd := .held nilS) (zp := []) rfl (keyOf_int_mk Tryz.underlying3 (inK_wf hy))
 rw [h.at_ y hy] at hv
 simp only [heldR, Option.some.injEq, Prod.mk.injEq, DataW.held.injEq] at hv
 rw [hrun, hv.1]
theorem GrD.start (w : World) : GrD (w.alloc (.map #[] 0)) (w.heap.size + 1) w.heap.size 0 (.map []) (fun _ => nilS) (fun _ => []) :=
 ⟨World.ownsMap_made _ _ _ _, fun _ _ => rfl, fun _ _ => World.ownsRow_nil _ _ _ _, fun _ _ _ _ _ _ h => (by cases h), fun _ _ => (by simp [Maps.has]), fun _ h => (by simp [Maps.has] at h), Nat.lt_succ_self _⟩
theorem GrD.kept {w w' : World} {base b n : Nat} {D : DataW Value} {F : Int → Value} {G : Int → List SpT} (h : GrD w base b n D F G) (hb : Below w.heap.size w w') : GrD w' base b n D F G :=
 ⟨h.map.kept (row := none) ⟨hb.os, hb.tape, hb.output, hb.size, fun k hk _ => hb.block k hk⟩ (by simp), h.at_, fun y hy => ownsRow_below (h.row y hy) hb, h.apart, h.has, h.only, h.lt⟩

theorem GrD.put {w0 w : World} {base b n : Nat} {D : DataW Value} {F : Int → Value} {G : Int → List SpT} (h : GrD w0 base b n D F G) {y : Int} (hy : inK y) (hn : n < maxLen) (hg : w0.grownBy w (F y).ownBlock) {v' : Value} {L : List SpT}
 (hrow : w.ownsRow base 43 3 v' L.length (L.flatMap encS)) (hL : L ≠ []) (hloc : v'.ownBlock = (F y).ownBlock ∨ ∃ g, v'.ownBlock = some g ∧ w0.heap.size ≤ g) :
 ∃ w2, (Instr.mapUpdate 76 (.map (some b)) (.int .i64 y) v').run Tryz.prog w = .ok () w2 ∧ GrD w2 base b (n + 1) (D.put (.int .i64 y) (.held v')) (fun z => if z = y then v' else F z) (fun z => if z = y then L else G z) ∧ w.grownBy w2 (some b) := by
 have hbF : some b ≠ (F y).ownBlock := fun e => by have := ((h.row y hy).lt b e.symm).1; have := h.lt; omega
 have hm := h.map.kept hg hbF
 have hkey := keyOf_int_mk (P := Tryz.prog) Tryz.underlying3 (inK_wf hy)
 obtain ⟨w2, hrun, hm2, hg2⟩ := hm.update keyedI Tryz.underlying76 hn hkey (val := v') rfl
 have hik : WideAt.IsKeyLit (Lit.int .i64 y) := by first | trivial | exact Maps.isKeyLit_of_keyOf hkey | simp [WideAt.IsKeyLit]
 have hne : ∀ z, z ≠ y → (Lit.int .i64 z) ≠ (Lit.int .i64 y) := fun z hz e => hz (by cases e; rfl)
 have hrowb : ∀ (x : World) (v : Value) (k : Nat) (xs : List Value), x.ownsRow base 43 3 v k xs → v.ownBlock = none ∨ v.ownBlock ≠ some b := fun x v k xs hr => by
  cases hv : v.ownBlock with
  | none => exact .inl rfl
  | some j => exact .inr fun e => by cases e; have := (hr.lt b hv).1; have := h.lt; omega
 refine ⟨w2, hrun, ⟨hm2, fun z hz => ?_, fun z hz => ?_, fun z z' j hz hz' hne' hj => ?_, fun z hz => ?_, fun k hk => ?_, h.lt⟩, hg2⟩
 · by_cases e : z = y
   · subst e; rw [atKey_put_same hm.isMap hik]; simp
   · rw [atKey_put_other (hne z e), h.at_ z hz]; simp [e]
 · by_cases e : z = y
   · subst e; simp only [if_true]; exact hrow.kept hg2 (hrowb _ _ _ _ hrow)
   · simp only [if_neg e]
     have hr := h.row z hz
     refine (hr.kept hg ?_).kept hg2 (hrowb _ _ _ _ hr)
     cases hv : (F z).ownBlock with
     | none => exact .inl rfl
     | some j => exact .inr fun e' => h.apart z y j hz hy e hv e'.symm
 · by_cases e : z = y
   · subst e
     have e2 : ¬ z' = z := fun e2 => hne' e2.symm
     simp only [if_true, if_neg e2] at hj ⊢
     rcases hloc with hl | ⟨g, hl, hge⟩
     · rw [hl] at hj; exact h.apart z z' j hz hz' hne' hj
     · rw [hl] at hj; cases hj
       intro hj'
       have := ((h.row z' hz').lt _ hj').2
       omega
   · by_cases e' : z' = y
     · subst e'
       simp only [if_neg e, if_true] at hj ⊢
       rcases hloc with hl | ⟨g, hl, hge⟩
       · rw [hl]; exact fun hj' => h.apart z' z j hz' hz (fun e => hne' e.symm) hj' hj
       · rw [hl]; intro hj'; cases hj'
         have := ((h.row z hz).lt _ hj).2
         omega
     · simp only [if_neg e, if_neg e'] at hj ⊢
       exact h.apart z z' j hz hz' hne' hj
 · by_cases e : z = y
   · subst e; rw [has_put_same hm.isMap hik]; simp [hL]
   · rw [has_put_other (hne z e), h.has z hz]; simp [e]
 · by_cases e : k = .int .i64 y
   · exact ⟨y, hy, e⟩
   · rw [has_put_other e] at hk; exact h.only k hk
end Go.Proofs.YtodpkgbpcpfamaaGreat
