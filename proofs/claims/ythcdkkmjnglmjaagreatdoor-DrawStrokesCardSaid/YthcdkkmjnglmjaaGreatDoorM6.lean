/- Merged texts: ShV SortI ShX ShP ShQ Fld ShR ShS. -/
import Derived.Test.YthcdkkmjnglmjaaGreatDoorM5
import Derived.Test.YthcdkkmjnglmjaaGreatDoorM1
import Derived.Shelf.SortM.Plain
import Derived.Shelf.SortM.SortNone
set_option linter.unusedSimpArgs false
set_option linter.unusedVariables false
/- Layer 6: rows.put. -/
namespace Go.Proofs.YthcdkkmjnglmjaaGreatDoor
open Go.RowKit Go.Shelf Go.Maps
/-- The spans of L at each Y. -/
def GrOf (L : List SpT) (y : Int) : List SpT := L.filter fun s => s.y == y
theorem GrOf_put (L : List SpT) (s : SpT) : (fun z => if z = s.y then GrOf L s.y ++ [s] else GrOf L z) = GrOf (L ++ [s]) := by
 funext z
 unfold GrOf
 rw [List.filter_append]
 by_cases h : z = s.y
 · subst h; simp
 · have : ¬ s.y = z := fun e => h e.symm
   simp [h, this]
theorem GrOf_len (L : List SpT) (y : Int) : (GrOf L y).length ≤ L.length := List.length_filter_le _ _
theorem GrD.look2 {w0 w : World} {base b n : Nat} {D : DataW Value} {F : Int → Value} {G : Int → List SpT} (h : GrD w0 base b n D F G) {y : Int} (hy : inK y) (hg : w0.grownBy w (F y).ownBlock) :
 (Instr.lookup 90 (.map (some b)) (.int .i64 y) false).run Tryz.prog w = .ok (F y) w := by
 have hbF : some b ≠ (F y).ownBlock := fun e => by have := ((h.row y hy).lt b e.symm).1; have := h.lt; omega
 have hm := h.map.kept hg hbF
 obtain ⟨v, ps, hrun, hv⟩ := hm.lookup keyedI Tryz.underlying90 (Tryz.zeroValue57 w) (zd := .held nilS) (zp := []) rfl (keyOf_int_mk Tryz.underlying3 (inK_wf hy))
 rw [h.at_ y hy] at hv
 simp only [heldR, Option.some.injEq, Prod.mk.injEq, DataW.held.injEq] at hv
 rw [hrun, hv.1]
/-- A row's block behind a put: the same, or a new one. -/
def Loc (v v' : Value) (n : Nat) : Prop := v'.ownBlock = v.ownBlock ∨ ∃ g, v'.ownBlock = some g ∧ n ≤ g
/-- As long as a flag is down. -/
def KeepsIf (b : Bool) (p : Prop) : Prop := b = false → p
/-- What put does. -/
def PutP (base b n : Nat) (F : Int → Value) (L : List SpT) (s : SpT) (w : World) (e : Ending) (w' : World) : Prop :=
 e = .returned (.tuple #[]) ∧ ∃ v' D', GrD w' base b (n + 1) D' (fun z => if z = s.y then v' else F z) (GrOf (L ++ [s])) ∧ Loc (F s.y) v' w.heap.size ∧ Turned (fun k => k = b ∨ (F s.y).ownBlock = some k) w w'
set_option maxRecDepth 100000 in
set_option maxHeartbeats 1000000 in
theorem put_any (s : SpT) (hy : inK s.y) (pr base b n : Nat) (D : DataW Value) (F : Int → Value) (L : List SpT) (hn : n < 1000000000) (hL : L.length < 1000000000) (w : World) (h : GrD w base b n D F (GrOf L)) (hbase : base ≤ w.heap.size)
 (hp : w.heap[pr]? = some (.cells #[.map (some b)] 131 (0, 0))) (hpF : (F s.y).ownBlock ≠ some pr) (hpb : pr ≠ b) :
 Calls Tryz.prog 90 #[.pointer (some ⟨pr, 0, none⟩), s.val] w (PutP base b n F L s w) := by
 have HH := H7 h
 have HY := H7 hy
 have HP := H7 hp
 have HPF := H7 (And.intro hpF hpb)
 have HS := H7 (St.start w)
 have HN := H7 (And.intro hn hL)
 have HB := H7 hbase
 obtain ⟨S, hS⟩ : ∃ S, S = s := ⟨_, rfl⟩
 rw [← hS]
 rw [← hS] at HY HPF
 have HSS := H7 hS
 obtain ⟨sy, sf, st⟩ := s
 unfold SpT.val
 rw [HSS.out]
 simp only
 rw [← HSS.out]
 clear h hy hp hpF hpb hn hL hbase hS
 go_enter Tryz.func90, Tryz.ntmps90
 repeat ((fail_if_success (with_reducible refine stop_at (id := 1) ?_)); (first | go_values | go_skip | go_guarded | go_step | go_upon | go_back | (simp only [Int.not_lt, Int.not_le] at *; go_simp) | (go_values <;> (try go_simp)) | (go_ite <;> go_prune <;> (try go_simp)) | (split <;> (first | (rename_i hx; exact (hx _ rfl).elim) | go_prune))))
 obtain ⟨p1, hp1⟩ : ∃ p1, w.heap.size = p1 := ⟨_, rfl⟩
 have hs_ := (HS.out.alloc (.cells #[.int .i64 sy, .int .i64 sf, .int .i64 st] 60))
 obtain ⟨w1, hw_⟩ : ∃ w1 : World, (w.alloc (.cells #[.int .i64 sy, .int .i64 sf, .int .i64 st] 60)) = w1 := ⟨_, rfl⟩
 rw [hw_] at hs_
 try simp only [World.size_alloc] at hs_
 have HS := H7 hs_
 rw [hw_]
 clear hw_ hs_
 have hlt1 : w.heap.size < w1.heap.size := HS.out.lt 0 rfl
 have h1 := HH.out.kept HS.out.low
 have hyy : inK sy := by have := HY.out; rw [HSS.out] at this; exact this
 have hrow := h1.row sy hyy
 have hown : ∀ j, (F sy).ownBlock = some j → base ≤ j ∧ j < w.heap.size := fun j hj => (HH.out.row sy hyy).lt j hj
 have HLK := H7 (fun w' (hC : w1.grownBy w' (F sy).ownBlock) => h1.look2 hyy (w := w') hC : ∀ w', w1.grownBy w' (F sy).ownBlock → (Instr.lookup 90 (.map (some b)) (.int .i64 sy) false).run Tryz.prog w' = .ok (F sy) w')
 have HPR := H7 (fun w' (hC : w1.grownBy w' (F sy).ownBlock) => (hC.block pr (Nat.lt_trans (b7t HP.out) hlt1) (fun e => HPF.out.1 (by rw [HSS.out]; exact e.symm))).trans ((HS.out.low.block pr (b7t HP.out)).trans HP.out))
 have HBX := H7 (fun w' (hC : w1.grownBy w' (F sy).ownBlock) => (hC.block w.heap.size hlt1 (fun e => by have := (hown _ e.symm).2; omega)).trans (HS.out.blockAt 0 rfl))
 have HOW := H7 (show ∀ j, (F sy).ownBlock = some j → base ≤ j ∧ j < w1.heap.size from fun j hj => ⟨(hown j hj).1, Nat.lt_trans (hown j hj).2 hlt1⟩)
 have HG1 := H7 h1
 have HRW := H7 hrow
 have HYY := H7 hyy
 have HLT1 := H7 hlt1
 clear h1 hrow hyy hlt1 hown
 simp only [hp1] at HBX ⊢
 have HNN := H7 (show (GrOf L sy).length + 1 ≤ maxLen ∧ ((GrOf L sy).length + 1) * 24 ≤ 140737488355328 by
  have h1 := GrOf_len L sy
  have h2 := HN.out.2
  exact ⟨by unfold maxLen; omega, by omega⟩)
 refine (wpIn_wide (n := 0)).1 ?_
 obtain ⟨i0, hi, hz0, hz1, hz2⟩ := info_parts infoS
 have HI := H7 (And.intro hi (And.intro hz0 (And.intro hz1 hz2)))
 clear hi hz0 hz1 hz2
 apply wp_region_store 16 15 (fun b_ w_ => KeepsIf b_ (w_.ownsRow base 60 3 (F sy) (GrOf L sy).length ((GrOf L sy).flatMap encS))) (Rl := [(eqv _), (eqv _), (eqv _), (eqv _), (eqv _), (eqv _), (eqv _), (eqv _), (eqv _), (eqv _), (eqv _), (eqv _), (eqv _), (eqv _), (fun v_ w_ => ∃ b, v_ = .slice (some ⟨b, 0, none⟩) 1 1 ∧ (F sy).ownBlock ≠ some b ∧ w_.heap[b]? = some (.cells #[.int .i64 sy, .int .i64 sf, .int .i64 st] 60 (0, 0))), (fun v_ w_ => w_.ownsRow base 60 3 v_ (GrOf L sy ++ [S]).length ((GrOf L sy ++ [S]).flatMap encS) ∧ Loc (F sy) v_ w1.heap.size)]) (C := (fun x y => x.grownBy y (F sy).ownBlock)) (C0 := (fun x y => Below x.heap.size x y))
 case hm => kernel_rfl
 case hk => rfl
 case hCr => exact (fun x => World.grownBy.refl x _)
 case hCt => intro _ _ _; exact (fun h k => grownTrans h k)
 case h00 => exact (fun x => B7 _ x)
 case h0C => intro _ _; exact fun h => ⟨h.os, h.tape, h.output, h.size, fun k hk _ => h.block k hk⟩
 case hst => exact ⟨fun _ _ _ _ h => h, fun _ _ _ _ h => h, fun _ _ _ _ h => h, fun _ _ _ _ h => h, fun _ _ _ _ h => h, fun _ _ _ _ h => h, fun _ _ _ _ h => h, fun _ _ _ _ h => h, fun _ _ _ _ h => h, fun _ _ _ _ h => h, fun _ _ _ _ h => h, fun _ _ _ _ h => h, fun _ _ _ _ h => h, fun _ _ _ _ h => h, fun v x y hC ⟨b, h1, h2, h3⟩ => ⟨b, h1, h2, (hC.block b (b7t h3) h2.symm).trans h3⟩, fun v x y hC ⟨h1, h2⟩ => ⟨ownsRow_below h1 hC, h2⟩, trivial⟩
 case hfo => kernel_rfl
 case ht => kernel_rfl
 case hC0 => exact (⟨rfl, rfl, rfl, Nat.le_refl _, fun _ _ _ => rfl⟩)
 case hsk => decide
 case hso => decide
 case hsg => rfl
 case hsteps =>
  refine ⟨?_, ?_, ?_, ?_, ?_, ?_, ?_, ?_, ?_, ?_, ?_, ?_, ?_, ?_, ?_, ?_, trivial⟩
  · intro a' w' b_ hA hC hJ hB1 hB2 hD
    skip
    clear hB1 hB2
    have s0 := hA.to 0 (by kernel_rfl) rfl; clear hA hD; refine o7p rfl ?_; intro K hK; gi_wp2; exact hK _ _ rfl ⟨(fun x => B7 _ x) _, hJ⟩
  · intro a' w' b_ hA hC hJ hB1 hB2 hD
    skip
    clear hB1 hB2
    obtain ⟨u4, s4, rfl⟩ := hD ⟨0, .data⟩ (by simp) rfl _ rfl; clear hA hD; refine o7p rfl ?_; intro K hK; gi_wp2; exact hK _ _ rfl ⟨(fun x => B7 _ x) _, hJ⟩
  · intro a' w' b_ hA hC hJ hB1 hB2 hD
    skip
    clear hB1 hB2
    obtain ⟨u5, s5, rfl⟩ := hD ⟨1, .data⟩ (by simp) rfl _ rfl; clear hA hD; refine o7p rfl ?_; intro K hK; gi_wp2; exact hK _ _ rfl ⟨(fun x => B7 _ x) _, hJ⟩
  · intro a' w' b_ hA hC hJ hB1 hB2 hD
    skip
    clear hB1 hB2
    obtain ⟨u6, s6, rfl⟩ := hD ⟨2, .data⟩ (by simp) rfl _ rfl
    have b1 := c7b (k := 0) (HPR.out w' hC) rfl
    clear hA hD; refine o7p rfl ?_; intro K hK; gi_wp2; exact hK _ _ rfl ⟨(fun x => B7 _ x) _, hJ⟩
  · intro a' w' b_ hA hC hJ hB1 hB2 hD
    skip
    clear hB1 hB2
    have s3 := hA.to 3 (by kernel_rfl) rfl; clear hA hD; refine o7p rfl ?_; intro K hK; gi_wp2; exact hK _ _ rfl ⟨(fun x => B7 _ x) _, hJ⟩
  · intro a' w' b_ hA hC hJ hB1 hB2 hD
    skip
    clear hB1 hB2
    obtain ⟨u8, s8, rfl⟩ := hD ⟨4, .data⟩ (by simp) rfl _ rfl
    have b1 := c7b (k := 0) (HBX.out w' hC) rfl
    clear hA hD; refine o7p rfl ?_; intro K hK; gi_wp2; exact hK _ _ rfl ⟨(fun x => B7 _ x) _, hJ⟩
  · intro a' w' b_ hA hC hJ hB1 hB2 hD
    obtain rfl := hB1 (by kernel_rfl)
    clear hB1 hB2
    have s0 := hA.to 0 (by kernel_rfl) rfl; clear hA hD; refine o7p rfl ?_; intro K hK; gi_wp2; exact hK _ _ rfl ⟨(fun x => B7 _ x) _, hJ⟩
  · intro a' w' b_ hA hC hJ hB1 hB2 hD
    obtain rfl := hB1 (by kernel_rfl)
    clear hB1 hB2
    obtain ⟨u10, s10, rfl⟩ := hD ⟨6, .data⟩ (by simp) rfl _ rfl; clear hA hD; refine o7p rfl ?_; intro K hK; gi_wp2; exact hK _ _ rfl ⟨(fun x => B7 _ x) _, hJ⟩
  · intro a' w' b_ hA hC hJ hB1 hB2 hD
    obtain rfl := hB1 (by kernel_rfl)
    clear hB1 hB2
    obtain ⟨u11, s11, rfl⟩ := hD ⟨7, .data⟩ (by simp) rfl _ rfl; clear hA hD; refine o7p rfl ?_; intro K hK; gi_wp2; exact hK _ _ rfl ⟨(fun x => B7 _ x) _, hJ⟩
  · intro a' w' b_ hA hC hJ hB1 hB2 hD
    obtain rfl := hB1 (by kernel_rfl)
    clear hB1 hB2
    obtain ⟨u12, s12, rfl⟩ := hD ⟨8, .data⟩ (by simp) rfl _ rfl
    have b1 := c7b (k := 0) (HPR.out w' hC) rfl
    clear hA hD; refine o7p rfl ?_; intro K hK; gi_wp2; exact hK _ _ rfl ⟨(fun x => B7 _ x) _, hJ⟩
  · intro a' w' b_ hA hC hJ hB1 hB2 hD
    obtain rfl := hB1 (by kernel_rfl)
    clear hB1 hB2
    have s3 := hA.to 3 (by kernel_rfl) rfl; clear hA hD; refine o7p rfl ?_; intro K hK; gi_wp2; exact hK _ _ rfl ⟨(fun x => B7 _ x) _, hJ⟩
  · intro a' w' b_ hA hC hJ hB1 hB2 hD
    obtain rfl := hB1 (by kernel_rfl)
    clear hB1 hB2
    obtain ⟨u14, s14, rfl⟩ := hD ⟨10, .data⟩ (by simp) rfl _ rfl
    have b1 := c7b (k := 0) (HBX.out w' hC) rfl
    clear hA hD; refine o7p rfl ?_; intro K hK; gi_wp2; exact hK _ _ rfl ⟨(fun x => B7 _ x) _, hJ⟩
  · intro a' w' b_ hA hC hJ hB1 hB2 hD
    obtain rfl := hB1 (by kernel_rfl)
    clear hB1 hB2
    obtain ⟨u13, s13, rfl⟩ := hD ⟨9, .data⟩ (by simp) rfl _ rfl; obtain ⟨u15, s15, rfl⟩ := hD ⟨11, .data⟩ (by simp) rfl _ rfl
    have b1 := HLK.out w' hC
    clear hA hD; refine o7p rfl ?_; intro K hK; gi_wp2; exact hK _ _ rfl ⟨(fun x => B7 _ x) _, hJ⟩
  · intro a' w' b_ hA hC hJ hB1 hB2 hD
    obtain rfl := hB1 (by kernel_rfl)
    clear hB1 hB2
    have s3 := hA.to 3 (by kernel_rfl) rfl
    have b0 := c7b (k := 0) (HBX.out w' hC) rfl; have b1 := c7b (k := 1) (HBX.out w' hC) rfl; have b2 := c7b (k := 2) (HBX.out w' hC) rfl
    clear hA hD; refine o7p rfl ?_; intro K hK; gi_wp2; exact hK _ _ rfl ⟨(fun x => B7 _ x) _, hJ⟩
  · intro a' w' b_ hA hC hJ hB1 hB2 hD
    obtain rfl := hB1 (by kernel_rfl)
    clear hB1 hB2
    obtain ⟨u17, s17, rfl⟩ := hD ⟨13, .data⟩ (by simp) rfl _ rfl; clear hA hD; refine o7p rfl ?_; intro K hK; gi_wp2; exact hK _ _ ⟨w'.heap.size, rfl, fun e => by have := (HOW.out _ e).2; have := hC.size; omega, newBlock _ _ _ rfl⟩ ⟨(B7 _ _).alloc (Nat.le_refl _) _, fun hb => (hJ hb).alloc _⟩
  · intro a' w' b_ hA hC hJ hB1 hB2 hD
    obtain rfl := hB2 rfl
    clear hB1 hB2
    obtain ⟨u16, s16, rfl⟩ := hD ⟨12, .data⟩ (by simp) rfl _ rfl; obtain ⟨u18, s18, r18⟩ := hD ⟨14, .data⟩ (by simp) rfl _ rfl; replace r18 : (fun v_ w_ => ∃ b, v_ = .slice (some ⟨b, 0, none⟩) 1 1 ∧ (F sy).ownBlock ≠ some b ∧ w_.heap[b]? = some (.cells #[.int .i64 sy, .int .i64 sf, .int .i64 st] 60 (0, 0))) u18 w' := r18
    obtain ⟨g, hg18, hbn, hbk⟩ := r18; subst hg18
    clear hA hD; refine o7p rfl ?_; intro K hK
    have H := HI.out; obtain ⟨v', w'', hrun, hr1, hr2, _, hr4⟩ := run_append_own_at (P := Tryz.prog) w' base 57 57 60 i0 (.agg #[.int .i64 0, .int .i64 0, .int .i64 0]) 3 24 Tryz.underlying57 H.1 H.2.1 H.2.2.1 H.2.2.2 rfl (by decide) (F sy) (GrOf L sy).length ((GrOf L sy).flatMap encS) (hJ rfl) ⟨g, 0, none⟩ 1 1 (encS S) rfl (by rw [HSS.out]; exact fun j x hx => cells_of_block hbk j x (by simpa [encS] using hx)) (encS_one S) HNN.out.1 HNN.out.2 (Nat.le_trans (Nat.le_trans HB.out (Nat.le_of_lt HLT1.out)) hC.size); refine opIn_append _ _ _ rfl (by simp [Act.eval, s16]) (by simp [Act.eval, s18]) hrun (hK v' w'' ⟨?_, ?_⟩ ⟨hr2, fun h => by cases h⟩); (rw [List.length_append, List.flatMap_append]; simpa using hr1); (rcases hr4 with h | h; exact .inl h; exact .inr ⟨_, h, hC.size⟩)
    skip
 case hJ0 => exact fun _ => HRW.out.drew
 case hend =>
  intro w2 hC hJ
  simp only [EndFrom, eqv, forall_eq, Act.put, List.length_cons, List.length_nil, List.drop_succ_cons, List.drop_zero, Nat.reduceAdd, List.setIfInBounds_toArray, List.set_cons_succ, List.set_cons_zero]
  rintro v1 - v2 ⟨hr1, hr2⟩
  obtain ⟨w3, hrun, hg3, hw3⟩ := HG1.out.put (w := w2) (y := sy) (v' := v2) (L := GrOf L sy ++ [S]) HYY.out (by have := HN.out.1; unfold maxLen; omega) hC hr1 (by simp) hr2
  have hloc : Loc (F S.y) v2 w.heap.size := by
   rw [show S.y = sy by rw [HSS.out]]
   rcases hr2 with h | ⟨g, h, hge⟩
   · exact .inl h
   · exact .inr ⟨g, h, by have := HLT1.out; omega⟩
  have htur : Turned (fun k => k = b ∨ (F S.y).ownBlock = some k) w w3 := by
   rw [show S.y = sy by rw [HSS.out]]
   refine (((Turned.of_grown (row := none) ⟨HS.out.low.os, HS.out.low.tape, HS.out.low.output, HS.out.low.size, fun k hk _ => HS.out.low.block k hk⟩).trans (Turned.of_grown hC)).trans (Turned.of_grown hw3)).mono fun k hk h => ?_
   rcases h with (h | h) | h
   · cases h
   · exact .inr h.symm
   · exact .inl (Option.some.inj h)
  have hgr : GrD w3 base b (n + 1) (D.put (.int .i64 sy) (.held v2)) (fun z => if z = S.y then v2 else F z) (GrOf (L ++ [S])) := by
   have e : S.y = sy := by rw [HSS.out]
   rw [← GrOf_put, e]
   exact hg3
  have HRES := H7 (And.intro hgr (And.intro hloc htur))
  clear hgr hloc htur hg3 hw3 hr1 hr2 hC hJ
  gi_wp2
  go_end0
  exact ⟨rfl, v2, _, HRES.out⟩
end Go.Proofs.YthcdkkmjnglmjaaGreatDoor
/- slices.SortFunc at a row of structs, with what it leaves alone; slices.Sort at a row of ints. -/
namespace Go.Proofs.YthcdkkmjnglmjaaGreatDoor
open Go.RowKit Go.Shelf
section
variable {α : Type} [Inhabited α] {P : Program} {ρ : Ren}
/-- 'sortRows', and what it leaves alone. -/
theorem sortRowsG (L : SlLaysF0.n6 P ρ) (k : Nat) (aE : ∀ w, (isAgg (ρ.t 24)).run P w = .ok true w) (zE : ∀ w, (Go.sizeOf (ρ.t 24)).run P w = .ok k w) (enc : α → List Value) (hk : ∀ x, (enc x).length = k) (h1 : ∀ x, ∀ v ∈ enc x, v.oneCell' = true)
 (cf : α → α → Int) (hO : Sort.SWO (ltOf cf)) (g : Nat) (cb : Array Value) (eg : ∀ args w, (callFunc g args).run P w = .ok (.enter g args) w)
 (hcmp : ∀ x y w, Calls P g (#[.agg (enc x).toArray, .agg (enc y).toArray] ++ cb) w (GivesG (.int .i64 (cf x y)) w)) 
 (sv : Value) (l : List α) (base : Nat) (w : World) (hrow : w.ownsRow base (ρ.t 24) k sv l.length (l.flatMap enc)) (hsz : l.length ≤ 1000000000) :
 Calls P (ρ.f 6) #[sv, .func (.func g) #[] cb] w fun e w' => e = .returned (.tuple #[]) ∧ ∃ s : List α, s.Perm l ∧ s.Pairwise (fun x y => ltOf cf y x = false) ∧ w'.ownsRow base (ρ.t 24) k sv l.length (s.flatMap enc) ∧ w.grownBy w' sv.ownBlock := by
 have hrow' := hrow
 obtain ⟨hlen, ⟨rfl, h0⟩ | ⟨b, cap, cur, rfl, hb, hblk, hcap, hmax, hcur, htake⟩⟩ := hrow
 · have e1 : l = [] := List.length_eq_zero_iff.1 h0
   subst e1
   refine (AnyF.slices_SortFunc_none L none 0 (.func (.func g) #[] cb) w).mono ?_
   rintro e w' ⟨rfl, rfl⟩
   exact ⟨rfl, [], .refl _, .nil, by simpa using hrow', World.grownBy.refl _ _⟩
 · by_cases hl0 : l.length = 0
   · have e1 : l = [] := List.length_eq_zero_iff.1 hl0
     subst e1
     refine (AnyF.slices_SortFunc_none L (some ⟨b, 0, none⟩) cap (.func (.func g) #[] cb) w).mono ?_
     rintro e w' ⟨rfl, rfl⟩
     exact ⟨rfl, [], .refl _, .nil, by simpa using hrow', World.grownBy.refl _ _⟩
   have hlt := b7t hblk
   have hH : Sort.HoldsK enc k w b 0 l.toArray := by
    intro j hj
    have hj' : j < l.length * k := by simpa using hj
    refine ⟨?_, f7b hblk _⟩
    refine c7b hblk ?_
    rw [Nat.zero_add]
    have h2 := flatK_get hk l j hj' _ htake
    rw [List.getElem?_take_of_lt hj'] at h2
    simpa using h2
   have hcon := AnyQ.slices_SortFunc L k aE zE enc hk h1 cf hO g cb b 0 cap l.toArray w eg (fun m os dk _ x y => (hcmp x y _).mono fun e w' h => ⟨h.1, h.2⟩) hH hlt (by simp; omega)
   simp only [List.size_toArray] at hcon
   refine hcon.mono ?_
   rintro e w' ⟨rfl, d', n, os, ⟨hsz', _, hperm⟩, hsort, rfl⟩
   obtain ⟨s, rfl⟩ : ∃ s : List α, d' = s.toArray := ⟨d'.toList, by simp⟩
   simp only [List.size_toArray] at hsz' hsort hperm
   have hp : s.Perm l := by
    have e1 : s.toArray.extract 0 l.length = s.toArray := by rw [← hsz']; simp
    have e2 : l.toArray.extract 0 l.length = l.toArray := by simp
    rw [e1, e2] at hperm
    exact hperm
   have hsl : s.length = l.length := hsz'
   have hpw : s.Pairwise (fun x y => ltOf cf y x = false) := by
    rw [List.pairwise_iff_getElem]
    intro i j hi hj hij
    have := hsort i j (Nat.zero_le _) hij (by omega)
    rw [getElem!_pos s.toArray i (by simpa using hi), getElem!_pos s.toArray j (by simpa using hj)] at this
    simpa using this
   have hgrow : ∀ j, j < w.heap.size → (sortWorldK enc k w b 0 n s.toArray os).heap[j]? = (w.heap.modify b (Sort.onCells (Sort.putCells id 0 (Sort.flatK enc k s.toArray))))[j]? := by
    intro j hj
    show ((w.heap.modify b (Sort.onCells (Sort.putCells id 0 (Sort.flatK enc k s.toArray)))) ++ os)[j]? = _
    exact Array.getElem?_append_left (by simpa using hj)
   refine ⟨rfl, s, hp, hpw, ⟨by rw [flat_length hk, hsl], .inr ⟨b, cap, Sort.putCells id 0 (Sort.flatK enc k s.toArray) cur, rfl, hb, ?_, hcap, hmax, by simp [Sort.putCells, hcur], ?_⟩⟩, rfl, rfl, rfl, ?_, ?_⟩
   · rw [hgrow b hlt, Array.getElem?_modify, if_pos rfl, hblk]
     rfl
   · apply List.ext_getElem?
     intro j
     by_cases hj : j < l.length * k
     · have h2 := flatK_get hk s j (by rw [hsl]; exact hj) _ rfl
       have h3 : l.length * k ≤ cur.size := by rw [hcur]; exact Nat.mul_le_mul_right k hcap
       rw [List.getElem?_take_of_lt hj, h2]
       simp only [Sort.putCells, Array.getElem?_toList, Array.getElem?_mapIdx]
       rw [Array.getElem?_eq_getElem (by omega)]
       simp [hsl, hj]
     · rw [List.getElem?_eq_none (by simp; omega), List.getElem?_eq_none (by rw [flat_length hk, hsl]; omega)]
   · show w.heap.size ≤ ((w.heap.modify b (Sort.onCells (Sort.putCells id 0 (Sort.flatK enc k s.toArray)))) ++ os).size
     simp
   · intro j hj hne
     rw [hgrow j hj, Array.getElem?_modify, if_neg (fun e => hne (by rw [e]; rfl))]
end
section
variable {P : Program} {ρ : Ren}
theorem sortInts (L : SlLaysM.n5 P ρ) (sv : Value) (l : List Int) (base : Nat) (w : World) (hrow : w.ownsRow base (ρ.t 25) 1 sv l.length (l.map (Value.int .i64))) (hsz : l.length ≤ 1000000000) :
 Calls P (ρ.f 5) #[sv] w fun e w' => e = .returned (.tuple #[]) ∧ w'.ownsRow base (ρ.t 25) 1 sv l.length ((l.mergeSort fun x y => decide (x ≤ y)).map (Value.int .i64)) ∧ w.grownBy w' sv.ownBlock := by
 have hrow' := hrow
 obtain ⟨hlen, ⟨rfl, h0⟩ | ⟨b, cap, cur, rfl, hb, hblk, hcap, hmax, hcur, htake⟩⟩ := hrow
 · have e1 : l = [] := List.length_eq_zero_iff.1 h0
   subst e1
   refine (AnyM.slices_Sort_int_none L none 0 w).mono ?_
   rintro e w' ⟨rfl, rfl⟩
   exact ⟨rfl, by simpa using hrow', World.grownBy.refl _ _⟩
 · have hlt := b7t hblk
   have hH : Sort.Holds (Value.int .i64) w b 0 l.toArray := by
    intro j hj
    have hj' : j < l.length := by simpa using hj
    refine ⟨?_, f7b hblk _⟩
    refine c7b hblk ?_
    rw [Nat.zero_add]
    have h2 : (l.map (Value.int .i64))[j]? = some (.int .i64 l[j]) := by simp [hj']
    rw [← htake, List.getElem?_take_of_lt (by omega)] at h2
    have e : l.toArray[j]! = l[j] := by rw [getElem!_pos l.toArray j (by simpa using hj)]; simp
    rw [e]
    simpa using h2
   refine (AnyM.slices_Sort_int L b 0 cap l w hH hlt (by omega)).mono ?_
   rintro e w' ⟨rfl, n, os, rfl⟩
   generalize hs : (l.mergeSort fun x y => decide (x ≤ y)) = s
   have hsl : s.length = l.length := by rw [← hs]; exact List.length_mergeSort l
   have hgrow : ∀ j, j < w.heap.size → (Sort.grow (Sort.putRow (Value.int .i64) (Sort.ahead w n) b 0 s.toArray) os).heap[j]? = (w.heap.modify b (Sort.onCells (Sort.putCells (Value.int .i64) 0 s.toArray)))[j]? := by
    intro j hj
    show ((w.heap.modify b (Sort.onCells (Sort.putCells (Value.int .i64) 0 s.toArray))) ++ os)[j]? = _
    exact Array.getElem?_append_left (by simpa using hj)
   refine ⟨rfl, ⟨by rw [List.length_map, hsl]; omega, .inr ⟨b, cap, Sort.putCells (Value.int .i64) 0 s.toArray cur, rfl, hb, ?_, hcap, hmax, by simp [Sort.putCells, hcur], ?_⟩⟩, rfl, rfl, rfl, ?_, ?_⟩
   · rw [hgrow b hlt, Array.getElem?_modify, if_pos rfl, hblk]
     rfl
   · apply List.ext_getElem?
     intro j
     by_cases hj : j < l.length * 1
     · have h3 : l.length ≤ cur.size := by rw [hcur]; omega
       rw [List.getElem?_take_of_lt hj]
       simp only [Sort.putCells, Array.getElem?_toList, Array.getElem?_mapIdx]
       rw [Array.getElem?_eq_getElem (by omega)]
       have hjs : j < s.length := by omega
       simp [hjs]
     · rw [List.getElem?_eq_none (by simp; omega), List.getElem?_eq_none (by rw [List.length_map, hsl]; omega)]
   · show w.heap.size ≤ ((w.heap.modify b (Sort.onCells (Sort.putCells (Value.int .i64) 0 s.toArray))) ++ os).size
     simp
   · intro j hj hne
     rw [hgrow j hj, Array.getElem?_modify, if_neg (fun e => hne (by rw [e]; rfl))]
end
end Go.Proofs.YthcdkkmjnglmjaaGreatDoor
/- Layer 6: sorted. -/
namespace Go.Proofs.YthcdkkmjnglmjaaGreatDoor
open Go.RowKit Go.Shelf Go.Maps
theorem lay_sortI : Go.Proofs.SlLaysM.n5 Tryz.prog ⟨fun | 5 => 125 | 7 => 130 | 8 => 127 | 10 => 142 | 11 => 143 | 12 => 144 | 13 => 145 | 14 => 146 | 15 => 147 | 16 => 148 | 17 => 149 | 18 => 150 | 19 => 139 | 20 => 140 | 30 => 156 | 31 => 152 | 32 => 153 | 33 => 157 | 34 => 158 | 35 => 115 | 40 => 160 | n => n, fun | 0 => 0 | 3 => 3 | 4 => 4 | 5 => 5 | 9 => 9 | 22 => 156 | 23 => 156 | 25 => 3 | 32 => 178 | 35 => 188 | 36 => 189 | 41 => 193 | 44 => 196 | 46 => 198 | 53 => 204 | 57 => 208 | 63 => 212 | 64 => 103 | n => n, fun | n => n⟩ := {
 mixed := by kernel_rfl
 f5 := ⟨Tryz.f125.name, by decide, Tryz.func125.trans (congrArg some (by kernel_rfl))⟩
 f7 := ⟨Tryz.f130.name, by decide, Tryz.func130.trans (congrArg some (by kernel_rfl))⟩
 f8 := Tryz.func127.trans (congrArg some (by kernel_rfl))
 f10 := ⟨Tryz.f142.name, by decide, Tryz.func142.trans (congrArg some (by kernel_rfl))⟩
 f11 := ⟨Tryz.f143.name, by decide, Tryz.func143.trans (congrArg some (by kernel_rfl))⟩
 f12 := ⟨Tryz.f144.name, by decide, Tryz.func144.trans (congrArg some (by kernel_rfl))⟩
 f13 := ⟨Tryz.f145.name, by decide, Tryz.func145.trans (congrArg some (by kernel_rfl))⟩
 f14 := ⟨Tryz.f146.name, by decide, Tryz.func146.trans (congrArg some (by kernel_rfl))⟩
 f15 := ⟨Tryz.f147.name, by decide, Tryz.func147.trans (congrArg some (by kernel_rfl))⟩
 f16 := ⟨Tryz.f148.name, by decide, Tryz.func148.trans (congrArg some (by kernel_rfl))⟩
 f17 := ⟨Tryz.f149.name, by decide, Tryz.func149.trans (congrArg some (by kernel_rfl))⟩
 f18 := ⟨Tryz.f150.name, by decide, Tryz.func150.trans (congrArg some (by kernel_rfl))⟩
 f19 := Tryz.func139.trans (congrArg some (by kernel_rfl))
 f20 := Tryz.func140.trans (congrArg some (by kernel_rfl))
 f30 := ⟨Tryz.f156.name, by decide, Tryz.func156.trans (congrArg some (by kernel_rfl))⟩
 f31 := Tryz.func152.trans (congrArg some (by kernel_rfl))
 f32 := Tryz.func153.trans (congrArg some (by kernel_rfl))
 f33 := ⟨Tryz.f157.name, by decide, Tryz.func157.trans (congrArg some (by kernel_rfl))⟩
 f34 := ⟨Tryz.f158.name, by decide, Tryz.func158.trans (congrArg some (by kernel_rfl))⟩
 f35 := ⟨Tryz.f115.name, by decide, Tryz.func115.trans (congrArg some (by kernel_rfl))⟩
 f40 := ⟨Tryz.f160.name, by decide, Tryz.func160.trans (congrArg some (by kernel_rfl))⟩
 t0 := Tryz.underlying0
 a0 := Tryz.isAgg0
 z0 := Tryz.sizeOf0
 v0 := Tryz.zeroValue0
 t3 := Tryz.underlying3
 a3 := Tryz.isAgg3
 z3 := Tryz.sizeOf3
 v3 := Tryz.zeroValue3
 t4 := Tryz.underlying4
 a4 := Tryz.isAgg4
 z4 := Tryz.sizeOf4
 v4 := Tryz.zeroValue4
 t5 := Tryz.underlying5
 a5 := Tryz.isAgg5
 z5 := Tryz.sizeOf5
 v5 := Tryz.zeroValue5
 t9 := Tryz.underlying9
 a9 := Tryz.isAgg9
 z9 := Tryz.sizeOf9
 v9 := Tryz.zeroValue9
 t22 := Tryz.underlying156
 a22 := Tryz.isAgg156
 z22 := Tryz.sizeOf156
 v22 := Tryz.zeroValue156
 t23 := Tryz.underlying156
 a23 := Tryz.isAgg156
 z23 := Tryz.sizeOf156
 v23 := Tryz.zeroValue156
 t25 := Tryz.underlying3
 a25 := Tryz.isAgg3
 z25 := Tryz.sizeOf3
 v25 := Tryz.zeroValue3
 t32 := Tryz.underlying178
 a32 := Tryz.isAgg178
 z32 := Tryz.sizeOf178
 v32 := Tryz.zeroValue178
 t35 := Tryz.underlying188
 a35 := Tryz.isAgg188
 z35 := Tryz.sizeOf188
 v35 := Tryz.zeroValue188
 t36 := Tryz.underlying189
 a36 := Tryz.isAgg189
 z36 := Tryz.sizeOf189
 v36 := Tryz.zeroValue189
 t41 := Tryz.underlying193
 a41 := Tryz.isAgg193
 z41 := Tryz.sizeOf193
 v41 := Tryz.zeroValue193
 t44 := Tryz.underlying196
 a44 := Tryz.isAgg196
 z44 := Tryz.sizeOf196
 v44 := Tryz.zeroValue196
 t46 := Tryz.underlying198
 a46 := Tryz.isAgg198
 z46 := Tryz.sizeOf198
 v46 := Tryz.zeroValue198
 t53 := Tryz.underlying204
 a53 := Tryz.isAgg204
 z53 := Tryz.sizeOf204
 v53 := Tryz.zeroValue204
 t57 := Tryz.underlying208
 a57 := Tryz.isAgg208
 z57 := Tryz.sizeOf208
 v57 := Tryz.zeroValue208
 t63 := Tryz.underlying212
 a63 := Tryz.isAgg212
 z63 := Tryz.sizeOf212
 v63 := Tryz.zeroValue212
 t64 := Tryz.underlying103
 a64 := Tryz.isAgg103
 z64 := Tryz.sizeOf103
 v64 := Tryz.zeroValue103 }
theorem rowI : RowT Tryz.prog 156 3 1 8 := .of (z := .int .i64 0) Tryz.underlying156 (by kernel_rfl) rfl (by decide)
def encI (y : Int) : List Value := [.int .i64 y]
theorem encI_len (y : Int) : (encI y).length = 1 := rfl
theorem encI_one (y : Int) : ∀ u ∈ encI y, u.oneCell' = true := by
 intro u hu
 simp [encI] at hu
 subst hu
 rfl
theorem encI_map (l : List Int) : l.flatMap encI = l.map (Value.int .i64) := by
 induction l with
 | nil => rfl
 | cons a l ih => simp [encI, ih]
theorem ownsMap_size {H : Type} {w : World} {P : Program} {k : TypeId} {R : Value → Option (DataW H × List MemPlace)} {b n : Nat} {D : DataW H} (h : w.ownsMap P k R b n D) : Maps.size D ≤ n := by
 obtain ⟨es, clock, _, _, hs, rfl⟩ := h
 have := (Go.WideShapes.sorted_perm (es.toList.map (Go.WideElems.rg P k R))).length_eq
 rw [size_eq, this]
 simpa using hs
/-- Other blocks are written. -/
theorem StO.other {α : Type} {w0 x y : World} {its : List It} {base : Nat} {e : TypeId} {k : Nat} {enc : α → List Value} {v : Value} {L : List α} {r : Nat} (h : StO w0 its base e k enc v L x) (hg : x.grownBy y (some r)) (h0 : w0.heap.size ≤ r) (ht : ∀ i ∈ its, i.top ≤ r) (hv : v.ownBlock ≠ some r) : StO w0 its base e k enc v L y :=
 ⟨h.st.grown (base := r) (fun j e => by cases e; exact Nat.le_refl _) h0 ht hg, h.row.kept hg (.inr hv), h.low, h.top, Nat.le_trans h.hi hg.size⟩
theorem sameKey_int (a b : Int) : (Lit.int .i64 a).sameKey (.int .i64 b) = decide (a = b) := by
 by_cases h : a = b
 · subst h; simp [Lit.sameKey]
 · simp [Lit.sameKey, h]
/-- The keys. -/
structure KeysP (D : DataW Value) (ks : List Int) (left : Lit → Bool) : Prop where
 left_ : ∀ y, left (.int .i64 y) = true ↔ Maps.has D (.int .i64 y) = true ∧ y ∉ ks
 nd : ks.Nodup
 has : ∀ y ∈ ks, Maps.has D (.int .i64 y) = true
theorem KeysP.step {D : DataW Value} {ks : List Int} {left : Lit → Bool} (h : KeysP D ks left) {x : Int} (hx : left (.int .i64 x) = true) : KeysP D (ks ++ [x]) (fun z => left z && !z.sameKey (.int .i64 x)) := by
 obtain ⟨h1, h2⟩ := (h.left_ x).1 hx
 refine ⟨fun y => ?_, List.nodup_append.2 ⟨h.nd, by simp, fun a ha b hb => ?_⟩, fun y hy => ?_⟩
 · rw [Bool.and_eq_true, h.left_ y, sameKey_int]
   simp only [Bool.not_eq_true', decide_eq_false_iff_not, List.mem_append, List.mem_singleton, not_or]
   constructor
   · rintro ⟨⟨a, b⟩, c⟩; exact ⟨a, b, c⟩
   · rintro ⟨a, b, c⟩; exact ⟨⟨a, b⟩, c⟩
 · simp at hb; subst hb; exact fun e => h2 (by rw [← e]; exact ha)
 · rcases List.mem_append.1 hy with hy | hy
   · exact h.has y hy
   · simp at hy; subst hy; exact h1
set_option maxRecDepth 100000 in
set_option maxHeartbeats 1000000 in
theorem sorted_any (b n : Nat) (D : DataW Value) (hn : n < 1000000000) (w : World) (h : w.ownsMap Tryz.prog 3 heldR b n D) :
 Calls Tryz.prog 111 #[.map (some b)] w fun e w' => ∃ (v : Value) (ks : List Int), e = .returned v ∧ w'.ownsRow w.heap.size 3 1 v ks.length (ks.map (Value.int .i64)) ∧ Below w.heap.size w w' ∧ ks.length ≤ n ∧
  ks.Pairwise (fun x y => x < y) ∧ ∀ y, y ∈ ks ↔ Maps.has D (.int .i64 y) = true := by
 have HM := H7 h
 have HN := H7 hn
 have HSZ := H7 (ownsMap_size h)
 clear h hn
 go_enter Tryz.func111, Tryz.ntmps111
 go_wp2_with (first | (at_range; refine wpList_range_own _ rfl _ _ rfl _ _ keyedI Tryz.underlying90 heldR b n D rfl HM.out ?_; intro w0 hrg0 hg0 hs0))
 go_frame
 obtain ⟨N1, hN1⟩ : ∃ N1, w0.heap.size = N1 := ⟨_, rfl⟩
 have hb0 : Below w.heap.size w w0 := ⟨hg0.os, hg0.tape, hg0.output, hg0.size, fun k hk => hg0.block k hk (by simp)⟩
 have HO := H7 (StO.start ((St.start w).below hb0) 3 1 encI)
 rw [hN1] at HO
 have HNN := H7 (show w.heap.size < N1 by omega)
 have HK0 := H7 (show KeysP D [] (Maps.has D) from ⟨fun y => by simp, List.nodup_nil, by simp⟩)
 have HRG := H7 hrg0
 have HSZ0 := H7 (show ([] : List Int).length + Maps.size D ≤ n by have := HSZ.out; simpa using this)
 clear hrg0 hg0 hs0 hb0 hN1
 go_loopw [3] (fun v wr => ∃ (ks : List Int) (left : Lit → Bool) (cnt : Nat), wr.ranges Tryz.prog 3 heldR b w.heap.size n D left cnt ∧ StO w [] N1 3 1 encI v ks wr ∧ KeysP D ks left ∧ ks.length + cnt ≤ n) (fun _ wr => wr.rangeLeft b w.heap.size)
 case atStart => exact ⟨[], _, _, HRG.out, HO.out, HK0.out, HSZ0.out⟩
 case round =>
  obtain ⟨ks, left, cnt, hrg, ho, hk, hcnt⟩ := hrel
  clear HRG HO HK0 HSZ0
  have HRG := H7 hrg
  have HO := H7 ho
  have HK := H7 hk
  have HC := H7 hcnt
  clear ho hk hcnt
  have HBL := H7 (show ks.length < 1000000000 by have := HC.out; have := HN.out; omega)
  have hvr : ∀ j, u3.ownBlock = some j → N1 ≤ j := fun j hj => (HO.out.row.lt j hj).1
  have HVR := H7 hvr
  clear hvr
  go_wp2_with (first | (at_next; refine wpList_next_ranges _ rfl _ rfl _ keyedI heldR (Value.int .i64) (fun v => v) (fun key kl hkey => by obtain ⟨x, hx, _⟩ := Maps.keyOf_int_inv Tryz.underlying3 hkey; exact ⟨x, hx⟩) (fun v y _ => ⟨v, rfl⟩) b _ n D left cnt rfl hrg ?_ ?_) | fail)
  · intro hc0 hl0
    have hks : ∀ y, y ∈ ks ↔ Maps.has D (.int .i64 y) = true := fun y => ⟨HK.out.has y, fun h => by
     refine Classical.byContradiction fun hn => ?_
     have := (HK.out.left_ y).2 ⟨h, hn⟩
     rw [hl0] at this
     cases this⟩
    have HKS := H7 hks
    have HC0 := H7 hc0
    have hrow := HO.out.row
    rw [encI_map] at hrow
    have HSO := H7 (sortInts lay_sortI u3 ks N1 wr hrow (by have := HBL.out; omega))
    clear hc0 hl0 hks hrow
    go_wp2_with fail
    refine HSO.out.mono ?_
    rintro e w4 ⟨rfl, hr4, hg4⟩
    have HR := H7 (And.intro hr4 hg4)
    clear hr4 hg4 HSO
    go_wp2_with fail
    go_ret
    refine ⟨u3, ks.mergeSort fun x y => decide (x ≤ y), rfl, ?_, ?_, ?_, ?_, ?_⟩
    · rw [List.length_mergeSort]
      exact ownsRow_mono HR.out.1 (Nat.le_of_lt HNN.out)
    · exact HO.out.st.low.grown HR.out.2 HO.out.st.low.size (fun j hj => Nat.le_trans (Nat.le_of_lt HNN.out) (HVR.out j hj))
    · rw [List.length_mergeSort]
      have := HC.out
      omega
    · have h1 := List.pairwise_mergeSort (le := fun x y : Int => decide (x ≤ y)) (fun a b c h1 h2 => by simp at *; omega) (fun a b => by simp; omega) ks
      have h2 : (ks.mergeSort fun x y => decide (x ≤ y)).Nodup := (List.mergeSort_perm ks _).nodup_iff.2 HK.out.nd
      refine (List.Pairwise.and h1 h2).imp fun {a b} h => ?_
      have h3 : a ≤ b := by simpa using h.1
      have h4 : a ≠ b := h.2
      omega
    · intro y
      rw [List.mem_mergeSort]
      exact HKS.out y
  · intro x c kl yD yP w4 cnt' hkey hlk hR hat hrg1 hlt hg1 hs1 hen
    obtain ⟨x', ex, rfl, _⟩ := Maps.keyOf_int_inv Tryz.underlying3 hkey
    cases ex
    have HK1 := H7 (HK.out.step hlk)
    have HO1 := H7 (HO.out.other hg1 (Nat.le_refl _) (by simp) (fun e => by have := HVR.out _ e; have := HNN.out; omega))
    have HRG1 := H7 hrg1
    have HLT := H7 hlt
    have HM0 := H7 hrg.left_eq
    clear hkey hlk hR hat hrg1 hlt hg1 hs1 HO HK HRG hrg
    go_wp2_with (at_builtin; refine wpList_app1g (enc := encI) (L := ks) rowI encI_len encI_one HO1.out (B7 _ _) x ks.length rfl HBL.out (by decide) _ _ rfl rfl rfl _ rfl rfl ?_; intro v' w5 ho5 hsh hg5; have HO5 := H7 ho5; have HG5 := H7 hg5; clear ho5 hsh hg5)
    have hrg5 := HRG1.out.kept HG5.out (by
     intro e
     have h1 := HVR.out _ e.symm
     have h2 := HRG1.out.ne
     have h3 := HNN.out
     have h4 := HM.out.lt
     omega) (by intro e; have := HVR.out _ e.symm; have := HNN.out; omega)
    have HRG5 := H7 hrg5
    clear hrg5 hen
    go_roundw
    case rel => exact ⟨ks ++ [x], _, cnt', HRG5.out, HO5.out, HK1.out, by have := HC.out; have := HLT.out; simp; omega⟩
    case measure => rw [HRG5.out.left_eq, HM0.out]; exact HLT.out
end Go.Proofs.YthcdkkmjnglmjaaGreatDoor
/- Layer 6, plain: a right row is determined by its places. -/
namespace Go.Proofs.YthcdkkmjnglmjaaGreatDoor
open Go.RowKit Go.Shelf
def ordP (a b : SpT) : Prop := a.y < b.y ∨ a.y = b.y ∧ a.t + 1 < b.f
structure RowP (l : List SpT) : Prop where
 sp : ∀ s ∈ l, s.f ≤ s.t
 ord : l.Pairwise ordP
theorem ordP_trans {a b c : SpT} (hb : b.f ≤ b.t) (h : ordP a b) (k : ordP b c) : ordP a c := by
 unfold ordP at *
 omega
theorem RightP.tail {s : SpT} {l : List SpT} (h : RightP (s :: l)) : RightP l :=
 ⟨fun k hk => by have := h.sp (k + 1) (by simp; omega); simpa using this, fun k hk => by have := h.ord (k + 1) (by simp; omega); simpa using this⟩
theorem spB_iff (s : SpT) : spB s = true ↔ (-256 ≤ s.y ∧ s.y ≤ 255) ∧ (-256 ≤ s.f ∧ s.f ≤ 255) ∧ (-256 ≤ s.t ∧ s.t ≤ 255) ∧ s.f ≤ s.t := by
 simp [spB, reachB]
theorem RightP.rowP : ∀ {l : List SpT}, RightP l → RowP l
 | [], _ => ⟨by simp, List.Pairwise.nil⟩
 | s :: l, h => by
  have hl := h.tail.rowP
  have hs := (spB_iff s).1 (by have := h.sp 0 (by simp); simpa using this)
  refine ⟨fun q hq => ?_, List.Pairwise.cons (fun q hq => ?_) hl.ord⟩
  · rcases List.mem_cons.1 hq with rfl | hq
    · omega
    · exact hl.sp q hq
  · cases l with
    | nil => cases hq
    | cons r l' =>
     have h1 : ordP s r := by
      have := h.ord 0 (by simp)
      simpa [ordB, ordP] using this
     rcases List.mem_cons.1 hq with rfl | hq
     · exact h1
     · exact ordP_trans (hl.sp r (by simp)) h1 ((List.pairwise_cons.1 hl.ord).1 q hq)
theorem hasB_iff (l : List SpT) (p : PtT) : hasB l p = true ↔ ∃ s ∈ l, s.y = p.y ∧ s.f ≤ p.x ∧ p.x ≤ s.t := by
 simp [hasB, List.any_eq_true, inB]
theorem rowP_unique : ∀ {l m : List SpT}, RowP l → RowP m → (∀ p, hasB l p = true ↔ hasB m p = true) → l = m
 | [], [], _, _, _ => rfl
 | [], r :: m, _, hm, h => by
  have h1 := hm.sp r (by simp)
  have := (h ⟨r.f, r.y⟩).2 ((hasB_iff _ _).2 ⟨r, by simp, rfl, Int.le_refl _, h1⟩)
  simp [hasB] at this
 | s :: l, [], hl, _, h => by
  have h1 := hl.sp s (by simp)
  have := (h ⟨s.f, s.y⟩).1 ((hasB_iff _ _).2 ⟨s, by simp, rfl, Int.le_refl _, h1⟩)
  simp [hasB] at this
 | s :: l, r :: m, hl, hm, h => by
  have s1 := hl.sp s (by simp)
  have r1 := hm.sp r (by simp)
  obtain ⟨so, lo⟩ := List.pairwise_cons.1 hl.ord
  obtain ⟨ro, mo⟩ := List.pairwise_cons.1 hm.ord
  have a1 := (hasB_iff _ _).1 ((h ⟨s.f, s.y⟩).1 ((hasB_iff _ _).2 ⟨s, by simp, rfl, Int.le_refl _, s1⟩))
  have a2 := (hasB_iff _ _).1 ((h ⟨r.f, r.y⟩).2 ((hasB_iff _ _).2 ⟨r, by simp, rfl, Int.le_refl _, r1⟩))
  have hge : ∀ q ∈ r :: m, r.y < q.y ∨ r.y = q.y ∧ r.f ≤ q.f := fun q hq => by
   rcases List.mem_cons.1 hq with rfl | hq
   · omega
   · have := ro q hq; unfold ordP at this; omega
  have hge' : ∀ q ∈ s :: l, s.y < q.y ∨ s.y = q.y ∧ s.f ≤ q.f := fun q hq => by
   rcases List.mem_cons.1 hq with rfl | hq
   · omega
   · have := so q hq; unfold ordP at this; omega
  obtain ⟨q, hq, q1, q2, q3⟩ := a1
  obtain ⟨q', hq', q1', q2', q3'⟩ := a2
  simp only at q1 q2 q3 q1' q2' q3'
  have b1 := hge q hq
  have b2 := hge' q' hq'
  have ey : s.y = r.y := by omega
  have ef : s.f = r.f := by omega
  have et1 : r.t ≤ s.t := by
   refine Int.not_lt.1 fun hlt => ?_
   obtain ⟨z, hz, z1, z2, z3⟩ := (hasB_iff _ _).1 ((h ⟨s.t + 1, s.y⟩).2 ((hasB_iff _ _).2 ⟨r, by simp, ey.symm, by simp only; omega, by simp only; omega⟩))
   simp only at z1 z2 z3
   rcases List.mem_cons.1 hz with rfl | hz
   · omega
   · have := so z hz; unfold ordP at this; omega
  have et2 : s.t ≤ r.t := by
   refine Int.not_lt.1 fun hlt => ?_
   obtain ⟨z, hz, z1, z2, z3⟩ := (hasB_iff _ _).1 ((h ⟨r.t + 1, r.y⟩).1 ((hasB_iff _ _).2 ⟨s, by simp, ey, by simp only; omega, by simp only; omega⟩))
   simp only at z1 z2 z3
   rcases List.mem_cons.1 hz with rfl | hz
   · omega
   · have := ro z hz; unfold ordP at this; omega
  have e : s = r := by
   cases s; cases r
   simp only at ey ef et1 et2
   rw [ey, ef, Int.le_antisymm et2 et1]
  subst e
  have := rowP_unique (l := l) (m := m) ⟨fun q hq => hl.sp q (by simp [hq]), lo⟩ ⟨fun q hq => hm.sp q (by simp [hq]), mo⟩ (fun p => by
   have key : ∀ {k : List SpT}, (∀ q ∈ k, ordP s q) → (hasB k p = true ↔ hasB (s :: k) p = true ∧ ¬ (s.y = p.y ∧ s.f ≤ p.x ∧ p.x ≤ s.t)) := by
    intro k hk
    rw [hasB_iff, hasB_iff]
    constructor
    · rintro ⟨q, hq, q1, q2, q3⟩
      refine ⟨⟨q, by simp [hq], q1, q2, q3⟩, fun hs => ?_⟩
      have := hk q hq; unfold ordP at this; omega
    · rintro ⟨⟨q, hq, q1, q2, q3⟩, hn⟩
      rcases List.mem_cons.1 hq with e | hq
      · rw [e] at q1 q2 q3
        exact absurd (And.intro q1 (And.intro q2 q3)) hn
      · exact ⟨q, hq, q1, q2, q3⟩
   rw [key so, key ro, h p])
  rw [this]
/- Layer 6, plain: the row of spans of a field of truths, place by place. -/
/-- L is the row of spans of the places of a box of which F holds. -/
structure RowOf (x1 y1 : Int) (n m : Nat) (F : Nat → Nat → Bool) (L : List SpT) : Prop where
 row : RowP L
 box : ∀ s ∈ L, y1 ≤ s.y ∧ s.y < y1 + n ∧ x1 ≤ s.f ∧ s.t < x1 + m
 has : ∀ p, hasB L p = true ↔ (y1 ≤ p.y ∧ p.y < y1 + n) ∧ (x1 ≤ p.x ∧ p.x < x1 + m) ∧ F (p.y - y1).toNat (p.x - x1).toNat = true
theorem RowOf.unique {x1 y1 : Int} {n m : Nat} {F : Nat → Nat → Bool} {L M : List SpT} (h : RowOf x1 y1 n m F L) (k : RowOf x1 y1 n m F M) : L = M :=
 rowP_unique h.row k.row fun p => (h.has p).trans (k.has p).symm
/-- So far: j rows, and i places. -/
structure RowTo (x1 y1 : Int) (m : Nat) (F : Nat → Nat → Bool) (L : List SpT) (j i : Nat) : Prop where
 row : RowP L
 box : ∀ s ∈ L, y1 ≤ s.y ∧ s.y ≤ y1 + j ∧ x1 ≤ s.f ∧ s.t < x1 + m ∧ (s.y = y1 + j → s.t < x1 + i)
 has : ∀ p, hasB L p = true ↔ (x1 ≤ p.x ∧ p.x < x1 + m) ∧ y1 ≤ p.y ∧ (p.y < y1 + j ∨ p.y = y1 + j ∧ p.x < x1 + i) ∧ F (p.y - y1).toNat (p.x - x1).toNat = true
/-- Is a span open? -/
def OpenTo (x1 y1 : Int) (L : List SpT) (j i : Nat) : Bool → Prop
 | true => ∃ L0 s, L = L0 ++ [s] ∧ s.y = y1 + (j : Int) ∧ s.t = x1 + (i : Int) - 1
 | false => ∀ s ∈ L, s.y = y1 + (j : Int) → s.t + 1 < x1 + (i : Int)
theorem rowP_nil : RowP [] := ⟨by simp, List.Pairwise.nil⟩
theorem hasB_app (L M : List SpT) (p : PtT) : hasB (L ++ M) p = (hasB L p || hasB M p) := by simp [hasB]
theorem hasB_one (s : SpT) (p : PtT) : hasB [s] p = inB p s := by simp [hasB]
variable {x1 y1 : Int} {m : Nat} {F : Nat → Nat → Bool} {L : List SpT} {j i : Nat}
theorem RowTo.skip (h : RowTo x1 y1 m F L j i) (hi : i < m) (hF : F j i = false) : RowTo x1 y1 m F L j (i + 1) ∧ OpenTo x1 y1 L j (i + 1) false := by
 refine ⟨⟨h.row, fun s hs => ?_, fun p => ?_⟩, fun s hs e => ?_⟩
 · obtain ⟨a, b, c, d, e⟩ := h.box s hs
   exact ⟨a, b, c, d, fun e' => by have := e e'; omega⟩
 · rw [h.has p]
   constructor
   · rintro ⟨a, b, c, d⟩
     exact ⟨a, b, by omega, d⟩
   · rintro ⟨a, b, c, d⟩
     refine ⟨a, b, ?_, d⟩
     rcases c with c | ⟨c1, c2⟩
     · exact .inl c
     · refine .inr ⟨c1, ?_⟩
       refine Int.not_le.1 fun hle => ?_
       rw [show (p.y - y1).toNat = j by omega, show (p.x - x1).toNat = i by omega, hF] at d
       cases d
 · have := (h.box s hs).2.2.2.2 e
   omega
theorem RowTo.open (h : RowTo x1 y1 m F L j i) (hi : i < m) (hF : F j i = true) {L0 : List SpT} {s : SpT} (hL : L = L0 ++ [s]) (hy : s.y = y1 + (j : Int)) (ht : s.t = x1 + (i : Int) - 1) :
 RowTo x1 y1 m F (L0 ++ [⟨s.y, s.f, x1 + (i : Int)⟩]) j (i + 1) ∧ OpenTo x1 y1 (L0 ++ [⟨s.y, s.f, x1 + (i : Int)⟩]) j (i + 1) true := by
 subst hL
 obtain ⟨h1, h2, h3⟩ := List.pairwise_append.1 h.row.ord
 have hs := h.row.sp s (by simp)
 obtain ⟨b1, b2, b3, b4, b5⟩ := h.box s (by simp)
 have hbefore : ∀ q ∈ L0, q.y < s.y ∨ q.y = s.y ∧ q.t + 1 < s.f := fun q hq => by
  have := h3 q hq s (by simp); unfold ordP at this; exact this
 refine ⟨⟨⟨fun q hq => ?_, ?_⟩, fun q hq => ?_, fun p => ?_⟩, _, _, rfl, hy, by simp; omega⟩
 · rcases List.mem_append.1 hq with hq | hq
   · exact h.row.sp q (by simp [hq])
   · simp at hq; subst hq; simp only; omega
 · refine List.pairwise_append.2 ⟨h1, List.pairwise_singleton _ _, fun q hq r hr => ?_⟩
   simp at hr; subst hr
   have := hbefore q hq
   unfold ordP; simp only; omega
 · rcases List.mem_append.1 hq with hq | hq
   · obtain ⟨a, b, c, d, e⟩ := h.box q (by simp [hq])
     exact ⟨a, b, c, d, fun e' => by have := e e'; omega⟩
   · simp at hq; subst hq
     simp only
     exact ⟨b1, b2, b3, by omega, fun _ => by omega⟩
 · have hp := h.has p
   rw [hasB_app, hasB_one, Bool.or_eq_true] at hp ⊢
   simp only [inB, decide_eq_true_eq] at hp ⊢
   constructor
   · rintro (a | ⟨a1, a2, a3⟩)
     · obtain ⟨c1, c2, c3, c4⟩ := hp.1 (.inl a)
       exact ⟨c1, c2, by omega, c4⟩
     · by_cases e : p.x ≤ s.t
       · obtain ⟨c1, c2, c3, c4⟩ := hp.1 (.inr ⟨a1, a2, e⟩)
         exact ⟨c1, c2, by omega, c4⟩
       · refine ⟨by omega, by omega, by omega, ?_⟩
         rw [show (p.y - y1).toNat = j by omega, show (p.x - x1).toNat = i by omega]
         exact hF
   · rintro ⟨c1, c2, c3, c4⟩
     by_cases e : p.y = y1 + (j : Int) ∧ p.x = x1 + (i : Int)
     · right; omega
     · rcases hp.2 ⟨c1, c2, by omega, c4⟩ with a | a
       · exact .inl a
       · right; omega
theorem RowTo.new (h : RowTo x1 y1 m F L j i) (hi : i < m) (hF : F j i = true) (ho : OpenTo x1 y1 L j i false) :
 RowTo x1 y1 m F (L ++ [⟨y1 + (j : Int), x1 + (i : Int), x1 + (i : Int)⟩]) j (i + 1) ∧ OpenTo x1 y1 (L ++ [⟨y1 + (j : Int), x1 + (i : Int), x1 + (i : Int)⟩]) j (i + 1) true := by
 refine ⟨⟨⟨fun q hq => ?_, ?_⟩, fun q hq => ?_, fun p => ?_⟩, _, _, rfl, rfl, by simp; omega⟩
 · rcases List.mem_append.1 hq with hq | hq
   · exact h.row.sp q hq
   · simp at hq; subst hq; simp
 · refine List.pairwise_append.2 ⟨h.row.ord, List.pairwise_singleton _ _, fun q hq r hr => ?_⟩
   simp at hr; subst hr
   have h1 := h.box q hq
   have h2 := ho q hq
   unfold ordP; simp only; omega
 · rcases List.mem_append.1 hq with hq | hq
   · obtain ⟨a, b, c, d, e⟩ := h.box q hq
     exact ⟨a, b, c, d, fun e' => by have := e e'; omega⟩
   · simp at hq; subst hq
     simp only
     exact ⟨by omega, by omega, by omega, by omega, fun _ => by omega⟩
 · have hp := h.has p
   rw [hasB_app, hasB_one, Bool.or_eq_true, hp]
   simp only [inB, decide_eq_true_eq]
   constructor
   · rintro (⟨c1, c2, c3, c4⟩ | ⟨a1, a2, a3⟩)
     · exact ⟨c1, c2, by omega, c4⟩
     · refine ⟨by omega, by omega, by omega, ?_⟩
       rw [show (p.y - y1).toNat = j by omega, show (p.x - x1).toNat = i by omega]
       exact hF
   · rintro ⟨c1, c2, c3, c4⟩
     by_cases e : p.y = y1 + (j : Int) ∧ p.x = x1 + (i : Int)
     · right; omega
     · left; exact ⟨c1, c2, by omega, c4⟩
theorem RowTo.down (h : RowTo x1 y1 m F L j m) : RowTo x1 y1 m F L (j + 1) 0 ∧ OpenTo x1 y1 L (j + 1) 0 false := by
 refine ⟨⟨h.row, fun s hs => ?_, fun p => ?_⟩, fun s hs e => ?_⟩
 · obtain ⟨a, b, c, d, e⟩ := h.box s hs
   exact ⟨a, by omega, c, d, fun e' => by omega⟩
 · rw [h.has p]
   constructor
   · rintro ⟨a, b, c, d⟩
     exact ⟨a, b, by omega, d⟩
   · rintro ⟨a, b, c, d⟩
     exact ⟨a, b, by omega, d⟩
 · have := (h.box s hs).2.1
   omega
/- Fields of truths: rows of rows. -/
def upd2 (F : Nat → Nat → Bool) (j i : Nat) (u : Bool) : Nat → Nat → Bool := fun a b => if a = j ∧ b = i then u else F a b
/- Layer 6: the document's Row. -/
/-- A field that is read. -/
def FldR (w : World) (g n m : Nat) (F : Nat → Nat → Bool) : Prop := g < w.heap.size ∧ ∀ j, j < n → ∃ b, b < w.heap.size ∧ w.cell? ⟨g, j, none⟩ = some (.slice (some ⟨b, 0, none⟩) m m) ∧ ∀ i, i < m → w.cell? ⟨b, i, none⟩ = some (.bool (F j i))
theorem FldR.below {w w' : World} {g n m : Nat} {F : Nat → Nat → Bool} (h : FldR w g n m F) (hb : Below w.heap.size w w') : FldR w' g n m F := by
 refine ⟨Nat.lt_of_lt_of_le h.1 hb.size, fun j hj => ?_⟩
 obtain ⟨b, h1, h2, h3⟩ := h.2 j hj
 exact ⟨b, Nat.lt_of_lt_of_le h1 hb.size, (hb.cell (p := ⟨g, j, none⟩) h.1).trans h2, fun i hi => (hb.cell (p := ⟨b, i, none⟩) h1).trans (h3 i hi)⟩
/- Layer 6: the document's Rect. -/
/-- L is THE row of spans of the places of which P holds. -/
structure SetRow (P : PtT → Prop) (L : List SpT) : Prop where
 row : RowP L
 has : ∀ p, hasB L p = true ↔ P p
theorem SetRow.unique {P : PtT → Prop} {L M : List SpT} (h : SetRow P L) (k : SetRow P M) : L = M := rowP_unique h.row k.row fun p => (h.has p).trans (k.has p).symm
theorem SetRow.congr {P Q : PtT → Prop} {L : List SpT} (h : SetRow P L) (e : ∀ p, P p ↔ Q p) : SetRow Q L := ⟨h.row, fun p => (h.has p).trans (e p)⟩
theorem RowOf.setRow {x1 y1 : Int} {n m : Nat} {F : Nat → Nat → Bool} {L : List SpT} {P : PtT → Prop} (h : RowOf x1 y1 n m F L) (hin : ∀ p, P p → (y1 ≤ p.y ∧ p.y < y1 + n) ∧ (x1 ≤ p.x ∧ p.x < x1 + m)) (hF : ∀ r c : Nat, F r c = true ↔ P ⟨x1 + c, y1 + r⟩) : SetRow P L := by
 refine ⟨h.row, fun p => (h.has p).trans ?_⟩
 have key : ∀ p : PtT, (y1 ≤ p.y ∧ x1 ≤ p.x) → (F (p.y - y1).toNat (p.x - x1).toNat = true ↔ P p) := fun p hp => by
  rw [hF]
  have e1 : x1 + ((p.x - x1).toNat : Int) = p.x := by omega
  have e2 : y1 + ((p.y - y1).toNat : Int) = p.y := by omega
  rw [e1, e2]
 constructor
 · rintro ⟨a, b, c⟩; exact (key p ⟨a.1, b.1⟩).1 c
 · intro hp; obtain ⟨a, b⟩ := hin p hp; exact ⟨a, b, (key p ⟨a.1, b.1⟩).2 hp⟩
theorem upd2_true {F : Nat → Nat → Bool} {j i a b : Nat} : upd2 F j i true a b = true ↔ (a = j ∧ b = i) ∨ F a b = true := by
 unfold upd2
 by_cases h : a = j ∧ b = i
 · simp [h]
 · rw [if_neg h]; simp [h]
/-- The places of a rectangle. -/
def RectP (a b p : PtT) : Prop := (min a.x b.x ≤ p.x ∧ p.x ≤ max a.x b.x) ∧ (min a.y b.y ≤ p.y ∧ p.y ≤ max a.y b.y)
/-- a number on the way from a to b -/
theorem way_at {a b : Int} {j : Nat} (hj : (j : Int) ≤ wayN a b) : min a b ≤ a + sideN a b * (j : Int) ∧ a + sideN a b * (j : Int) ≤ max a b ∧ sideN a b * (j : Int) = a + sideN a b * (j : Int) - a ∧ -(j : Int) ≤ sideN a b * (j : Int) ∧ sideN a b * (j : Int) ≤ (j : Int) := by
 unfold wayN at hj
 unfold sideN
 by_cases h : b < a
 · rw [if_pos h] at hj ⊢; omega
 · rw [if_neg h] at hj ⊢; omega
theorem way_back {a b c : Int} (h1 : min a b ≤ c) (h2 : c ≤ max a b) : ∃ j : Nat, (j : Int) ≤ wayN a b ∧ c = a + sideN a b * (j : Int) := by
 unfold wayN sideN
 by_cases h : b < a
 · rw [if_pos h, if_pos h]; exact ⟨(a - c).toNat, by omega, by omega⟩
 · rw [if_neg h, if_neg h]; exact ⟨(c - a).toNat, by omega, by omega⟩
/-- So far: J whole rows, and I places of the next. -/
def RectF (a b : PtT) (J I : Nat) (F : Nat → Nat → Bool) : Prop := ∀ r c : Nat, F r c = true ↔ ∃ j i : Nat, (j < J ∨ j = J ∧ i < I) ∧ (i : Int) ≤ wayN a.x b.x ∧ -79 + (r : Int) = a.y + sideN a.y b.y * (j : Int) ∧ -79 + (c : Int) = a.x + sideN a.x b.x * (i : Int)
theorem RectF.step {a b : PtT} {J I R C : Nat} {F : Nat → Nat → Bool} (h : RectF a b J I F) (hI : (I : Int) ≤ wayN a.x b.x) (hR : -79 + (R : Int) = a.y + sideN a.y b.y * (J : Int)) (hC : -79 + (C : Int) = a.x + sideN a.x b.x * (I : Int)) : RectF a b J (I + 1) (upd2 F R C true) := by
 intro r c
 rw [upd2_true, h r c]
 constructor
 · rintro (⟨rfl, rfl⟩ | ⟨j, i, h1, h2, h3, h4⟩)
   · exact ⟨J, I, .inr ⟨rfl, by omega⟩, hI, hR, hC⟩
   · exact ⟨j, i, by omega, h2, h3, h4⟩
 · rintro ⟨j, i, h1, h2, h3, h4⟩
   by_cases e : j = J ∧ i = I
   · obtain ⟨rfl, rfl⟩ := e
     left; omega
   · right; exact ⟨j, i, by omega, h2, h3, h4⟩
theorem RectF.down {a b : PtT} {J I : Nat} {F : Nat → Nat → Bool} (h : RectF a b J I F) (hI : (I : Int) = wayN a.x b.x + 1) : RectF a b (J + 1) 0 F := by
 intro r c
 rw [h r c]
 constructor
 · rintro ⟨j, i, h1, h2, h3, h4⟩; exact ⟨j, i, by omega, h2, h3, h4⟩
 · rintro ⟨j, i, h1, h2, h3, h4⟩; exact ⟨j, i, by omega, h2, h3, h4⟩
theorem RectF.all {a b : PtT} {J : Nat} {F : Nat → Nat → Bool} (h : RectF a b J 0 F) (hJ : (J : Int) = wayN a.y b.y + 1) (r c : Nat) : F r c = true ↔ RectP a b ⟨-79 + (c : Int), -79 + (r : Int)⟩ := by
 rw [h r c]
 unfold RectP
 constructor
 · rintro ⟨j, i, h1, h2, h3, h4⟩
   simp only
   rw [h3, h4]
   have a1 := way_at h2
   have a2 := way_at (a := a.y) (b := b.y) (j := j) (by omega)
   exact ⟨⟨a1.1, a1.2.1⟩, a2.1, a2.2.1⟩
 · rintro ⟨⟨h1, h2⟩, h3, h4⟩
   obtain ⟨i, i1, i2⟩ := way_back h1 h2
   obtain ⟨j, j1, j2⟩ := way_back h3 h4
   exact ⟨j, i, by omega, i1, j2, i2⟩
theorem drawn_iff (p : PtT) : drawnB p = true ↔ (-64 ≤ p.x ∧ p.x ≤ 127) ∧ (-64 ≤ p.y ∧ p.y ≤ 127) := by simp [drawnB]; omega
end Go.Proofs.YthcdkkmjnglmjaaGreatDoor
