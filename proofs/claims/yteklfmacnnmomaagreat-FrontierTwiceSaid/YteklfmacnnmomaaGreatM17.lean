/- Merged texts: FrW RowG Row FrRow. -/
import Derived.Test.YteklfmacnnmomaaGreatM16
import Derived.Test.YteklfmacnnmomaaGreatRows
import Derived.Test.YteklfmacnnmomaaGreatM1
import Derived.ProofKit
import Derived.OpenShut
import Derived.Deep.Slices
import Derived.Carry
import Derived.Test.YteklfmacnnmomaaGreatM2
import Derived.Test.YteklfmacnnmomaaGreatM3
set_option linter.unusedSimpArgs false
set_option linter.unusedVariables false
/- Layer 18: the law FrontierTwice. -/
namespace Go.Proofs.YteklfmacnnmomaaGreat
open Go.RowKit Go.Shelf
attribute [local go_sem] Oper.semAt_some
theorem infoPl : (Tryz.prog.info? 26).map (fun i => (i.zero, i.size, i.bytes)) = some (some (.agg plZ.cells), 12, 96) := by kernel_rfl
theorem lay_clonePl : Go.Proofs.SlLaysE0.n41 Tryz.prog ⟨fun | 41 => 18 | n => n, fun | 22 => 31 | 23 => 26 | 4 => 4 | n => n, fun | n => n⟩ := {
 mixed := by kernel_rfl
 f41 := ⟨Tryz.f18.name, by decide, Tryz.func18.trans (congrArg some (by kernel_rfl))⟩
 t22 := Tryz.underlying31
 a22 := Tryz.isAgg31
 z22 := Tryz.sizeOf31
 v22 := Tryz.zeroValue31
 t4 := Tryz.underlying4
 a4 := Tryz.isAgg4
 z4 := Tryz.sizeOf4
 v4 := Tryz.zeroValue4 }
theorem clonePl_any (sv : Value) (l : List Plg) (n : Nat) (hn : l.length = n) (w : World) (h : Elems w sv n 12 (rowC Plg.l l)) (hl : n ≤ 1000000) :
 Calls Tryz.prog 18 #[sv] w (Cloned 26 12 n (l.flatMap Plg.l) sv w) := by
 subst hn
 obtain ⟨i0, hi, hz0, hz1, hz2⟩ := info_parts infoPl
 exact cloneRows lay_clonePl i0 _ 12 96 hi hz0 hz1 hz2 rfl (by omega) Tryz.sizeOf26 Plg.l Plg.len Plg.onel sv l w h (by omega) (by omega)
theorem lay_revPl : Go.Proofs.SlLaysE0.n35 Tryz.prog ⟨fun | 35 => 20 | n => n, fun | 22 => 31 | 23 => 26 | 4 => 4 | 3 => 3 | 0 => 0 | n => n, fun | n => n⟩ := {
 mixed := by kernel_rfl
 f35 := ⟨Tryz.f20.name, by decide, Tryz.func20.trans (congrArg some (by kernel_rfl))⟩
 t22 := Tryz.underlying31
 a22 := Tryz.isAgg31
 z22 := Tryz.sizeOf31
 v22 := Tryz.zeroValue31
 t4 := Tryz.underlying4
 a4 := Tryz.isAgg4
 z4 := Tryz.sizeOf4
 v4 := Tryz.zeroValue4
 t3 := Tryz.underlying3
 a3 := Tryz.isAgg3
 z3 := Tryz.sizeOf3
 v3 := Tryz.zeroValue3
 t0 := Tryz.underlying0
 a0 := Tryz.isAgg0
 z0 := Tryz.sizeOf0
 v0 := Tryz.zeroValue0 }
instance : Inhabited Plg := ⟨plZ⟩
theorem revPl_any (sv : Value) (l : List Plg) (n : Nat) (hn : l.length = n) (base : Nat) (w : World) (hrow : w.ownsRow base 26 12 sv n (l.flatMap Plg.l)) (hsz : n ≤ 1000000000) :
 Calls Tryz.prog 20 #[sv] w fun e w' => e = .returned (.tuple #[]) ∧ w'.ownsRow base 26 12 sv n (l.reverse.flatMap Plg.l) ∧ (w' = w ∨ ∃ g cap, sv = .slice (some ⟨g, 0, none⟩) n cap ∧ 0 < n ∧ w.grownBy w' (some g)) := by
 subst hn
 exact reverseRows lay_revPl 12 Tryz.isAgg26 Tryz.sizeOf26 Plg.l Plg.len Plg.onel sv l base w hrow hsz
/-- Blocks of other types stay where a row is turned about. -/
theorem St.revT {w0 x y : World} {its : List It} {base n : Nat} {e : TypeId} {k : Nat} {xs : List Value} {sv : Value} (h : St w0 its x) (hits : ∀ i ∈ its, ∃ b c t f, i = .blk b (.cells c t f) ∧ t ≠ e) (hlo : w0.heap.size ≤ base) (hr : x.ownsRow base e k sv n xs) (hw : y = x ∨ ∃ g cap, sv = .slice (some ⟨g, 0, none⟩) n cap ∧ 0 < n ∧ x.grownBy y (some g)) : St w0 its y := by
 rcases hw with rfl | ⟨g, cap, rfl, -, hg⟩
 · exact h
 · obtain ⟨h1, h2, cur, h3⟩ := ownsRow_block hr
   refine ⟨h.low.grown hg h.low.size (fun j e => by cases e; omega), fun i hi => ?_, h.ord, fun i hi => Nat.le_trans (h.top i hi) hg.size⟩
   obtain ⟨b, c, t, f, rfl, ht⟩ := hits i hi
   have hok : x.heap[b]? = some (.cells c t f) := h.ok _ hi
   refine (hg.block b (b7t hok) fun e => ?_).trans hok
   cases e
   rw [h3] at hok
   injection hok with e2
   injection e2 with e3 e4 e5
   exact ht e4.symm
theorem plShape {w : World} {base m : Nat} {xs : List Value} {sv : Value} (h : w.ownsRow base 26 12 sv m xs) : ∃ a c, sv = .slice a m c := by
 rcases h.2 with ⟨rfl, rfl⟩ | ⟨g, cap, cur, rfl, -⟩
 · exact ⟨_, _, rfl⟩
 · exact ⟨_, _, rfl⟩
theorem rowPl {w : World} {base m : Nat} {L : List Plg} {sv : Value} (hm : L.length = m) (h : w.ownsRow base 26 12 sv m (L.flatMap Plg.l)) : Elems w sv m 12 (rowC Plg.l L) := by
 subst hm
 exact ownsRow_rows Plg.len h
theorem ownBlock_ge {w : World} {base e size n : Nat} {xs : List Value} {sv : Value} (h : w.ownsRow base e size sv n xs) : ∀ j, sv.ownBlock = some j → base ≤ j := by
 rcases h.2 with ⟨rfl, -⟩ | ⟨g, cap, cur, rfl, hb, -⟩
 · intro j e; cases e
 · intro j e; cases e; exact hb
theorem srcPl {w : World} {base m : Nat} {L : List Plg} {sv : Value} (h : w.ownsRow base 26 12 sv m (L.flatMap Plg.l)) : Src w 12 sv m (L.flatMap Plg.l) := by
 obtain ⟨hlen, ⟨rfl, rfl⟩ | ⟨g, cap, cur, rfl, hb, hblk, hle, hmax, hsz, htake⟩⟩ := h
 · exact ⟨hlen, .inl ⟨rfl, rfl⟩⟩
 · refine ⟨hlen, .inr ⟨_, _, rfl, fun j x hx => ?_⟩⟩
   rw [show (⟨g, 0, none⟩ : Addr).add j = ⟨g, j, none⟩ from by simp [Addr.add]; omega]
   refine c7b hblk ?_
   rw [← htake] at hx
   have hj := (List.getElem?_eq_some_iff.1 hx).1
   rw [List.length_take] at hj
   rw [List.getElem?_take_of_lt (by omega)] at hx
   simpa using hx
/-- A row of pledges that the call owns. -/
structure RowA (base m : Nat) (L : List Plg) (sv : Value) (w : World) : Prop where
 at_ : w.ownsRow base 26 12 sv m (L.flatMap Plg.l)
theorem RowA.below {base m : Nat} {L : List Plg} {sv : Value} {w w' : World} (h : RowA base m L sv w) (hb : Below w.heap.size w w') : RowA base m L sv w' := ⟨ownsRow_below h.at_ hb⟩
theorem RowA.setRow {base m : Nat} {L : List Plg} {sv : Value} {w : World} (h : RowA base m L sv w) {b : Nat} {c : Array Value} {t : TypeId} {f : Nat × Nat} (hb : w.heap[b]? = some (.cells c t f)) (ht : t ≠ 26) (c' : Array Value) : RowA base m L sv (w.setRow b c') := by
 obtain ⟨hlen, ⟨rfl, rfl⟩ | ⟨g, cap, cur, rfl, h1, hblk, h3⟩⟩ := h.at_
 · exact ⟨hlen, .inl ⟨rfl, rfl⟩⟩
 · refine ⟨hlen, .inr ⟨g, cap, cur, rfl, h1, (setRow_other w b g c' fun e => ?_).trans hblk, h3⟩⟩
   subst e
   rw [hblk] at hb
   injection hb with e2
   injection e2 with e3 e4
   exact ht e4.symm
set_option maxRecDepth 100000 in
set_option maxHeartbeats 4000000 in
theorem frontierTwice_any (f : Frt) (n : Int) (a : Option Addr) (k c : Nat) (l : List Plg) (hl : l.length = k) (hkc : k ≤ c) (w : World) (he : Elems w (.slice a k c) k 12 (rowC Plg.l l)) :
 Calls Tryz.prog 5 #[.agg f.cells, .int .i64 n, .slice a k c] w (Gives (.bool true) w) := by
 have hmf : ∀ (fn : Fn) (first cap : Array Value) (w : World), (Instr.makeFunc fn first cap).run Tryz.prog w = .ok (.func fn first cap) w := fun _ _ _ _ => rfl
 have heg := enters_of Tryz.func19 (by kernel_rfl) rfl
 have HS := H7 (St.start w)
 have HE := H7 (fun w' (hb : Below w.heap.size w w') => he.below hb)
 have HL := H7 (And.intro hl hkc)
 clear hl hkc he
 go_enter Tryz.func5, Tryz.ntmps5
 repeat ((fail_if_success (with_reducible refine stop_at (id := 1) ?_)); (first | go_values | go_skip | go_guarded | go_step | go_upon | go_back | (simp only [Int.not_lt, Int.not_le] at *; go_simp) | (go_values <;> (try go_simp)) | (go_ite <;> go_prune <;> (try go_simp)) | (split <;> (first | (rename_i hx; exact (hx _ rfl).elim) | go_prune))))
 have hs_ := ((HS.out.alloc (.cells f.cells 29)).alloc (.cells #[.int .i64 n] 3))
 obtain ⟨w1, hw_⟩ : ∃ w1 : World, ((w.alloc (.cells f.cells 29)).alloc (.cells #[.int .i64 n] 3)) = w1 := ⟨_, rfl⟩
 rw [hw_] at hs_
 try simp only [World.size_alloc] at hs_
 have HS := H7 hs_
 rw [hw_]
 clear hw_ hs_
 go_wp2_with fail
 refine (wakes18_any _).mono ?_
 rintro e w2 ⟨rfl, hb_⟩
 have HS := H7 (HS.out.below hb_)
 clear hb_
 repeat ((fail_if_success (with_reducible refine stop_at (id := 3) ?_)); (first | go_values | go_skip | go_guarded | go_step | go_upon | go_back | (simp only [Int.not_lt, Int.not_le] at *; go_simp) | (go_values <;> (try go_simp)) | (go_ite <;> go_prune <;> (try go_simp)) | (split <;> (first | (rename_i hx; exact (hx _ rfl).elim) | go_prune))))
 refine (wpIn_wide (n := 0)).1 ?_
 have hb1 : min (k : Int) 5 ≤ (c : Int) := by have := HL.out.2; omega
 have hb0 : 0 ≤ min (k : Int) 5 := by omega
 repeat gi_step
 obtain ⟨m, hm⟩ : ∃ m, (min (k : Int) 5).toNat = m := ⟨_, rfl⟩
 rw [hm]
 have hm5 : m ≤ k ∧ m ≤ 5 := by omega
 obtain ⟨L, hL⟩ : ∃ L, l.take m = L := ⟨_, rfl⟩
 have hLm : L.length = m := by rw [← hL, List.length_take, HL.out.1]; omega
 have HEL := H7 (fun w' hb => hL ▸ Elems.take Plg.len HL.out.1 (HE.out w' hb) hm5.1)
 have HLM := H7 (And.intro hLm hm5.2)
 clear hb1 hb0 hm hm5 hL hLm HE HL
 refine (callsIn_wide.2 (clonePl_any _ L m HLM.out.1 w2 (HEL.out w2 HS.out.low) (by have := HLM.out.2; omega))).mono ?_
 rintro e w3 ⟨sv, rfl, hrow, -, hb_⟩
 have HLO := H7 HS.out.low.size
 have HS := H7 (HS.out.below hb_)
 obtain ⟨base, hbase⟩ : ∃ b, w2.heap.size = b := ⟨_, rfl⟩
 rw [hbase] at hrow HLO
 obtain ⟨a2, c2, rfl⟩ := plShape hrow
 have HROW := H7 (RowA.mk hrow)
 clear hrow hbase hb_
 gi_wp2_with fail
 repeat ((fail_if_success (with_reducible refine stop_at (id := 5) ?_)); (first | go_values | go_skip | go_guarded | go_step | go_upon | go_back | (simp only [Int.not_lt, Int.not_le] at *; go_simp) | (go_values <;> (try go_simp)) | (go_ite <;> go_prune <;> (try go_simp)) | (split <;> (first | (rename_i hx; exact (hx _ rfl).elim) | go_prune))))
 refine (wpIn_wide (n := 0)).1 ?_
 repeat gi_step
 refine (callsIn_wide.2 (hears1_any f n L a2 m c2 HLM.out.1 (by have := HLM.out.2; omega) _ _ w3 (rowPl HLM.out.1 HROW.out.at_) (HS.out.blockAt 1 rfl) (HS.out.blockAt 0 rfl))).mono ?_
 rintro e w4 ⟨rfl, hb_⟩
 have HROW := H7 (HROW.out.below hb_)
 have HS := H7 (HS.out.below hb_)
 clear hb_
 simp only []; go_at_K
 repeat gi_step
 refine (callsIn_wide.2 (clonePl_any _ L m HLM.out.1 w4 (rowPl HLM.out.1 HROW.out.at_) (by have := HLM.out.2; omega))).mono ?_
 rintro e w5 ⟨sv, rfl, hrow5, -, hb5⟩
 simp only []; go_at_K
 gi_step
 gi_step
 gi_step
 gi_step
 have happ : ∃ v' w6, (Builtin.append_ #[31, 31] 31 #[sv, .slice a2 m c2]).run Tryz.prog w5 = .ok v' w6 ∧ w6.ownsRow w4.heap.size 26 12 v' (m + m) ((L ++ L).flatMap Plg.l) ∧ Below w4.heap.size w4 w6 := by
  obtain ⟨i0, hi, hz0, hz1, hz2⟩ := info_parts infoPl
  obtain ⟨v', w6, h1, h2, h3, -⟩ := run_append_src (P := Tryz.prog) (w := w5) w4.heap.size 31 31 26 i0 _ 12 96 Tryz.underlying31 hi hz0 hz1 hz2 rfl (by omega) sv m _ hrow5 (.slice a2 m c2) m _ (srcPl (ownsRow_below HROW.out.at_ hb5)) (by
   intro x hx
   obtain ⟨p, -, hp⟩ := List.mem_flatMap.1 hx
   exact p.onel x hp) (by have := HLM.out.2; unfold maxLen; omega) (by have := HLM.out.2; omega) hb5.size
  exact ⟨v', w6, h1, by rw [List.flatMap_append]; exact h2, hb5.grown h3 hb5.size (ownBlock_ge hrow5)⟩
 obtain ⟨v', w6, hrun, hrow6, hb6⟩ := happ
 refine opIn_append _ _ _ rfl rfl rfl hrun ?_
 simp only [Act.put, List.setIfInBounds_toArray, List.set_cons_succ, List.set_cons_zero]
 have HROW := H7 (HROW.out.below hb6)
 have HS := H7 (HS.out.below hb6)
 clear hb6
 obtain ⟨a3, c3, rfl⟩ := plShape hrow6
 clear hb5 hrow5 hrun
 repeat gi_step
 refine (callsIn_wide.2 (hears1_any f n (L ++ L) a3 (m + m) c3 (by rw [List.length_append, HLM.out.1]) (by have := HLM.out.2; omega) _ _ w6 (rowPl (by rw [List.length_append, HLM.out.1]) hrow6) (HS.out.blockAt 1 rfl) (HS.out.blockAt 0 rfl))).mono ?_
 rintro e w7 ⟨rfl, hb_⟩
 have HROW := H7 (HROW.out.below hb_)
 have HS := H7 (HS.out.below hb_)
 clear hb_
 clear hrow6
 obtain ⟨F, hF⟩ : ∃ F, hearsF n f L = F := ⟨_, rfl⟩
 have hlaw := twice_law n f L
 rw [hlaw.twice, hF]
 obtain ⟨G, hG⟩ : ∃ F, hearsF n f L.reverse = F := ⟨_, rfl⟩
 have HLAW := H7 (show (f.okB = true → F.okB = true) ∧ F.folded = f.folded ∧ F.prop = f.prop ∧ ∀ k, (F.site k).inn = (G.site k).inn ∧ (F.site k).floor = (G.site k).floor ∧ (F.site k).has = (G.site k).has from by
  rw [← hF, ← hG]
  exact ⟨hlaw.ok, hlaw.folded, hlaw.prop, fun k => ⟨hlaw.inn k, hlaw.floor k, hlaw.has k⟩⟩)
 have HG := H7 hG
 clear hF hG hlaw
 simp only []; go_at_K
 gi_step
 refine nwF rfl ?_
 simp only [Act.put, List.setIfInBounds_toArray, List.set_cons_succ, List.set_cons_zero]
 gi_step
 refine nwF rfl ?_
 simp only [Act.put, List.setIfInBounds_toArray, List.set_cons_succ, List.set_cons_zero]
 have hs_ := ((HS.out.alloc (.cells frZ.cells 29)).alloc (.cells frZ.cells 29))
 have hk_HROW := HROW.out.below (((B7 _ _).alloc (by exact Nat.le_refl _) (.cells frZ.cells 29)).alloc (by simp only [World.size_alloc]; omega) (.cells frZ.cells 29))
 obtain ⟨w8, hw_⟩ : ∃ w8 : World, ((w7.alloc (.cells frZ.cells 29)).alloc (.cells frZ.cells 29)) = w8 := ⟨_, rfl⟩
 rw [hw_] at hs_ hk_HROW
 try simp only [World.size_alloc] at hs_
 have HS := H7 hs_
 have HROW := H7 hk_HROW
 rw [hw_]
 clear hw_ hs_ hk_HROW
 simp only [World.size_alloc]
 gi_step
 refine stF _ _ rfl rfl (HS.out.blockAt 1 rfl) rfl rfl ?_
 have hs := HS.out.putRow (c' := F.cells) (pre := [.blk _ _]) (by intro i hi; exact ⟨_, _, List.mem_singleton.1 hi⟩)
 simp only [List.cons_append, List.nil_append] at hs
 have HROW := H7 (HROW.out.setRow (HS.out.blockAt 1 rfl) (by decide) F.cells)
 have HS := H7 hs
 clear hs
 simp only [Act.put, List.setIfInBounds_toArray, List.set_cons_succ, List.set_cons_zero]
 gi_step
 refine stF _ _ rfl rfl (HS.out.blockAt 0 rfl) rfl rfl ?_
 have hs := HS.out.putRow (c' := F.cells) (pre := []) (by intro i hi; cases hi)
 simp only [List.nil_append] at hs
 have HROW := H7 (HROW.out.setRow (HS.out.blockAt 0 rfl) (by decide) F.cells)
 have HS := H7 hs
 clear hs
 simp only [Act.put, List.setIfInBounds_toArray, List.set_cons_succ, List.set_cons_zero]
 generalize ((w8.setRow w7.heap.size F.cells).setRow (w7.heap.size + 1) F.cells) = w9 at HS HROW ⊢
 gi_wp2_with fail
 repeat ((fail_if_success (with_reducible refine stop_at (id := 6) ?_)); (first | go_values | go_skip | go_guarded | go_step | go_upon | go_back | (simp only [Int.not_lt, Int.not_le] at *; go_simp) | (go_values <;> (try go_simp)) | (go_ite <;> go_prune <;> (try go_simp)) | (split <;> (first | (rename_i hx; exact (hx _ rfl).elim) | go_prune))))
 refine (wpIn_wide (n := 0)).1 ?_
 repeat gi_step
 refine (callsIn_wide.2 (revPl_any (.slice a2 m c2) L m HLM.out.1 base w9 HROW.out.at_ (by have := HLM.out.2; omega))).mono ?_
 rintro e wA ⟨rfl, hrowA, hwA⟩
 have HS := H7 (HS.out.revT (by
  intro i hi
  simp only [List.mem_cons, List.not_mem_nil, or_false] at hi
  rcases hi with rfl | rfl | rfl | rfl <;> exact ⟨_, _, _, _, rfl, by decide⟩) HLO.out HROW.out.at_ hwA)
 clear hwA HROW
 gi_wp2_with fail
 repeat ((fail_if_success (with_reducible refine stop_at (id := 7) ?_)); (first | go_values | go_skip | go_guarded | go_step | go_upon | go_back | (simp only [Int.not_lt, Int.not_le] at *; go_simp) | (go_values <;> (try go_simp)) | (go_ite <;> go_prune <;> (try go_simp)) | (split <;> (first | (rename_i hx; exact (hx _ rfl).elim) | go_prune))))
 refine (wpIn_wide (n := 0)).1 ?_
 repeat gi_step
 refine (callsIn_wide.2 (hears1_any f n L.reverse a2 m c2 (by rw [List.length_reverse, HLM.out.1]) (by have := HLM.out.2; omega) _ _ wA (rowPl (by rw [List.length_reverse, HLM.out.1]) hrowA) (HS.out.blockAt 3 rfl) (HS.out.blockAt 2 rfl))).mono ?_
 rintro e wB ⟨rfl, hb_⟩
 have HS := H7 (HS.out.below hb_)
 clear hb_
 clear hrowA HLO HLM
 rw [HG.out]
 simp only []; go_at_K
 repeat (first | (refine nwF rfl ?_; simp only [Act.put, List.setIfInBounds_toArray, List.set_cons_succ, List.set_cons_zero]) | (refine stNewF _ _ rfl rfl rfl rfl rfl ?_; simp only [Act.put, List.setIfInBounds_toArray, List.set_cons_succ, List.set_cons_zero]) | gi_step)
 gi_wp2_with fail
 have hs_ := (HS.out.alloc (.cells G.cells 29))
 obtain ⟨wC, hw_⟩ : ∃ wC : World, (wB.alloc (.cells G.cells 29)) = wC := ⟨_, rfl⟩
 rw [hw_] at hs_
 try simp only [World.size_alloc] at hs_
 have HS := H7 hs_
 rw [hw_]
 clear hw_ hs_
 clear HG HEL heg
 generalize w7.heap.size = g7 at HS ⊢
 generalize wB.heap.size = gB at HS ⊢
 repeat ((fail_if_success (with_reducible refine stop_at (id := 8) ?_)); (first | go_values | go_skip | go_guarded | go_step | go_upon | go_back | (simp only [Int.not_lt, Int.not_le] at *; go_simp) | (go_values <;> (try go_simp)) | (go_ite <;> go_prune <;> (try go_simp)) | (split <;> (first | (rename_i hx; exact (hx _ rfl).elim) | go_prune))))
 have HCF := H7 (fun w' => frCheck_any f w')
 have HCG := H7 (fun w' => frCheck_any F w')
 have q1 : wC.cell? ⟨g7, 0, none⟩ = some (.int .u64 f.folded) := HLAW.out.2.1 ▸ Frt.foldedC (HS.out.blockAt 2 rfl)
 have q2 : wC.cell? ⟨g7, 10, none⟩ = some (.int .u64 f.prop) := HLAW.out.2.2.1 ▸ Frt.propC (HS.out.blockAt 2 rfl)
 have q3 := Frt.foldedC (HS.out.blockAt 4 rfl)
 have q4 := Frt.propC (HS.out.blockAt 4 rfl)
 refine (wpIn_wide (n := 0)).1 ?_
 have hee := frEq_self F
 cases hok : f.okB
 case' true =>
  have HCF := H7 (fun w' => show Calls Tryz.prog 21 #[.agg f.cells] w' (Gives (.int .i64 0) w') from by have h := HCF.out w'; rw [hok] at h; exact h)
  have HCG := H7 (fun w' => show Calls Tryz.prog 21 #[.agg F.cells] w' (Gives (.int .i64 0) w') from by have h := HCG.out w'; rw [HLAW.out.1 hok] at h; exact h)
  repeat (first | (refine ldF _ rfl rfl (HS.out.blockAt 2 rfl) ?_; simp only [Act.put, List.setIfInBounds_toArray, List.set_cons_succ, List.set_cons_zero]) | (refine ldF _ rfl rfl (HS.out.blockAt 1 rfl) ?_; simp only [Act.put, List.setIfInBounds_toArray, List.set_cons_succ, List.set_cons_zero]) | (refine ldF _ rfl rfl (HS.out.blockAt 4 rfl) ?_; simp only [Act.put, List.setIfInBounds_toArray, List.set_cons_succ, List.set_cons_zero]) | (refine neF' _ _ _ rfl rfl rfl hee ?_; simp only [Act.put, List.setIfInBounds_toArray, List.set_cons_succ, List.set_cons_zero]) | gi_step)
  refine (callsIn_wide.2 (HCF.out _)).mono ?_
  rintro e wD ⟨rfl, hb_⟩
  replace q1 := (hb_.cell (p := ⟨g7, 0, none⟩) (cell_lt q1)).trans q1
  replace q2 := (hb_.cell (p := ⟨g7, 10, none⟩) (cell_lt q2)).trans q2
  replace q3 := (hb_.cell (p := ⟨w.heap.size, 0, none⟩) (cell_lt q3)).trans q3
  replace q4 := (hb_.cell (p := ⟨w.heap.size, 10, none⟩) (cell_lt q4)).trans q4
  have HS := H7 (HS.out.below hb_)
  clear hb_
  simp only []; go_at_K
  repeat (first | (refine ldF _ rfl rfl (HS.out.blockAt 2 rfl) ?_; simp only [Act.put, List.setIfInBounds_toArray, List.set_cons_succ, List.set_cons_zero]) | (refine ldF _ rfl rfl (HS.out.blockAt 1 rfl) ?_; simp only [Act.put, List.setIfInBounds_toArray, List.set_cons_succ, List.set_cons_zero]) | (refine ldF _ rfl rfl (HS.out.blockAt 4 rfl) ?_; simp only [Act.put, List.setIfInBounds_toArray, List.set_cons_succ, List.set_cons_zero]) | gi_step)
  refine (callsIn_wide.2 (HCG.out _)).mono ?_
  rintro e wE ⟨rfl, hb_⟩
  replace q1 := (hb_.cell (p := ⟨g7, 0, none⟩) (cell_lt q1)).trans q1
  replace q2 := (hb_.cell (p := ⟨g7, 10, none⟩) (cell_lt q2)).trans q2
  replace q3 := (hb_.cell (p := ⟨w.heap.size, 0, none⟩) (cell_lt q3)).trans q3
  replace q4 := (hb_.cell (p := ⟨w.heap.size, 10, none⟩) (cell_lt q4)).trans q4
  have HS := H7 (HS.out.below hb_)
  clear hb_
  simp only []; go_at_K
  repeat (first | (refine ldF _ rfl rfl (HS.out.blockAt 2 rfl) ?_; simp only [Act.put, List.setIfInBounds_toArray, List.set_cons_succ, List.set_cons_zero]) | (refine ldF _ rfl rfl (HS.out.blockAt 1 rfl) ?_; simp only [Act.put, List.setIfInBounds_toArray, List.set_cons_succ, List.set_cons_zero]) | (refine ldF _ rfl rfl (HS.out.blockAt 4 rfl) ?_; simp only [Act.put, List.setIfInBounds_toArray, List.set_cons_succ, List.set_cons_zero]) | gi_step)
  gi_wp2_with fail
  go_wp2_with fail
 case' false =>
  have HCF := H7 (fun w' => show Calls Tryz.prog 21 #[.agg f.cells] w' (Gives (.int .i64 280) w') from by have h := HCF.out w'; rw [hok] at h; exact h)
  obtain ⟨wE, hwE⟩ : ∃ wE, wE = wC := ⟨_, rfl⟩
  repeat (first | (refine ldF _ rfl rfl (HS.out.blockAt 2 rfl) ?_; simp only [Act.put, List.setIfInBounds_toArray, List.set_cons_succ, List.set_cons_zero]) | (refine ldF _ rfl rfl (HS.out.blockAt 1 rfl) ?_; simp only [Act.put, List.setIfInBounds_toArray, List.set_cons_succ, List.set_cons_zero]) | (refine ldF _ rfl rfl (HS.out.blockAt 4 rfl) ?_; simp only [Act.put, List.setIfInBounds_toArray, List.set_cons_succ, List.set_cons_zero]) | (refine neF' _ _ _ rfl rfl rfl hee ?_; simp only [Act.put, List.setIfInBounds_toArray, List.set_cons_succ, List.set_cons_zero]) | gi_step)
  refine (callsIn_wide.2 (HCF.out _)).mono ?_
  rintro e wE ⟨rfl, hb_⟩
  replace q1 := (hb_.cell (p := ⟨g7, 0, none⟩) (cell_lt q1)).trans q1
  replace q2 := (hb_.cell (p := ⟨g7, 10, none⟩) (cell_lt q2)).trans q2
  replace q3 := (hb_.cell (p := ⟨w.heap.size, 0, none⟩) (cell_lt q3)).trans q3
  replace q4 := (hb_.cell (p := ⟨w.heap.size, 10, none⟩) (cell_lt q4)).trans q4
  have HS := H7 (HS.out.below hb_)
  clear hb_
  simp only []; go_at_K
  repeat (first | (refine ldF _ rfl rfl (HS.out.blockAt 2 rfl) ?_; simp only [Act.put, List.setIfInBounds_toArray, List.set_cons_succ, List.set_cons_zero]) | (refine ldF _ rfl rfl (HS.out.blockAt 1 rfl) ?_; simp only [Act.put, List.setIfInBounds_toArray, List.set_cons_succ, List.set_cons_zero]) | (refine ldF _ rfl rfl (HS.out.blockAt 4 rfl) ?_; simp only [Act.put, List.setIfInBounds_toArray, List.set_cons_succ, List.set_cons_zero]) | gi_step)
  gi_wp2_with fail
  go_wp2_with fail
 all_goals clear q1 q2 q3 q4 HCF HCG
 all_goals
  go_loopw [64] (fun i wr => ∃ j : Nat, j ≤ 9 ∧ i = .int .i64 (j : Int) ∧ St w [.blk gB (.cells G.cells 29 (0, 0)), .blk (g7 + 1) (.cells F.cells 29 (0, 0)), .blk g7 (.cells F.cells 29 (0, 0)), .blk (w.heap.size + 1) (.cells #[.int .i64 n] 3 (0, 0)), .blk w.heap.size (.cells f.cells 29 (0, 0))] wr) (fun i _ => 9 - (intOf i).toNat)
  case atStart => exact ⟨0, by omega, rfl, HS.out⟩
  case round =>
   obtain ⟨j, hj, rfl, hs⟩ := hrel
   clear HS
   have HS := H7 hs
   clear hs
   by_cases hlt : j < 9
   · have HLT := H7 hlt
     repeat ((fail_if_success (with_reducible refine stop_at (id := 13) ?_)); (first | go_values | go_skip | go_guarded | go_step | go_upon | go_back | (simp only [Int.not_lt, Int.not_le] at *; go_simp) | (go_values <;> (try go_simp)) | (go_ite <;> go_prune <;> (try go_simp)) | (split <;> (first | (rename_i hx; exact (hx _ rfl).elim) | go_prune))))
     clear hlt hj
     refine (wpIn_wide (n := 0)).1 ?_
     apply wp_region_slots 12 [⟨8, 10, 12, .cells plZ.cells 26 (0, 0), .cells (F.site j).cells 26 (0, 0)⟩, ⟨9, 11, 13, .cells plZ.cells 26 (0, 0), .cells (G.site j).cells 26 (0, 0)⟩] _ (Rl := [(eqv _), (eqv _), (eqv _), (eqv _), (eqv _), (eqv _), (eqv _), (eqv _), (fun _ _ => True), (fun _ _ => True), (fun _ _ => True), (fun _ _ => True)])
     case hm => kernel_rfl
     case hk => rfl
     case hst => repeat (first | exact trivial | refine ⟨fun _ _ _ _ h => h, ?_⟩)
     case hfo => kernel_rfl
     case ht => kernel_rfl
     case hN => exact Nat.le_refl _
     case hok => kernel_rfl
     case hsk => intro s hs; simp only [List.mem_cons, List.not_mem_nil, or_false] at hs; rcases hs with rfl | rfl <;> exact ⟨Nat.le_of_ble_eq_true rfl, Nat.le_of_ble_eq_true rfl⟩
     case hsteps =>
      refine ⟨?_, ?_, ?_, ?_, ?_, ?_, ?_, ?_, ?_, ?_, ?_, ?_, trivial⟩
      · intro l_ a' w' hA hC hJ hN hB hD; have s11 := hA.to 11 (by kernel_rfl) rfl; clear hA hD; refine o7t rfl ?_; intro K hK; gi_wp2; exact hK _ _ rfl (B7 _ _) (SlT.plainB rfl (B7 _ _))
      · intro l_ a' w' hA hC hJ hN hB hD; have s8 := hA.to 8 (by kernel_rfl) rfl; clear hA hD; refine o7t rfl ?_; intro K hK; gi_wp2; exact hK _ _ rfl (B7 _ _) (SlT.plainB rfl (B7 _ _))
      · intro l_ a' w' hA hC hJ hN hB hD; obtain ⟨u68, s68, rfl⟩ := hD ⟨1, .data⟩ (by simp) rfl _ rfl; obtain ⟨u67, s67, rfl⟩ := hD ⟨0, .data⟩ (by simp) rfl _ rfl
        have hk9 := HLT.out
        clear hA hD; refine o7t rfl ?_; intro K hK; gi_wp2; exact hK _ _ rfl (B7 _ _) (SlT.plainB rfl (B7 _ _))
      · intro l_ a' w' hA hC hJ hN hB hD; obtain ⟨u69, s69, rfl⟩ := hD ⟨2, .data⟩ (by simp) rfl _ rfl; clear hA hD; refine o7t rfl ?_; intro K hK
        refine ldSite _ rfl (by simp [Act.eval, s69]) ((HS.out.below hC).blockAt 2 rfl) HLT.out ?_; exact hK _ _ rfl (B7 _ _) (SlT.plainB rfl (B7 _ _))
      · intro l_ a' w' hA hC hJ hN hB hD; have s11 := hA.to 11 (by kernel_rfl) rfl; clear hA hD; refine o7t rfl ?_; intro K hK; gi_wp2; exact hK _ _ rfl (B7 _ _) (SlT.plainB rfl (B7 _ _))
      · intro l_ a' w' hA hC hJ hN hB hD; have s10 := hA.to 10 (by kernel_rfl) rfl; clear hA hD; refine o7t rfl ?_; intro K hK; gi_wp2; exact hK _ _ rfl (B7 _ _) (SlT.plainB rfl (B7 _ _))
      · intro l_ a' w' hA hC hJ hN hB hD; obtain ⟨u72, s72, rfl⟩ := hD ⟨5, .data⟩ (by simp) rfl _ rfl; obtain ⟨u71, s71, rfl⟩ := hD ⟨4, .data⟩ (by simp) rfl _ rfl
        have hk9 := HLT.out
        clear hA hD; refine o7t rfl ?_; intro K hK; gi_wp2; exact hK _ _ rfl (B7 _ _) (SlT.plainB rfl (B7 _ _))
      · intro l_ a' w' hA hC hJ hN hB hD; obtain ⟨u73, s73, rfl⟩ := hD ⟨6, .data⟩ (by simp) rfl _ rfl; clear hA hD; refine o7t rfl ?_; intro K hK
        refine ldSite _ rfl (by simp [Act.eval, s73]) ((HS.out.below hC).blockAt 0 rfl) HLT.out ?_; exact hK _ _ rfl (B7 _ _) (SlT.plainB rfl (B7 _ _))
      · intro l_ a' w' hA hC hJ hN hB hD; clear hA hD; refine o7t rfl ?_; intro K hK
        refine nwP rfl ?_
        exact hK _ _ trivial ((B7 _ _).alloc hC.size _) (SlT.alloc (by intro t ht e; simp only [List.mem_cons, List.not_mem_nil, or_false] at ht; rcases ht with rfl | rfl <;> first | rfl | (exact absurd e (Nat.ne_of_beq_eq_false rfl))) (by intro t ht; simp only [List.mem_cons, List.not_mem_nil, or_false] at ht; rcases ht with rfl | rfl <;> exact Nat.ne_of_beq_eq_false rfl))
      · intro l_ a' w' hA hC hJ hN hB hD; clear hA hD; refine o7t rfl ?_; intro K hK
        refine nwP rfl ?_
        exact hK _ _ trivial ((B7 _ _).alloc hC.size _) (SlT.alloc (by intro t ht e; simp only [List.mem_cons, List.not_mem_nil, or_false] at ht; rcases ht with rfl | rfl <;> first | rfl | (exact absurd e (Nat.ne_of_beq_eq_false rfl))) (by intro t ht; simp only [List.mem_cons, List.not_mem_nil, or_false] at ht; rcases ht with rfl | rfl <;> exact Nat.ne_of_beq_eq_false rfl))
      · intro l_ a' w' hA hC hJ hN hB hD; obtain ⟨u12, s12, r12⟩ := hD ⟨8, .data⟩ (by simp) rfl _ rfl; replace r12 : (fun _ _ => True) u12 w' := r12; obtain ⟨u70, s70, rfl⟩ := hD ⟨3, .data⟩ (by simp) rfl _ rfl
        obtain ⟨b12, n12, t12, o12⟩ := hJ.at_ _ (List.mem_of_getElem? (i := 0) rfl) (hB ⟨8, .data⟩ (by simp) rfl)
        rw [show l_.getD 10 false = false from hN] at o12
        replace o12 : w'.heap[b12]? = some (.cells plZ.cells 26 (0, 0)) := o12
        obtain rfl : u12 = ptrB b12 := Option.some.inj (s12.symm.trans t12)
        clear r12
        obtain ⟨b13, n13, t13, o13⟩ := hJ.at_ _ (List.mem_of_getElem? (i := 1) rfl) (hB ⟨9, .phase⟩ (by simp) rfl)
        clear hA hD; refine o7t rfl ?_; intro K hK
        have f12 := f7b o12
        have c12_0 := c7b (k := 0) o12 rfl
        have f12_0 := f12 0
        clear f12; unfold ptrB at s12 t12
        refine stP (f := F.site j) _ _ rfl (by simp [Act.eval, s12]) o12 (by simp [Act.eval, s70]) rfl ?_
        exact hK undef _ trivial ⟨rfl, rfl, rfl, by simp, fun k_ hk_ => setRow_other _ _ _ _ (by omega)⟩ (SlT.store _ (by intro t ht e; simp only [List.mem_cons, List.not_mem_nil, or_false] at ht; rcases ht with rfl | rfl <;> first | rfl | (exact absurd e (Nat.ne_of_beq_eq_false rfl))) (by intro t ht; simp only [List.mem_cons, List.not_mem_nil, or_false] at ht; rcases ht with rfl | rfl <;> exact Nat.ne_of_beq_eq_false rfl) (List.mem_of_getElem? (i := 0) rfl) rfl b12 (by unfold envOf; rw [t12]; rfl) (setRow_heap _ _ _ _ _ _ o12) (fun k_ hk_ => setRow_other _ _ k_ _ hk_))
      · intro l_ a' w' hA hC hJ hN hB hD; obtain ⟨u13, s13, r13⟩ := hD ⟨9, .data⟩ (by simp) rfl _ rfl; replace r13 : (fun _ _ => True) u13 w' := r13; obtain ⟨u74, s74, rfl⟩ := hD ⟨7, .data⟩ (by simp) rfl _ rfl
        obtain ⟨b12, n12, t12, o12⟩ := hJ.at_ _ (List.mem_of_getElem? (i := 0) rfl) (hB ⟨8, .phase⟩ (by simp) rfl)
        obtain ⟨b13, n13, t13, o13⟩ := hJ.at_ _ (List.mem_of_getElem? (i := 1) rfl) (hB ⟨9, .data⟩ (by simp) rfl)
        rw [show l_.getD 11 false = false from hN] at o13
        replace o13 : w'.heap[b13]? = some (.cells plZ.cells 26 (0, 0)) := o13
        obtain rfl : u13 = ptrB b13 := Option.some.inj (s13.symm.trans t13)
        clear r13
        clear hA hD; refine o7t rfl ?_; intro K hK
        have f13 := f7b o13
        have c13_0 := c7b (k := 0) o13 rfl
        have f13_0 := f13 0
        clear f13; unfold ptrB at s13 t13
        refine stP (f := G.site j) _ _ rfl (by simp [Act.eval, s13]) o13 (by simp [Act.eval, s74]) rfl ?_
        exact hK undef _ trivial ⟨rfl, rfl, rfl, by simp, fun k_ hk_ => setRow_other _ _ _ _ (by omega)⟩ (SlT.store _ (by intro t ht e; simp only [List.mem_cons, List.not_mem_nil, or_false] at ht; rcases ht with rfl | rfl <;> first | rfl | (exact absurd e (Nat.ne_of_beq_eq_false rfl))) (by intro t ht; simp only [List.mem_cons, List.not_mem_nil, or_false] at ht; rcases ht with rfl | rfl <;> exact Nat.ne_of_beq_eq_false rfl) (List.mem_of_getElem? (i := 1) rfl) rfl b13 (by unfold envOf; rw [t13]; rfl) (setRow_heap _ _ _ _ _ _ o13) (fun k_ hk_ => setRow_other _ _ k_ _ hk_))
     case hend =>
      intro w6 hC
      simp only [EndFrom, eqv, forall_eq, Act.put, List.length_cons, List.length_nil, List.drop_succ_cons, List.drop_zero, Nat.reduceAdd, List.setIfInBounds_toArray, List.set_cons_succ, List.set_cons_zero]
      intro pA _ pB _ pC _ pD _ hX
      obtain ⟨bA, hA1, hA2, hA3⟩ := hX.1 _ (List.mem_of_getElem? (i := 0) rfl)
      obtain ⟨bB, hB1, hB2, hB3⟩ := hX.1 _ (List.mem_of_getElem? (i := 1) rfl)
      obtain rfl : pA = ptrB bA := Option.some.inj hA2
      obtain rfl : pB = ptrB bB := Option.some.inj hB2
      clear hX hA2 hB2
      unfold ptrB
      dsimp only at hA3 hB3
      have HA := H7 (BlkA.mk hA3)
      have HB := H7 (BlkA.mk hB3)
      have HS := H7 (HS.out.below hC)
      clear hC
      clear hA3 hB3
      gi_wp2_with fail
      have hl := HLAW.out.2.2.2 j
      have HV := H7 (show vecEq (F.site j).has (G.site j).has = true from by rw [hl.2.2]; exact vecEq_self _)
      have a0 := (plgCells HA.out.at_).1
      have a1 := (plgCells HA.out.at_).2.1
      have d0 : w6.cell? ⟨bB, 0, none⟩ = some (.bool (F.site j).inn) := by rw [hl.1]; exact (plgCells HB.out.at_).1
      have d1 : w6.cell? ⟨bB, 1, none⟩ = some (.int .u64 (F.site j).floor) := by rw [hl.2.1]; exact (plgCells HB.out.at_).2.1
      clear hl
      repeat ((fail_if_success (with_reducible refine stop_at (id := 14) ?_)); (first | go_values | go_skip | go_guarded | go_step | go_upon | go_back | (simp only [Int.not_lt, Int.not_le] at *; go_simp) | (go_values <;> (try go_simp)) | (go_ite <;> go_prune <;> (try go_simp)) | (split <;> (first | (rename_i hx; exact (hx _ rfl).elim) | go_prune))))
      refine (wpIn_wide (n := 0)).1 ?_
      repeat (first | (refine ldHas _ rfl rfl HA.out.at_ ?_; simp only [Act.put, List.setIfInBounds_toArray, List.set_cons_succ, List.set_cons_zero]) | (refine ldHas _ rfl rfl HB.out.at_ ?_; simp only [Act.put, List.setIfInBounds_toArray, List.set_cons_succ, List.set_cons_zero]) | (refine neV' _ _ _ rfl rfl rfl HV.out ?_; simp only [Act.put, List.setIfInBounds_toArray, List.set_cons_succ, List.set_cons_zero]) | gi_step)
      gi_wp2_with fail
      clear a0 a1 d0 d1
      have hlt := HLT.out
      go_wp2_with fail
      go_roundw
      case rel => exact ⟨j + 1, hlt, by simp, HS.out⟩
      case measure => exact frM hlt (by simp)
   · obtain rfl : j = 9 := by omega
     go_wp2_with fail
     go_ret
     exact ⟨rfl, HS.out.low⟩
end Go.Proofs.YteklfmacnnmomaaGreat
/- Rows, in general: arguments taken apart to their cells; a call that returns true and has only made blocks of its own. -/
namespace Go.Proofs.YteklfmacnnmomaaGreat
open Go.ChangeShapes Go.WideShapes Go.ChangeAt Go.RowKit Go.Deep
/-- 'post', of a call that has only made blocks of its own. -/
theorem post_of_below {H : Type} {enc : TypeId × Value → H} {P : Program} {f : Func} {s : ChangeSpec} {apart fresh handsOn again : Bool} {W W' : World} {args : Array Value} {v : Value} {ds gs : List (DataW H)} {before pa pv : List MemPlace}
 (hW : DataW.Whole enc P f.params.toList s.vars apart W args.toList ds gs before)
 (hres : ∀ (b : Nat) (sp : Nat → Bool) (hd : Bool), DataW.TrodAll enc P W' b sp hd f.resultTypes.toList (v.resultList f.resultTypes.size) (s.fn H (ds ++ gs)).results [])
 (hargs : ∀ sp : Nat → Bool, (∀ p ∈ before, sp p.block = true) → DataW.TrodAll enc P W' 0 sp true f.params.toList args.toList (s.fn H (ds ++ gs)).args pa)
 (hvars : ∀ sp : Nat → Bool, (∀ p ∈ before, sp p.block = true) → DataW.TrodVars enc P W' sp s.vars (s.fn H (ds ++ gs)).vars pv)
 (hps : before = pa ++ pv) (hb : Below W.heap.size W W')
 (hok : ∀ (j : Nat) (t : TypeId) (r : Value), f.resultTypes[j]? = some t → (v.resultList f.resultTypes.size)[j]? = some r → Value.okWide P W' .any 0 t r) :
 s.post enc P f apart fresh handsOn again W args v W' := by
 have hlt := fun p hp => hW.lt p hp
 have hold : ∀ p ∈ before, (fun b => decide (b < W.heap.size)) p.block = true := fun p hp => by simpa using hW.lt p hp
 refine ⟨ds, gs, before, [], pa, pv, hW, hres _ _ _, hargs _ hold, hvars _ hold, World.keptBut_mono (fun p hp => ⟨hp, ?_⟩) (hb.frame (· ∈ before)), fun _ => ?_⟩
 · rw [hps, List.mem_append] at hp
   exact Or.inr hp
 · obtain ⟨_, _, _, _, _, hz, hn⟩ := hW
   refine ⟨hok, _, _, ([] ++ pa) ++ pv, ⟨[] ++ pa, pv, trodAll_append (hargs _ (fun _ _ => rfl)) (hres _ _ _), hvars _ (fun _ _ => rfl), rfl, ?_, ?_⟩, ?_⟩
   · intro b off hp
     have hp' : MemPlace.cell b off ∈ before := by rw [hps]; simpa using hp
     rw [hb.frozen (p := ⟨b, off, none⟩) (hlt _ hp')]
     exact hz b off hp'
   · intro ha
     have := hn ha
     rw [hps] at this
     simpa using this
   · intro p hp _
     rw [hps]
     simpa using hp
/-- A cell's kind. -/
inductive Leaf where
 | int (k : IntKind)
 | bool
 | string
def leafOk : Leaf → Value → Prop
 | .int k, v => ∃ n, v = .int k n ∧ (Lit.int k n).wf = true
 | .bool, v => ∃ b, v = .bool b
 | .string, v => ∃ s : ByteArray, v = .string s ∧ s.size ≤ maxLen
def flatFields (P : Program) (g : TypeId → Option (List Leaf)) : Nat → List Field → Option (List Leaf)
 | _, [] => some []
 | off, f :: fs => (g f.type).bind fun l => if f.offset = off ∧ l.length = P.cellsOf f.type then (flatFields P g (off + l.length) fs).map (l ++ ·) else none
/-- The kinds of a type's cells, where it is made of numbers, truths and texts alone. -/
def flat (P : Program) : Nat → TypeId → Option (List Leaf)
 | 0, _ => none
 | n + 1, t => match P.underlying t with
  | some (.int k) => some [.int k]
  | some .bool => some [.bool]
  | some .string => some [.string]
  | some (.array m e) => (flat P n e).bind fun l => if l.length = P.cellsOf e then some (List.replicate m l).flatten else none
  | some (.struct fs) => flatFields P (flat P n) 0 fs.toList
  | _ => none
/-- The cells are of these kinds. -/
def Leaves (ls : List Leaf) (cs : List Value) : Prop := ∀ (i : Nat) (l : Leaf), ls[i]? = some l → ∃ v, cs[i]? = some v ∧ leafOk l v
theorem leaves_take {ls : List Leaf} {cs : List Value} {a k : Nat} (h : Leaves ls ((cs.drop a).take k)) : ∀ i l, ls[i]? = some l → ∃ v, cs[a + i]? = some v ∧ leafOk l v := by
 intro i l hl
 obtain ⟨v, hv, hk⟩ := h i l hl
 refine ⟨v, ?_, hk⟩
 rw [List.getElem?_take] at hv
 split at hv
 · rwa [List.getElem?_drop] at hv
 · cases hv
theorem getElem?_rep {l : List Leaf} {m i : Nat} {x : Leaf} (h : (List.replicate m l).flatten[i]? = some x) : i / l.length < m ∧ l[i % l.length]? = some x := by
 induction m generalizing i with
 | zero => simp at h
 | succ m ih =>
  rw [List.replicate_succ, List.flatten_cons] at h
  by_cases hi : i < l.length
  · rw [List.getElem?_append_left hi] at h
    rw [Nat.div_eq_of_lt hi, Nat.mod_eq_of_lt hi]
    exact ⟨by omega, h⟩
  · rw [List.getElem?_append_right (by omega)] at h
    obtain ⟨h1, h2⟩ := ih h
    have hp : 0 < l.length := by
     rcases Nat.eq_zero_or_pos l.length with e | e
     · rw [List.length_eq_zero_iff.1 e] at h2; simp at h2
     · exact e
    have e : i = (i - l.length) + l.length := by omega
    rw [e, Nat.add_div_right _ hp, Nat.add_mod_right]
    exact ⟨by omega, h2⟩
theorem list_of_ex {α : Type} {p : Nat → α → Prop} : ∀ (n : Nat), (∀ i, i < n → ∃ x, p i x) → ∃ l : List α, l.length = n ∧ ∀ i (h : i < l.length), p i l[i]
 | 0, _ => ⟨[], rfl, fun i h => absurd h (Nat.not_lt_zero _)⟩
 | n + 1, h => by
  obtain ⟨l, hl, hp⟩ := list_of_ex n (fun i hi => h i (by omega))
  obtain ⟨x, hx⟩ := h n (by omega)
  refine ⟨l ++ [x], by simp [hl], fun i hi => ?_⟩
  by_cases hi' : i < l.length
  · rw [List.getElem_append_left hi']; exact hp i hi'
  · have e : i = l.length := by simp at hi; omega
    subst e
    rw [List.getElem_append_right (Nat.le_refl _)]
    simp only [Nat.sub_self, List.getElem_cons_zero, hl]
    exact hx
section
variable {H : Type} {enc : TypeId × Value → H} {P : Program} {w : World} {base : Nat} {spare : Nat → Bool} {held : Bool}
theorem fields_leaves {g : TypeId → Option (List Leaf)} {fuel : Nat} {cs : List Value}
 (hg : ∀ (t : TypeId) ls cs x, g t = some ls → DataW.trod enc P w base spare held fuel t cs = some x → x.2 = [] ∧ Leaves ls cs) :
 ∀ (fs : List Field) (off : Nat) (ls : List Leaf), flatFields P g off fs = some ls → (∀ f ∈ fs, ∃ x, DataW.trod enc P w base spare held fuel f.type ((cs.drop f.offset).take (P.cellsOf f.type)) = some x) →
  ∀ i l, ls[i]? = some l → ∃ v, cs[off + i]? = some v ∧ leafOk l v
 | [], off, ls, h, _, i, l, hl => by simp [flatFields] at h; subst h; simp at hl
 | f :: fs, off, ls, h, hx, i, l, hl => by
  unfold flatFields at h
  obtain ⟨lf, h1, h2⟩ := Option.bind_eq_some_iff.1 h
  split at h2
  · rename_i hc
    obtain ⟨ls', h3, rfl⟩ := Option.map_eq_some_iff.1 h2
    by_cases hi : i < lf.length
    · rw [List.getElem?_append_left hi] at hl
      obtain ⟨x, hxf⟩ := hx f (by simp)
      have := leaves_take (hg f.type lf _ x h1 hxf).2 i l hl
      rw [hc.1] at this
      exact this
    · rw [List.getElem?_append_right (by omega)] at hl
      have := fields_leaves hg fs (off + lf.length) ls' h3 (fun f' hf' => hx f' (by simp [hf'])) (i - lf.length) l hl
      rw [show off + lf.length + (i - lf.length) = off + i from by omega] at this
      exact this
  · cases h2
theorem open_flat : ∀ (n : Nat) (t : TypeId) (ls : List Leaf) (fuel : Nat) (cs : List Value) (x : DataW H × List MemPlace), flat P n t = some ls → DataW.trod enc P w base spare held fuel t cs = some x → x.2 = [] ∧ Leaves ls cs
 | 0, _, _, _, _, _, h, _ => by simp [flat] at h
 | n + 1, t, ls, fuel, cs, x, h, hd => by
  unfold flat at h
  split at h
  · rename_i k hu
    obtain ⟨v, rfl, rfl, hwf⟩ := DataW.trod_int hu hd
    cases h
    exact ⟨rfl, fun i l hl => by match i, hl with | 0, hl => cases hl; exact ⟨_, rfl, _, rfl, hwf⟩⟩
  · rename_i hu
    obtain ⟨b, rfl, rfl⟩ := DataW.trod_bool hu hd
    cases h
    exact ⟨rfl, fun i l hl => by match i, hl with | 0, hl => cases hl; exact ⟨_, rfl, _, rfl⟩⟩
  · rename_i hu
    obtain ⟨s, rfl, rfl, hs⟩ := DataW.trod_string hu hd
    cases h
    exact ⟨rfl, fun i l hl => by match i, hl with | 0, hl => cases hl; exact ⟨_, rfl, _, rfl, hs⟩⟩
  · rename_i m e hu
    obtain ⟨xs, m', rfl, rfl, hlen, hxl, hx⟩ := DataW.trod_array hu hd
    obtain ⟨le, h1, h2⟩ := Option.bind_eq_some_iff.1 h
    split at h2
    · rename_i hc
      cases h2
      have key : ∀ i, i < m → ∃ y, xs[i]? = some y ∧ y.2 = [] ∧ Leaves le ((cs.drop (i * P.cellsOf e)).take (P.cellsOf e)) := by
       intro i hi
       have he := hx i hi
       rw [List.getElem?_eq_getElem (by omega)] at he
       obtain ⟨a, b⟩ := open_flat n e le m' _ _ h1 he
       exact ⟨_, List.getElem?_eq_getElem (by omega), a, b⟩
      refine ⟨?_, fun i l hl => ?_⟩
      · apply List.flatMap_eq_nil_iff.2
        intro y hy
        obtain ⟨i, hi, rfl⟩ := List.mem_iff_getElem.1 hy
        obtain ⟨y', e1, e2, _⟩ := key i (by omega)
        rw [List.getElem?_eq_getElem hi] at e1
        cases e1
        exact e2
      · obtain ⟨g1, g2⟩ := getElem?_rep hl
        obtain ⟨_, _, _, h3⟩ := key _ g1
        obtain ⟨v, hv, hk⟩ := leaves_take h3 _ l g2
        refine ⟨v, ?_, hk⟩
        have : i / le.length * P.cellsOf e + i % le.length = i := by rw [← hc, Nat.mul_comm]; exact Nat.div_add_mod i le.length
        rw [this] at hv
        exact hv
    · cases h2
  · rename_i fs hu
    obtain ⟨xs, m', rfl, rfl, hlen, hxl, hx⟩ := DataW.trod_struct hu hd
    have hall : ∀ f ∈ fs.toList, ∃ x, DataW.trod enc P w base spare held m' f.type ((cs.drop f.offset).take (P.cellsOf f.type)) = some x := by
     intro f hf
     obtain ⟨i, hi, rfl⟩ := List.mem_iff_getElem.1 hf
     have hi' : i < fs.size := by simpa using hi
     have he := hx i fs[i] (Array.getElem?_eq_getElem hi')
     rw [List.getElem?_eq_getElem (by omega)] at he
     exact ⟨_, he⟩
    refine ⟨?_, fun i l hl => ?_⟩
    · apply List.flatMap_eq_nil_iff.2
      intro y hy
      obtain ⟨i, hi, rfl⟩ := List.mem_iff_getElem.1 hy
      have hi' : i < fs.size := by omega
      have he := hx i fs[i] (Array.getElem?_eq_getElem hi')
      rw [List.getElem?_eq_getElem hi] at he
      have hsome : ∀ (fs' : List Field) (off : Nat) (ls : List Leaf), flatFields P (flat P n) off fs' = some ls → ∀ f ∈ fs', ∃ l, flat P n f.type = some l := by
       intro fs'
       induction fs' with
       | nil => intro _ _ _ f hf; cases hf
       | cons g fs' ih =>
        intro off ls hfl f hf
        unfold flatFields at hfl
        obtain ⟨lf, h1, h2⟩ := Option.bind_eq_some_iff.1 hfl
        split at h2
        · obtain ⟨ls', h3, _⟩ := Option.map_eq_some_iff.1 h2
          rcases List.mem_cons.1 hf with rfl | hf
          · exact ⟨lf, h1⟩
          · exact ih _ _ h3 f hf
        · cases h2
      obtain ⟨l, hl⟩ := hsome _ _ _ h fs[i] (by simp)
      exact (open_flat n _ l m' _ _ hl he).1
    · have := fields_leaves (fun t ls cs x a b => open_flat n t ls m' cs x a b) fs.toList 0 ls h hall i l hl
      rw [Nat.zero_add] at this
      exact this
  · cases h
/-- A value that is told by cells alone. -/
theorem trod_flat {n : Nat} {t : TypeId} {ls : List Leaf} (hf : flat P n t = some ls) {v : Value} {d : DataW H} {ps : List MemPlace} (h : DataW.Trod enc P w base spare held t v d ps) : ps = [] ∧ Leaves ls v.cells.toList := by
 obtain ⟨fuel, h⟩ := h
 exact open_flat n t ls fuel _ _ hf h
theorem slice_okWide {t e : TypeId} (ht : P.underlying t = some (.slice e)) {r : Reach} {b0 : Nat} {v : Value} (hval : Value.okWide P w r b0 t v) :
 v = .slice none 0 0 ∨ ∃ a len cap, v = .slice (some a) len cap ∧ a.spot = none ∧ a.block < w.heap.size := by
 unfold Value.okWide Cell.okWide Cell.ok at hval
 simp only [ht] at hval
 split at hval <;> simp_all
 · obtain ⟨_, _, _, hs, row, cells, hsh, _⟩ := hval
   refine ⟨hs, ?_⟩
   unfold World.shape? at hsh
   split at hsh
   · rename_i hh
     exact (Array.getElem?_eq_some_iff.1 hh).1
   · cases hsh
/-- A row of such elements. -/
theorem open_rows {α : Type} {n : Nat} {t e : TypeId} {ls : List Leaf} {k : Nat} (ht : P.underlying t = some (.slice e)) (hf : flat P n e = some ls) (hk : P.cellsOf e = k) (hkl : ls.length = k) (encA : α → List Value) (good : α → Prop)
 (hlen : ∀ x, (encA x).length = k) (hdec : ∀ vs : List Value, vs.length = k → Leaves ls vs → ∃ x, encA x = vs ∧ good x)
 {v : Value} {d : DataW H} {ps : List MemPlace} {r : Reach} {b0 : Nat} (hval : Value.okWide P w r b0 t v) (h : DataW.Trod enc P w 0 (fun _ => true) true t v d ps) (hk0 : 0 < k) :
 ∃ l : List α, ∃ a cap, v = .slice a l.length cap ∧ Elems w v l.length k (rowC encA l) ∧ (∀ x ∈ l, good x) ∧ l.length ≤ maxLen ∧ l.length ≤ cap := by
 obtain ⟨fuel, h⟩ := h
 rcases open_slice ht h with ⟨hcs, _⟩ | ⟨a, len, cap, m, n', D, Pl, hcs, hb, hl, hm, hmm, hx, hi⟩
 · rcases slice_okWide ht hval with rfl | ⟨a, len, cap, rfl, hs, hb⟩
   · exact ⟨[], none, 0, rfl, .inl ⟨rfl, rfl⟩, by simp, by simp, by simp⟩
   · simp [Value.cells] at hcs
 · rcases slice_okWide ht hval with rfl | ⟨a', len', cap', rfl, hspot, hblk⟩
   · simp [Value.cells] at hcs
   simp only [Value.cells, List.cons.injEq, Value.slice.injEq, Option.some.injEq, and_true] at hcs
   obtain ⟨rfl, rfl, rfl⟩ := hcs
   simp only [if_true] at hmm
   subst hmm
   obtain ⟨b, off, spot⟩ := a'
   dsimp only at hspot hblk
   subst hspot
   have hex : ∀ i, i < len' → ∃ x : α, (∀ r u, (encA x)[r]? = some u → w.cell? ⟨b, off + (i * k + r), none⟩ = some u) ∧ good x := fun i hil => by
    obtain ⟨cs', h1, h2⟩ := hi i (by omega)
    obtain ⟨_, hcl, hcg⟩ := World.cells?_some h1
    obtain ⟨x, hx1, hx2⟩ := hdec cs' (by rw [hcl, hk]) (open_flat n e ls n' cs' _ hf h2).2
    refine ⟨x, fun r u hr => ?_, hx2⟩
    rw [hx1] at hr
    have hrl : r < cs'.length := (List.getElem?_eq_some_iff.1 hr).1
    have := hcg r (by omega)
    rw [Go.Deep.add_add, hk, hr] at this
    rwa [show (⟨b, off, none⟩ : Addr).add (i * k + r) = ⟨b, off + (i * k + r), none⟩ from by unfold Addr.add; split <;> simp_all] at this
   obtain ⟨l, hl1, hl2⟩ := list_of_ex len' hex
   subst hl1
   refine ⟨l, some ⟨b, off, none⟩, m, rfl, .inr ⟨b, off, m, rfl, hblk, fun j hj => ?_⟩, fun x hx => ?_, by omega, hl⟩
   · have hdiv : j / k < l.length := Nat.div_lt_of_lt_mul (by rw [Nat.mul_comm]; exact hj)
     have hmod : j % k < k := Nat.mod_lt _ hk0
     have hjk : j / k * k + j % k = j := by rw [Nat.mul_comm]; exact Nat.div_add_mod j k
     have h1 := (hl2 (j / k) hdiv).1 (j % k)
     rw [hjk] at h1
     refine h1 _ ?_
     unfold rowC
     have h2 := flat_get hlen l (j / k) (j % k) hmod
     rw [hjk, List.getElem?_eq_getElem hdiv] at h2
     rw [h2]
     show (encA l[j / k])[j % k]? = some (((encA l[j / k])[j % k]?).getD undef)
     rw [List.getElem?_eq_getElem (by rw [hlen]; exact hmod)]
     rfl
   · obtain ⟨i, hi', rfl⟩ := List.mem_iff_getElem.1 hx
     exact (hl2 i hi').2
/-- Arguments read as they did, behind a call that has only made blocks of its own. -/
theorem args_stay (hl : laidOutB P = true) {W W' : World} {sp : Nat → Bool} (hb : Below W.heap.size W W') : ∀ {ts : List TypeId} {vs : List Value} {ds : List (DataW H)} {ps : List MemPlace},
 DataW.TrodAll enc P W 0 (fun _ => true) true ts vs ds ps → (ts.all fun t => P.readableRec t && decide (t < P.types.size)) = true → (∀ x ∈ ps, x.block < W.heap.size) → (∀ x ∈ ps, sp x.block = true) → DataW.TrodAll enc P W' 0 sp true ts vs ds ps
 | [], vs, ds, ps, h, _, _, _ => by obtain ⟨rfl, rfl, rfl⟩ := trodAll_nil h; exact trodAll_mk0
 | t :: ts, vs, ds, ps, h, hr, hlt, hsp => by
  obtain ⟨v, vs', d, ds', p, q, rfl, rfl, rfl, h1, h2⟩ := trodAll_cons h
  rw [List.all_cons, Bool.and_eq_true, Bool.and_eq_true, decide_eq_true_iff] at hr
  exact trodAll_cons_mk (WideElems.Trod_stays hl hr.1.1 hr.1.2 h1 (fun x hx => hb.same (hlt x (by simp [hx]))) (fun x hx => hsp x (by simp [hx]))) (args_stay hl hb h2 hr.2 (fun x hx => hlt x (by simp [hx])) (fun x hx => hsp x (by simp [hx])))
/-- 'post' of a row that says: true; the arguments as they were. -/
theorem post_true {f : Func} {s : ChangeSpec} {apart fresh handsOn again : Bool} {W W' : World} {args : Array Value} {ds gs : List (DataW H)} {before : List MemPlace} (hl : laidOutB P = true) {tb : TypeId} (hu : P.underlying tb = some .bool) (hc : P.cellsOf tb = 1) (hf : f.resultTypes = #[tb])
 (hr : (f.params.toList.all fun t => P.readableRec t && decide (t < P.types.size)) = true) (hvars : s.vars = [])
 (hspec : s.fn H ds = { results := [.lit (.bool true)], args := ds })
 (hW : DataW.Whole enc P f.params.toList s.vars apart W args.toList ds gs before) (hb : Below W.heap.size W W') : s.post enc P f apart fresh handsOn again W args (.bool true) W' := by
 have hW' := hW
 obtain ⟨p, q, hA, hV, rfl, hz, hn⟩ := hW
 rw [hvars] at hV
 obtain ⟨rfl, rfl⟩ := trodVars_none hV
 have hlt := fun x hx => hW'.lt x hx
 have hs : s.fn H (ds ++ []) = { results := [.lit (.bool true)], args := ds } := by rw [List.append_nil]; exact hspec
 refine post_of_below (pa := p) (pv := []) hW' ?_ ?_ ?_ rfl hb ?_
 · intro b sp hd
   rw [hs, hf]
   exact trodAll_cons_mk (shut_bool hu _) trodAll_mk0
 · intro sp hsp
   rw [hs]
   exact args_stay hl hb hA hr (fun x hx => hlt x (by simp [hx])) (fun x hx => hsp x (by simp [hx]))
 · intro sp hsp
   rw [hs, hvars]
   exact rfl
 · exact ok_one hf rfl (okWide_bool_mk hu _)
end
end Go.Proofs.YteklfmacnnmomaaGreat
/- A row's argument that is a vector: taken apart, and put together. -/
namespace Go.Proofs.YteklfmacnnmomaaGreat
open Go.ChangeShapes Go.WideShapes Go.ChangeAt Go.RowKit
section
variable {H : Type} {enc : TypeId × Value → H} {P : Program} {w : World} {base : Nat} {spare : Nat → Bool} {held : Bool}
/-- The nine numbers, as a function. -/
def nine (x0 x1 x2 x3 x4 x5 x6 x7 x8 : Int) : Nat → Int | 0 => x0 | 1 => x1 | 2 => x2 | 3 => x3 | 4 => x4 | 5 => x5 | 6 => x6 | 7 => x7 | 8 => x8 | _ => 0
end
end Go.Proofs.YteklfmacnnmomaaGreat
/- Rows: a frontier as an argument, and rows of pledges. -/
namespace Go.Proofs.YteklfmacnnmomaaGreat
open Go.ChangeShapes Go.WideShapes Go.ChangeAt Go.RowKit
def intC : Value → Int
 | .int _ n => n
 | _ => 0
def boolC : Value → Bool
 | .bool b => b
 | _ => false
/-- A pledge's leaves; a frontier's. -/
def plLf : List Leaf := .bool :: List.replicate 11 (.int .u64)
def frLf : List Leaf := List.replicate 11 (.int .u64) ++ (List.replicate 9 plLf).flatten
theorem flatPl : flat Tryz.prog 6 26 = some plLf := by kernel_rfl
theorem flatFr : flat Tryz.prog 7 29 = some frLf := by kernel_rfl
theorem rep12_get {l : List Leaf} (hl : l.length = 12) : ∀ (n k r : Nat), k < n → r < 12 → ((List.replicate n l).flatten)[k * 12 + r]? = l[r]?
 | 0, _, _, h, _ => by omega
 | n + 1, 0, r, _, hr => by
  rw [List.replicate_succ, List.flatten_cons, List.getElem?_append_left (by omega), Nat.zero_mul, Nat.zero_add]
 | n + 1, k + 1, r, h, hr => by
  rw [List.replicate_succ, List.flatten_cons, List.getElem?_append_right (by omega), hl, show (k + 1) * 12 + r - 12 = k * 12 + r by omega]
  exact rep12_get hl n k r (by omega) hr
/-- A pledge out of its cells. -/
def plOf (g : Nat → Value) : Plg := ⟨boolC (g 0), intC (g 1), intC (g 2), fun k => intC (g (k + 3))⟩
def frOf (cs : List Value) : Frt := ⟨intC (cs[0]?.getD undef), fun k => intC (cs[k + 1]?.getD undef), intC (cs[10]?.getD undef), fun k => plOf fun r => cs[11 + (k * 12 + r)]?.getD undef⟩
theorem intC_of {cs : List Value} {i : Nat} (h : ∃ v, cs[i]? = some v ∧ leafOk (.int .u64) v) : cs[i]? = some (.int .u64 (intC (cs[i]?.getD undef))) ∧ 0 ≤ intC (cs[i]?.getD undef) ∧ intC (cs[i]?.getD undef) ≤ 18446744073709551615 := by
 obtain ⟨v, hv, n, rfl, hw⟩ := h
 rw [hv]
 exact ⟨rfl, bounds_u64 hw⟩
theorem boolC_of {cs : List Value} {i : Nat} (h : ∃ v, cs[i]? = some v ∧ leafOk .bool v) : cs[i]? = some (.bool (boolC (cs[i]?.getD undef))) := by
 obtain ⟨v, hv, b, rfl⟩ := h
 rw [hv]
 rfl
/-- The numbers of a pledge, of a frontier. -/
def u64B (n : Int) : Prop := 0 ≤ n ∧ n ≤ 18446744073709551615
structure PlgW (p : Plg) : Prop where
 floor : u64B p.floor
 seq : u64B p.seq
 has : ∀ k, k < 9 → u64B (p.has k)
structure FrtW (f : Frt) : Prop where
 folded : u64B f.folded
 by_ : ∀ k, k < 9 → u64B (f.by_ k)
 prop : u64B f.prop
 site : ∀ k, k < 9 → PlgW (f.site k)
theorem plLf_get {r : Nat} (h0 : r ≠ 0) (h : r < 12) : plLf[r]? = some (.int .u64) := by
 match r, h0, h with
 | 1, _, _ | 2, _, _ | 3, _, _ | 4, _, _ | 5, _, _ | 6, _, _ | 7, _, _ | 8, _, _ | 9, _, _ | 10, _, _ | 11, _, _ => rfl
theorem leaves_plg (vs : List Value) (hl : vs.length = 12) (h : Leaves plLf vs) : ∃ x : Plg, x.l = vs ∧ PlgW x := by
 have k := fun r (h0 : r ≠ 0) (hr : r < 12) => intC_of (h r _ (plLf_get h0 hr))
 have k0 := boolC_of (h 0 _ rfl)
 refine ⟨plOf fun r => vs[r]?.getD undef, ?_, (k 1 (by decide) (by decide)).2, (k 2 (by decide) (by decide)).2, fun i hi => (k (i + 3) (by omega) (by omega)).2⟩
 refine List.ext_getElem? fun r => ?_
 match r with
 | 0 => exact k0.symm
 | 1 => exact (k 1 (by decide) (by decide)).1.symm
 | 2 => exact (k 2 (by decide) (by decide)).1.symm
 | 3 => exact (k 3 (by decide) (by decide)).1.symm
 | 4 => exact (k 4 (by decide) (by decide)).1.symm
 | 5 => exact (k 5 (by decide) (by decide)).1.symm
 | 6 => exact (k 6 (by decide) (by decide)).1.symm
 | 7 => exact (k 7 (by decide) (by decide)).1.symm
 | 8 => exact (k 8 (by decide) (by decide)).1.symm
 | 9 => exact (k 9 (by decide) (by decide)).1.symm
 | 10 => exact (k 10 (by decide) (by decide)).1.symm
 | 11 => exact (k 11 (by decide) (by decide)).1.symm
 | r + 12 => rw [List.getElem?_eq_none (by rw [Plg.len]; omega), List.getElem?_eq_none (by omega)]
theorem leaves_frt (vs : List Value) (hl : vs.length = 119) (h : Leaves frLf vs) : ∃ x : Frt, x.l = vs ∧ FrtW x := by
 have kh := fun r (hr : r < 11) => intC_of (h r (.int .u64) (by
  unfold frLf
  rw [List.getElem?_append_left (by rw [List.length_replicate]; exact hr), List.getElem?_replicate, if_pos hr]))
 have ks : ∀ k r x, k < 9 → r < 12 → plLf[r]? = some x → ∃ v, vs[11 + (k * 12 + r)]? = some v ∧ leafOk x v := fun k r x hk hr hx => h _ _ (by
  unfold frLf
  rw [List.getElem?_append_right (by rw [List.length_replicate]; omega), List.length_replicate, show 11 + (k * 12 + r) - 11 = k * 12 + r by omega, rep12_get rfl 9 k r hk hr]
  exact hx)
 refine ⟨frOf vs, ?_, (kh 0 (by decide)).2, fun i hi => (kh (i + 1) (by omega)).2, (kh 10 (by decide)).2, fun i hi => ?_⟩
 · have e : vs.toArray = (frOf vs).cells := by
    refine Frt.ext_cells (by simpa using hl) (fun k hk => ?_) (fun k r hk hr => ?_)
    · rw [List.getElem?_toArray]
      match k, hk with
      | 0, _ => exact (kh 0 (by decide)).1
      | 1, _ => exact (kh 1 (by decide)).1
      | 2, _ => exact (kh 2 (by decide)).1
      | 3, _ => exact (kh 3 (by decide)).1
      | 4, _ => exact (kh 4 (by decide)).1
      | 5, _ => exact (kh 5 (by decide)).1
      | 6, _ => exact (kh 6 (by decide)).1
      | 7, _ => exact (kh 7 (by decide)).1
      | 8, _ => exact (kh 8 (by decide)).1
      | 9, _ => exact (kh 9 (by decide)).1
      | 10, _ => exact (kh 10 (by decide)).1
    · rw [List.getElem?_toArray]
      match r, hr with
      | 0, _ => exact boolC_of (ks k 0 _ hk (by decide) rfl)
      | 1, _ => exact (intC_of (ks k 1 _ hk (by decide) rfl)).1
      | 2, _ => exact (intC_of (ks k 2 _ hk (by decide) rfl)).1
      | 3, _ => exact (intC_of (ks k 3 _ hk (by decide) rfl)).1
      | 4, _ => exact (intC_of (ks k 4 _ hk (by decide) rfl)).1
      | 5, _ => exact (intC_of (ks k 5 _ hk (by decide) rfl)).1
      | 6, _ => exact (intC_of (ks k 6 _ hk (by decide) rfl)).1
      | 7, _ => exact (intC_of (ks k 7 _ hk (by decide) rfl)).1
      | 8, _ => exact (intC_of (ks k 8 _ hk (by decide) rfl)).1
      | 9, _ => exact (intC_of (ks k 9 _ hk (by decide) rfl)).1
      | 10, _ => exact (intC_of (ks k 10 _ hk (by decide) rfl)).1
      | 11, _ => exact (intC_of (ks k 11 _ hk (by decide) rfl)).1
   have e2 := congrArg Array.toList e
   exact e2.symm
 · exact ⟨(intC_of (ks i 1 _ hi (by decide) rfl)).2, (intC_of (ks i 2 _ hi (by decide) rfl)).2, fun j hj => (intC_of (ks i (j + 3) _ hi (by omega) (plLf_get (by omega) (by omega)))).2⟩
set_option maxRecDepth 100000 in
theorem open_frt {H : Type} {enc : TypeId × Value → H} {w : World} {r : Reach} {b0 : Nat} {v : Value} {d : DataW H} {ps : List MemPlace} (hv : Value.okWide Tryz.prog w r b0 29 v) (h : DataW.Trod enc Tryz.prog w 0 (fun _ => true) true 29 v d ps) :
 ∃ f : Frt, v = .agg f.cells ∧ FrtW f := by
 obtain ⟨⟨cs⟩, rfl, hz, -⟩ : ∃ cs, v = .agg cs ∧ cs.size = Tryz.prog.cellsOf 29 ∧ Row.okWide Tryz.prog w r b0 29 cs := by simpa [Value.okWide, Tryz.underlying29] using hv
 rw [show Tryz.prog.cellsOf 29 = 119 by kernel_rfl] at hz
 obtain ⟨f, hf, hw⟩ := leaves_frt cs (by simpa using hz) (trod_flat flatFr h).2
 subst hf
 exact ⟨f, rfl, hw⟩
end Go.Proofs.YteklfmacnnmomaaGreat
