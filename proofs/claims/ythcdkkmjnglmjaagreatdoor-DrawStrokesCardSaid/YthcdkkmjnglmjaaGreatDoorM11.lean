/- Merged texts: SwB SwC Wk Few ClipL Clips Sweeps LinesA StepsA UnionsA DrL Met. -/
import Derived.Test.YthcdkkmjnglmjaaGreatDoorM10
import Derived.Test.YthcdkkmjnglmjaaGreatDoorM5
import Derived.Test.YthcdkkmjnglmjaaGreatDoorM8
import Derived.Test.YthcdkkmjnglmjaaGreatDoorM7
import Derived.Shelf.SlicesQ.Contains
import Derived.Test.YthcdkkmjnglmjaaGreatDoorM3
import Derived.Test.YthcdkkmjnglmjaaGreatDoorM2
set_option linter.unusedSimpArgs false
set_option linter.unusedVariables false
/- Layer 6: Sweep. -/
namespace Go.Proofs.YthcdkkmjnglmjaaGreatDoor
open Go.RowKit Go.Shelf Go.Maps
attribute [local go_sem] Oper.semAt_some
/-- It returns THE row of the places of which Q holds, if something holds, and no error; else none, and an error. -/
def GivesSet (ok : Bool) (Q : PtT → Prop) (er : Int) (w : World) (e : Ending) (w' : World) : Prop := ∃ M, (ok = true → SetRow Q M) ∧ (ok = false → M = []) ∧ M.length ≤ 1000000 ∧ GivesRowE 60 3 M.length (M.flatMap encS) (errOf ok er) w e w'
theorem about_any (cx cy size : Int) (lb : Array Value) (w : World) :
 Calls Tryz.prog 96 #[.agg #[.int .i64 cx, .int .i64 cy], .int .i64 size, .func (.func 95) #[] lb] w fun e w' =>
  e = .returned (.func (.func 114) #[] #[.pointer (some ⟨w.heap.size + 1, 0, none⟩), .pointer (some ⟨w.heap.size + 1 + 1, 0, none⟩), .pointer (some ⟨w.heap.size, 0, none⟩)]) ∧
  ((w.alloc (.cells #[.int .i64 cx, .int .i64 cy] 26)).alloc (.cells #[.int .i64 size] 3)).alloc (.cells #[.func (.func 95) #[] lb] 96) = w' := by
 go_enter Tryz.func96, Tryz.ntmps96
 go_wp2
 go_ret
 exact ⟨rfl, rfl⟩
theorem itOrd_sub {w0 : World} : ∀ {its its' : List It}, its'.Sublist its → ItOrd w0 its → ItOrd w0 its'
 | _, _, .slnil, h => h
 | .blk _ _ :: _, _, .cons _ hs, h => itOrd_sub hs h.2.2
 | .row _ _ _ _ _ :: _, _, .cons _ hs, h => itOrd_sub hs h
 | .blk _ _ :: _, _, .cons_cons _ hs, h => ⟨h.1, fun j hj => h.2.1 j (hs.subset hj), itOrd_sub hs h.2.2⟩
 | .row _ _ _ _ _ :: its, .row _ _ _ _ _ :: its', .cons_cons _ hs, h => show ItOrd w0 its' from itOrd_sub (its := its) hs h
theorem St.sub {w0 x : World} {its its' : List It} (h : St w0 its x) (hs : its'.Sublist its) : St w0 its' x := ⟨h.low, fun i hi => h.ok i (hs.subset hi), itOrd_sub hs h.ord, fun i hi => h.top i (hs.subset hi)⟩
theorem GrD.rebase {w : World} {base base' b n : Nat} {D : DataW Value} (h : GrD w base b n D (fun _ => nilS) (fun _ => [])) (hb : base ≤ base') : GrD w base' b n D (fun _ => nilS) (fun _ => []) :=
 ⟨h.map, h.at_, fun _ _ => World.ownsRow_nil _ _ _ _, fun _ _ _ _ _ _ h => (by cases h), h.has, h.only, Nat.lt_of_lt_of_le h.lt hb⟩
theorem GrOf_nil : GrOf [] = fun _ => [] := rfl
theorem GrS.start {w0 x y : World} {its : List It} (hst : St w0 its y) (hb : Below (x.heap.size + 1) (x.alloc (.map #[] 0)) y) (hs : x.heap.size + 1 ≤ y.heap.size) : GrS w0 its [] y.heap.size x.heap.size [] y :=
 ⟨hst, ⟨0, .map [], fun _ => nilS, Nat.zero_le _, by rw [GrOf_nil]; exact ((GrD.start x).kept (by simpa using hb)).rebase hs, fun _ _ _ h => by cases h⟩, Nat.le_refl _⟩
/-- The end of a round of a loop whose rounds range over functions. -/
def RoundD (S : List Nat) (R : (Nat → Value) → List Deferred → World → Prop) (tm0 : Array Value) (mu : Array Value → World → Nat) (m : Nat) (a' : Act) (w' : World) : Prop := (∃ (u' : Nat → Value) (ds' : List Deferred), R u' ds' w' ∧ a' = ⟨setS S u' tm0, ds'⟩) ∧ mu a'.tmps w' < m
theorem roundD_of {S : List Nat} {R : (Nat → Value) → List Deferred → World → Prop} {tm0 : Array Value} {mu : Array Value → World → Nat} {m : Nat} {tm : Array Value} {ds : List Deferred} {w' : World} (he : setS S (fun t => tm.getD t undef) tm0 = tm) (hR : R (fun t => tm.getD t undef) ds w') (hm : mu tm w' < m) : RoundD S R tm0 mu m ⟨tm, ds⟩ w' :=
 ⟨⟨_, ds, hR, by rw [he]⟩, hm⟩
theorem wpIn_loopR {F : Fence} {n : Nat} {P : Program} {c : Code} {Q : Exit → Act → World → Prop} {a : Act} {w : World} (S : List Nat) (R : (Nat → Value) → List Deferred → World → Prop) (mu : Array Value → World → Nat)
 (h0 : R (fun t => a.tmps.getD t undef) a.defers w)
 (hr : ∀ (u : Nat → Value) (ds : List Deferred) (wr : World), R u ds wr → c.wpIn F n P (Exit.then (RoundD S R a.tmps mu (mu (setS S u a.tmps) wr)) Q) ⟨setS S u a.tmps, ds⟩ wr) :
 (Code.loop c).wpIn F n P Q a w := wpIn_loopD S R mu h0 hr
theorem Marks.keep {lo : Nat} {Ds : List Nat} {x y : World} (h : Marks lo Ds x) (hk : ∀ (k : Nat), x.heap[k]? = some (.deferred (some [])) → y.heap[k]? = some (.deferred (some []))) : Marks lo Ds y :=
 ⟨h.nd, fun D hD => ⟨(h.blk D hD).1, hk D (h.blk D hD).2⟩⟩
theorem Marks.below {lo : Nat} {Ds : List Nat} {x y : World} (h : Marks lo Ds x) (hb : Below x.heap.size x y) : Marks lo Ds y := h.keep fun k hk => (hb.block k (b7t hk)).trans hk
theorem ownFrom_marks {β : Type} {B lo : Nat} {Ds : List Nat} (h : ∀ D ∈ Ds, D < B) : OwnFrom B (fun (_ : β) W => Marks lo Ds W) := fun _ W W' row hm hg hr =>
 ⟨hm.nd, fun D hD => ⟨(hm.blk D hD).1, (hg.block D (b7t (hm.blk D hD).2) (fun e => by have := (hr D e.symm).1; have := h D hD; omega)).trans (hm.blk D hD).2⟩⟩
theorem GrS.notMap {w0 x : World} {its : List It} {bs : List Nat} {base b : Nat} {L : List SpT} (h : GrS w0 its bs base b L x) {k : Nat} {o : Obj} (hk : x.heap[k]? = some o) (ho : ∀ es c, o ≠ .map es c) : k ≠ b := by
 rintro rfl
 obtain ⟨n, D, F, _, h2, _⟩ := h.gr
 obtain ⟨es, clock, he, _⟩ := h2.map
 rw [hk] at he
 cases he
 exact ho _ _ rfl
theorem map_fin {α : Type} (A : List α) : (List.finRange A.length).map (fun i => A[i.1]) = A := by
 refine List.ext_getElem (by simp) fun i h1 h2 => by simp
theorem sweepL_take {size : Int} {round : Bool} {l : List PtT} {k : Nat} {s : PtT} (h : l.take (k + 1) = l.take k ++ [s]) : sweepL size round (l.take (k + 1)) = sweepL size round (l.take k) ++ aboutL s size round := by
 rw [h]; unfold sweepL; simp
theorem ownsRow_turned {S : Nat → Prop} {w w' : World} {base : Nat} {e : TypeId} {k : Nat} {v : Value} {n : Nat} {xs : List Value} (h : w.ownsRow base e k v n xs) (ht : Turned S w w') (hS : ∀ j cur, w.heap[j]? = some (.cells cur e (0, 0)) → ¬ S j) : w'.ownsRow base e k v n xs := by
 refine ⟨h.1, ?_⟩
 rcases h.2 with hn | ⟨g, cap, cur, rfl, hg, hgg, rest⟩
 · exact .inl hn
 · exact .inr ⟨g, cap, cur, rfl, hg, (ht.block g (b7t hgg) (hS g cur hgg)).trans hgg, rest⟩
theorem Marks.notCells {lo : Nat} {Ds : List Nat} {x : World} (h : Marks lo Ds x) {j : Nat} {cur : Array Value} {e : TypeId} {f : Nat × Nat} (hj : x.heap[j]? = some (.cells cur e f)) : j ∉ Ds := fun hm => by
 rw [(h.blk j hm).2] at hj; cases hj
theorem with_actIn {F : Fence} {n : Nat} {P : Program} {c : Code} {Q : Exit → Act → World → Prop} {a : Act} {w : World} (h : ∀ a0 : Act, a0 = a → c.wpIn F n P Q a0 w) : c.wpIn F n P Q a w := h a rfl
theorem makeMap_rows (w : World) : (Instr.makeMap 90 none).run Tryz.prog w = .ok (.map (some w.heap.size)) (w.alloc (.map #[] 0)) := rfl
theorem givesBad {Q : PtT → Prop} {w w' : World} {e : Ending} (er : Int) (he : e = .returned (.tuple #[.slice none 0 0, .int .i64 er])) (hb : Below w.heap.size w w') : GivesSet false Q er w e w' :=
 ⟨[], ⟨fun h => Bool.noConfusion h, fun _ => rfl, Nat.zero_le _, _, he, World.ownsRow_nil _ _ _ _, hb⟩⟩
set_option maxRecDepth 100000 in
set_option maxHeartbeats 1000000 in
theorem shSweep_any (a : Option Addr) (n cap : Nat) (l : List PtT) (hl : l.length = n) (hn : n ≤ 30000) (size : Int) (round : Bool) (w : World) (h : Elems w (.slice a n cap) n 2 (rowC encP l)) :
 Calls Tryz.prog 61 #[.slice a n cap, .int .i64 size, .bool round] w (GivesSet (sizeB size && !l.any (fun p => !drawnB p)) (SwM size round l) 2 w) := by
 have HS := H7 ((St.start w).addRow h)
 have HL := H7 hl
 have HN := H7 hn
 clear h hl hn
 obtain ⟨ok, hok⟩ : ∃ ok, (sizeB size && !l.any (fun p => !drawnB p)) = ok := ⟨_, rfl⟩
 rw [hok]
 have HOK := H7 hok
 clear hok
 refine (callsIn_wide (n := 10)).1 ?_
 refine callsIn_of_wp_marks Tryz.func61 rfl trivial ?_ rfl
 simp only [Tryz.ntmps61, List.size_toArray, List.length_cons, List.length_nil, Nat.reduceAdd, Nat.reduceSub, Array.replicate_succ, Array.replicate_zero, List.push_toArray, List.append_toArray, List.nil_append, List.cons_append]
 by_cases hs1 : 0 ≤ size
 · by_cases hs2 : size ≤ 15
   · gi_wp2_with fail
     have hs_ := ((HS.out.alloc (.cells #[.int .i64 size] 3)).alloc (.cells #[.bool round] 4))
     obtain ⟨w1, hw_⟩ : ∃ w1 : World, ((w.alloc (.cells #[.int .i64 size] 3)).alloc (.cells #[.bool round] 4)) = w1 := ⟨_, rfl⟩
     rw [hw_] at hs_
     try simp only [World.size_alloc] at hs_
     have HS := H7 hs_
     rw [hw_]
     clear hw_ hs_
     refine (callsIn_wide.2 (containsFuncSwp (fun p => !drawnB p) #[] a n cap l HL.out (by have := HN.out; omega) _ (HS.out.elems 2 rfl) (fun x y _ => sweep1_any x y))).mono ?_
     rintro e w2 ⟨rfl, hb_⟩
     have HS := H7 (HS.out.below hb_)
     have HSZ := H7 (And.intro hs1 hs2)
     clear hb_
     cases hany : l.any (fun p => !drawnB p)
     · have HANY := H7 hany
       clear hany
       have hmm := makeMap_rows
       have HB4 := HS.out.lt 0 rfl
       gi_wp2_with fail
       clear hmm
       have HSZ := H7 (And.intro hs1 hs2)
       have hB3 : Below (w2.heap.size + 1) (w2.alloc (.map #[] 0)) (((w2.alloc (.map #[] 0)).alloc (.cells #[.map (some w2.heap.size)] 131)).alloc (.cells #[.pointer (some ⟨w2.heap.size + 1, 0, none⟩)] 129)) := ((B7 _ _).alloc (by simp) _).alloc (by simp) _
       have hs3 := ((HS.out.alloc (.map #[] 0)).alloc (.cells #[.map (some w2.heap.size)] 131)).alloc (.cells #[.pointer (some ⟨w2.heap.size + 1, 0, none⟩)] 129)
       obtain ⟨w3, hw3⟩ : ∃ w3 : World, ((w2.alloc (.map #[] 0)).alloc (.cells #[.map (some w2.heap.size)] 131)).alloc (.cells #[.pointer (some ⟨w2.heap.size + 1, 0, none⟩)] 129) = w3 := ⟨_, rfl⟩
       have hz3 : w3.heap.size = w2.heap.size + 3 := by rw [← hw3]; simp
       rw [hw3] at hB3 hs3
       rw [hw3]
       simp only [World.size_alloc] at hs3
       have hgs := GrS.start (hs3.sub (.cons_cons _ (.cons_cons _ (.cons _ (List.Sublist.refl _))))) hB3 (by omega)
       obtain ⟨bm, hbm⟩ : ∃ bm, w2.heap.size = bm := ⟨_, rfl⟩
       obtain ⟨N3, hN3⟩ : ∃ N3, w3.heap.size = N3 := ⟨_, rfl⟩
       rw [hN3, hbm] at hgs
       rw [hbm] at HB4 hz3
       have HZ := H7 (And.intro HB4 (hN3 ▸ hz3 : N3 = bm + 3))
       simp only [hbm]
       have HGS := H7 hgs
       clear hB3 hs3 hw3 hz3 hgs hbm hN3 HB4 hs1 hs2 HS
       apply wpIn_loopR [11, 12, 29, 30, 31, 32, 33, 34, 35, 36, 37, 38, 39, 40, 41] (fun u ds wr => ∃ k : Nat, k ≤ n ∧ u 29 = .int .i64 (k : Int) ∧ ∃ Ds : List Nat, ds = marksOf Ds ∧ Marks w.heap.size Ds wr ∧ GrS w [.blk (bm + 1 + 1) (.cells #[.pointer (some ⟨bm + 1, 0, none⟩)] 129), .blk (bm + 1) (.cells #[.map (some bm)] 131), .blk (w.heap.size + 1) (.cells #[.bool round] 4), .blk w.heap.size (.cells #[.int .i64 size] 3), .row (.slice a n cap) n 2 (rowC encP l) w.heap.size] [] N3 bm (sweepL size round (l.take k)) wr) (fun tm _ => n - (intOf (tm.getD 29 undef)).toNat)
       · exact ⟨0, by omega, rfl, [], rfl, marks_nil _ _, HGS.out⟩
       · rintro u ds wr ⟨k, hk, hu, Ds, rfl, hm, hg⟩
         simp only [setS, List.foldl, List.setIfInBounds_toArray, List.set_cons_succ, List.set_cons_zero]
         rw [hu]
         have HMK := H7 hm
         have HG := H7 hg
         clear hu hm hg HGS
         by_cases hlt : k < n
         · have HK := H7 hlt
           have e3 : wrap64 ((k : Int) + 1) = ((k + 1 : Nat) : Int) := by have := HN.out; unfold wrap64; omega
           obtain ⟨s, hx⟩ : ∃ s, l[k]? = some s := ⟨_, List.getElem?_eq_getElem (by rw [HL.out]; exact hlt)⟩
           obtain ⟨bb, off, rfl, hbb, c0, c1⟩ := ptCells HL.out (HG.out.st.elems 4 rfl) k s hx
           have hds := (drawn_iff s).1 (by
            have h1 := List.any_eq_false.1 HANY.out s (List.mem_of_getElem? hx)
            simpa using h1)
           have HTS := H7 (take_snocP hx)
           have HSD := H7 hds
           have cz := c7b (k := 0) (HG.out.st.blockAt 3 rfl) rfl
           have hwz := HG.out.st.lt 3 rfl
           have HS := H7 (St.start wr)
           obtain ⟨sp, hsp⟩ : ∃ sp, sp = s := ⟨_, rfl⟩
           rw [← hsp] at HTS HSD
           have HSP := H7 hsp
           obtain ⟨sx, sy⟩ := s
           simp only at c0 c1
           clear hx hds hbb hsp
           gi_wp2_with fail
           obtain ⟨q, hq⟩ : ∃ q, wr.heap.size = q := ⟨_, rfl⟩
           have hs_ := (HS.out.alloc (.cells #[.int .i64 sx, .int .i64 sy] 26))
           obtain ⟨w4, hw_⟩ : ∃ w4 : World, (wr.alloc (.cells #[.int .i64 sx, .int .i64 sy] 26)) = w4 := ⟨_, rfl⟩
           rw [hw_] at hs_
           try simp only [World.size_alloc] at hs_
           have HS := H7 hs_
           rw [hw_]
           clear hw_ hs_
           refine (callsIn_wide.2 (about_any sx sy size _ _)).mono ?_
           rintro e w' ⟨rfl, rfl⟩
           obtain ⟨q4, hq4⟩ : ∃ q4, w4.heap.size = q4 := ⟨_, rfl⟩
           have hq5 : wr.heap.size < w4.heap.size := HS.out.lt 0 rfl
           have hs_ := (((HS.out.alloc (.cells #[.int .i64 sx, .int .i64 sy] 26)).alloc (.cells #[.int .i64 size] 3)).alloc (.cells #[.func (.func 95) #[] #[.pointer (some ⟨w.heap.size + 1, 0, none⟩), .pointer (some ⟨w.heap.size, 0, none⟩)]] 96))
           obtain ⟨w5, hw_⟩ : ∃ w5 : World, (((w4.alloc (.cells #[.int .i64 sx, .int .i64 sy] 26)).alloc (.cells #[.int .i64 size] 3)).alloc (.cells #[.func (.func 95) #[] #[.pointer (some ⟨w.heap.size + 1, 0, none⟩), .pointer (some ⟨w.heap.size, 0, none⟩)]] 96)) = w5 := ⟨_, rfl⟩
           rw [hw_] at hs_
           try simp only [World.size_alloc] at hs_
           have HS := H7 hs_
           rw [hw_]
           clear hw_ hs_
           rw [hq4] at HS
           simp only [hq, hq4]
           clear c0 c1 cz
           gi_wp2_with fail
           have hb5 : Below wr.heap.size wr w5 := HS.out.low
           have hz5 : q4 + 1 + 1 < w5.heap.size := HS.out.lt 0 rfl
           rw [hq4] at hq5
           have hbase := HG.out.hi
           have hwb : w.heap.size + 1 < wr.heap.size := HG.out.st.lt 2 rfl
           obtain ⟨bs, hbs⟩ : ∃ bs : List Nat, bs = [q4 + 1, q4 + 1 + 1, q4, w.heap.size + 1, w.heap.size] := ⟨_, rfl⟩
           have hbs5 : ∀ c ∈ bs, c < w5.heap.size := by rw [hbs]; intro c hc; simp at hc; omega
           have hbsm : ∀ c ∈ bs, c ≠ bm := by rw [hbs]; intro c hc; have := HZ.out; simp at hc; omega
           have hmem : (q4 + 1) ∈ bs ∧ (q4 + 1 + 1) ∈ bs ∧ q4 ∈ bs ∧ (w.heap.size + 1) ∈ bs ∧ w.heap.size ∈ bs := by rw [hbs]; simp
           have hG5 : GrS w _ bs N3 bm _ w5 := HG.out.fresh hb5 bs (by rw [hbs]; intro c hc; have := HZ.out; have := HZ.out.2; simp at hc; omega)
           have hM5 := HMK.out.below hb5
           have hDs : ∀ D ∈ Ds, D < wr.heap.size := fun D hD => b7t (HMK.out.blk D hD).2
           have hgr5 := hG5.st
           obtain ⟨A, hA⟩ : ∃ A, aboutL ⟨sx, sy⟩ size round = A := ⟨_, rfl⟩
           have hit := about_iter w5 (q4 + 1) (q4 + 1 + 1) q4 (w.heap.size + 1) w.heap.size bs size HSZ.out.1 HSZ.out.2 round ⟨sx, sy⟩ (by have := HSD.out; rw [HSP.out] at this; exact this) A hA hmem hbs5 (c7b (HS.out.blockAt 1 rfl) rfl) (c7b (HS.out.blockAt 0 rfl) rfl) (c7b (HS.out.blockAt 2 rfl) rfl) (c7b (HS.out.blockAt 2 rfl) rfl) (c7b (hgr5.blockAt 2 rfl) rfl) (c7b (hgr5.blockAt 3 rfl) rfl)
           have HLB := H7 (aboutL_len (c := ⟨sx, sy⟩) (round := round) HSZ.out.2)
           have HMB := H7 (fun s hs => mem_aboutL (c := ⟨sx, sy⟩) (size := size) (round := round) (s := s) HSZ.out.1 hs)
           rw [HSP.out] at HTS
           have HSW := H7 (sweepL_take (size := size) (round := round) HTS.out)
           have HLS := H7 (show (sweepL size round (l.take k)).length ≤ 930000 by
            have h1 := sweepL_len (round := round) HSZ.out.2 (l.take k)
            have h2 := HN.out
            rw [List.length_take, HL.out] at h1
            omega)
           rw [hA] at HLB HMB HSW
           obtain ⟨Lk, hLk⟩ : ∃ Lk, sweepL size round (l.take k) = Lk := ⟨_, rfl⟩
           rw [hLk] at hG5 HSW HLS
           obtain ⟨its, hits⟩ : ∃ its : List It, its = [.blk (bm + 1 + 1) (.cells #[.pointer (some ⟨bm + 1, 0, none⟩)] 129), .blk (bm + 1) (.cells #[.map (some bm)] 131), .blk (w.heap.size + 1) (.cells #[.bool round] 4), .blk w.heap.size (.cells #[.int .i64 size] 3), .row (.slice (some ⟨bb, off, none⟩) n cap) n 2 (rowC encP l) w.heap.size] := ⟨_, rfl⟩
           rw [← hits] at hG5
           have hcells : ∀ b o, .blk b o ∈ its → o.isCells = true := by
            rw [hits]
            intro b o hb
            simp at hb
            rcases hb with ⟨_, rfl⟩ | ⟨_, rfl⟩ | ⟨_, rfl⟩ | ⟨_, rfl⟩ <;> rfl
           have hfree : ∀ i ∈ its, i.free (fun k => k = bm ∨ N3 ≤ k) := by
            rw [hits]
            intro i hi
            have := HZ.out
            simp at hi
            rcases hi with rfl | rfl | rfl | rfl | rfl <;> simp only [It.free] <;> omega
           have hpm : .blk (bm + 1) (.cells #[.map (some bm)] 131 (0, 0)) ∈ its := by rw [hits]; simp
           have hbm5 : bm < w5.heap.size := by have := HZ.out; omega
           have hw5 : w.heap.size ≤ w5.heap.size := by omega
           have hOI : OwnFrom w5.heap.size (fun (pre : List (Fin A.length)) W => GrS w its bs N3 bm (Lk ++ pre.map (fun i => A[i.1])) W ∧ Marks w.heap.size Ds W ∧ w5.heap.size ≤ W.heap.size) := OwnFrom.and (ownFrom_GrS _ hw5 hbm5 hcells) (OwnFrom.and (ownFrom_marks (fun D hD => by have := hDs D hD; omega)) (ownFrom_size _))
           apply with_actIn
           intro a0 ha0
           refine range_iterB hit (by omega) (by rw [ha0]; rfl) (enters_of Tryz.func114 (by kernel_rfl) rfl) hbs5 (B7 _ _) (fun _ => rfl) (fun x => [(37, (A[x.1]).val)]) (fun _ => by simp)
            (fun pre W => GrS w its bs N3 bm (Lk ++ pre.map (fun i => A[i.1])) W ∧ Marks w.heap.size Ds W ∧ w5.heap.size ≤ W.heap.size)
            (fun _ _ _ => False) hOI (fun _ => ownFrom_pure _ _) ⟨by simpa using hG5, hM5, Nat.le_refl _⟩
            (fun x a' W => ∃ p, a' = loopAct a0 [(37, (A[x.1]).val), (12, .pointer (some ⟨p, 0, none⟩))] ∧ W.heap[p]? = some (.cells #[.int .i64 (A[x.1]).y, .int .i64 (A[x.1]).f, .int .i64 (A[x.1]).t] 60 (0, 0))) ?hAx ?assign ?body ?done ?stop
           case hAx =>
            rintro x a' s X Y row ⟨p, e, hp⟩ hg hr
            exact ⟨p, e, (grownBy_keeps_cells hg (fun r e => (hr r e).2) hp rfl).trans hp⟩
           case assign =>
            rintro ly pre x W K ⟨hI, hM, hlt5⟩ hK
            have HK := H7 hK
            have HI := H7 hI
            have HM := H7 hM
            clear hK hI hM
            rw [ha0] at HK ⊢
            unfold loopAct at HK ⊢
            simp only [SpT.val, List.foldl, List.setIfInBounds_toArray, List.set_cons_succ, List.set_cons_zero] at HK ⊢
            gi_wp2
            have hb := (B7 W.heap.size W).alloc (Nat.le_refl _) (.cells #[.int .i64 (A[x.1]).y, .int .i64 (A[x.1]).f, .int .i64 (A[x.1]).t] 60)
            exact HK.out _ _ (keepsFrom_below hb) (KeepsAt.of_below hb (fun c hc => Nat.lt_of_lt_of_le (hbs5 c hc) hlt5)) ⟨HI.out.below hb, HM.out.below hb, Nat.le_trans hlt5 hb.size⟩ ⟨W.heap.size, rfl, World.alloc_heap_new W _⟩
           case body =>
            rintro ly pre x a' W ⟨hI, hM, hlt5⟩ ⟨p, rfl, hp⟩ hlen
            rw [ha0]
            unfold loopAct
            simp only [SpT.val, List.foldl, List.setIfInBounds_toArray, List.set_cons_succ, List.set_cons_zero]
            have HI := H7 hI
            have HM := H7 hM
            have hst := hI.st
            rw [hits] at hst
            have c9 := c7b (k := 0) (hst.blockAt 0 rfl) rfl
            have k0 := c7b (k := 0) hp rfl
            have k1 := c7b (k := 1) hp rfl
            have k2 := c7b (k := 2) hp rfl
            have hsm := mem_aboutL (c := ⟨sx, sy⟩) (size := size) (round := round) (s := A[x.1]) HSZ.out.1 (by rw [hA]; exact List.getElem_mem _)
            have hsd := HSD.out
            rw [HSP.out] at hsd
            have hput := hI.put (pr := bm + 1) (A[x.1]) (by have := HSZ.out; unfold inK; simp only at hsm hsd; omega) (by have h1 := HLS.out; have h2 := HLB.out; simp; omega) hpm ⟨by have := HZ.out; omega, by omega⟩ (by have := HZ.out; omega) (by have := HZ.out; omega) hfree (fun c hc => ⟨hbsm c hc, Nat.lt_of_lt_of_le (hbs5 c hc) hlt5⟩)
            have HP := H7 hput
            clear hI hM hst hp hsm hsd hput
            unfold SpT.val at HP
            gi_wp2_with fail
            refine ((callsIn_wide.2 HP.out).inRound ly).mono ?_
            rintro e W2 ⟨rfl, hG2, hK2, hz2, hnc, hns⟩
            have HR := H7 (And.intro hG2 (And.intro hK2 (And.intro hz2 hnc)))
            clear hG2 hK2 hz2 hnc hns HP c9 k0 k1 k2
            gi_wp2
            refine ⟨⟨HR.out.2.2.1, fun k o hk ho hc => HR.out.2.2.2 k o (by have := hbm5; omega) ho hc⟩, HR.out.2.1, ?_, HM.out.keep fun k hk => HR.out.2.2.2 k _ (HI.out.notMap hk (fun _ _ e => by cases e)) hk rfl, Nat.le_trans hlt5 HR.out.2.2.1⟩
            rw [List.map_append]; rw [← List.append_assoc]
            exact HR.out.1
           case done =>
            rintro D W hD ⟨hI, hM, hlt5⟩ hK
            rw [ha0]
            dsimp only
            rw [map_fin, ← HSW.out, hits] at hI
            have HG := H7 hI.forget
            have HM := H7 (show Marks w.heap.size (D :: Ds) W from ⟨List.nodup_cons.2 ⟨fun hm => by have := hDs D hm; omega, hM.nd⟩, fun E hE => by
             rcases List.mem_cons.1 hE with rfl | hE
             · exact ⟨by omega, hK⟩
             · exact hM.blk E hE⟩)
            clear hI hM hK ha0
            gi_wp2
            refine roundD_of (by kernel_rfl) ⟨k + 1, HK.out, ?_, D :: Ds, rfl, HM.out, HG.out⟩ ?_
            · first | exact congrArg (Value.int .i64) e3 | rfl
            · have := HK.out
              first | (show n - (wrap64 ((k : Int) + 1)).toNat < n - ((k : Int)).toNat; rw [e3]; omega) | (show n - ((k : Int) + 1).toNat < n - ((k : Int)).toNat; omega)
           case stop =>
            intro D c pre W _ _ h
            exact h.elim
         · have hkn : k = n := by omega
           have hok1 : ok = true := by
            rw [← HOK.out, HANY.out]
            have := HSZ.out
            simp [sizeB]; omega
           subst hok1
           have hlk : l.take k = l := List.take_of_length_le (by rw [HL.out]; omega)
           rw [hlk] at HG
           have hg := HG.out
           obtain ⟨nn, D, F, h1, h2, h3⟩ := hg.gr
           have hdr : ∀ c ∈ l, drawnB c = true := fun c hc => by
            have h4 := List.any_eq_false.1 HANY.out c hc
            simpa using h4
           have hlen := sweepL_len (round := round) HSZ.out.2 l
           rw [HL.out] at hlen
           have hsw := sweepL_in (round := round) HSZ.out.1 HSZ.out.2 hdr
           have HROW := H7 (row_any w (bm + 1) N3 bm nn D F (sweepL size round l) (by have := HN.out; omega) (by have := HN.out; omega) (fun s hs => by have := hsw s hs; unfold inK; omega) wr hg.st.low (by have := HZ.out; omega) (by have := HZ.out; omega) hg.hi h2 (hg.st.blockAt 1 rfl))
           have c9 := c7b (k := 0) (hg.st.blockAt 0 rfl) rfl
           have HHS := H7 (sweepL_has (round := round) HSZ.out.1 l)
           have HLEN := H7 (show (sweepL size round l).length ≤ 1000000 by have := HN.out; omega)
           subst hkn
           clear hk hlt hlk hg h1 h2 h3 hdr hlen hsw
           gi_wp2_with fail
           refine (callsIn_wide.2 HROW.out).mono ?_
           rintro e w6 ⟨M, v, hset, hml, rfl, hrow, hlow, hko⟩
           have HM6 := H7 (HMK.out.keep fun k hk => hko.same k _ hk rfl)
           have HR1 := H7 (hset.congr HHS.out)
           have HR2 := H7 (Nat.le_trans hml HLEN.out)
           have HR3 := H7 (And.intro hrow hlow)
           clear hset hml hrow hlow hko HROW c9
           gi_wp2
           refine ret_marks (lo := w.heap.size) (Ds := Ds) (v := .tuple #[v, .int .i64 0]) rfl HM6.out (fun W' ht => ⟨by simp [results, Tryz.results61, go_sem], M, fun _ => HR1.out, fun h => Bool.noConfusion h, HR2.out, v, rfl, ?_, ?_⟩)
           · exact ownsRow_turned HR3.out.1 ht (fun j cur hj => HM6.out.notCells hj)
           · exact HR3.out.2.trans (ht.below HR3.out.2.size (fun D hD => (HM6.out.blk D hD).1))
     · have HANY := H7 hany
       have hok : ok = false := by rw [← HOK.out, HANY.out]; simp
       subst hok
       clear hany
       gi_wp2_with fail
       exact ⟨_, by simp [results, Tryz.results61, go_sem], givesBad 2 rfl HS.out.low⟩
   · have hok : ok = false := by rw [← HOK.out]; simp [sizeB]; omega
     subst hok
     gi_wp2_with fail
     exact ⟨_, by simp [results, Tryz.results61, go_sem], givesBad 2 rfl (by (repeat (first | exact B7 _ _ | assumption | refine Below.alloc ?_ (by first | omega | (simp; done) | (simp; omega)) _ | refine Below.setCell ?_ (by first | omega | (simp; done) | (simp; omega)) _ | refine Below.drew ?_)))⟩
 · have hok : ok = false := by rw [← HOK.out]; simp [sizeB]; omega
   subst hok
   gi_wp2_with fail
   exact ⟨_, by simp [results, Tryz.results61, go_sem], givesBad 2 rfl (by (repeat (first | exact B7 _ _ | assumption | refine Below.alloc ?_ (by first | omega | (simp; done) | (simp; omega)) _ | refine Below.setCell ?_ (by first | omega | (simp; done) | (simp; omega)) _ | refine Below.drew ?_)))⟩
/- Layer 6: Disc, Square, Union. -/
theorem all_take {ls : List (List SpT)} {k : Nat} {l : List SpT} (hx : ls[k]? = some l) (h : rightB l = false) : ls.all rightB = false := by
 rw [List.all_eq_false]
 exact ⟨l, List.mem_of_getElem? hx, by simp [h]⟩
theorem flat_le {ls : List (List SpT)} {k : Nat} {l : List SpT} (hx : ls[k]? = some l) (q : Nat) : ((ls.take k).flatten ++ l.take q).length ≤ ls.flatten.length := by
 obtain ⟨hk, e⟩ := List.getElem?_eq_some_iff.1 hx
 have : ls.flatten.length = (ls.take k).flatten.length + (l.length + (ls.drop (k + 1)).flatten.length) := by
  conv => lhs; rw [← List.take_append_drop k ls, List.drop_eq_getElem_cons hk, e]
  simp
 rw [List.length_append, List.length_take]
 omega
set_option maxRecDepth 100000 in
set_option maxHeartbeats 1000000 in
theorem shUnion_any (a : Option Addr) (n cap : Nat) (ls : List (List SpT)) (hl : ls.length = n) (hn : n ≤ 1000000) (hT : ls.flatten.length ≤ 1000000) (w : World) (h : RowsR w a ls) :
 Calls Tryz.prog 52 #[.slice a n cap] w (GivesSet (ls.all rightB) (fun p => hasB ls.flatten p = true) 160 w) := by
 have HS := H7 (St.start w)
 have HL := H7 hl
 have HT := H7 hT
 have HRO := H7 h
 obtain ⟨ok, hok⟩ : ∃ ok, ls.all rightB = ok := ⟨_, rfl⟩
 rw [hok]
 have HOK := H7 hok
 clear hl hT h hok
 have hmm := makeMap_rows
 go_enter Tryz.func52, Tryz.ntmps52
 go_wp2_with fail
 clear hmm
 have hB3 : Below (w.heap.size + 1) (w.alloc (.map #[] 0)) ((w.alloc (.map #[] 0)).alloc (.cells #[.map (some w.heap.size)] 131)) := (B7 _ _).alloc (by simp) _
 have hs3 := (HS.out.alloc (.map #[] 0)).alloc (.cells #[.map (some w.heap.size)] 131)
 obtain ⟨w3, hw3⟩ : ∃ w3 : World, (w.alloc (.map #[] 0)).alloc (.cells #[.map (some w.heap.size)] 131) = w3 := ⟨_, rfl⟩
 have hz3 : w3.heap.size = w.heap.size + 2 := by rw [← hw3]; simp
 rw [hw3] at hB3 hs3
 rw [hw3]
 simp only [World.size_alloc] at hs3
 have hgs := GrS.start (hs3.sub (.cons_cons _ (.cons _ (List.Sublist.refl _)))) hB3 (by omega)
 obtain ⟨N3, hN3⟩ : ∃ N3, w3.heap.size = N3 := ⟨_, rfl⟩
 rw [hN3] at hgs hz3
 have HZ := H7 hz3
 have HGS := H7 hgs
 clear hB3 hs3 hw3 hz3 hgs hN3 HS
 go_loopw [15] (fun i wr => ∃ k : Nat, k ≤ n ∧ i = .int .i64 (k : Int) ∧ GrS w [.blk (w.heap.size + 1) (.cells #[.map (some w.heap.size)] 131)] [] N3 w.heap.size (ls.take k).flatten wr ∧ ∀ l ∈ ls.take k, rightB l = true) (fun i _ => n - (intOf i).toNat)
 case atStart => exact ⟨0, by omega, rfl, HGS.out, by simp⟩
 case round =>
  obtain ⟨k, hk, rfl, hg, hr⟩ := hrel
  clear HGS
  have HG := H7 hg
  have HR := H7 hr
  clear hg hr
  by_cases hlt : k < n
  · have HK := H7 hlt
    have e3 : wrap64 ((k : Int) + 1) = ((k + 1 : Nat) : Int) := by unfold wrap64; omega
    obtain ⟨l, hx⟩ : ∃ l, ls[k]? = some l := ⟨_, List.getElem?_eq_getElem (by rw [HL.out]; exact hlt)⟩
    obtain ⟨bb, off, a', cap', rfl, hbb, c00, hel⟩ := HRO.out k l hx
    have c0 := (HG.out.st.low.cell (p := ⟨bb, off + k, none⟩) hbb).trans c00
    have HEL := H7 hel
    have HX := H7 hx
    have HTF := H7 (take_flat hx)
    have HFL := H7 (flat_le hx)
    have hlen : l.length ≤ 1000000 := by have := HFL.out l.length; have := HT.out; simp at *; omega
    have HLN := H7 hlen
    obtain ⟨m, hm⟩ : ∃ m, l.length = m := ⟨_, rfl⟩
    rw [hm] at HEL HLN c0
    have HM := H7 hm
    have HCH := H7 (check_any a' m cap' l hm (by rw [← hm]; omega) wr (HEL.out.below HG.out.st.low))
    clear hx c00 hel hbb hlen hm
    go_wp2_with fail
    refine HCH.out.mono ?_
    rintro e w4 ⟨rfl, hb_⟩
    have HG := H7 (HG.out.below hb_)
    clear hb_ c0 HCH
    cases hrl : rightB l
    · have hok1 : ok = false := by rw [← HOK.out]; exact all_take HX.out hrl
      subst hok1
      rw [errOf_false]
      clear hrl
      go_wp2_with fail
      refine bodyPost_ret (v := .tuple #[.slice none 0 0, .int .i64 160]) (by simp [results, Tryz.results52, go_sem]) rfl (givesBad 160 rfl HG.out.st.low)
    · have HRL := H7 hrl
      have HRP := H7 ((rightB_iff l).1 hrl)
      rw [errOf_true]
      clear hrl
      have HG0 := H7 (show GrS w [.blk (w.heap.size + 1) (.cells #[.map (some w.heap.size)] 131)] [] N3 w.heap.size ((ls.take k).flatten ++ l.take 0) w4 by simpa using HG.out)
      go_wp2_with fail
      go_loopw [26] (fun i wx => ∃ q : Nat, q ≤ m ∧ i = .int .i64 (q : Int) ∧ GrS w [.blk (w.heap.size + 1) (.cells #[.map (some w.heap.size)] 131)] [] N3 w.heap.size ((ls.take k).flatten ++ l.take q) wx) (fun i _ => m - (intOf i).toNat)
      case atStart => exact ⟨0, by omega, rfl, HG0.out⟩
      case round =>
       obtain ⟨q, hq, rfl, hg⟩ := hrel
       clear HG HG0
       have HG := H7 hg
       clear hg
       by_cases hlt2 : q < m
       · have HQ := H7 hlt2
         have e4 : wrap64 ((q : Int) + 1) = ((q + 1 : Nat) : Int) := by have := HLN.out; unfold wrap64; omega
         obtain ⟨s, hx⟩ : ∃ s, l[q]? = some s := ⟨_, List.getElem?_eq_getElem (by rw [HM.out]; exact hlt2)⟩
         obtain ⟨bb', off', rfl, hbb', c0, c1, c2⟩ := spCells HM.out (HEL.out.below HG.out.st.low) q s hx
         have hs := (spB_iff s).1 (by have := HRP.out.sp q (by rw [HM.out]; exact hlt2); rwa [(List.getElem?_eq_some_iff.1 hx).2] at this)
         have HTS := H7 (take_snoc hx)
         have hb1 := (B7 wr.heap.size wr).alloc (Nat.le_refl _) (.cells #[.int .i64 s.y, .int .i64 s.f, .int .i64 s.t] 60)
         have hput := (HG.out.below hb1).put (pr := w.heap.size + 1) s (by unfold inK; omega) (by have := HFL.out q; have := HT.out; omega) (by simp) ⟨by have := HZ.out; omega, by omega⟩ (Nat.le_refl _) (by have := HZ.out; omega) (fun i hi => by simp at hi; subst hi; have := HZ.out; simp only [It.free]; omega) (by simp)
         have HP := H7 hput
         clear hx hbb' hs hput hb1
         unfold SpT.val at HP
         go_wp2_with fail
         refine HP.out.mono ?_
         rintro e w6 ⟨rfl, hg6, -, -, -, -⟩
         have HG6 := H7 hg6
         clear hg6 HP c0 c1 c2
         go_wp2_with fail
         go_roundw
         case rel => exact ⟨q + 1, HQ.out, by first | rw [e4] | simp, by rw [HTS.out, ← List.append_assoc]; exact HG6.out⟩
         case measure => have := HQ.out; (try rw [e4]); simp [intOf]; omega
       · have HD := H7 (show GrS w [.blk (w.heap.size + 1) (.cells #[.map (some w.heap.size)] 131)] [] N3 w.heap.size (ls.take (k + 1)).flatten wr by
          have := HG.out
          rwa [List.take_of_length_le (show l.length ≤ q by rw [HM.out]; omega), ← HTF.out] at this)
         have HRN := H7 (show ∀ l' ∈ ls.take (k + 1), rightB l' = true by
          intro l' hl'
          rw [List.take_add_one, HX.out] at hl'
          rcases List.mem_append.1 hl' with h | h
          · exact HR.out l' h
          · simp at h; subst h; exact HRL.out)
         clear hq
         go_wp2_with fail
         go_roundw
         case rel => exact ⟨k + 1, HK.out, by first | rw [e3] | simp, HD.out, HRN.out⟩
         case measure => have := HK.out; (try rw [e3]); simp [intOf]; omega
  · have hkn : k = n := by omega
    subst hkn
    have htk : ls.take k = ls := List.take_of_length_le (by rw [HL.out]; omega)
    rw [htk] at HG HR
    have hok1 : ok = true := by rw [← HOK.out]; exact List.all_eq_true.2 HR.out
    subst hok1
    have hg := HG.out
    obtain ⟨nn, D, F, h1, h2, h3⟩ := hg.gr
    have HROW := H7 (row_any w (w.heap.size + 1) N3 w.heap.size nn D F ls.flatten (by have := HT.out; omega) HT.out (fun s hs => by
     obtain ⟨l, hl, hsl⟩ := List.mem_flatten.1 hs
     obtain ⟨j, hj⟩ := List.getElem?_of_mem hsl
     have hrp := (rightB_iff l).1 (HR.out l hl)
     have := (spB_iff s).1 (by have := hrp.sp j (List.getElem?_eq_some_iff.1 hj).1; rwa [(List.getElem?_eq_some_iff.1 hj).2] at this)
     unfold inK
     omega) wr hg.st.low (by omega) (by have := HZ.out; omega) hg.hi h2 (hg.st.blockAt 0 rfl))
    clear hk hlt htk hg h1 h2 h3
    go_wp2_with fail
    refine HROW.out.mono ?_
    rintro e w6 ⟨M, v, hset, hml, rfl, hrow, hlow, -⟩
    have HR1 := H7 (And.intro hset (And.intro (Nat.le_trans hml HT.out) (And.intro hrow hlow)))
    clear hset hml hrow hlow HROW
    go_wp2_with fail
    refine bodyPost_ret (v := .tuple #[v, .int .i64 0]) (by simp [results, Tryz.results52, go_sem]) rfl ⟨M, fun _ => HR1.out.1, fun h => Bool.noConfusion h, HR1.out.2.1, v, rfl, ?_, ?_⟩
    · exact HR1.out.2.2.1
    · exact HR1.out.2.2.2
end Go.Proofs.YthcdkkmjnglmjaaGreatDoor
/- Layer 6: what the statements call, as rows that are read; the rows that 'wakes' looks at. -/
namespace Go.Proofs.YthcdkkmjnglmjaaGreatDoor
open Go.RowKit Go.Shelf
section
variable {α : Type}
/-- A row to be read, and a code. -/
def Got (k : Nat) (enc : α → List Value) (L : List α) (n : Nat) (er : Int) (w : World) (e : Ending) (w' : World) : Prop :=
 L.length = n ∧ ∃ a cap, e = .returned (.tuple #[.slice a n cap, .int .i64 er]) ∧ Elems w' (.slice a n cap) n k (rowC enc L) ∧ Below w.heap.size w w'
theorem GivesRowE.got {k : Nat} {enc : α → List Value} (hk : ∀ q, (enc q).length = k) {E : TypeId} {L : List α} {er : Int} {w : World} {e : Ending} {w' : World} (h : GivesRowE E k L.length (L.flatMap enc) er w e w') : Got k enc L L.length er w e w' := by
 obtain ⟨v, rfl, hr, hb⟩ := h
 have he := ownsRow_rows hk hr
 obtain ⟨a, cap, rfl, -⟩ := he.shape
 exact ⟨rfl, a, cap, rfl, he, hb⟩
theorem Got.is {k : Nat} {enc : α → List Value} {L M : List α} {n : Nat} {er er' : Int} {w : World} {e : Ending} {w' : World} (h : Got k enc L L.length er w e w') (h1 : L = M) (hn : M.length = n) (h2 : er = er') : Got k enc M n er' w e w' := by
 subst h1 h2
 rw [← hn]
 exact h
end
theorem GivesSet.got {ok : Bool} {P : PtT → Prop} {er : Int} {w : World} {e : Ending} {w' : World} (h : GivesSet ok P er w e w') : ∃ M, (ok = true → SetRow P M) ∧ (ok = false → M = []) ∧ M.length ≤ 1000000 ∧ Got 3 encS M M.length (errOf ok er) w e w' := by
 obtain ⟨M, h1, h2, h3, h4⟩ := h
 exact ⟨M, h1, h2, h3, h4.got encS_len⟩
/-- A set whose row is known. -/
theorem GivesSet.known {ok : Bool} {P : PtT → Prop} {er : Int} {w : World} {e : Ending} {w' : World} (h : GivesSet ok P er w e w') (hok : ok = true) {L : List SpT} (hL : SetRow P L) (n : Nat) (hn : L.length = n) : Got 3 encS L n 0 w e w' := by
 obtain ⟨M, h1, h2, h3, h4⟩ := h.got
 exact h4.is ((h1 hok).unique hL) hn (by rw [hok]; rfl)
theorem sameB_self {α : Type} [DecidableEq α] (l : List α) : sameB l l = true := by unfold sameB; simp
theorem eqP_same (s1 s2 : Value) (L : List PtT) (n : Nat) (hn : L.length = n) (w : World) (h1 : Elems w s1 n 2 (rowC encP L)) (h2 : Elems w s2 n 2 (rowC encP L)) (hl : n ≤ 1000000000 := by decide) :
 Calls Tryz.prog 27 #[s1, s2] w (Gives (.bool true) w) := by
 subst hn
 have := eqP_any s1 s2 L L w h1 h2 hl
 rwa [sameB_self] at this
end Go.Proofs.YthcdkkmjnglmjaaGreatDoor
/- Layer 6: few. -/
namespace Go.Proofs.YthcdkkmjnglmjaaGreatDoor
open Go.RowKit Go.Shelf
/-- A row to be read. -/
def GotR {α : Type} (k : Nat) (enc : α → List Value) (L : List α) (n : Nat) (w : World) (e : Ending) (w' : World) : Prop :=
 L.length = n ∧ ∃ a cap, e = .returned (.slice a n cap) ∧ n ≤ cap ∧ Elems w' (.slice a n cap) n k (rowC enc L) ∧ Below w.heap.size w w'
theorem Cloned.got {α : Type} {E : TypeId} {k : Nat} {enc : α → List Value} (hk : ∀ q, (enc q).length = k) {L : List α} {sv : Value} {w : World} {e : Ending} {w' : World} (h : Cloned E k L.length (L.flatMap enc) sv w e w') : GotR k enc L L.length w e w' := by
 obtain ⟨v, rfl, hr, -, hb⟩ := h
 have he := ownsRow_rows hk hr
 have hc : ∃ a cap, v = .slice a L.length cap ∧ L.length ≤ cap := by
  rcases hr.2 with ⟨rfl, h0⟩ | ⟨g, cap, cur, rfl, _, _, h1, _⟩
  · exact ⟨none, 0, by rw [h0], by omega⟩
  · exact ⟨_, cap, rfl, h1⟩
 obtain ⟨a, cap, rfl, h1⟩ := hc
 exact ⟨rfl, a, cap, rfl, h1, he, hb⟩
/- The plain law: clipped twice. -/
theorem RightP.of {l : List SpT} (h1 : ∀ s ∈ l, spB s = true) (h2 : l.Pairwise ordP) : RightP l :=
 ⟨fun k h => h1 _ (List.getElem_mem h), fun k h => by
  have := List.pairwise_iff_getElem.1 h2 k (k + 1) (by omega) h (by omega)
  unfold ordB
  unfold ordP at this
  simpa using this⟩
theorem RightP.mem {l : List SpT} (h : RightP l) {s : SpT} (hs : s ∈ l) : spB s = true := by
 obtain ⟨k, hk, rfl⟩ := List.getElem_of_mem hs
 exact h.sp k hk
theorem clip1_some {b : BxT} {s t : SpT} (h : clip1 b s = some t) : (max s.f b.x ≤ min s.t b.x2 ∧ b.y ≤ s.y ∧ s.y ≤ b.y2) ∧ t = ⟨s.y, max s.f b.x, min s.t b.x2⟩ := by
 unfold clip1 at h
 split at h
 · rename_i hc
   exact ⟨hc, (Option.some.inj h).symm⟩
 · cases h
theorem right_clip {l : List SpT} (h : RightP l) (b : BxT) : RightP (clipL b l) := by
 refine RightP.of (fun t ht => ?_) ?_
 · obtain ⟨s, hs, hst⟩ := List.mem_filterMap.1 ht
   have := h.mem hs
   obtain ⟨h1, rfl⟩ := clip1_some hst
   unfold spB reachB at *
   simp at this ⊢
   omega
 · refine List.Pairwise.filterMap (clip1 b) (R := ordP) (fun a a' haa c hc c' hc' => ?_) h.rowP.ord
   obtain ⟨h1, rfl⟩ := clip1_some hc
   obtain ⟨h2, rfl⟩ := clip1_some hc'
   unfold ordP at *
   simp only
   omega
theorem clipR_right {l : List SpT} (h : rightB l = true) (b : BxT) : clipR b l = clipL b l := by unfold clipR; rw [h]; rfl
theorem rightB_clip {l : List SpT} (h : rightB l = true) (b : BxT) : rightB (clipL b l) = true := (rightB_iff _).2 (right_clip ((rightB_iff _).1 h) b)
/- ShapeClips: the walk. -/
/- ShapeSweeps: the walk. -/
theorem GivesRow.got {α : Type} {k : Nat} {enc : α → List Value} (hk : ∀ q, (enc q).length = k) {E : TypeId} {L : List α} {w : World} {e : Ending} {w' : World} (h : GivesRow E k L.length (L.flatMap enc) w e w') : ∃ a cap, e = .returned (.slice a L.length cap) ∧ Elems w' (.slice a L.length cap) L.length k (rowC enc L) ∧ Below w.heap.size w w' := by
 obtain ⟨v, rfl, hr, hb⟩ := h
 have he := ownsRow_rows hk hr
 obtain ⟨a, cap, rfl, -⟩ := he.shape
 exact ⟨a, cap, rfl, he, hb⟩
/- ShapeLines: contracts of the calls, as rows that are read; pairs of places. -/
/-- A row to be read, wherever it lies. -/
def GotV {α : Type} (k : Nat) (enc : α → List Value) (L : List α) (n : Nat) (w : World) (e : Ending) (w' : World) : Prop := ∃ v, e = .returned v ∧ Elems w' v n k (rowC enc L) ∧ Below w.heap.size w w'
theorem GivesRow.gotV {α : Type} {k : Nat} {enc : α → List Value} (hk : ∀ q, (enc q).length = k) {E : TypeId} {L : List α} {w : World} {e : Ending} {w' : World} (h : GivesRow E k L.length (L.flatMap enc) w e w') : GotV k enc L L.length w e w' := by
 obtain ⟨v, rfl, hr, hb⟩ := h
 exact ⟨v, rfl, ownsRow_rows hk hr, hb⟩
theorem GivesSet.good {P : PtT → Prop} {er : Int} {w : World} {e : Ending} {w' : World} (h : GivesSet true P er w e w') : ∃ M, SetRow P M ∧ M.length ≤ 1000000 ∧ Got 3 encS M M.length 0 w e w' := by
 obtain ⟨M, h1, -, h3, h4⟩ := h.got
 exact ⟨M, h1 rfl, h3, h4⟩
theorem lineL_len (a b : PtT) : (lineL a b).length = (wayMax a b + 1).toNat := lineN_len a b _
theorem lineL_small {a b : PtT} (ha : drawnB a = true) (hb : drawnB b = true) : (lineL a b).length ≤ 1000 := by
 rw [lineL_len]
 have h1 := (drawn_iff a).1 ha
 have h2 := (drawn_iff b).1 hb
 unfold wayMax wayN
 split <;> split <;> omega
theorem rectL_set {a b : PtT} (ha : drawnB a = true) (hb : drawnB b = true) : SetRow (RectP a b) (rectL a b) := by
 have e : rectL a b = rectN a b (max a.y b.y - min a.y b.y + 1).toNat := by unfold rectL; rw [ha, hb]; rfl
 rw [e]
 refine ⟨⟨fun s hs => ?_, ?_⟩, fun p => ?_⟩
 · unfold rectN at hs
   obtain ⟨i, -, rfl⟩ := List.mem_map.1 hs
   simp only
   omega
 · unfold rectN
   refine List.pairwise_map.2 (List.Pairwise.imp ?_ (List.pairwise_lt_range))
   intro i j hij
   unfold ordP
   simp only
   omega
 · rw [hasB_iff]
   unfold RectP rectN
   constructor
   · rintro ⟨s, hs, h1, h2, h3⟩
     obtain ⟨i, hi, rfl⟩ := List.mem_map.1 hs
     have := List.mem_range.1 hi
     simp only at h1 h2 h3
     omega
   · rintro ⟨⟨h1, h2⟩, h3, h4⟩
     refine ⟨⟨min a.y b.y + ((p.y - min a.y b.y).toNat : Int), min a.x b.x, max a.x b.x⟩, List.mem_map.2 ⟨(p.y - min a.y b.y).toNat, List.mem_range.2 (by omega), rfl⟩, by simp only; omega, h1, h2⟩
theorem rectL_small {a b : PtT} (ha : drawnB a = true) (hb : drawnB b = true) : (rectL a b).length ≤ 1000 := by
 have e : rectL a b = rectN a b (max a.y b.y - min a.y b.y + 1).toNat := by unfold rectL; rw [ha, hb]; rfl
 rw [e, rectN_len]
 have h1 := (drawn_iff a).1 ha
 have h2 := (drawn_iff b).1 hb
 omega
theorem refLineGot {a b : PtT} (ha : drawnB a = true) (hb : drawnB b = true) {L : List PtT} (hL : lineL a b = L) {n : Nat} (hn : L.length = n) (w : World) : Calls Tryz.prog 23 #[a.val, b.val] w (GotV 2 encP L n w) :=
 (refLine_any a b ha hb w).mono fun _ _ q => by
  subst hL hn
  exact q.gotV encP_len
/- ShapeSteps: the plain law of lines; slices.Contains at places. -/
theorem way_in {a b : Int} {j : Int} (h0 : 0 ≤ j) (hj : j ≤ wayN a b) : min a b ≤ a + sideN a b * j ∧ a + sideN a b * j ≤ max a b := by
 obtain ⟨k, rfl⟩ := Int.eq_ofNat_of_zero_le h0
 exact ⟨(way_at hj).1, (way_at hj).2.1⟩
theorem linePt_in {a b : PtT} {i : Int} (h0 : 0 ≤ i) (h1 : i ≤ wayMax a b) : RectP a b (linePt a b i) := by
 unfold linePt RectP
 unfold wayMax at h1
 by_cases h : wayN a.x b.x < wayN a.y b.y
 · rw [decide_eq_true h, cond_true]
   have hl := less_le_m (n := wayN a.y b.y) (m := wayN a.x b.x) (i := i) (wayN_nonneg _ _) (by omega) h0 (by omega)
   exact ⟨way_in hl.1 hl.2, way_in h0 (by omega)⟩
 · rw [decide_eq_false h, cond_false]
   have hl := less_le_m (n := wayN a.x b.x) (m := wayN a.y b.y) (i := i) (wayN_nonneg _ _) (by omega) h0 (by omega)
   exact ⟨way_in h0 (by omega), way_in hl.1 hl.2⟩
/- ShapeUnions: the plain law. -/
theorem mem_spPts {s : SpT} {p : PtT} : p ∈ spPts s ↔ s.y = p.y ∧ s.f ≤ p.x ∧ p.x ≤ s.t := by
 unfold spPts
 rw [List.mem_map]
 constructor
 · rintro ⟨i, hi, rfl⟩
   have := List.mem_range.1 hi
   exact ⟨rfl, by simp only; omega, by simp only; omega⟩
 · rintro ⟨h1, h2, h3⟩
   refine ⟨(p.x - s.f).toNat, List.mem_range.2 (by omega), ?_⟩
   obtain ⟨x, y⟩ := p
   simp only at *
   rw [h1]
   congr 1
   omega
theorem mem_ptsL {l : List SpT} {p : PtT} : p ∈ ptsL l ↔ hasB l p = true := by
 rw [hasB_iff]
 unfold ptsL
 rw [List.mem_flatMap]
 constructor
 · rintro ⟨s, hs, hp⟩; exact ⟨s, hs, mem_spPts.1 hp⟩
 · rintro ⟨s, hs, hp⟩; exact ⟨s, hs, mem_spPts.2 hp⟩
theorem ptsL_nodup {l : List SpT} (h : RowP l) : (ptsL l).Nodup := by
 refine List.pairwise_flatMap.2 ⟨fun s _ => ?_, h.ord.imp ?_⟩
 · unfold spPts
   refine List.pairwise_map.2 (List.pairwise_lt_range.imp ?_)
   intro i j hij he
   have := congrArg PtT.x he
   simp only at this
   omega
 · intro a b hab x hx y hy he
   subst he
   have h1 := mem_spPts.1 hx
   have h2 := mem_spPts.1 hy
   unfold ordP at hab
   omega
theorem allL_right {l : List SpT} (h : rightB l = true) : allL l = ptsL l := by unfold allL; rw [h]; rfl
/- Layer 7: painting, plain. -/
/-- The box of a canvas. -/
def canBox (C : CanT) : BxT := ⟨0, 0, 8 * (C.wide : Int) - 1, 8 * (C.high : Int) - 1⟩
theorem hasB_clip {b : BxT} {l : List SpT} {p : PtT} : hasB (clipL b l) p = true ↔ hasB l p = true ∧ (b.x ≤ p.x ∧ p.x ≤ b.x2) ∧ (b.y ≤ p.y ∧ p.y ≤ b.y2) := by
 rw [hasB_iff, hasB_iff]
 constructor
 · rintro ⟨t, ht, h1, h2, h3⟩
   obtain ⟨s, hs, hst⟩ := List.mem_filterMap.1 ht
   obtain ⟨h4, rfl⟩ := clip1_some hst
   simp only at h1 h2 h3
   exact ⟨⟨s, hs, h1, by omega, by omega⟩, by omega, by omega⟩
 · rintro ⟨⟨s, hs, h1, h2, h3⟩, h4, h5⟩
   refine ⟨⟨s.y, max s.f b.x, min s.t b.x2⟩, List.mem_filterMap.2 ⟨s, hs, ?_⟩, h1, by simp only; omega, by simp only; omega⟩
   unfold clip1
   rw [if_pos (by omega)]
/-- The places of a row that are on a canvas. -/
def ptsC (C : CanT) (L : List SpT) : List PtT := ptsL (clipL (canBox C) L)
theorem mem_ptsC {C : CanT} {L : List SpT} {p : PtT} : p ∈ ptsC C L ↔ hasB L p = true ∧ onCan C p = true := by
 unfold ptsC
 rw [mem_ptsL, hasB_clip, onCan_iff]
 unfold canBox
 simp only
 constructor
 · rintro ⟨h1, h2, h3⟩; exact ⟨h1, by omega, by omega⟩
 · rintro ⟨h1, h2, h3⟩; exact ⟨h1, by omega, by omega⟩
/-- Dots whose colours hang on their places. -/
def dotsF (ps : List PtT) (f : PtT → ColT) : List DotT := ps.map fun p => ⟨p.x, p.y, f p⟩
theorem colC_withF : ∀ (ps : List PtT) {C : CanT} (_ : okCan C) (f : PtT → ColT) (_ : ∀ p ∈ ps, okC (f p)) {x y : Nat} (_ : x < 8 * C.wide) (_ : y < 8 * C.high), colC (withL C (dotsF ps f)) x y = if (⟨(x : Int), (y : Int)⟩ : PtT) ∈ ps then f ⟨(x : Int), (y : Int)⟩ else colC C x y
 | [], C, h, f, hf, x, y, hx, hy => by simp [withL, dotsF]
 | p :: ps, C, h, f, hf, x, y, hx, hy => by
  have e : withL C (dotsF (p :: ps) f) = withL (dotC C ⟨p.x, p.y, f p⟩) (dotsF ps f) := rfl
  rw [e, colC_withF ps (h.dotC (d := ⟨p.x, p.y, f p⟩) (hf p (by simp))) f (fun q hq => hf q (by simp [hq])) (by rw [dotC_wide]; exact hx) (by rw [dotC_high]; exact hy), colC_dotC h hx hy]
  by_cases h1 : (⟨(x : Int), (y : Int)⟩ : PtT) ∈ ps
  · rw [if_pos h1, if_pos (List.mem_cons_of_mem _ h1)]
  · rw [if_neg h1]
    by_cases h2 : p = ⟨(x : Int), (y : Int)⟩
    · subst h2
      simp
    · obtain ⟨px, py⟩ := p
      simp only [PtT.mk.injEq] at h2
      rw [if_neg (by simp only; exact h2), if_neg]
      intro h3
      rcases List.mem_cons.1 h3 with h4 | h4
      · simp only [PtT.mk.injEq] at h4
        exact h2 ⟨h4.1.symm, h4.2.symm⟩
      · exact h1 h4
/-- A row painted on a canvas: each place comes to something, by what is there. -/
def paintC (C : CanT) (L : List SpT) (f : ColT → ColT) : CanT := withL C (dotsF (ptsC C L) fun p => f (colP C p))
theorem paintC_wide (C : CanT) (L : List SpT) (f : ColT → ColT) : (paintC C L f).wide = C.wide := withL_wide _ _
theorem paintC_high (C : CanT) (L : List SpT) (f : ColT → ColT) : (paintC C L f).high = C.high := withL_high _ _
theorem onCan_col {C : CanT} (hC : okCan C) {p : PtT} (h : onCan C p = true) : okC (colP C p) := by
 obtain ⟨h1, h2, _, _⟩ := onCan_nat h
 exact (hC.tile h1 h2).choose_spec.2.2
theorem dotsF_ok {C : CanT} (hC : okCan C) (L : List SpT) {f : ColT → ColT} (hf : ∀ c, okC c → okC (f c)) : ∀ d ∈ dotsF (ptsC C L) (fun p => f (colP C p)), okC d.c := fun d hd => by
 obtain ⟨p, hp, rfl⟩ := List.mem_map.1 hd
 exact hf _ (onCan_col hC (mem_ptsC.1 hp).2)
theorem paintC_ok {C : CanT} (hC : okCan C) (L : List SpT) {f : ColT → ColT} (hf : ∀ c, okC c → okC (f c)) : okCan (paintC C L f) := okCan.withL _ hC (dotsF_ok hC L hf)
theorem paintC_col {C : CanT} (hC : okCan C) (L : List SpT) {f : ColT → ColT} (hf : ∀ c, okC c → okC (f c)) {x y : Nat} (hx : x < 8 * C.wide) (hy : y < 8 * C.high) : colC (paintC C L f) x y = if hasB L ⟨(x : Int), (y : Int)⟩ = true then f (colC C x y) else colC C x y := by
 unfold paintC
 rw [colC_withF _ hC _ (fun p hp => hf _ (onCan_col hC (mem_ptsC.1 hp).2)) hx hy]
 have ho : onCan C ⟨(x : Int), (y : Int)⟩ = true := onCan_iff.2 (by simp only; omega)
 by_cases h : hasB L ⟨(x : Int), (y : Int)⟩ = true
 · rw [if_pos (mem_ptsC.2 ⟨h, ho⟩), if_pos h]; rfl
 · rw [if_neg (fun h2 => h (mem_ptsC.1 h2).1), if_neg h]
/- Layer 8: what a search keeps of each pixel; the search by the document, and by the program. -/
/-- By the document: from nothing, past what is barred. -/
structure BfP (m0 : Nat → Nat) (s t : Bf) : Prop where
 l : s.l = t.l
 m : ∀ i, s.m i = m0 i + t.m i
 new : ∀ q ∈ t.l, m0 (ixP q) = 0
 off : ∀ i, m0 i = 0 ∨ t.m i = 0
theorem BfP.meet {m0 : Nat → Nat} {s t : Bf} (h : BfP m0 s t) (n : PtT) (v : Nat) (hn : m0 (ixP n) = 0) : BfP m0 (s.meet n v) (t.meet n v) := by
 unfold Bf.meet
 have e : s.m (ixP n) = t.m (ixP n) := by rw [h.m, hn, Nat.zero_add]
 by_cases h0 : t.m (ixP n) = 0
 · rw [if_pos (e.trans h0), if_pos h0]
   refine ⟨by simp only [h.l], fun i => ?_, fun q hq => ?_, fun i => ?_⟩
   · show (if i = ixP n then v + 1 else s.m i) = m0 i + (if i = ixP n then v + 1 else t.m i)
     by_cases hi : i = ixP n
     · simp [hi, hn]
     · simp [hi, h.m]
   · rcases List.mem_append.1 hq with hq | hq
     · exact h.new q hq
     · rw [List.mem_singleton.1 hq]; exact hn
   · show _ ∨ (if i = ixP n then v + 1 else t.m i) = 0
     by_cases hi : i = ixP n
     · subst hi; exact .inl hn
     · rw [if_neg hi]; exact h.off i
 · rw [if_neg (by rw [e]; exact h0), if_neg h0]
   exact h
/-- What may be gone to past what is barred. -/
def pastB (N : PtT → Bool) (m0 : Nat → Nat) (q : PtT) : Bool := decide (m0 (ixP q) = 0) && N q
theorem BfP.look {N : PtT → Bool} {W H : Int} {m0 : Nat → Nat} {s t : Bf} (h : BfP m0 s t) {q : PtT} (hq : q ∈ t.l) (n : PtT) : BfP m0 (s.look N W H q n) (t.look (pastB N m0) W H q n) := by
 unfold Bf.look pastB
 by_cases hm : m0 (ixP n) = 0
 · rw [decide_eq_true hm, Bool.true_and]
   have e : s.m (ixP q) = t.m (ixP q) := by rw [h.m, h.new q hq, Nat.zero_add]
   rw [e]
   split
   · exact h.meet n _ hm
   · exact h
 · rw [decide_eq_false hm, Bool.false_and, Bool.and_false]
   have e : s.meet n (s.m (ixP q)) = s := by
    unfold Bf.meet
    rw [if_neg (by rw [h.m]; omega)]
   rw [e]
   simpa using h
theorem look_mem {N : PtT → Bool} {W H : Int} {t : Bf} {q n a : PtT} (ha : a ∈ t.l) : a ∈ (t.look N W H q n).l := by
 unfold Bf.look Bf.meet
 split
 · split
   · exact List.mem_append.2 (.inl ha)
   · exact ha
 · exact ha
theorem BfP.looks {N : PtT → Bool} {W H : Int} {m0 : Nat → Nat} {q : PtT} : ∀ (ns : List PtT) {s t : Bf}, BfP m0 s t → q ∈ t.l → BfP m0 (ns.foldl (Bf.look N W H q) s) (ns.foldl (Bf.look (pastB N m0) W H q) t)
 | [], _, _, h, _ => h
 | n :: ns, _, _, h, hq => BfP.looks ns (h.look hq n) (look_mem hq)
theorem BfP.goes {N : PtT → Bool} {W H : Int} {m0 : Nat → Nat} : ∀ (f k : Nat) {s t : Bf}, BfP m0 s t → BfP m0 (goB N W H f k s) (goB (pastB N m0) W H f k t)
 | 0, _, _, _, h => h
 | f + 1, k, s, t, h => by
  unfold goB
  rw [h.l]
  cases hq : t.l[k]? with
  | none => exact h
  | some q => exact BfP.goes f (k + 1) (BfP.looks (nbs q) h (List.mem_of_getElem? hq))
/-- A whole search. -/
def runB (N : PtT → Bool) (W H : Int) (m0 : Nat → Nat) (p : PtT) : Bf := goB N W H 1025 0 ((Bf.mk m0 []).meet p 0)
theorem goB_end {N : PtT → Bool} {W H : Int} (f k : Nat) (s : Bf) (h : s.l.length ≤ k) : goB N W H f k s = s := by
 cases f with
 | zero => rfl
 | succ f => unfold goB; rw [List.getElem?_eq_none h]
theorem goB_step {N : PtT → Bool} {W H : Int} (f k : Nat) (s : Bf) {q : PtT} (hq : s.l[k]? = some q) : goB N W H (f + 1) k s = goB N W H f (k + 1) (s.visit N W H q) := by
 show (match s.l[k]? with | none => s | some q => goB N W H f (k + 1) (s.visit N W H q)) = _
 rw [hq]
/-- A search under way: k have been visited. -/
structure BfK (N : PtT → Bool) (W H : Int) (m0 : Nat → Nat) (p : PtT) (k : Nat) (s : Bf) : Prop where
 inv : BfI N W H m0 p k s
 run : goB N W H (1025 - k) k s = runB N W H m0 p
 kl : k ≤ s.l.length
theorem BfK.start {N : PtT → Bool} {W H : Int} {m0 : Nat → Nat} {p : PtT} (hp : onB W H p = true) (hn : N p = true) (h0 : m0 (ixP p) = 0) : BfK N W H m0 p 0 ((Bf.mk m0 []).meet p 0) := ⟨BfI.start N W H m0 p hp hn h0, rfl, Nat.zero_le _⟩
theorem BfK.visit {N : PtT → Bool} {W H : Int} {m0 : Nat → Nat} {p : PtT} {k : Nat} {s : Bf} (h : BfK N W H m0 p k s) (hW : W ≤ 32) (hH : H ≤ 32) {q : PtT} (hq : s.l[k]? = some q) : BfK N W H m0 p (k + 1) (s.visit N W H q) ∧ BfG s (s.visit N W H q) := by
 obtain ⟨h1, h2⟩ := h.inv.visit hW hq
 have hl := h.inv.len hW hH
 have hk := (List.getElem?_eq_some_iff.1 hq).1
 refine ⟨⟨h1, ?_, ?_⟩, h2⟩
 · rw [← h.run, show 1025 - k = (1025 - (k + 1)) + 1 by omega, goB_step _ _ _ hq]
 · obtain ⟨e, he⟩ := h2.l
   rw [he, List.length_append]; omega
theorem BfK.done {N : PtT → Bool} {W H : Int} {m0 : Nat → Nat} {p : PtT} {k : Nat} {s : Bf} (h : BfK N W H m0 p k s) (hk : s.l.length ≤ k) : s = runB N W H m0 p := by
 rw [← h.run, goB_end _ _ _ hk]
end Go.Proofs.YthcdkkmjnglmjaaGreatDoor
