/- Layer 6: Sweep. -/
import Derived.Test.YtflbcabjefpojaaSwP
namespace Go.Proofs.Ytflbcabjefpojaa
set_option linter.unusedSimpArgs false
set_option linter.unusedVariables false
open Go.RowKit Go.Shelf Go.Maps
attribute [local go_sem] Oper.semAt_some

/-- It returns THE row of the places of which Q holds, if something holds, and no error; else none, and an error. -/
def GivesSet (ok : Bool) (Q : PtT → Prop) (er : Int) (w : World) (e : Ending) (w' : World) : Prop := ∃ M, (ok = true → SetRow Q M) ∧ (ok = false → M = []) ∧ M.length ≤ 1000000 ∧ GivesRowE 39 3 M.length (M.flatMap encS) (errOf ok er) w e w'

theorem about_any (cx cy size : Int) (lb : Array Value) (w : World) :
    Calls Try.prog 40 #[.agg #[.int .i64 cx, .int .i64 cy], .int .i64 size, .func (.func 39) #[] lb] w fun e w' =>
      e = .returned (.func (.func 58) #[] #[.pointer (some ⟨w.heap.size + 1, 0, none⟩), .pointer (some ⟨w.heap.size + 1 + 1, 0, none⟩), .pointer (some ⟨w.heap.size, 0, none⟩)]) ∧
      ((w.alloc (.cells #[.int .i64 cx, .int .i64 cy] 28)).alloc (.cells #[.int .i64 size] 3)).alloc (.cells #[.func (.func 39) #[] lb] 72) = w' := by
  go_enter Try.func40, Try.ntmps40
  go_wp2
  go_ret
  exact ⟨rfl, rfl⟩
theorem itOrd_sub {w0 : World} : ∀ {its its' : List It}, its'.Sublist its → ItOrd w0 its → ItOrd w0 its'
  | _, _, .slnil, h => h
  | .blk _ _ :: _, _, .cons _ hs, h => itOrd_sub hs h.2.2
  | .row _ _ _ _ _ :: _, _, .cons _ hs, h => itOrd_sub hs h
  | .blk _ _ :: _, _, .cons_cons _ hs, h => ⟨h.1, fun j hj => h.2.1 j (hs.subset hj), itOrd_sub hs h.2.2⟩
  | .row _ _ _ _ _ :: its, .row _ _ _ _ _ :: its', .cons_cons _ hs, h => show ItOrd w0 its' from itOrd_sub (its := its) hs h
theorem St.sub {w0 x : World} {its its' : List It} (h : St w0 its x) (hs : its'.Sublist its) : St w0 its' x := ⟨h.low, fun i hi => h.ok i (hs.subset hi), itOrd_sub hs h.ord, fun i hi => h.top i (hs.subset hi)⟩
theorem GrD.rebase {w : World} {base base' b n : Nat} {D : DataW Value} (h : GrD w base b n D (fun _ => nilS) (fun _ => [])) (hb : base ≤ base') : GrD w base' b n D (fun _ => nilS) (fun _ => []) :=
  ⟨h.map, h.at_, fun _ _ => World.ownsRow_nil _ _ _ _, fun _ _ _ _ _ _ h => (by cases h), h.has, h.only, Nat.lt_of_lt_of_le h.lt hb⟩
theorem GrOf_nil : GrOf [] = fun _ => [] := rfl
theorem GrS.start {w0 x y : World} {its : List It} (hst : St w0 its y) (hb : Below (x.heap.size + 1) (x.alloc (.map #[] 0)) y) (hs : x.heap.size + 1 ≤ y.heap.size) : GrS w0 its [] y.heap.size x.heap.size [] y :=
  ⟨hst, ⟨0, .map [], fun _ => nilS, Nat.zero_le _, by rw [GrOf_nil]; exact ((GrD.start x).kept (by simpa using hb)).rebase hs, fun _ _ _ h => by cases h⟩, Nat.le_refl _⟩

/-- The end of a round of a loop whose rounds range over functions. -/
def RoundD (S : List Nat) (R : (Nat → Value) → List Deferred → World → Prop) (tm0 : Array Value) (mu : Array Value → World → Nat) (m : Nat) (a' : Act) (w' : World) : Prop := (∃ (u' : Nat → Value) (ds' : List Deferred), R u' ds' w' ∧ a' = ⟨setS S u' tm0, ds'⟩) ∧ mu a'.tmps w' < m
theorem roundD_of {S : List Nat} {R : (Nat → Value) → List Deferred → World → Prop} {tm0 : Array Value} {mu : Array Value → World → Nat} {m : Nat} {tm : Array Value} {ds : List Deferred} {w' : World} (he : setS S (fun t => tm.getD t undef) tm0 = tm) (hR : R (fun t => tm.getD t undef) ds w') (hm : mu tm w' < m) : RoundD S R tm0 mu m ⟨tm, ds⟩ w' :=
  ⟨⟨_, ds, hR, by rw [he]⟩, hm⟩
theorem wpIn_loopR {F : Fence} {n : Nat} {P : Program} {c : Code} {Q : Exit → Act → World → Prop} {a : Act} {w : World} (S : List Nat) (R : (Nat → Value) → List Deferred → World → Prop) (mu : Array Value → World → Nat)
    (h0 : R (fun t => a.tmps.getD t undef) a.defers w)
    (hr : ∀ (u : Nat → Value) (ds : List Deferred) (wr : World), R u ds wr → c.wpIn F n P (Exit.then (RoundD S R a.tmps mu (mu (setS S u a.tmps) wr)) Q) ⟨setS S u a.tmps, ds⟩ wr) :
    (Code.loop c).wpIn F n P Q a w := wpIn_loopD S R mu h0 hr
theorem Marks.keep {lo : Nat} {Ds : List Nat} {x y : World} (h : Marks lo Ds x) (hk : ∀ (k : Nat), x.heap[k]? = some (.deferred (some [])) → y.heap[k]? = some (.deferred (some []))) : Marks lo Ds y :=
  ⟨h.nd, fun D hD => ⟨(h.blk D hD).1, hk D (h.blk D hD).2⟩⟩
theorem Marks.below {lo : Nat} {Ds : List Nat} {x y : World} (h : Marks lo Ds x) (hb : Below x.heap.size x y) : Marks lo Ds y := h.keep fun k hk => (hb.block k (block_lt hk)).trans hk
theorem ownFrom_marks {β : Type} {B lo : Nat} {Ds : List Nat} (h : ∀ D ∈ Ds, D < B) : OwnFrom B (fun (_ : β) W => Marks lo Ds W) := fun _ W W' row hm hg hr =>
  ⟨hm.nd, fun D hD => ⟨(hm.blk D hD).1, (hg.block D (block_lt (hm.blk D hD).2) (fun e => by have := (hr D e.symm).1; have := h D hD; omega)).trans (hm.blk D hD).2⟩⟩
theorem GrS.notMap {w0 x : World} {its : List It} {bs : List Nat} {base b : Nat} {L : List SpT} (h : GrS w0 its bs base b L x) {k : Nat} {o : Obj} (hk : x.heap[k]? = some o) (ho : ∀ es c, o ≠ .map es c) : k ≠ b := by
  rintro rfl
  obtain ⟨n, D, F, _, h2, _⟩ := h.gr
  obtain ⟨es, clock, he, _⟩ := h2.map
  rw [hk] at he
  cases he
  exact ho _ _ rfl
theorem map_fin {α : Type} (A : List α) : (List.finRange A.length).map (fun i => A[i.1]) = A := by
  refine List.ext_getElem (by simp) fun i h1 h2 => by simp
theorem sweepL_take {size : Int} {round : Bool} {l : List PtT} {k : Nat} {s : PtT} (h : l.take (k + 1) = l.take k ++ [s]) : sweepL size round (l.take (k + 1)) = sweepL size round (l.take k) ++ aboutL s size round := by
  rw [h]; unfold sweepL; simp
theorem ownsRow_turned {S : Nat → Prop} {w w' : World} {base : Nat} {e : TypeId} {k : Nat} {v : Value} {n : Nat} {xs : List Value} (h : w.ownsRow base e k v n xs) (ht : Turned S w w') (hS : ∀ j cur, w.heap[j]? = some (.cells cur e (0, 0)) → ¬ S j) : w'.ownsRow base e k v n xs := by
  refine ⟨h.1, ?_⟩
  rcases h.2 with hn | ⟨g, cap, cur, rfl, hg, hgg, rest⟩
  · exact .inl hn
  · exact .inr ⟨g, cap, cur, rfl, hg, (ht.block g (block_lt hgg) (hS g cur hgg)).trans hgg, rest⟩
theorem Marks.notCells {lo : Nat} {Ds : List Nat} {x : World} (h : Marks lo Ds x) {j : Nat} {cur : Array Value} {e : TypeId} {f : Nat × Nat} (hj : x.heap[j]? = some (.cells cur e f)) : j ∉ Ds := fun hm => by
  rw [(h.blk j hm).2] at hj; cases hj
theorem with_actIn {F : Fence} {n : Nat} {P : Program} {c : Code} {Q : Exit → Act → World → Prop} {a : Act} {w : World} (h : ∀ a0 : Act, a0 = a → c.wpIn F n P Q a0 w) : c.wpIn F n P Q a w := h a rfl
theorem makeMap_rows (w : World) : (Instr.makeMap 74 none).run Try.prog w = .ok (.map (some w.heap.size)) (w.alloc (.map #[] 0)) := rfl
theorem givesBad {Q : PtT → Prop} {w w' : World} {e : Ending} (er : Int) (he : e = .returned (.tuple #[.slice none 0 0, .int .i64 er])) (hb : Below w.heap.size w w') : GivesSet false Q er w e w' :=
  ⟨[], ⟨fun h => Bool.noConfusion h, fun _ => rfl, Nat.zero_le _, _, he, World.ownsRow_nil _ _ _ _, hb⟩⟩

set_option maxRecDepth 100000 in
set_option maxHeartbeats 1000000 in
theorem shSweep_any (a : Option Addr) (n cap : Nat) (l : List PtT) (hl : l.length = n) (hn : n ≤ 30000) (size : Int) (round : Bool) (w : World) (h : Elems w (.slice a n cap) n 2 (rowC encP l)) :
    Calls Try.prog 11 #[.slice a n cap, .int .i64 size, .bool round] w (GivesSet (sizeB size && !l.any (fun p => !drawnB p)) (SwM size round l) 2 w) := by
  have HS := Lib.hid ((St.start w).addRow h)
  have HL := Lib.hid hl
  have HN := Lib.hid hn
  clear h hl hn
  obtain ⟨ok, hok⟩ : ∃ ok, (sizeB size && !l.any (fun p => !drawnB p)) = ok := ⟨_, rfl⟩
  rw [hok]
  have HOK := Lib.hid hok
  clear hok
  refine (callsIn_wide (n := 10)).1 ?_
  refine callsIn_of_wp_marks Try.func11 rfl trivial ?_ rfl
  simp only [Try.ntmps11, List.size_toArray, List.length_cons, List.length_nil, Nat.reduceAdd, Nat.reduceSub, Array.replicate_succ, Array.replicate_zero, List.push_toArray, List.append_toArray, List.nil_append, List.cons_append]
  by_cases hs1 : 0 ≤ size
  · by_cases hs2 : size ≤ 15
    · gi_wp2_with fail
      have hs_ := ((HS.out.alloc (.cells #[.int .i64 size] 3)).alloc (.cells #[.bool round] 4))
      obtain ⟨w1, hw_⟩ : ∃ w1 : World, ((w.alloc (.cells #[.int .i64 size] 3)).alloc (.cells #[.bool round] 4)) = w1 := ⟨_, rfl⟩
      rw [hw_] at hs_
      try simp only [World.size_alloc] at hs_
      have HS := Lib.hid hs_
      rw [hw_]
      clear hw_ hs_
      refine (callsIn_wide.2 (containsFuncSwp (fun p => !drawnB p) #[] a n cap l HL.out (by have := HN.out; omega) _ (HS.out.elems 2 rfl) (fun x y _ => sweep1_any x y))).mono ?_
      rintro e w2 ⟨rfl, hb_⟩
      have HS := Lib.hid (HS.out.below hb_)
      have HSZ := Lib.hid (And.intro hs1 hs2)
      clear hb_
      cases hany : l.any (fun p => !drawnB p)
      · have HANY := Lib.hid hany
        clear hany
        have hmm := makeMap_rows
        have HB4 := HS.out.lt 0 rfl
        gi_wp2_with fail
        clear hmm
        have HSZ := Lib.hid (And.intro hs1 hs2)
        have hB3 : Below (w2.heap.size + 1) (w2.alloc (.map #[] 0)) (((w2.alloc (.map #[] 0)).alloc (.cells #[.map (some w2.heap.size)] 76)).alloc (.cells #[.pointer (some ⟨w2.heap.size + 1, 0, none⟩)] 73)) := ((Below.refl _ _).alloc (by simp) _).alloc (by simp) _
        have hs3 := ((HS.out.alloc (.map #[] 0)).alloc (.cells #[.map (some w2.heap.size)] 76)).alloc (.cells #[.pointer (some ⟨w2.heap.size + 1, 0, none⟩)] 73)
        obtain ⟨w3, hw3⟩ : ∃ w3 : World, ((w2.alloc (.map #[] 0)).alloc (.cells #[.map (some w2.heap.size)] 76)).alloc (.cells #[.pointer (some ⟨w2.heap.size + 1, 0, none⟩)] 73) = w3 := ⟨_, rfl⟩
        have hz3 : w3.heap.size = w2.heap.size + 3 := by rw [← hw3]; simp
        rw [hw3] at hB3 hs3
        rw [hw3]
        simp only [World.size_alloc] at hs3
        have hgs := GrS.start (hs3.sub (.cons_cons _ (.cons_cons _ (.cons _ (List.Sublist.refl _))))) hB3 (by omega)
        obtain ⟨bm, hbm⟩ : ∃ bm, w2.heap.size = bm := ⟨_, rfl⟩
        obtain ⟨N3, hN3⟩ : ∃ N3, w3.heap.size = N3 := ⟨_, rfl⟩
        rw [hN3, hbm] at hgs
        rw [hbm] at HB4 hz3
        have HZ := Lib.hid (And.intro HB4 (hN3 ▸ hz3 : N3 = bm + 3))
        simp only [hbm]
        have HGS := Lib.hid hgs
        clear hB3 hs3 hw3 hz3 hgs hbm hN3 HB4 hs1 hs2 HS
        apply wpIn_loopR [11, 12, 29, 30, 31, 32, 33, 34, 35, 36, 37, 38, 39, 40, 41] (fun u ds wr => ∃ k : Nat, k ≤ n ∧ u 29 = .int .i64 (k : Int) ∧ ∃ Ds : List Nat, ds = marksOf Ds ∧ Marks w.heap.size Ds wr ∧ GrS w [.blk (bm + 1 + 1) (.cells #[.pointer (some ⟨bm + 1, 0, none⟩)] 73), .blk (bm + 1) (.cells #[.map (some bm)] 76), .blk (w.heap.size + 1) (.cells #[.bool round] 4), .blk w.heap.size (.cells #[.int .i64 size] 3), .row (.slice a n cap) n 2 (rowC encP l) w.heap.size] [] N3 bm (sweepL size round (l.take k)) wr) (fun tm _ => n - (intOf (tm.getD 29 undef)).toNat)
        · exact ⟨0, by omega, rfl, [], rfl, marks_nil _ _, HGS.out⟩
        · rintro u ds wr ⟨k, hk, hu, Ds, rfl, hm, hg⟩
          simp only [setS, List.foldl, List.setIfInBounds_toArray, List.set_cons_succ, List.set_cons_zero]
          rw [hu]
          have HMK := Lib.hid hm
          have HG := Lib.hid hg
          clear hu hm hg HGS
          by_cases hlt : k < n
          · have HK := Lib.hid hlt
            have e3 : wrap64 ((k : Int) + 1) = ((k + 1 : Nat) : Int) := by have := HN.out; unfold wrap64; omega
            obtain ⟨s, hx⟩ : ∃ s, l[k]? = some s := ⟨_, List.getElem?_eq_getElem (by rw [HL.out]; exact hlt)⟩
            obtain ⟨bb, off, rfl, hbb, c0, c1⟩ := ptCells HL.out (HG.out.st.elems 4 rfl) k s hx
            have hds := (drawn_iff s).1 (by
              have h1 := List.any_eq_false.1 HANY.out s (List.mem_of_getElem? hx)
              simpa using h1)
            have HTS := Lib.hid (take_snocP hx)
            have HSD := Lib.hid hds
            have cz := cell_of_block (k := 0) (HG.out.st.blockAt 3 rfl) rfl
            have hwz := HG.out.st.lt 3 rfl
            have HS := Lib.hid (St.start wr)
            obtain ⟨sp, hsp⟩ : ∃ sp, sp = s := ⟨_, rfl⟩
            rw [← hsp] at HTS HSD
            have HSP := Lib.hid hsp
            obtain ⟨sx, sy⟩ := s
            simp only at c0 c1
            clear hx hds hbb hsp
            gi_wp2_with fail
            obtain ⟨q, hq⟩ : ∃ q, wr.heap.size = q := ⟨_, rfl⟩
            have hs_ := (HS.out.alloc (.cells #[.int .i64 sx, .int .i64 sy] 28))
            obtain ⟨w4, hw_⟩ : ∃ w4 : World, (wr.alloc (.cells #[.int .i64 sx, .int .i64 sy] 28)) = w4 := ⟨_, rfl⟩
            rw [hw_] at hs_
            try simp only [World.size_alloc] at hs_
            have HS := Lib.hid hs_
            rw [hw_]
            clear hw_ hs_
            refine (callsIn_wide.2 (about_any sx sy size _ _)).mono ?_
            rintro e w' ⟨rfl, rfl⟩
            obtain ⟨q4, hq4⟩ : ∃ q4, w4.heap.size = q4 := ⟨_, rfl⟩
            have hq5 : wr.heap.size < w4.heap.size := HS.out.lt 0 rfl
            have hs_ := (((HS.out.alloc (.cells #[.int .i64 sx, .int .i64 sy] 28)).alloc (.cells #[.int .i64 size] 3)).alloc (.cells #[.func (.func 39) #[] #[.pointer (some ⟨w.heap.size + 1, 0, none⟩), .pointer (some ⟨w.heap.size, 0, none⟩)]] 72))
            obtain ⟨w5, hw_⟩ : ∃ w5 : World, (((w4.alloc (.cells #[.int .i64 sx, .int .i64 sy] 28)).alloc (.cells #[.int .i64 size] 3)).alloc (.cells #[.func (.func 39) #[] #[.pointer (some ⟨w.heap.size + 1, 0, none⟩), .pointer (some ⟨w.heap.size, 0, none⟩)]] 72)) = w5 := ⟨_, rfl⟩
            rw [hw_] at hs_
            try simp only [World.size_alloc] at hs_
            have HS := Lib.hid hs_
            rw [hw_]
            clear hw_ hs_
            rw [hq4] at HS
            simp only [hq, hq4]
            clear c0 c1 cz
            gi_wp2_with fail
            have hb5 : Below wr.heap.size wr w5 := HS.out.low
            have hz5 : q4 + 1 + 1 < w5.heap.size := HS.out.lt 0 rfl
            rw [hq4] at hq5
            have hbase := HG.out.hi
            have hwb : w.heap.size + 1 < wr.heap.size := HG.out.st.lt 2 rfl
            obtain ⟨bs, hbs⟩ : ∃ bs : List Nat, bs = [q4 + 1, q4 + 1 + 1, q4, w.heap.size + 1, w.heap.size] := ⟨_, rfl⟩
            have hbs5 : ∀ c ∈ bs, c < w5.heap.size := by rw [hbs]; intro c hc; simp at hc; omega
            have hbsm : ∀ c ∈ bs, c ≠ bm := by rw [hbs]; intro c hc; have := HZ.out; simp at hc; omega
            have hmem : (q4 + 1) ∈ bs ∧ (q4 + 1 + 1) ∈ bs ∧ q4 ∈ bs ∧ (w.heap.size + 1) ∈ bs ∧ w.heap.size ∈ bs := by rw [hbs]; simp
            have hG5 : GrS w _ bs N3 bm _ w5 := HG.out.fresh hb5 bs (by rw [hbs]; intro c hc; have := HZ.out; have := HZ.out.2; simp at hc; omega)
            have hM5 := HMK.out.below hb5
            have hDs : ∀ D ∈ Ds, D < wr.heap.size := fun D hD => block_lt (HMK.out.blk D hD).2
            have hgr5 := hG5.st
            obtain ⟨A, hA⟩ : ∃ A, aboutL ⟨sx, sy⟩ size round = A := ⟨_, rfl⟩
            have hit := about_iter w5 (q4 + 1) (q4 + 1 + 1) q4 (w.heap.size + 1) w.heap.size bs size HSZ.out.1 HSZ.out.2 round ⟨sx, sy⟩ (by have := HSD.out; rw [HSP.out] at this; exact this) A hA hmem hbs5 (cell_of_block (HS.out.blockAt 1 rfl) rfl) (cell_of_block (HS.out.blockAt 0 rfl) rfl) (cell_of_block (HS.out.blockAt 2 rfl) rfl) (cell_of_block (HS.out.blockAt 2 rfl) rfl) (cell_of_block (hgr5.blockAt 2 rfl) rfl) (cell_of_block (hgr5.blockAt 3 rfl) rfl)
            have HLB := Lib.hid (aboutL_len (c := ⟨sx, sy⟩) (round := round) HSZ.out.2)
            have HMB := Lib.hid (fun s hs => mem_aboutL (c := ⟨sx, sy⟩) (size := size) (round := round) (s := s) HSZ.out.1 hs)
            rw [HSP.out] at HTS
            have HSW := Lib.hid (sweepL_take (size := size) (round := round) HTS.out)
            have HLS := Lib.hid (show (sweepL size round (l.take k)).length ≤ 930000 by
              have h1 := sweepL_len (round := round) HSZ.out.2 (l.take k)
              have h2 := HN.out
              rw [List.length_take, HL.out] at h1
              omega)
            rw [hA] at HLB HMB HSW
            obtain ⟨Lk, hLk⟩ : ∃ Lk, sweepL size round (l.take k) = Lk := ⟨_, rfl⟩
            rw [hLk] at hG5 HSW HLS
            obtain ⟨its, hits⟩ : ∃ its : List It, its = [.blk (bm + 1 + 1) (.cells #[.pointer (some ⟨bm + 1, 0, none⟩)] 73), .blk (bm + 1) (.cells #[.map (some bm)] 76), .blk (w.heap.size + 1) (.cells #[.bool round] 4), .blk w.heap.size (.cells #[.int .i64 size] 3), .row (.slice (some ⟨bb, off, none⟩) n cap) n 2 (rowC encP l) w.heap.size] := ⟨_, rfl⟩
            rw [← hits] at hG5
            have hcells : ∀ b o, .blk b o ∈ its → o.isCells = true := by
              rw [hits]
              intro b o hb
              simp at hb
              rcases hb with ⟨_, rfl⟩ | ⟨_, rfl⟩ | ⟨_, rfl⟩ | ⟨_, rfl⟩ <;> rfl
            have hfree : ∀ i ∈ its, i.free (fun k => k = bm ∨ N3 ≤ k) := by
              rw [hits]
              intro i hi
              have := HZ.out
              simp at hi
              rcases hi with rfl | rfl | rfl | rfl | rfl <;> simp only [It.free] <;> omega
            have hpm : .blk (bm + 1) (.cells #[.map (some bm)] 76 (0, 0)) ∈ its := by rw [hits]; simp
            have hbm5 : bm < w5.heap.size := by have := HZ.out; omega
            have hw5 : w.heap.size ≤ w5.heap.size := by omega
            have hOI : OwnFrom w5.heap.size (fun (pre : List (Fin A.length)) W => GrS w its bs N3 bm (Lk ++ pre.map (fun i => A[i.1])) W ∧ Marks w.heap.size Ds W ∧ w5.heap.size ≤ W.heap.size) := OwnFrom.and (ownFrom_GrS _ hw5 hbm5 hcells) (OwnFrom.and (ownFrom_marks (fun D hD => by have := hDs D hD; omega)) (ownFrom_size _))
            apply with_actIn
            intro a0 ha0
            refine range_iterB hit (by omega) (by rw [ha0]; rfl) (enters_of Try.func58 (by kernel_rfl) rfl) hbs5 (Below.refl _ _) (fun _ => rfl) (fun x => [(37, (A[x.1]).val)]) (fun _ => by simp)
              (fun pre W => GrS w its bs N3 bm (Lk ++ pre.map (fun i => A[i.1])) W ∧ Marks w.heap.size Ds W ∧ w5.heap.size ≤ W.heap.size)
              (fun _ _ _ => False) hOI (fun _ => ownFrom_pure _ _) ⟨by simpa using hG5, hM5, Nat.le_refl _⟩
              (fun x a' W => ∃ p, a' = loopAct a0 [(37, (A[x.1]).val), (12, .pointer (some ⟨p, 0, none⟩))] ∧ W.heap[p]? = some (.cells #[.int .i64 (A[x.1]).y, .int .i64 (A[x.1]).f, .int .i64 (A[x.1]).t] 39 (0, 0))) ?hAx ?assign ?body ?done ?stop
            case hAx =>
              rintro x a' s X Y row ⟨p, e, hp⟩ hg hr
              exact ⟨p, e, (grownBy_keeps_cells hg (fun r e => (hr r e).2) hp rfl).trans hp⟩
            case assign =>
              rintro ly pre x W K ⟨hI, hM, hlt5⟩ hK
              have HK := Lib.hid hK
              have HI := Lib.hid hI
              have HM := Lib.hid hM
              clear hK hI hM
              rw [ha0] at HK ⊢
              unfold loopAct at HK ⊢
              simp only [SpT.val, List.foldl, List.setIfInBounds_toArray, List.set_cons_succ, List.set_cons_zero] at HK ⊢
              gi_wp2
              have hb := (Below.refl W.heap.size W).alloc (Nat.le_refl _) (.cells #[.int .i64 (A[x.1]).y, .int .i64 (A[x.1]).f, .int .i64 (A[x.1]).t] 39)
              exact HK.out _ _ (keepsFrom_below hb) (KeepsAt.of_below hb (fun c hc => Nat.lt_of_lt_of_le (hbs5 c hc) hlt5)) ⟨HI.out.below hb, HM.out.below hb, Nat.le_trans hlt5 hb.size⟩ ⟨W.heap.size, rfl, World.alloc_heap_new W _⟩
            case body =>
              rintro ly pre x a' W ⟨hI, hM, hlt5⟩ ⟨p, rfl, hp⟩ hlen
              rw [ha0]
              unfold loopAct
              simp only [SpT.val, List.foldl, List.setIfInBounds_toArray, List.set_cons_succ, List.set_cons_zero]
              have HI := Lib.hid hI
              have HM := Lib.hid hM
              have hst := hI.st
              rw [hits] at hst
              have c9 := cell_of_block (k := 0) (hst.blockAt 0 rfl) rfl
              have k0 := cell_of_block (k := 0) hp rfl
              have k1 := cell_of_block (k := 1) hp rfl
              have k2 := cell_of_block (k := 2) hp rfl
              have hsm := mem_aboutL (c := ⟨sx, sy⟩) (size := size) (round := round) (s := A[x.1]) HSZ.out.1 (by rw [hA]; exact List.getElem_mem _)
              have hsd := HSD.out
              rw [HSP.out] at hsd
              have hput := hI.put (pr := bm + 1) (A[x.1]) (by have := HSZ.out; unfold inK; simp only at hsm hsd; omega) (by have h1 := HLS.out; have h2 := HLB.out; simp; omega) hpm ⟨by have := HZ.out; omega, by omega⟩ (by have := HZ.out; omega) (by have := HZ.out; omega) hfree (fun c hc => ⟨hbsm c hc, Nat.lt_of_lt_of_le (hbs5 c hc) hlt5⟩)
              have HP := Lib.hid hput
              clear hI hM hst hp hsm hsd hput
              unfold SpT.val at HP
              gi_wp2_with fail
              refine ((callsIn_wide.2 HP.out).inRound ly).mono ?_
              rintro e W2 ⟨rfl, hG2, hK2, hz2, hnc, hns⟩
              have HR := Lib.hid (And.intro hG2 (And.intro hK2 (And.intro hz2 hnc)))
              clear hG2 hK2 hz2 hnc hns HP c9 k0 k1 k2
              gi_wp2
              refine ⟨⟨HR.out.2.2.1, fun k o hk ho hc => HR.out.2.2.2 k o (by have := hbm5; omega) ho hc⟩, HR.out.2.1, ?_, HM.out.keep fun k hk => HR.out.2.2.2 k _ (HI.out.notMap hk (fun _ _ e => by cases e)) hk rfl, Nat.le_trans hlt5 HR.out.2.2.1⟩
              rw [List.map_append]
              rw [← List.append_assoc]
              exact HR.out.1
            case done =>
              rintro D W hD ⟨hI, hM, hlt5⟩ hK
              rw [ha0]
              dsimp only
              rw [map_fin, ← HSW.out, hits] at hI
              have HG := Lib.hid hI.forget
              have HM := Lib.hid (show Marks w.heap.size (D :: Ds) W from ⟨List.nodup_cons.2 ⟨fun hm => by have := hDs D hm; omega, hM.nd⟩, fun E hE => by
                rcases List.mem_cons.1 hE with rfl | hE
                · exact ⟨by omega, hK⟩
                · exact hM.blk E hE⟩)
              clear hI hM hK ha0
              gi_wp2
              refine roundD_of (by kernel_rfl) ⟨k + 1, HK.out, ?_, D :: Ds, rfl, HM.out, HG.out⟩ ?_
              · first | exact congrArg (Value.int .i64) e3 | rfl
              · have := HK.out
                first | (show n - (wrap64 ((k : Int) + 1)).toNat < n - ((k : Int)).toNat; rw [e3]; omega) | (show n - ((k : Int) + 1).toNat < n - ((k : Int)).toNat; omega)
            case stop =>
              intro D c pre W _ _ h
              exact h.elim
          · have hkn : k = n := by omega
            have hok1 : ok = true := by
              rw [← HOK.out, HANY.out]
              have := HSZ.out
              simp [sizeB]; omega
            subst hok1
            have hlk : l.take k = l := List.take_of_length_le (by rw [HL.out]; omega)
            rw [hlk] at HG
            have hg := HG.out
            obtain ⟨nn, D, F, h1, h2, h3⟩ := hg.gr
            have hdr : ∀ c ∈ l, drawnB c = true := fun c hc => by
              have h4 := List.any_eq_false.1 HANY.out c hc
              simpa using h4
            have hlen := sweepL_len (round := round) HSZ.out.2 l
            rw [HL.out] at hlen
            have hsw := sweepL_in (round := round) HSZ.out.1 HSZ.out.2 hdr
            have HROW := Lib.hid (row_any w (bm + 1) N3 bm nn D F (sweepL size round l) (by have := HN.out; omega) (by have := HN.out; omega) (fun s hs => by have := hsw s hs; unfold inK; omega) wr hg.st.low (by have := HZ.out; omega) (by have := HZ.out; omega) hg.hi h2 (hg.st.blockAt 1 rfl))
            have c9 := cell_of_block (k := 0) (hg.st.blockAt 0 rfl) rfl
            have HHS := Lib.hid (sweepL_has (round := round) HSZ.out.1 l)
            have HLEN := Lib.hid (show (sweepL size round l).length ≤ 1000000 by have := HN.out; omega)
            subst hkn
            clear hk hlt hlk hg h1 h2 h3 hdr hlen hsw
            gi_wp2_with fail
            refine (callsIn_wide.2 HROW.out).mono ?_
            rintro e w6 ⟨M, v, hset, hml, rfl, hrow, hlow, hko⟩
            have HM6 := Lib.hid (HMK.out.keep fun k hk => hko.same k _ hk rfl)
            have HR1 := Lib.hid (hset.congr HHS.out)
            have HR2 := Lib.hid (Nat.le_trans hml HLEN.out)
            have HR3 := Lib.hid (And.intro hrow hlow)
            clear hset hml hrow hlow hko HROW c9
            gi_wp2
            refine ret_marks (lo := w.heap.size) (Ds := Ds) (v := .tuple #[v, .int .i64 0]) rfl HM6.out (fun W' ht => ⟨by simp [results, Try.results11, go_sem], M, fun _ => HR1.out, fun h => Bool.noConfusion h, HR2.out, v, rfl, ?_, ?_⟩)
            · exact ownsRow_turned HR3.out.1 ht (fun j cur hj => HM6.out.notCells hj)
            · exact HR3.out.2.trans (ht.below HR3.out.2.size (fun D hD => (HM6.out.blk D hD).1))
      · have HANY := Lib.hid hany
        have hok : ok = false := by rw [← HOK.out, HANY.out]; simp
        subst hok
        clear hany
        gi_wp2_with fail
        exact ⟨_, by simp [results, Try.results11, go_sem], givesBad 2 rfl HS.out.low⟩
    · have hok : ok = false := by rw [← HOK.out]; simp [sizeB]; omega
      subst hok
      gi_wp2_with fail
      exact ⟨_, by simp [results, Try.results11, go_sem], givesBad 2 rfl (by (repeat (first | exact Below.refl _ _ | assumption | refine Below.alloc ?_ (by first | omega | (simp; done) | (simp; omega)) _ | refine Below.setCell ?_ (by first | omega | (simp; done) | (simp; omega)) _ | refine Below.drew ?_)))⟩
  · have hok : ok = false := by rw [← HOK.out]; simp [sizeB]; omega
    subst hok
    gi_wp2_with fail
    exact ⟨_, by simp [results, Try.results11, go_sem], givesBad 2 rfl (by (repeat (first | exact Below.refl _ _ | assumption | refine Below.alloc ?_ (by first | omega | (simp; done) | (simp; omega)) _ | refine Below.setCell ?_ (by first | omega | (simp; done) | (simp; omega)) _ | refine Below.drew ?_)))⟩
end Go.Proofs.Ytflbcabjefpojaa
