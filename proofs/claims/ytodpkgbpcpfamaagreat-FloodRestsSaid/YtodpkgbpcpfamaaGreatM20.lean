/- Merged texts: Rim Pen Line SwC Wk Few ClipL Clips Sweeps LinesA StepsA UnionsA FlS. -/
import Derived.Test.YtodpkgbpcpfamaaGreatM19
import Derived.Test.YtodpkgbpcpfamaaGreatM12
import Derived.Test.YtodpkgbpcpfamaaGreatM13
import Derived.Test.YtodpkgbpcpfamaaGreatM9
import Derived.Test.YtodpkgbpcpfamaaGreatM10
import Derived.Shelf.SlicesQ.Contains
import Derived.Test.YtodpkgbpcpfamaaGreatM18
/- Layer 8: Rim. -/
namespace Go.Proofs.YtodpkgbpcpfamaaGreat
set_option linter.unusedSimpArgs false
set_option linter.unusedVariables false
open Go.RowKit Go.Shelf
attribute [local go_sem] Oper.semAt_some

/-- All places of a row met. -/
def metAll (l : List PtT) : Bf := l.foldl (fun s p => s.meet p 0) ⟨fun _ => 0, []⟩
theorem meet_len (s : Bf) (p : PtT) (k : Nat) : (s.meet p k).l.length ≤ s.l.length + 1 := by
 unfold Bf.meet
 split <;> simp
theorem metF_len : ∀ (l : List PtT) (s : Bf), (l.foldl (fun s p => s.meet p 0) s).l.length ≤ s.l.length + l.length
 | [], _ => Nat.le_refl _
 | p :: l, s => by
  rw [List.foldl_cons]
  have h1 := metF_len l (s.meet p 0)
  have h2 := meet_len s p 0
  simp only [List.length_cons]
  omega
theorem metAll_len (l : List PtT) : (metAll l).l.length ≤ l.length := by simpa [metAll] using metF_len l ⟨fun _ => 0, []⟩
theorem metAll_app (l : List PtT) (p : PtT) : metAll (l ++ [p]) = (metAll l).meet p 0 := by unfold metAll; rw [List.foldl_append]; rfl
/-- Which rim there is, and the error. -/
def rimI (C : CanT) (l : List SpT) (k : Nat) : Bool := rimB (8 * (C.wide : Int)) (8 * (C.high : Int)) (metAll (ptsL l)).m (ptK (8 * C.wide) k)
noncomputable def rimOk (C : CanT) (l : List SpT) : Bool := rightB l && (ptsL l).all (onC C)
noncomputable def rimE (C : CanT) (l : List SpT) : Int := bif rightB l then (bif (ptsL l).all (onC C) then 0 else 4) else 160
noncomputable def rimR (C : CanT) (l : List SpT) : List PtT := bif rimOk C l then gathL (8 * C.wide) (rimI C l) (8 * C.high * (8 * C.wide)) else []
/-- Which block a search's row of places has. -/
def ownSea (S : Nat) (A : World) (q : Nat) : Prop := ∃ (cs : Array Value) (v : Value), A.heap[S]? = some (.cells cs 104 (0, 0)) ∧ cs[1027]? = some v ∧ v.ownBlock = some q
theorem ownSea_st {S N0 : Nat} (hS : S < N0) : OwnSt (ownSea S) N0 := fun A B h q => by
 unfold ownSea
 rw [h S hS]
theorem SeaS.own {y0 : World} {pre post : List It} {bs : List Nat} {base S c : Nat} {W H : Int} {s : Bf} {v : Value} {x : World} (h : SeaS y0 pre post bs base S c W H s v x) {q : Nat} : ownSea S x q ↔ v.ownBlock = some q := by
 constructor
 · rintro ⟨cs, u, h1, h2, h3⟩
   rw [h.at_] at h1
   cases h1
   rw [seaA_waits] at h2
   cases h2
   exact h3
 · intro hq
   exact ⟨_, v, h.at_, seaA_waits _ _ _ _ _, hq⟩
theorem ownsRow_kept2 {x : World} {base : Nat} {e : TypeId} {k : Nat} {v : Value} {n : Nat} {xs : List Value} (h : x.ownsRow base e k v n xs) {p q : Nat} {u u2 : Value} (hp : p < base) (hq : q < base) : ((x.setCell ⟨p, 0, none⟩ u).setCell ⟨q, 0, none⟩ u2).ownsRow base e k v n xs := by
 refine ⟨h.1, ?_⟩
 rcases h.2 with h1 | ⟨g, cap, cur, h1, h2, h3, h4⟩
 · exact .inl h1
 · exact .inr ⟨g, cap, cur, h1, h2, heap_set_other (heap_set_other h3 (by omega) _) (by omega) _, h4⟩
/-- A step of a search keeps what an iterator wants kept. -/
theorem SeaS.ko {y0 : World} {pre post : List It} {bs : List Nat} {base S c N0 : Nat} {W H : Int} {s s' : Bf} {v v' : Value} {x y : World} (h : SeaS y0 pre post bs base S c W H s v x) (h' : SeaS y0 pre post bs base S c W H s' v' y) (hbs : ∀ b ∈ bs, b < x.heap.size) (hSb : S ∉ bs) (hS0 : S < N0) (ht : Turned (fun j => j = S ∨ v.ownBlock = some j) x y) (hl : LocS v v' x.heap.size) : KO (ownSea S) bs N0 x y := by
 refine ⟨ht.size, (h.keeps hbs hSb ht).1, fun _ q hq => (h'.o.row.lt q (h'.own.1 hq)).2, fun q o hq ho hc hn => ?_⟩
 have hn' : ¬ v.ownBlock = some q := fun e => hn (h.own.2 e)
 refine ⟨fun hq' => ?_, (ht.block q (block_lt ho) (fun e => by rcases e with e | e; omega; exact hn' e)).trans ho⟩
 have e := h'.own.1 hq'
 rcases hl with h1 | ⟨g, h1, h2⟩
 · exact hn' (h1.symm.trans e)
 · rw [h1] at e
   cases e
   have := block_lt ho
   omega

set_option maxRecDepth 100000 in
set_option maxHeartbeats 1000000 in
theorem rim_any (C : CanT) (c : Nat) (a : Option Addr) (n cap : Nat) (l : List SpT) (hl : l.length = n) (hn : n ≤ 1000000) (hp : (ptsL l).length ≤ 500000) (w : World) (hC : CanAt w c C) (he : Elems w (.slice a n cap) n 3 (rowC encS l)) :
 Calls Tryz.prog 18 #[.pointer (some ⟨c, 0, none⟩), .slice a n cap] w (GivesRowE 33 2 (rimR C l).length ((rimR C l).flatMap encP) (rimE C l) w) := by
 have HCK := Lib.hid (fun w' h => check_any a n cap l hl (by omega) w' h)
 have HE := Lib.hid he
 have HEL := Lib.hid (fun (b off : Nat) (e : a = some ⟨b, off, none⟩) => aBlk_lt he b (aBlk_mem e))
 have HCA := Lib.hid hC
 have HS := Lib.hid ((St.start w).addRow he)
 have HL := Lib.hid hl
 have HN := Lib.hid (And.intro hn hp)
 obtain ⟨rb, hrb⟩ : ∃ rb, rightB l = rb := ⟨_, rfl⟩
 rw [hrb] at HCK
 have HRB := Lib.hid hrb
 clear hC he hl hn hp hrb
 refine (callsIn_wide (n := 10)).1 ?_
 refine callsIn_of_wp_marks Tryz.func18 rfl trivial ?_ rfl
 simp only [Tryz.ntmps18, List.size_toArray, List.length_cons, List.length_nil, Nat.reduceAdd, Nat.reduceSub, Array.replicate_succ, Array.replicate_zero, List.push_toArray, List.append_toArray, List.nil_append, List.cons_append]
 repeat ((fail_if_success (with_reducible refine stop_atI (id := 1) ?_)); (first | go_values | gi_guarded | gi_step | gi_upon | gi_back | (simp only [Int.not_lt, Int.not_le] at *; go_simp) | (go_values <;> (try go_simp)) | (go_ite <;> go_prune <;> (try go_simp)) | (split <;> (first | (rename_i hx; exact (hx _ rfl).elim) | go_prune))))
 have hs_ := ((HS.out.alloc (.cells #[.slice none 0 0] 46)).alloc (.cells #[.int .i64 0] 35))
 obtain ⟨w1, hw_⟩ : ∃ w1 : World, ((w.alloc (.cells #[.slice none 0 0] 46)).alloc (.cells #[.int .i64 0] 35)) = w1 := ⟨_, rfl⟩
 rw [hw_] at hs_
 try simp only [World.size_alloc] at hs_
 have HS := Lib.hid hs_
 rw [hw_]
 clear hw_ hs_
 gi_wp2_with fail
 refine (callsIn_wide.2 (HCK.out _ (HE.out.below HS.out.low))).mono ?_
 rintro e w2 ⟨rfl, hb_⟩
 have HS := Lib.hid (HS.out.below hb_)
 clear hb_ HCK
 cases rb
 · have a0 := cell_of_block (k := 0) (HS.out.blockAt 1 rfl) rfl
   have fa := free_of_block (HS.out.blockAt 1 rfl) 0
   have b0 := cell_of_block (k := 0) (HS.out.blockAt 0 rfl) rfl
   have fb := free_of_block (HS.out.blockAt 0 rfl) 0
   gi_wp2_with fail
   have h1 := HS.out.putAt (pre := [_]) (by intro i hi; simp at hi; exact ⟨_, _, hi⟩) 0 (.slice none 0 0) rfl
   have h2 := St.putAt (pre := []) h1 (by simp) 0 (.int .i64 160) rfl
   simp only [List.nil_append, List.cons_append] at h2
   have k0 := cell_of_block (k := 0) (h2.blockAt 1 rfl) rfl
   have k1 := cell_of_block (k := 0) (h2.blockAt 0 rfl) rfl
   refine ⟨.tuple #[.slice none 0 0, .int .i64 160], by simp [results, Tryz.results18, go_sem, k0, k1], .slice none 0 0, by unfold rimE; rw [HRB.out]; rfl, ?_, h2.low⟩
   rw [show rimR C l = [] by unfold rimR rimOk; rw [HRB.out]; rfl]
   exact World.ownsRow_nil _ _ _ _
 · gi_wp2_with fail
   refine (callsIn_wide.2 (of_any C c _ (HCA.out.below HS.out.low))).mono ?_
   rintro e w3 ⟨S, rfl, hSl, hSs, hb⟩
   have HWS := Lib.hid (show w.heap.size ≤ S from Nat.le_trans HS.out.size hSl)
   have HS2 := Lib.hid (fun i hi => Nat.le_trans (HS.out.top i hi) hSl)
   have HS := Lib.hid (HS.out.below hb)
   have HSS := Lib.hid hSs
   clear hSl hSs hb
   repeat ((fail_if_success (with_reducible refine stop_atI (id := 6) ?_)); (first | go_values | gi_guarded | gi_step | gi_upon | gi_back | (simp only [Int.not_lt, Int.not_le] at *; go_simp) | (go_values <;> (try go_simp)) | (go_ite <;> go_prune <;> (try go_simp)) | (split <;> (first | (rename_i hx; exact (hx _ rfl).elim) | go_prune))))
   obtain ⟨q6, hq6⟩ : ∃ q6, w3.heap.size = q6 := ⟨_, rfl⟩
   have HSQ := Lib.hid (show S < q6 by rw [← hq6]; exact block_lt HSS.out)
   have hs4 := heap_alloc_keeps HSS.out (.cells #[.pointer (some ⟨S, 0, none⟩)] 69)
   obtain ⟨w4, hw4⟩ : ∃ w4 : World, w3.alloc (.cells #[.pointer (some ⟨S, 0, none⟩)] 69) = w4 := ⟨_, rfl⟩
   have hst4 := HS.out.alloc (.cells #[.pointer (some ⟨S, 0, none⟩)] 69)
   rw [hw4] at hs4 hst4
   rw [hw4]
   have HS := Lib.hid hst4
   have HSS := Lib.hid hs4
   simp only [hq6] at HS ⊢
   clear hw4 hs4 hst4
   gi_wp2_with fail
   refine (callsIn_wide.2 (all_any a n cap _)).mono ?_
   rintro e w' ⟨rfl, rfl⟩
   obtain ⟨q7, hq7⟩ : ∃ q7, w4.heap.size = q7 := ⟨_, rfl⟩
   have hs5 := heap_alloc_keeps HSS.out (.cells #[.slice a n cap] 34)
   obtain ⟨w5, hw5⟩ : ∃ w5 : World, w4.alloc (.cells #[.slice a n cap] 34) = w5 := ⟨_, rfl⟩
   have hst5 := HS.out.alloc (.cells #[.slice a n cap] 34)
   have hz5 : w5.heap.size = q7 + 1 := by rw [← hw5]; simp [hq7]
   rw [hw5] at hs5 hst5
   rw [hw5]
   rw [hq7] at hst5
   have HS := Lib.hid hst5
   have HSS := Lib.hid hs5
   have HZ5 := Lib.hid hz5
   simp only [hq7]
   clear hw5 hs5 hst5 hz5
   gi_wp2_with fail
   obtain ⟨its, hits⟩ : ∃ its : Int → List It, its = fun er => [.blk q7 (.cells #[.slice a n cap] 34 (0, 0)), .blk q6 (.cells #[.pointer (some ⟨S, 0, none⟩)] 69 (0, 0)), .blk (w.heap.size + 1) (.cells #[.int .i64 er] 35 (0, 0)), .blk w.heap.size (.cells #[.slice none 0 0] 46 (0, 0)), .row (.slice a n cap) n 3 (rowC encS l) w.heap.size] := ⟨_, rfl⟩
   have HIT := Lib.hid hits
   have HS0 := Lib.hid (show St w (its 0) w5 by rw [HIT.out]; exact HS.out)
   have hS5 : S < w5.heap.size := block_lt HSS.out
   have hw15 : w.heap.size + 1 + 1 ≤ S := HS2.out (.blk (w.heap.size + 1) _) (by simp; rfl)
   have hq67 : q6 < q7 := by have h := HS.out.ord; simp [ItOrd, It.top] at h; omega
   obtain ⟨bs, hbs⟩ : ∃ bs : List Nat, bs = q7 :: aBlk a := ⟨_, rfl⟩
   have hbw : ∀ b ∈ bs, b = q7 ∨ b < w.heap.size := by
    rw [hbs]; intro b hb
    rcases List.mem_cons.1 hb with h | h
    · exact .inl h
    · exact .inr (aBlk_lt HE.out b h)
   have hbs5 : ∀ b ∈ bs, b < w5.heap.size := fun b hb => by rcases hbw b hb with h | h <;> (have := HZ5.out; omega)
   have hSb : S ∉ bs := fun h => by rcases hbw S h with h | h <;> (have := HSQ.out; omega)
   obtain ⟨A, hA⟩ : ∃ A, ptsL l = A := ⟨_, rfl⟩
   have hA' : allL l = A := by unfold allL; rw [HRB.out]; exact hA
   have hit := all_iter (ownSea S) w5 (ownSea_st hS5) (fun q hq => by
    obtain ⟨cs, v, h1, h2, h3⟩ := hq
    rw [HSS.out] at h1; cases h1
    rw [seaA_waits] at h2; cases h2
    cases h3) q7 bs a n cap l HL.out (by have := HN.out; omega) A hA' hbs5 (by rw [hbs]; simp) (fun b off e => by rw [hbs]; exact List.mem_cons_of_mem _ (aBlk_mem e)) (cell_of_block (HS.out.blockAt 0 rfl) rfl) (HS.out.elems 4 rfl)
   have hsea := (SeaS.begin (y0 := w5) (pre := []) (post := []) (St.cut HSS.out) (by simp) (Turned.refl _ _)).more (bs' := bs) (fun b hb => .inr (.inr (hbs5 b hb)))
   have HAL := Lib.hid (show A.length ≤ 500000 by rw [← hA]; exact HN.out.2)
   have HF := Lib.hid (And.intro hbs5 (And.intro hSb (And.intro hS5 (And.intro hw15 hq67))))
   have hcells : ∀ er b o, .blk b o ∈ its er → o.isCells = true := by
    rw [hits]
    intro er b o hb
    simp at hb
    rcases hb with ⟨_, rfl⟩ | ⟨_, rfl⟩ | ⟨_, rfl⟩ | ⟨_, rfl⟩ <;> rfl
   have HFREE := Lib.hid (show ∀ (er : Int) (v : Value), (∀ j, v.ownBlock = some j → w5.heap.size ≤ j) → ∀ i ∈ its er, i.free (fun j => j = S ∨ v.ownBlock = some j) by
    rw [hits]
    intro er v hv i hi
    have := HZ5.out
    have := HSQ.out
    have := HWS.out
    simp at hi
    rcases hi with rfl | rfl | rfl | rfl | rfl <;> simp only [It.free]
    · rintro (h | h)
      · omega
      · have := hv _ h; omega
    · rintro (h | h)
      · omega
      · have := hv _ h; omega
    · rintro (h | h)
      · omega
      · have := hv _ h; omega
    · rintro (h | h)
      · omega
      · have := hv _ h; omega
    · rintro k (h | h)
      · omega
      · have := hv _ h; omega)
   have hws : w.heap.size ≤ w5.heap.size := HS.out.size
   have HMAP := Lib.hid (map_fin A)
   apply with_actIn
   intro a0 ha0
   refine range_iterO hit (by omega) (ownSea_st hS5) (by rw [ha0]; rfl) (enters_of Tryz.func35 (by kernel_rfl) rfl) hbs5 (fun _ => rfl) (fun x => [(19, (A[x.1]).val)]) (fun _ => by simp)
    (fun pre X => (∃ v, SeaS w5 [] [] bs w5.heap.size S c (8 * (C.wide : Int)) (8 * (C.high : Int)) (metAll (pre.map fun i => A[i.1])) v X) ∧ St w (its 0) X ∧ w5.heap.size ≤ X.heap.size ∧ ∀ x ∈ pre, onC C (A[x.1]) = true)
    (fun c' pre X => c' = .ret ∧ St w (its 4) X ∧ ∃ x ∈ pre, onC C (A[x.1]) = false)
    (OwnFrom.and (ownFrom_SeaS (pre := []) (post := []) _ hS5 (by rw [cutW_size (Nat.le_of_lt hS5)]; omega) (Nat.le_refl _) (by simp)) (OwnFrom.and (ownFrom_St (fun _ => its 0) hws (fun _ => hcells 0)) (OwnFrom.and (ownFrom_size _) (ownFrom_pure _ _))))
    (fun c' => OwnFrom.and (ownFrom_pure _ _) (OwnFrom.and (ownFrom_St (fun _ => its 4) hws (fun _ => hcells 4)) (ownFrom_pure _ _))) ⟨⟨_, hsea⟩, HS0.out, Nat.le_refl _, by simp⟩
    (fun z a' X => ∃ p, a' = loopAct a0 [(19, (A[z.1]).val), (7, .pointer (some ⟨p, 0, none⟩))] ∧ X.heap[p]? = some (.cells #[.int .i64 (A[z.1]).x, .int .i64 (A[z.1]).y] 33 (0, 0))) ?hAx ?assign ?body ?done ?stop
   case hAx =>
    rintro z a' s X Y row ⟨p, e, hp⟩ hg hr
    exact ⟨p, e, (grownBy_keeps_cells hg (fun r e => (hr r e).2) hp rfl).trans hp⟩
   case assign =>
    rintro ly pre z X K ⟨⟨v', hI⟩, hst, hlt5, hon⟩ hK
    have HK := Lib.hid hK
    have HI := Lib.hid hI
    have HST := Lib.hid hst
    have HO := Lib.hid hon
    clear hK hI hst hon
    rw [ha0] at HK ⊢
    unfold loopAct at HK ⊢
    simp only [PtT.val, List.foldl, List.setIfInBounds_toArray, List.set_cons_succ, List.set_cons_zero] at HK ⊢
    gi_wp2
    have hb := (Below.refl X.heap.size X).alloc (Nat.le_refl _) (.cells #[.int .i64 (A[z.1]).x, .int .i64 (A[z.1]).y] 33)
    exact HK.out _ _ (keepsFrom_below hb) (KO.of_below (ownSea_st HF.out.2.2.1) hb hlt5 (fun c hc => Nat.lt_of_lt_of_le (HF.out.1 c hc) hlt5)) ⟨⟨v', HI.out.below hb⟩, HST.out.below hb, Nat.le_trans hlt5 hb.size, HO.out⟩ ⟨X.heap.size, rfl, World.alloc_heap_new X _⟩
   case body =>
    rintro ly pre z a' X ⟨⟨v', hI⟩, hst, hlt5, hon⟩ ⟨p7, rfl, hp7⟩ hlen
    obtain ⟨nn, hnn⟩ : ∃ nn, A[z.1] = nn := ⟨_, rfl⟩
    have HNN := Lib.hid hnn
    have HMA := Lib.hid (show metAll ((pre ++ [z]).map fun i => A[i.1]) = (metAll (pre.map fun i => A[i.1])).meet nn 0 by rw [List.map_append, List.map_singleton, metAll_app, hnn])
    have HML := Lib.hid (show (metAll (pre.map fun i => A[i.1])).l.length < 1000000 by
     have h1 := metAll_len (pre.map fun i => A[i.1])
     rw [List.length_map] at h1
     have := HAL.out
     omega)
    rw [hnn] at hp7 ⊢
    rw [ha0]
    unfold loopAct
    simp only [PtT.val, List.foldl, List.setIfInBounds_toArray, List.set_cons_succ, List.set_cons_zero]
    have HI := Lib.hid hI
    have HST0 := Lib.hid hst
    rw [HIT.out] at hst
    have HS := Lib.hid hst
    have HP7 := Lib.hid hp7
    have HL5 := Lib.hid hlt5
    have HALL := Lib.hid hon
    have b1 := cell_of_block (k := 0) (hst.blockAt 1 rfl) rfl
    have k0 := cell_of_block (k := 0) hp7 rfl
    have k1 := cell_of_block (k := 1) hp7 rfl
    have HON := Lib.hid (show Calls _ _ _ _ (Gives (.bool (onC C nn)) X) from on_any S _ _ nn X (cell_of_block hI.at_ (seaA_1 _ _ _ _ _)) (cell_of_block hI.at_ (seaA_2 _ _ _ _ _)))
    obtain ⟨ob, hob⟩ : ∃ ob, onC C nn = ob := ⟨_, rfl⟩
    rw [hob] at HON
    have HOB := Lib.hid hob
    unfold PtT.val at HON
    clear hnn hI hst hp7 hlt5 hon hob hits ha0 hit hsea hcells
    gi_wp2_with fail
    clear b1 k0 k1
    refine ((callsIn_wide.2 HON.out).inRound ly).mono ?_
    rintro e X2 ⟨rfl, hb⟩
    have HB2 := Lib.hid hb
    have HI2 := Lib.hid (HI.out.below hb)
    have HS := Lib.hid (HS.out.below hb)
    have HST2 := Lib.hid (HST0.out.below hb)
    have HP2 := Lib.hid ((hb.block _ (block_lt HP7.out)).trans HP7.out)
    clear hb HON
    cases ob
    · have a0 := cell_of_block (k := 0) (HS.out.blockAt 3 rfl) rfl
      have fa := free_of_block (HS.out.blockAt 3 rfl) 0
      have b0 := cell_of_block (k := 0) (HS.out.blockAt 2 rfl) rfl
      have fb := free_of_block (HS.out.blockAt 2 rfl) 0
      gi_wp2
      have h1 := HS.out.putAt (pre := [_, _, _]) (by intro i hi; simp at hi; rcases hi with rfl | rfl | rfl <;> exact ⟨_, _, rfl⟩) 0 (.slice none 0 0) rfl
      have h2 := St.putAt (pre := [_, _]) h1 (by intro i hi; simp at hi; rcases hi with rfl | rfl <;> exact ⟨_, _, rfl⟩) 0 (.int .i64 4) rfl
      simp only [List.nil_append, List.cons_append] at h2
      refine ⟨((show KeepsOthers X X2 from ⟨HB2.out.size, fun j o hj _ => (HB2.out.block j (block_lt hj)).trans hj⟩).trans ((KeepsOthers.setCell _ _ _).trans (KeepsOthers.setCell _ _ _))).from _, rfl, ?_, z, by simp, by rw [HNN.out]; exact HOB.out⟩
      first | exact h2 | (rw [HIT.out]; exact h2)
    · have b1 := cell_of_block (k := 0) (HS.out.blockAt 1 rfl) rfl
      have k0 := cell_of_block (k := 0) HP2.out rfl
      have k1 := cell_of_block (k := 1) HP2.out rfl
      have hbs2 : ∀ b ∈ bs, b < X2.heap.size := fun b hb => Nat.lt_of_lt_of_le (HF.out.1 b hb) (Nat.le_trans HL5.out HB2.out.size)
      have HBS := Lib.hid hbs2
      have MEET := Lib.hid (meet_any w5 _ _ bs _ S c _ _ _ v' X2 HI2.out hbs2 (by have := HCA.out.ok.wide; omega) (by have := HCA.out.ok.high; omega) nn HOB.out 0 (by decide) HML.out)
      unfold PtT.val at MEET
      clear hbs2
      gi_wp2_with fail
      refine ((callsIn_wide.2 MEET.out).inRound ly).mono ?_
      rintro e X3 ⟨rfl, ⟨v2, hs2, hloc⟩, ht2⟩
      have hko := HI2.out.ko (N0 := w5.heap.size) hs2 HBS.out HF.out.2.1 HF.out.2.2.1 ht2 hloc
      have hot := (HI2.out.keeps HBS.out HF.out.2.1 ht2).2
      have hown : ∀ j, v'.ownBlock = some j → w5.heap.size ≤ j := fun j hj => (HI2.out.o.row.lt j hj).1
      have hst3 := HST2.out.turned ht2 (fun k hk => by
       rcases hk with h | h
       · have := HWS.out; omega
       · have := hown k h; have := HF.out.2.2.1; have := HWS.out; omega) (HFREE.out 0 v' hown)
      have HR := Lib.hid (And.intro hko (And.intro hot (And.intro hst3 (And.intro hs2 ht2.size))))
      clear hko hot hown hst3 hs2 hloc ht2 MEET b1 k0 k1
      gi_wp2
      refine ⟨((show KeepsOthers X X2 from ⟨HB2.out.size, fun j o hj _ => (HB2.out.block j (block_lt hj)).trans hj⟩).trans HR.out.2.1).from _, (KO.of_below (ownSea_st HF.out.2.2.1) HB2.out HL5.out (fun c hc => Nat.lt_of_lt_of_le (HF.out.1 c hc) HL5.out)).trans HR.out.1, ⟨v2, by rw [HMA.out]; exact HR.out.2.2.2.1⟩, HR.out.2.2.1, Nat.le_trans HL5.out (Nat.le_trans HB2.out.size HR.out.2.2.2.2), fun x hx => ?_⟩
      rcases List.mem_append.1 hx with h | h
      · exact HALL.out x h
      · rw [List.mem_singleton.1 h, HNN.out]; exact HOB.out
   case done =>
    rintro D X hD ⟨⟨v', hI⟩, hst, hlt5, hon⟩ hK
    rw [ha0]
    dsimp only
    rw [HMAP.out, ← hA] at hI
    have hall : (ptsL l).all (onC C) = true := by
     rw [List.all_eq_true, hA]
     intro q hq
     obtain ⟨i, hi, e⟩ := List.mem_iff_getElem.1 hq
     have := hon ⟨i, hi⟩ (List.mem_finRange _)
     rwa [e] at this
    rw [HIT.out] at hst
    have HS := Lib.hid hst
    have HAT := Lib.hid hall
    have HDK := Lib.hid hK
    have HD := Lib.hid (show w.heap.size + 1 < D by have := HZ5.out; have := HSQ.out; omega)
    have e1 : ((8 * C.wide : Nat) : Int) = 8 * (C.wide : Int) := by omega
    have e2 : ((8 * C.high : Nat) : Int) = 8 * (C.high : Int) := by omega
    have hw32 : 8 * C.wide ≤ 32 := by have := HCA.out.ok.wide; omega
    have hh32 : 8 * C.high ≤ 32 := by have := HCA.out.ok.high; omega
    have hb6 := hst.blockAt 1 rfl
    have hgath := gath_rim S (8 * C.wide) (8 * C.high) hw32 hh32 (.pointer (some ⟨q6, 0, none⟩)) (rimI C l)
     (fun _ x => x.heap[S]? = some (seaO c (8 * (C.wide : Int)) (8 * (C.high : Int)) (metAll (ptsL l)).m v') ∧ x.heap[q6]? = some (.cells #[.pointer (some ⟨S, 0, none⟩)] 69 (0, 0))) X (block_lt hI.at_)
     (fun i x h => by
      rw [e1, e2]
      exact ⟨cell_of_block h.1 (seaA_1 _ _ _ _ _), cell_of_block h.1 (seaA_2 _ _ _ _ _)⟩)
     (fun i x y h hk => ⟨(hk _ (block_lt hI.at_)).trans h.1, (hk _ (block_lt hb6)).trans h.2⟩)
     (fun x y wr' hx hy h _ => (rim_cl q6 S c (8 * (C.wide : Int)) (8 * (C.high : Int)) (by omega) (by omega) (metAll (ptsL l)).m v' x y (onB_iff.2 ⟨⟨by simp only; omega, by simp only; omega⟩, by simp only; omega, by simp only; omega⟩) wr' (cell_of_block (k := 0) h.2 rfl) h.1).mono (by
      rintro e w' ⟨rfl, hb⟩
      exact ⟨by unfold rimI; rw [ptK_at hx], ⟨(hb.block S (block_lt h.1)).trans h.1, (hb.block _ (block_lt h.2)).trans h.2⟩, (Turned.refl _ _).belowT hb⟩))
     ⟨hI.at_, hb6⟩
    have HG := Lib.hid hgath
    have b1 := cell_of_block (k := 0) hb6 rfl
    have HSX := Lib.hid (block_lt hI.at_)
    clear hgath e1 e2 hw32 hh32 hb6 hI hst hlt5 hon hK hall hits ha0 hit hsea hcells
    gi_wp2_with fail
    clear b1
    refine (callsIn_wide.2 HG.out).mono ?_
    rintro e X2 ⟨u, rfl, hr, -, htu⟩
    have hst2 := HS.out.turned htu (fun k hk => by rw [hk]; exact HWS.out) (by
     intro i hi
     have := HSQ.out
     have := HF.out.2.2.2.1
     have := HF.out.2.2.2.2
     have := HWS.out
     simp at hi
     rcases hi with rfl | rfl | rfl | rfl | rfl <;> simp only [It.free] <;> omega)
    have hd2 := (htu.block D (block_lt HDK.out) (by have := HF.out.2.2.1; omega)).trans HDK.out
    have HST := Lib.hid hst2
    have HDK := Lib.hid hd2
    have HR := Lib.hid hr
    have a0 := cell_of_block (k := 0) (hst2.blockAt 3 rfl) rfl
    have fa := free_of_block (hst2.blockAt 3 rfl) 0
    have b0 := cell_of_block (k := 0) (hst2.blockAt 2 rfl) rfl
    have fb := free_of_block (hst2.blockAt 2 rfl) 0
    obtain ⟨ua, un, uc, rfl⟩ : ∃ ua un uc, u = .slice ua un uc := by
     rcases hr.2 with ⟨h1, h0⟩ | ⟨g, cp, cur, h1, _⟩
     · exact ⟨none, 0, 0, h1⟩
     · exact ⟨_, _, _, h1⟩
    clear hst2 hd2 hr htu HG
    gi_wp2
    have h1 := HST.out.putAt (pre := [_, _, _]) (by intro i hi; simp at hi; rcases hi with rfl | rfl | rfl <;> exact ⟨_, _, rfl⟩) 0 (.slice ua un uc) rfl
    have h2 := St.putAt (pre := [_, _]) h1 (by intro i hi; simp at hi; rcases hi with rfl | rfl <;> exact ⟨_, _, rfl⟩) 0 (.int .i64 0) rfl
    simp only [List.nil_append, List.cons_append] at h2
    have hko := (KeepsOthers.setCell X2 ⟨w.heap.size, 0, none⟩ (.slice ua un uc)).trans (KeepsOthers.setCell (X2.setCell ⟨w.heap.size, 0, none⟩ (.slice ua un uc)) ⟨w.heap.size + 1, 0, none⟩ (.int .i64 0))
    have hd3 := hko.same D _ HDK.out rfl
    have hr3 := ownsRow_kept2 HR.out (p := w.heap.size) (q := w.heap.size + 1) (u := .slice ua un uc) (u2 := .int .i64 0) (by have := HF.out.2.2.1; have := HF.out.2.2.2.1; have := HSX.out; omega) (by have := HF.out.2.2.1; have := HF.out.2.2.2.1; have := HSX.out; omega)
    generalize (X2.setCell ⟨w.heap.size, 0, none⟩ (.slice ua un uc)).setCell ⟨w.heap.size + 1, 0, none⟩ (.int .i64 0) = X3 at h2 hd3 hr3 ⊢
    have hn1 : w.heap.size ∉ [D] := by have := HD.out; simp; omega
    have hn2 : w.heap.size + 1 ∉ [D] := by have := HD.out; simp; omega
    refine ret_marks (lo := w.heap.size) (Ds := [D]) (v := .tuple #[.slice ua un uc, .int .i64 0]) rfl ⟨by simp, fun E hE => ?_⟩ (fun W' ht => ⟨?_, .slice ua un uc, by unfold rimE; rw [HRB.out, HAT.out]; rfl, ?_, h2.low.trans (ht.below h2.size fun k hk => ?_)⟩)
    · rw [List.mem_singleton.1 hE]; exact ⟨by have := HD.out; omega, hd3⟩
    · have c0 := cell_of_block (k := 0) ((ht.block _ (h2.lt 3 rfl) hn1).trans (h2.blockAt 3 rfl)) rfl
      have c1 := cell_of_block (k := 0) ((ht.block _ (h2.lt 2 rfl) hn2).trans (h2.blockAt 2 rfl)) rfl
      simp [results, Tryz.results18, go_sem, c0, c1]
    · rw [show rimR C l = gathL (8 * C.wide) (rimI C l) (8 * C.high * (8 * C.wide)) by unfold rimR rimOk; rw [HRB.out, HAT.out]; rfl]
      refine ownsRow_mono (ownsRow_turned hr3 ht (fun j cur hj hm => ?_)) HS.out.size
      rw [List.mem_singleton.1 hm, hd3] at hj; cases hj
    · rw [List.mem_singleton.1 hk]; have := HD.out; omega
   case stop =>
    rintro D c' pre X hD hpre ⟨rfl, hst, x, hx, hox⟩ hK
    rw [ha0]
    dsimp only
    rw [HIT.out] at hst
    have k0 := cell_of_block (k := 0) (hst.blockAt 3 rfl) rfl
    have k1 := cell_of_block (k := 0) (hst.blockAt 2 rfl) rfl
    have hno : (ptsL l).all (onC C) = false := by
     rw [hA, List.all_eq_false]
     exact ⟨A[x.1], List.getElem_mem _, by rw [hox]; simp⟩
    have h1 : w.heap.size + 1 < D := by have := HZ5.out; have := HSQ.out; omega
    have HST := Lib.hid hst
    have HNO := Lib.hid hno
    have HDK := Lib.hid hK
    have HD := Lib.hid h1
    clear hst k0 k1 hno h1 hx hox hK hits ha0 hit hsea hcells
    gi_wp2
    have hn1 : w.heap.size ∉ [D] := by have := HD.out; simp; omega
    have hn2 : w.heap.size + 1 ∉ [D] := by have := HD.out; simp; omega
    refine ret_marks (lo := w.heap.size) (Ds := [D]) (v := .tuple #[.slice none 0 0, .int .i64 4]) rfl ⟨by simp, fun E hE => ?_⟩ (fun W' ht => ⟨?_, .slice none 0 0, by unfold rimE; rw [HRB.out, HNO.out]; rfl, ?_, HST.out.low.trans (ht.below HST.out.size fun k hk => ?_)⟩)
    · rw [List.mem_singleton.1 hE]; exact ⟨by have := HD.out; omega, HDK.out⟩
    · have c0 := cell_of_block (k := 0) ((ht.block _ (HST.out.lt 3 rfl) hn1).trans (HST.out.blockAt 3 rfl)) rfl
      have c1 := cell_of_block (k := 0) ((ht.block _ (HST.out.lt 2 rfl) hn2).trans (HST.out.blockAt 2 rfl)) rfl
      simp [results, Tryz.results18, go_sem, c0, c1]
    · rw [show rimR C l = [] by unfold rimR rimOk; rw [HRB.out, HNO.out]; rfl]
      exact World.ownsRow_nil _ _ _ _
    · rw [List.mem_singleton.1 hk]; have := HD.out; omega
end Go.Proofs.YtodpkgbpcpfamaaGreat

/- shape: the pen's step. -/
namespace Go.Proofs.YtodpkgbpcpfamaaGreat
set_option linter.unusedSimpArgs false
set_option linter.unusedVariables false
open Go.RowKit Go.Shelf
end Go.Proofs.YtodpkgbpcpfamaaGreat

/- shape.Line. -/
namespace Go.Proofs.YtodpkgbpcpfamaaGreat
set_option linter.unusedSimpArgs false
set_option linter.unusedVariables false
open Go.RowKit Go.Shelf
section
variable {α : Type} {w0 x y : World} {its : List It} {base : Nat} {e : TypeId} {k : Nat} {enc : α → List Value} {v : Value} {L : List α}
/-- A row of one element. -/
theorem StO.one (h : St w0 its x) (e : TypeId) (enc : α → List Value) (q : α) (hk : (enc q).length = k) : StO w0 its x.heap.size e k enc (.slice (some ⟨x.heap.size, 0, none⟩) 1 1) [q] (x.alloc (.cells (enc q).toArray e (0, 0))) := by
 refine ⟨h.below ((Below.refl _ _).alloc (Nat.le_refl _) _), ⟨by simp [hk], .inr ⟨x.heap.size, 1, (enc q).toArray, rfl, Nat.le_refl _, World.alloc_heap_new _ _, Nat.le_refl _, by decide, by simp [hk], ?_⟩⟩, h.size, h.top, by simp⟩
 simp [← hk]
/-- The newest block is written by a call. -/
theorem StO.pen {p : Nat} {o o' : Obj} (h : StO w0 (.blk p o :: its) base e k enc v L x) (ht : Turned (fun j => j = p) x y) (hp : y.heap[p]? = some o') : StO w0 (.blk p o' :: its) base e k enc v L y := by
 have hpb : p < base := h.top (.blk p o) (by simp)
 have hord := h.st.ord
 have hd : St w0 its y := h.st.drop1.turned ht (fun j hj => by rw [hj]; exact hord.1) (fun i hi => by
  have htop := hord.2.1 i hi
  cases i with
  | blk b ob => exact fun e => by simp only [It.top] at htop; omega
  | row v n s c hi' => exact fun j hj => by simp only [It.top] at htop; omega)
 refine ⟨⟨hd.low, fun i hi => ?_, ⟨hord.1, hord.2.1, hord.2.2⟩, fun i hi => ?_⟩, h.row.kept (row := some p) ⟨ht.os, ht.tape, ht.output, ht.size, fun j hj hn => ht.block j hj (fun e => hn (by rw [e]))⟩ ?_, h.low, fun i hi => ?_, Nat.le_trans h.hi ht.size⟩
 · rcases List.mem_cons.1 hi with rfl | hi
   · exact hp
   · exact hd.ok i hi
 · rcases List.mem_cons.1 hi with rfl | hi
   · exact block_lt hp
   · exact hd.top i hi
 · cases hv : v.ownBlock with
   | none => exact .inl rfl
   | some j => exact .inr (fun e => by have := (h.row.lt j hv).1; cases e; omega)
 · rcases List.mem_cons.1 hi with rfl | hi
   · exact hpb
   · exact h.top i (by simp [hi])
end

theorem LineD.start {a b : PtT} {lx ly sx sy n m : Int} (h : LineD a b lx ly sx sy n m) : linePt a b 0 = a := by
 rw [h.pt 0 (by omega) (by have := h.mle; omega), less_zero]
 simp
end Go.Proofs.YtodpkgbpcpfamaaGreat

/- Layer 6: Disc, Square, Union. -/
namespace Go.Proofs.YtodpkgbpcpfamaaGreat
set_option linter.unusedSimpArgs false
set_option linter.unusedVariables false
open Go.RowKit Go.Shelf Go.Maps
attribute [local go_sem] Oper.semAt_some

theorem all_take {ls : List (List SpT)} {k : Nat} {l : List SpT} (hx : ls[k]? = some l) (h : rightB l = false) : ls.all rightB = false := by
 rw [List.all_eq_false]
 exact ⟨l, List.mem_of_getElem? hx, by simp [h]⟩
theorem flat_le {ls : List (List SpT)} {k : Nat} {l : List SpT} (hx : ls[k]? = some l) (q : Nat) : ((ls.take k).flatten ++ l.take q).length ≤ ls.flatten.length := by
 obtain ⟨hk, e⟩ := List.getElem?_eq_some_iff.1 hx
 have : ls.flatten.length = (ls.take k).flatten.length + (l.length + (ls.drop (k + 1)).flatten.length) := by
  conv => lhs; rw [← List.take_append_drop k ls, List.drop_eq_getElem_cons hk, e]
  simp
 rw [List.length_append, List.length_take]
 omega

set_option maxRecDepth 100000 in
set_option maxHeartbeats 1000000 in
theorem shUnion_any (a : Option Addr) (n cap : Nat) (ls : List (List SpT)) (hl : ls.length = n) (hn : n ≤ 1000000) (hT : ls.flatten.length ≤ 1000000) (w : World) (h : RowsR w a ls) :
 Calls Tryz.prog 8 #[.slice a n cap] w (GivesSet (ls.all rightB) (fun p => hasB ls.flatten p = true) 160 w) := by
 have HS := Lib.hid (St.start w)
 have HL := Lib.hid hl
 have HT := Lib.hid hT
 have HRO := Lib.hid h
 obtain ⟨ok, hok⟩ : ∃ ok, ls.all rightB = ok := ⟨_, rfl⟩
 rw [hok]
 have HOK := Lib.hid hok
 clear hl hT h hok
 have hmm := makeMap_rows
 go_enter Tryz.func8, Tryz.ntmps8
 go_wp2_with fail
 clear hmm
 have hB3 : Below (w.heap.size + 1) (w.alloc (.map #[] 0)) ((w.alloc (.map #[] 0)).alloc (.cells #[.map (some w.heap.size)] 78)) := (Below.refl _ _).alloc (by simp) _
 have hs3 := (HS.out.alloc (.map #[] 0)).alloc (.cells #[.map (some w.heap.size)] 78)
 obtain ⟨w3, hw3⟩ : ∃ w3 : World, (w.alloc (.map #[] 0)).alloc (.cells #[.map (some w.heap.size)] 78) = w3 := ⟨_, rfl⟩
 have hz3 : w3.heap.size = w.heap.size + 2 := by rw [← hw3]; simp
 rw [hw3] at hB3 hs3
 rw [hw3]
 simp only [World.size_alloc] at hs3
 have hgs := GrS.start (hs3.sub (.cons_cons _ (.cons _ (List.Sublist.refl _)))) hB3 (by omega)
 obtain ⟨N3, hN3⟩ : ∃ N3, w3.heap.size = N3 := ⟨_, rfl⟩
 rw [hN3] at hgs hz3
 have HZ := Lib.hid hz3
 have HGS := Lib.hid hgs
 clear hB3 hs3 hw3 hz3 hgs hN3 HS
 go_loopw [15] (fun i wr => ∃ k : Nat, k ≤ n ∧ i = .int .i64 (k : Int) ∧ GrS w [.blk (w.heap.size + 1) (.cells #[.map (some w.heap.size)] 78)] [] N3 w.heap.size (ls.take k).flatten wr ∧ ∀ l ∈ ls.take k, rightB l = true) (fun i _ => n - (intOf i).toNat)
 case atStart => exact ⟨0, by omega, rfl, HGS.out, by simp⟩
 case round =>
  obtain ⟨k, hk, rfl, hg, hr⟩ := hrel
  clear HGS
  have HG := Lib.hid hg
  have HR := Lib.hid hr
  clear hg hr
  by_cases hlt : k < n
  · have HK := Lib.hid hlt
    have e3 : wrap64 ((k : Int) + 1) = ((k + 1 : Nat) : Int) := by unfold wrap64; omega
    obtain ⟨l, hx⟩ : ∃ l, ls[k]? = some l := ⟨_, List.getElem?_eq_getElem (by rw [HL.out]; exact hlt)⟩
    obtain ⟨bb, off, a', cap', rfl, hbb, c00, hel⟩ := HRO.out k l hx
    have c0 := (HG.out.st.low.cell (p := ⟨bb, off + k, none⟩) hbb).trans c00
    have HEL := Lib.hid hel
    have HX := Lib.hid hx
    have HTF := Lib.hid (take_flat hx)
    have HFL := Lib.hid (flat_le hx)
    have hlen : l.length ≤ 1000000 := by have := HFL.out l.length; have := HT.out; simp at *; omega
    have HLN := Lib.hid hlen
    obtain ⟨m, hm⟩ : ∃ m, l.length = m := ⟨_, rfl⟩
    rw [hm] at HEL HLN c0
    have HM := Lib.hid hm
    have HCH := Lib.hid (check_any a' m cap' l hm (by rw [← hm]; omega) wr (HEL.out.below HG.out.st.low))
    clear hx c00 hel hbb hlen hm
    go_wp2_with fail
    refine HCH.out.mono ?_
    rintro e w4 ⟨rfl, hb_⟩
    have HG := Lib.hid (HG.out.below hb_)
    clear hb_ c0 HCH
    cases hrl : rightB l
    · have hok1 : ok = false := by rw [← HOK.out]; exact all_take HX.out hrl
      subst hok1
      rw [errOf_false]
      clear hrl
      go_wp2_with fail
      refine bodyPost_ret (v := .tuple #[.slice none 0 0, .int .i64 160]) (by simp [results, Tryz.results8, go_sem]) rfl (givesBad 160 rfl HG.out.st.low)
    · have HRL := Lib.hid hrl
      have HRP := Lib.hid ((rightB_iff l).1 hrl)
      rw [errOf_true]
      clear hrl
      have HG0 := Lib.hid (show GrS w [.blk (w.heap.size + 1) (.cells #[.map (some w.heap.size)] 78)] [] N3 w.heap.size ((ls.take k).flatten ++ l.take 0) w4 by simpa using HG.out)
      go_wp2_with fail
      go_loopw [26] (fun i wx => ∃ q : Nat, q ≤ m ∧ i = .int .i64 (q : Int) ∧ GrS w [.blk (w.heap.size + 1) (.cells #[.map (some w.heap.size)] 78)] [] N3 w.heap.size ((ls.take k).flatten ++ l.take q) wx) (fun i _ => m - (intOf i).toNat)
      case atStart => exact ⟨0, by omega, rfl, HG0.out⟩
      case round =>
       obtain ⟨q, hq, rfl, hg⟩ := hrel
       clear HG HG0
       have HG := Lib.hid hg
       clear hg
       by_cases hlt2 : q < m
       · have HQ := Lib.hid hlt2
         have e4 : wrap64 ((q : Int) + 1) = ((q + 1 : Nat) : Int) := by have := HLN.out; unfold wrap64; omega
         obtain ⟨s, hx⟩ : ∃ s, l[q]? = some s := ⟨_, List.getElem?_eq_getElem (by rw [HM.out]; exact hlt2)⟩
         obtain ⟨bb', off', rfl, hbb', c0, c1, c2⟩ := spCells HM.out (HEL.out.below HG.out.st.low) q s hx
         have hs := (spB_iff s).1 (by have := HRP.out.sp q (by rw [HM.out]; exact hlt2); rwa [(List.getElem?_eq_some_iff.1 hx).2] at this)
         have HTS := Lib.hid (take_snoc hx)
         have hb1 := (Below.refl wr.heap.size wr).alloc (Nat.le_refl _) (.cells #[.int .i64 s.y, .int .i64 s.f, .int .i64 s.t] 43)
         have hput := (HG.out.below hb1).put (pr := w.heap.size + 1) s (by unfold inK; omega) (by have := HFL.out q; have := HT.out; omega) (by simp) ⟨by have := HZ.out; omega, by omega⟩ (Nat.le_refl _) (by have := HZ.out; omega) (fun i hi => by simp at hi; subst hi; have := HZ.out; simp only [It.free]; omega) (by simp)
         have HP := Lib.hid hput
         clear hx hbb' hs hput hb1
         unfold SpT.val at HP
         go_wp2_with fail
         refine HP.out.mono ?_
         rintro e w6 ⟨rfl, hg6, -, -, -, -⟩
         have HG6 := Lib.hid hg6
         clear hg6 HP c0 c1 c2
         go_wp2_with fail
         go_roundw
         case rel => exact ⟨q + 1, HQ.out, by first | rw [e4] | simp, by rw [HTS.out, ← List.append_assoc]; exact HG6.out⟩
         case measure => have := HQ.out; (try rw [e4]); simp [intOf]; omega
       · have HD := Lib.hid (show GrS w [.blk (w.heap.size + 1) (.cells #[.map (some w.heap.size)] 78)] [] N3 w.heap.size (ls.take (k + 1)).flatten wr by
          have := HG.out
          rwa [List.take_of_length_le (show l.length ≤ q by rw [HM.out]; omega), ← HTF.out] at this)
         have HRN := Lib.hid (show ∀ l' ∈ ls.take (k + 1), rightB l' = true by
          intro l' hl'
          rw [List.take_add_one, HX.out] at hl'
          rcases List.mem_append.1 hl' with h | h
          · exact HR.out l' h
          · simp at h; subst h; exact HRL.out)
         clear hq
         go_wp2_with fail
         go_roundw
         case rel => exact ⟨k + 1, HK.out, by first | rw [e3] | simp, HD.out, HRN.out⟩
         case measure => have := HK.out; (try rw [e3]); simp [intOf]; omega
  · have hkn : k = n := by omega
    subst hkn
    have htk : ls.take k = ls := List.take_of_length_le (by rw [HL.out]; omega)
    rw [htk] at HG HR
    have hok1 : ok = true := by rw [← HOK.out]; exact List.all_eq_true.2 HR.out
    subst hok1
    have hg := HG.out
    obtain ⟨nn, D, F, h1, h2, h3⟩ := hg.gr
    have HROW := Lib.hid (row_any w (w.heap.size + 1) N3 w.heap.size nn D F ls.flatten (by have := HT.out; omega) HT.out (fun s hs => by
     obtain ⟨l, hl, hsl⟩ := List.mem_flatten.1 hs
     obtain ⟨j, hj⟩ := List.getElem?_of_mem hsl
     have hrp := (rightB_iff l).1 (HR.out l hl)
     have := (spB_iff s).1 (by have := hrp.sp j (List.getElem?_eq_some_iff.1 hj).1; rwa [(List.getElem?_eq_some_iff.1 hj).2] at this)
     unfold inK
     omega) wr hg.st.low (by omega) (by have := HZ.out; omega) hg.hi h2 (hg.st.blockAt 0 rfl))
    clear hk hlt htk hg h1 h2 h3
    go_wp2_with fail
    refine HROW.out.mono ?_
    rintro e w6 ⟨M, v, hset, hml, rfl, hrow, hlow, -⟩
    have HR1 := Lib.hid (And.intro hset (And.intro (Nat.le_trans hml HT.out) (And.intro hrow hlow)))
    clear hset hml hrow hlow HROW
    go_wp2_with fail
    refine bodyPost_ret (v := .tuple #[v, .int .i64 0]) (by simp [results, Tryz.results8, go_sem]) rfl ⟨M, fun _ => HR1.out.1, fun h => Bool.noConfusion h, HR1.out.2.1, v, rfl, ?_, ?_⟩
    · exact HR1.out.2.2.1
    · exact HR1.out.2.2.2
end Go.Proofs.YtodpkgbpcpfamaaGreat

/- Layer 6: what the statements call, as rows that are read; the rows that 'wakes' looks at. -/
namespace Go.Proofs.YtodpkgbpcpfamaaGreat
set_option linter.unusedSimpArgs false
set_option linter.unusedVariables false
open Go.RowKit Go.Shelf

section
variable {α : Type}
/-- A row to be read, and a code. -/
def Got (k : Nat) (enc : α → List Value) (L : List α) (n : Nat) (er : Int) (w : World) (e : Ending) (w' : World) : Prop :=
 L.length = n ∧ ∃ a cap, e = .returned (.tuple #[.slice a n cap, .int .i64 er]) ∧ Elems w' (.slice a n cap) n k (rowC enc L) ∧ Below w.heap.size w w'
theorem GivesRowE.got {k : Nat} {enc : α → List Value} (hk : ∀ q, (enc q).length = k) {E : TypeId} {L : List α} {er : Int} {w : World} {e : Ending} {w' : World} (h : GivesRowE E k L.length (L.flatMap enc) er w e w') : Got k enc L L.length er w e w' := by
 obtain ⟨v, rfl, hr, hb⟩ := h
 have he := ownsRow_rows hk hr
 obtain ⟨a, cap, rfl, -⟩ := he.shape
 exact ⟨rfl, a, cap, rfl, he, hb⟩
theorem Got.is {k : Nat} {enc : α → List Value} {L M : List α} {n : Nat} {er er' : Int} {w : World} {e : Ending} {w' : World} (h : Got k enc L L.length er w e w') (h1 : L = M) (hn : M.length = n) (h2 : er = er') : Got k enc M n er' w e w' := by
 subst h1 h2
 rw [← hn]
 exact h
theorem Elems.ofBlock {k : Nat} {enc : α → List Value} {w : World} {b : Nat} {cs : Array Value} {t : TypeId} {f : Nat × Nat} (h : w.heap[b]? = some (.cells cs t f)) (L : List α) (n cap : Nat) (hL : cs.toList = L.flatMap enc) (hn : (L.flatMap enc).length = n * k) : Elems w (.slice (some ⟨b, 0, none⟩) n cap) n k (rowC enc L) := by
 refine .inr ⟨b, 0, cap, rfl, block_lt h, fun j hj => ?_⟩
 rw [Nat.zero_add]
 refine cell_of_block h ?_
 unfold rowC
 rw [← hL, ← Array.getElem?_toList]
 have : j < cs.toList.length := by rw [hL, hn]; exact hj
 rw [List.getElem?_eq_getElem this]
 rfl
end
theorem GivesSet.got {ok : Bool} {P : PtT → Prop} {er : Int} {w : World} {e : Ending} {w' : World} (h : GivesSet ok P er w e w') : ∃ M, (ok = true → SetRow P M) ∧ (ok = false → M = []) ∧ M.length ≤ 1000000 ∧ Got 3 encS M M.length (errOf ok er) w e w' := by
 obtain ⟨M, h1, h2, h3, h4⟩ := h
 exact ⟨M, h1, h2, h3, h4.got encS_len⟩
/-- A set whose row is known. -/
theorem GivesSet.known {ok : Bool} {P : PtT → Prop} {er : Int} {w : World} {e : Ending} {w' : World} (h : GivesSet ok P er w e w') (hok : ok = true) {L : List SpT} (hL : SetRow P L) (n : Nat) (hn : L.length = n) : Got 3 encS L n 0 w e w' := by
 obtain ⟨M, h1, h2, h3, h4⟩ := h.got
 exact h4.is ((h1 hok).unique hL) hn (by rw [hok]; rfl)

theorem right_one {y f t : Int} (h : spB ⟨y, f, t⟩ = true) : rightB [(⟨y, f, t⟩ : SpT)] = true := (rightB_iff _).2 ⟨fun k hk => by
 obtain rfl : k = 0 := by simp at hk; omega
 exact h, fun k hk => by simp at hk⟩
theorem sameB_self {α : Type} [DecidableEq α] (l : List α) : sameB l l = true := by unfold sameB; simp
theorem eqP_same (s1 s2 : Value) (L : List PtT) (n : Nat) (hn : L.length = n) (w : World) (h1 : Elems w s1 n 2 (rowC encP L)) (h2 : Elems w s2 n 2 (rowC encP L)) (hl : n ≤ 1000000000 := by decide) :
 Calls Tryz.prog 20 #[s1, s2] w (Gives (.bool true) w) := by
 subst hn
 have := eqP_any s1 s2 L L w h1 h2 hl
 rwa [sameB_self] at this
theorem eqS_same (s1 s2 : Value) (L : List SpT) (n : Nat) (hn : L.length = n) (w : World) (h1 : Elems w s1 n 3 (rowC encS L)) (h2 : Elems w s2 n 3 (rowC encS L)) (hl : n ≤ 1000000000 := by decide) :
 Calls Tryz.prog 9 #[s1, s2] w (Gives (.bool true) w) := by
 subst hn
 have := eqS_any s1 s2 L L w h1 h2 hl
 rwa [sameB_self] at this
end Go.Proofs.YtodpkgbpcpfamaaGreat

/- Layer 6: few. -/
namespace Go.Proofs.YtodpkgbpcpfamaaGreat
set_option linter.unusedSimpArgs false
set_option linter.unusedVariables false
open Go.RowKit Go.Shelf

/-- A row to be read. -/
def GotR {α : Type} (k : Nat) (enc : α → List Value) (L : List α) (n : Nat) (w : World) (e : Ending) (w' : World) : Prop :=
 L.length = n ∧ ∃ a cap, e = .returned (.slice a n cap) ∧ n ≤ cap ∧ Elems w' (.slice a n cap) n k (rowC enc L) ∧ Below w.heap.size w w'
theorem Cloned.got {α : Type} {E : TypeId} {k : Nat} {enc : α → List Value} (hk : ∀ q, (enc q).length = k) {L : List α} {sv : Value} {w : World} {e : Ending} {w' : World} (h : Cloned E k L.length (L.flatMap enc) sv w e w') : GotR k enc L L.length w e w' := by
 obtain ⟨v, rfl, hr, -, hb⟩ := h
 have he := ownsRow_rows hk hr
 have hc : ∃ a cap, v = .slice a L.length cap ∧ L.length ≤ cap := by
  rcases hr.2 with ⟨rfl, h0⟩ | ⟨g, cap, cur, rfl, _, _, h1, _⟩
  · exact ⟨none, 0, by rw [h0], by omega⟩
  · exact ⟨_, cap, rfl, h1⟩
 obtain ⟨a, cap, rfl, h1⟩ := hc
 exact ⟨rfl, a, cap, rfl, h1, he, hb⟩

end Go.Proofs.YtodpkgbpcpfamaaGreat

/- The plain law: clipped twice. -/
namespace Go.Proofs.YtodpkgbpcpfamaaGreat
set_option linter.unusedSimpArgs false
set_option linter.unusedVariables false
open Go.RowKit Go.Shelf

theorem RightP.of {l : List SpT} (h1 : ∀ s ∈ l, spB s = true) (h2 : l.Pairwise ordP) : RightP l :=
 ⟨fun k h => h1 _ (List.getElem_mem h), fun k h => by
  have := List.pairwise_iff_getElem.1 h2 k (k + 1) (by omega) h (by omega)
  unfold ordB
  unfold ordP at this
  simpa using this⟩
theorem RightP.mem {l : List SpT} (h : RightP l) {s : SpT} (hs : s ∈ l) : spB s = true := by
 obtain ⟨k, hk, rfl⟩ := List.getElem_of_mem hs
 exact h.sp k hk
end Go.Proofs.YtodpkgbpcpfamaaGreat

/- ShapeClips: the walk. -/
namespace Go.Proofs.YtodpkgbpcpfamaaGreat
set_option linter.unusedSimpArgs false
set_option linter.unusedVariables false
open Go.RowKit Go.Shelf

end Go.Proofs.YtodpkgbpcpfamaaGreat

/- ShapeSweeps: the walk. -/
namespace Go.Proofs.YtodpkgbpcpfamaaGreat
set_option linter.unusedSimpArgs false
set_option linter.unusedVariables false
open Go.RowKit Go.Shelf

theorem GivesRow.got {α : Type} {k : Nat} {enc : α → List Value} (hk : ∀ q, (enc q).length = k) {E : TypeId} {L : List α} {w : World} {e : Ending} {w' : World} (h : GivesRow E k L.length (L.flatMap enc) w e w') : ∃ a cap, e = .returned (.slice a L.length cap) ∧ Elems w' (.slice a L.length cap) L.length k (rowC enc L) ∧ Below w.heap.size w w' := by
 obtain ⟨v, rfl, hr, hb⟩ := h
 have he := ownsRow_rows hk hr
 obtain ⟨a, cap, rfl, -⟩ := he.shape
 exact ⟨a, cap, rfl, he, hb⟩
end Go.Proofs.YtodpkgbpcpfamaaGreat

/- ShapeLines: contracts of the calls, as rows that are read; pairs of places. -/
namespace Go.Proofs.YtodpkgbpcpfamaaGreat
set_option linter.unusedSimpArgs false
set_option linter.unusedVariables false
open Go.RowKit Go.Shelf

theorem GivesSet.good {P : PtT → Prop} {er : Int} {w : World} {e : Ending} {w' : World} (h : GivesSet true P er w e w') : ∃ M, SetRow P M ∧ M.length ≤ 1000000 ∧ Got 3 encS M M.length 0 w e w' := by
 obtain ⟨M, h1, -, h3, h4⟩ := h.got
 exact ⟨M, h1 rfl, h3, h4⟩

end Go.Proofs.YtodpkgbpcpfamaaGreat

/- ShapeSteps: the plain law of lines; slices.Contains at places. -/
namespace Go.Proofs.YtodpkgbpcpfamaaGreat
set_option linter.unusedSimpArgs false
set_option linter.unusedVariables false
open Go.RowKit Go.Shelf

end Go.Proofs.YtodpkgbpcpfamaaGreat

/- ShapeUnions: the plain law. -/
namespace Go.Proofs.YtodpkgbpcpfamaaGreat
set_option linter.unusedSimpArgs false
set_option linter.unusedVariables false
open Go.RowKit Go.Shelf

theorem mem_spPts {s : SpT} {p : PtT} : p ∈ spPts s ↔ s.y = p.y ∧ s.f ≤ p.x ∧ p.x ≤ s.t := by
 unfold spPts
 rw [List.mem_map]
 constructor
 · rintro ⟨i, hi, rfl⟩
   have := List.mem_range.1 hi
   exact ⟨rfl, by simp only; omega, by simp only; omega⟩
 · rintro ⟨h1, h2, h3⟩
   refine ⟨(p.x - s.f).toNat, List.mem_range.2 (by omega), ?_⟩
   obtain ⟨x, y⟩ := p
   simp only at *
   rw [h1]
   congr 1
   omega
theorem mem_ptsL {l : List SpT} {p : PtT} : p ∈ ptsL l ↔ hasB l p = true := by
 rw [hasB_iff]
 unfold ptsL
 rw [List.mem_flatMap]
 constructor
 · rintro ⟨s, hs, hp⟩; exact ⟨s, hs, mem_spPts.1 hp⟩
 · rintro ⟨s, hs, hp⟩; exact ⟨s, hs, mem_spPts.2 hp⟩
theorem hasB_append (l m : List SpT) (p : PtT) : hasB (l ++ m) p = (hasB l p || hasB m p) := by unfold hasB; rw [List.any_append]
theorem allL_right {l : List SpT} (h : rightB l = true) : allL l = ptsL l := by unfold allL; rw [h]; rfl
end Go.Proofs.YtodpkgbpcpfamaaGreat

/- Layer 8: what Steps and Region tell together, plain. -/
namespace Go.Proofs.YtodpkgbpcpfamaaGreat
set_option linter.unusedSimpArgs false
set_option linter.unusedVariables false
open Go.RowKit Go.Shelf

theorem rightB_of {l : List SpT} (h : RowP l) (hb : ∀ s ∈ l, (-256 ≤ s.y ∧ s.y ≤ 255) ∧ (-256 ≤ s.f ∧ s.f ≤ 255) ∧ (-256 ≤ s.t ∧ s.t ≤ 255)) : rightB l = true := by
 rw [rightB_iff]
 refine ⟨fun k hk => ?_, fun k hk => ?_⟩
 · have h1 := hb _ (List.getElem_mem hk)
   have h2 := h.sp _ (List.getElem_mem hk)
   exact (spB_iff _).2 ⟨h1.1, h1.2.1, h1.2.2, h2⟩
 · exact decide_eq_true (List.pairwise_iff_getElem.1 h.ord k (k + 1) (by omega) hk (by omega))
section
variable {C : CanT} {p q : PtT} {t : Int}
theorem region_right (hC : okCan C) (p : PtT) (t : Int) : rightB (regL (placesL C p t)) = true := by
 have h := region_rowOf C p t
 refine rightB_of h.row fun s hs => ?_
 have h1 := h.box s hs
 have h2 := h.row.sp s hs
 have h3 := hC.wide
 have h4 := hC.high
 omega
theorem begB_on (h : begB C p t = true) : onC C p = true ∧ 0 ≤ t ∧ tolB t = true := by
 unfold begB at h
 rw [Bool.and_eq_true] at h
 refine ⟨h.2, ?_, h.1⟩
 have := h.1
 unfold tolB at this
 have := of_decide_eq_true this
 omega
theorem begE_ne (h : begB C p t = false) : begE C p t = 4 ∨ begE C p t = 2 := by
 unfold begE
 unfold begB at h
 cases h1 : tolB t with
 | false => exact .inr rfl
 | true =>
  rw [h1, Bool.true_and] at h
  rw [h]
  exact .inl rfl
/-- Has the region's row a place? -/
noncomputable def regHas (C : CanT) (p : PtT) (t : Int) (q : PtT) : Bool := rightB (regL (placesL C p t)) && hasB (regL (placesL C p t)) q
theorem regHas_iff (hC : okCan C) : regHas C p t q = true ↔ InReg C p t q := by
 unfold regHas
 rw [region_right hC p t, Bool.true_and]
 exact region_has C p t q
end
end Go.Proofs.YtodpkgbpcpfamaaGreat
