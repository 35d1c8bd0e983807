/- Merged texts: Rim Pen Line SwC Wk Few ClipL Clips Sweeps LinesA StepsA UnionsA FlS FlW FlSt Fie DocP LawD RimP DocR. -/
import Derived.Test.YtodpkgbpcpfamaaM18
import Derived.Test.YtodpkgbpcpfamaaM11
import Derived.Test.YtodpkgbpcpfamaaM12
import Derived.Test.YtodpkgbpcpfamaaM9
import Derived.Test.YtodpkgbpcpfamaaM10
import Derived.Shelf.SlicesQ.Contains
import Derived.Test.YtodpkgbpcpfamaaM17
import Derived.Test.YtodpkgbpcpfamaaM4
/- Layer 8: Rim. -/
namespace Go.Proofs.Ytodpkgbpcpfamaa
set_option linter.unusedSimpArgs false
set_option linter.unusedVariables false
open Go.RowKit Go.Shelf
attribute [local go_sem] Oper.semAt_some

/-- All places of a row met. -/
def metAll (l : List PtT) : Bf := l.foldl (fun s p => s.meet p 0) ⟨fun _ => 0, []⟩
theorem meet_len (s : Bf) (p : PtT) (k : Nat) : (s.meet p k).l.length ≤ s.l.length + 1 := by
 unfold Bf.meet
 split <;> simp
theorem metF_len : ∀ (l : List PtT) (s : Bf), (l.foldl (fun s p => s.meet p 0) s).l.length ≤ s.l.length + l.length
 | [], _ => Nat.le_refl _
 | p :: l, s => by
  rw [List.foldl_cons]
  have h1 := metF_len l (s.meet p 0)
  have h2 := meet_len s p 0
  simp only [List.length_cons]
  omega
theorem metAll_len (l : List PtT) : (metAll l).l.length ≤ l.length := by simpa [metAll] using metF_len l ⟨fun _ => 0, []⟩
theorem metAll_app (l : List PtT) (p : PtT) : metAll (l ++ [p]) = (metAll l).meet p 0 := by unfold metAll; rw [List.foldl_append]; rfl
/-- Which rim there is, and the error. -/
def rimI (C : CanT) (l : List SpT) (k : Nat) : Bool := rimB (8 * (C.wide : Int)) (8 * (C.high : Int)) (metAll (ptsL l)).m (ptK (8 * C.wide) k)
noncomputable def rimOk (C : CanT) (l : List SpT) : Bool := rightB l && (ptsL l).all (onC C)
noncomputable def rimE (C : CanT) (l : List SpT) : Int := bif rightB l then (bif (ptsL l).all (onC C) then 0 else 4) else 160
noncomputable def rimR (C : CanT) (l : List SpT) : List PtT := bif rimOk C l then gathL (8 * C.wide) (rimI C l) (8 * C.high * (8 * C.wide)) else []
/-- Which block a search's row of places has. -/
def ownSea (S : Nat) (A : World) (q : Nat) : Prop := ∃ (cs : Array Value) (v : Value), A.heap[S]? = some (.cells cs 87 (0, 0)) ∧ cs[1027]? = some v ∧ v.ownBlock = some q
theorem ownSea_st {S N0 : Nat} (hS : S < N0) : OwnSt (ownSea S) N0 := fun A B h q => by
 unfold ownSea
 rw [h S hS]
theorem SeaS.own {y0 : World} {pre post : List It} {bs : List Nat} {base S c : Nat} {W H : Int} {s : Bf} {v : Value} {x : World} (h : SeaS y0 pre post bs base S c W H s v x) {q : Nat} : ownSea S x q ↔ v.ownBlock = some q := by
 constructor
 · rintro ⟨cs, u, h1, h2, h3⟩
   rw [h.at_] at h1
   cases h1
   rw [seaA_waits] at h2
   cases h2
   exact h3
 · intro hq
   exact ⟨_, v, h.at_, seaA_waits _ _ _ _ _, hq⟩
theorem ownsRow_kept2 {x : World} {base : Nat} {e : TypeId} {k : Nat} {v : Value} {n : Nat} {xs : List Value} (h : x.ownsRow base e k v n xs) {p q : Nat} {u u2 : Value} (hp : p < base) (hq : q < base) : ((x.setCell ⟨p, 0, none⟩ u).setCell ⟨q, 0, none⟩ u2).ownsRow base e k v n xs := by
 refine ⟨h.1, ?_⟩
 rcases h.2 with h1 | ⟨g, cap, cur, h1, h2, h3, h4⟩
 · exact .inl h1
 · exact .inr ⟨g, cap, cur, h1, h2, heap_set_other (heap_set_other h3 (by omega) _) (by omega) _, h4⟩
/-- A step of a search keeps what an iterator wants kept. -/
theorem SeaS.ko {y0 : World} {pre post : List It} {bs : List Nat} {base S c N0 : Nat} {W H : Int} {s s' : Bf} {v v' : Value} {x y : World} (h : SeaS y0 pre post bs base S c W H s v x) (h' : SeaS y0 pre post bs base S c W H s' v' y) (hbs : ∀ b ∈ bs, b < x.heap.size) (hSb : S ∉ bs) (hS0 : S < N0) (ht : Turned (fun j => j = S ∨ v.ownBlock = some j) x y) (hl : LocS v v' x.heap.size) : KO (ownSea S) bs N0 x y := by
 refine ⟨ht.size, (h.keeps hbs hSb ht).1, fun _ q hq => (h'.o.row.lt q (h'.own.1 hq)).2, fun q o hq ho hc hn => ?_⟩
 have hn' : ¬ v.ownBlock = some q := fun e => hn (h.own.2 e)
 refine ⟨fun hq' => ?_, (ht.block q (block_lt ho) (fun e => by rcases e with e | e; omega; exact hn' e)).trans ho⟩
 have e := h'.own.1 hq'
 rcases hl with h1 | ⟨g, h1, h2⟩
 · exact hn' (h1.symm.trans e)
 · rw [h1] at e
   cases e
   have := block_lt ho
   omega

set_option maxRecDepth 100000 in
set_option maxHeartbeats 1000000 in
theorem rim_any (C : CanT) (c : Nat) (a : Option Addr) (n cap : Nat) (l : List SpT) (hl : l.length = n) (hn : n ≤ 1000000) (hp : (ptsL l).length ≤ 500000) (w : World) (hC : CanAt w c C) (he : Elems w (.slice a n cap) n 3 (rowC encS l)) :
 Calls Try.prog 8 #[.pointer (some ⟨c, 0, none⟩), .slice a n cap] w (GivesRowE 41 2 (rimR C l).length ((rimR C l).flatMap encP) (rimE C l) w) := by
 have HCK := Lib.hid (fun w' h => check_any a n cap l hl (by omega) w' h)
 have HE := Lib.hid he
 have HEL := Lib.hid (fun (b off : Nat) (e : a = some ⟨b, off, none⟩) => aBlk_lt he b (aBlk_mem e))
 have HCA := Lib.hid hC
 have HS := Lib.hid ((St.start w).addRow he)
 have HL := Lib.hid hl
 have HN := Lib.hid (And.intro hn hp)
 obtain ⟨rb, hrb⟩ : ∃ rb, rightB l = rb := ⟨_, rfl⟩
 rw [hrb] at HCK
 have HRB := Lib.hid hrb
 clear hC he hl hn hp hrb
 refine (callsIn_wide (n := 10)).1 ?_
 refine callsIn_of_wp_marks Try.func8 rfl trivial ?_ rfl
 simp only [Try.ntmps8, List.size_toArray, List.length_cons, List.length_nil, Nat.reduceAdd, Nat.reduceSub, Array.replicate_succ, Array.replicate_zero, List.push_toArray, List.append_toArray, List.nil_append, List.cons_append]
 repeat ((fail_if_success (with_reducible refine stop_atI (id := 1) ?_)); (first | go_values | gi_guarded | gi_step | gi_upon | gi_back | (simp only [Int.not_lt, Int.not_le] at *; go_simp) | (go_values <;> (try go_simp)) | (go_ite <;> go_prune <;> (try go_simp)) | (split <;> (first | (rename_i hx; exact (hx _ rfl).elim) | go_prune))))
 have hs_ := ((HS.out.alloc (.cells #[.slice none 0 0] 34)).alloc (.cells #[.int .i64 0] 35))
 obtain ⟨w1, hw_⟩ : ∃ w1 : World, ((w.alloc (.cells #[.slice none 0 0] 34)).alloc (.cells #[.int .i64 0] 35)) = w1 := ⟨_, rfl⟩
 rw [hw_] at hs_
 try simp only [World.size_alloc] at hs_
 have HS := Lib.hid hs_
 rw [hw_]
 clear hw_ hs_
 gi_wp2_with fail
 refine (callsIn_wide.2 (HCK.out _ (HE.out.below HS.out.low))).mono ?_
 rintro e w2 ⟨rfl, hb_⟩
 have HS := Lib.hid (HS.out.below hb_)
 clear hb_ HCK
 cases rb
 · have a0 := cell_of_block (k := 0) (HS.out.blockAt 1 rfl) rfl
   have fa := free_of_block (HS.out.blockAt 1 rfl) 0
   have b0 := cell_of_block (k := 0) (HS.out.blockAt 0 rfl) rfl
   have fb := free_of_block (HS.out.blockAt 0 rfl) 0
   gi_wp2_with fail
   have h1 := HS.out.putAt (pre := [_]) (by intro i hi; simp at hi; exact ⟨_, _, hi⟩) 0 (.slice none 0 0) rfl
   have h2 := St.putAt (pre := []) h1 (by simp) 0 (.int .i64 160) rfl
   simp only [List.nil_append, List.cons_append] at h2
   have k0 := cell_of_block (k := 0) (h2.blockAt 1 rfl) rfl
   have k1 := cell_of_block (k := 0) (h2.blockAt 0 rfl) rfl
   refine ⟨.tuple #[.slice none 0 0, .int .i64 160], by simp [results, Try.results8, go_sem, k0, k1], .slice none 0 0, by unfold rimE; rw [HRB.out]; rfl, ?_, h2.low⟩
   rw [show rimR C l = [] by unfold rimR rimOk; rw [HRB.out]; rfl]
   exact World.ownsRow_nil _ _ _ _
 · gi_wp2_with fail
   refine (callsIn_wide.2 (of_any C c _ (HCA.out.below HS.out.low))).mono ?_
   rintro e w3 ⟨S, rfl, hSl, hSs, hb⟩
   have HWS := Lib.hid (show w.heap.size ≤ S from Nat.le_trans HS.out.size hSl)
   have HS2 := Lib.hid (fun i hi => Nat.le_trans (HS.out.top i hi) hSl)
   have HS := Lib.hid (HS.out.below hb)
   have HSS := Lib.hid hSs
   clear hSl hSs hb
   repeat ((fail_if_success (with_reducible refine stop_atI (id := 6) ?_)); (first | go_values | gi_guarded | gi_step | gi_upon | gi_back | (simp only [Int.not_lt, Int.not_le] at *; go_simp) | (go_values <;> (try go_simp)) | (go_ite <;> go_prune <;> (try go_simp)) | (split <;> (first | (rename_i hx; exact (hx _ rfl).elim) | go_prune))))
   obtain ⟨q6, hq6⟩ : ∃ q6, w3.heap.size = q6 := ⟨_, rfl⟩
   have HSQ := Lib.hid (show S < q6 by rw [← hq6]; exact block_lt HSS.out)
   have hs4 := heap_alloc_keeps HSS.out (.cells #[.pointer (some ⟨S, 0, none⟩)] 77)
   obtain ⟨w4, hw4⟩ : ∃ w4 : World, w3.alloc (.cells #[.pointer (some ⟨S, 0, none⟩)] 77) = w4 := ⟨_, rfl⟩
   have hst4 := HS.out.alloc (.cells #[.pointer (some ⟨S, 0, none⟩)] 77)
   rw [hw4] at hs4 hst4
   rw [hw4]
   have HS := Lib.hid hst4
   have HSS := Lib.hid hs4
   simp only [hq6] at HS ⊢
   clear hw4 hs4 hst4
   gi_wp2_with fail
   refine (callsIn_wide.2 (all_any a n cap _)).mono ?_
   rintro e w' ⟨rfl, rfl⟩
   obtain ⟨q7, hq7⟩ : ∃ q7, w4.heap.size = q7 := ⟨_, rfl⟩
   have hs5 := heap_alloc_keeps HSS.out (.cells #[.slice a n cap] 25)
   obtain ⟨w5, hw5⟩ : ∃ w5 : World, w4.alloc (.cells #[.slice a n cap] 25) = w5 := ⟨_, rfl⟩
   have hst5 := HS.out.alloc (.cells #[.slice a n cap] 25)
   have hz5 : w5.heap.size = q7 + 1 := by rw [← hw5]; simp [hq7]
   rw [hw5] at hs5 hst5
   rw [hw5]
   rw [hq7] at hst5
   have HS := Lib.hid hst5
   have HSS := Lib.hid hs5
   have HZ5 := Lib.hid hz5
   simp only [hq7]
   clear hw5 hs5 hst5 hz5
   gi_wp2_with fail
   obtain ⟨its, hits⟩ : ∃ its : Int → List It, its = fun er => [.blk q7 (.cells #[.slice a n cap] 25 (0, 0)), .blk q6 (.cells #[.pointer (some ⟨S, 0, none⟩)] 77 (0, 0)), .blk (w.heap.size + 1) (.cells #[.int .i64 er] 35 (0, 0)), .blk w.heap.size (.cells #[.slice none 0 0] 34 (0, 0)), .row (.slice a n cap) n 3 (rowC encS l) w.heap.size] := ⟨_, rfl⟩
   have HIT := Lib.hid hits
   have HS0 := Lib.hid (show St w (its 0) w5 by rw [HIT.out]; exact HS.out)
   have hS5 : S < w5.heap.size := block_lt HSS.out
   have hw15 : w.heap.size + 1 + 1 ≤ S := HS2.out (.blk (w.heap.size + 1) _) (by simp; rfl)
   have hq67 : q6 < q7 := by have h := HS.out.ord; simp [ItOrd, It.top] at h; omega
   obtain ⟨bs, hbs⟩ : ∃ bs : List Nat, bs = q7 :: aBlk a := ⟨_, rfl⟩
   have hbw : ∀ b ∈ bs, b = q7 ∨ b < w.heap.size := by
    rw [hbs]; intro b hb
    rcases List.mem_cons.1 hb with h | h
    · exact .inl h
    · exact .inr (aBlk_lt HE.out b h)
   have hbs5 : ∀ b ∈ bs, b < w5.heap.size := fun b hb => by rcases hbw b hb with h | h <;> (have := HZ5.out; omega)
   have hSb : S ∉ bs := fun h => by rcases hbw S h with h | h <;> (have := HSQ.out; omega)
   obtain ⟨A, hA⟩ : ∃ A, ptsL l = A := ⟨_, rfl⟩
   have hA' : allL l = A := by unfold allL; rw [HRB.out]; exact hA
   have hit := all_iter (ownSea S) w5 (ownSea_st hS5) (fun q hq => by
    obtain ⟨cs, v, h1, h2, h3⟩ := hq
    rw [HSS.out] at h1; cases h1
    rw [seaA_waits] at h2; cases h2
    cases h3) q7 bs a n cap l HL.out (by have := HN.out; omega) A hA' hbs5 (by rw [hbs]; simp) (fun b off e => by rw [hbs]; exact List.mem_cons_of_mem _ (aBlk_mem e)) (cell_of_block (HS.out.blockAt 0 rfl) rfl) (HS.out.elems 4 rfl)
   have hsea := (SeaS.begin (y0 := w5) (pre := []) (post := []) (St.cut HSS.out) (by simp) (Turned.refl _ _)).more (bs' := bs) (fun b hb => .inr (.inr (hbs5 b hb)))
   have HAL := Lib.hid (show A.length ≤ 500000 by rw [← hA]; exact HN.out.2)
   have HF := Lib.hid (And.intro hbs5 (And.intro hSb (And.intro hS5 (And.intro hw15 hq67))))
   have hcells : ∀ er b o, .blk b o ∈ its er → o.isCells = true := by
    rw [hits]
    intro er b o hb
    simp at hb
    rcases hb with ⟨_, rfl⟩ | ⟨_, rfl⟩ | ⟨_, rfl⟩ | ⟨_, rfl⟩ <;> rfl
   have HFREE := Lib.hid (show ∀ (er : Int) (v : Value), (∀ j, v.ownBlock = some j → w5.heap.size ≤ j) → ∀ i ∈ its er, i.free (fun j => j = S ∨ v.ownBlock = some j) by
    rw [hits]
    intro er v hv i hi
    have := HZ5.out
    have := HSQ.out
    have := HWS.out
    simp at hi
    rcases hi with rfl | rfl | rfl | rfl | rfl <;> simp only [It.free]
    · rintro (h | h)
      · omega
      · have := hv _ h; omega
    · rintro (h | h)
      · omega
      · have := hv _ h; omega
    · rintro (h | h)
      · omega
      · have := hv _ h; omega
    · rintro (h | h)
      · omega
      · have := hv _ h; omega
    · rintro k (h | h)
      · omega
      · have := hv _ h; omega)
   have hws : w.heap.size ≤ w5.heap.size := HS.out.size
   have HMAP := Lib.hid (map_fin A)
   apply with_actIn
   intro a0 ha0
   refine range_iterO hit (by omega) (ownSea_st hS5) (by rw [ha0]; rfl) (enters_of Try.func57 (by kernel_rfl) rfl) hbs5 (fun _ => rfl) (fun x => [(19, (A[x.1]).val)]) (fun _ => by simp)
    (fun pre X => (∃ v, SeaS w5 [] [] bs w5.heap.size S c (8 * (C.wide : Int)) (8 * (C.high : Int)) (metAll (pre.map fun i => A[i.1])) v X) ∧ St w (its 0) X ∧ w5.heap.size ≤ X.heap.size ∧ ∀ x ∈ pre, onC C (A[x.1]) = true)
    (fun c' pre X => c' = .ret ∧ St w (its 4) X ∧ ∃ x ∈ pre, onC C (A[x.1]) = false)
    (OwnFrom.and (ownFrom_SeaS (pre := []) (post := []) _ hS5 (by rw [cutW_size (Nat.le_of_lt hS5)]; omega) (Nat.le_refl _) (by simp)) (OwnFrom.and (ownFrom_St (fun _ => its 0) hws (fun _ => hcells 0)) (OwnFrom.and (ownFrom_size _) (ownFrom_pure _ _))))
    (fun c' => OwnFrom.and (ownFrom_pure _ _) (OwnFrom.and (ownFrom_St (fun _ => its 4) hws (fun _ => hcells 4)) (ownFrom_pure _ _))) ⟨⟨_, hsea⟩, HS0.out, Nat.le_refl _, by simp⟩
    (fun z a' X => ∃ p, a' = loopAct a0 [(19, (A[z.1]).val), (7, .pointer (some ⟨p, 0, none⟩))] ∧ X.heap[p]? = some (.cells #[.int .i64 (A[z.1]).x, .int .i64 (A[z.1]).y] 41 (0, 0))) ?hAx ?assign ?body ?done ?stop
   case hAx =>
    rintro z a' s X Y row ⟨p, e, hp⟩ hg hr
    exact ⟨p, e, (grownBy_keeps_cells hg (fun r e => (hr r e).2) hp rfl).trans hp⟩
   case assign =>
    rintro ly pre z X K ⟨⟨v', hI⟩, hst, hlt5, hon⟩ hK
    have HK := Lib.hid hK
    have HI := Lib.hid hI
    have HST := Lib.hid hst
    have HO := Lib.hid hon
    clear hK hI hst hon
    rw [ha0] at HK ⊢
    unfold loopAct at HK ⊢
    simp only [PtT.val, List.foldl, List.setIfInBounds_toArray, List.set_cons_succ, List.set_cons_zero] at HK ⊢
    gi_wp2
    have hb := (Below.refl X.heap.size X).alloc (Nat.le_refl _) (.cells #[.int .i64 (A[z.1]).x, .int .i64 (A[z.1]).y] 41)
    exact HK.out _ _ (keepsFrom_below hb) (KO.of_below (ownSea_st HF.out.2.2.1) hb hlt5 (fun c hc => Nat.lt_of_lt_of_le (HF.out.1 c hc) hlt5)) ⟨⟨v', HI.out.below hb⟩, HST.out.below hb, Nat.le_trans hlt5 hb.size, HO.out⟩ ⟨X.heap.size, rfl, World.alloc_heap_new X _⟩
   case body =>
    rintro ly pre z a' X ⟨⟨v', hI⟩, hst, hlt5, hon⟩ ⟨p7, rfl, hp7⟩ hlen
    obtain ⟨nn, hnn⟩ : ∃ nn, A[z.1] = nn := ⟨_, rfl⟩
    have HNN := Lib.hid hnn
    have HMA := Lib.hid (show metAll ((pre ++ [z]).map fun i => A[i.1]) = (metAll (pre.map fun i => A[i.1])).meet nn 0 by rw [List.map_append, List.map_singleton, metAll_app, hnn])
    have HML := Lib.hid (show (metAll (pre.map fun i => A[i.1])).l.length < 1000000 by
     have h1 := metAll_len (pre.map fun i => A[i.1])
     rw [List.length_map] at h1
     have := HAL.out
     omega)
    rw [hnn] at hp7 ⊢
    rw [ha0]
    unfold loopAct
    simp only [PtT.val, List.foldl, List.setIfInBounds_toArray, List.set_cons_succ, List.set_cons_zero]
    have HI := Lib.hid hI
    have HST0 := Lib.hid hst
    rw [HIT.out] at hst
    have HS := Lib.hid hst
    have HP7 := Lib.hid hp7
    have HL5 := Lib.hid hlt5
    have HALL := Lib.hid hon
    have b1 := cell_of_block (k := 0) (hst.blockAt 1 rfl) rfl
    have k0 := cell_of_block (k := 0) hp7 rfl
    have k1 := cell_of_block (k := 1) hp7 rfl
    have HON := Lib.hid (show Calls _ _ _ _ (Gives (.bool (onC C nn)) X) from on_any S _ _ nn X (cell_of_block hI.at_ (seaA_1 _ _ _ _ _)) (cell_of_block hI.at_ (seaA_2 _ _ _ _ _)))
    obtain ⟨ob, hob⟩ : ∃ ob, onC C nn = ob := ⟨_, rfl⟩
    rw [hob] at HON
    have HOB := Lib.hid hob
    unfold PtT.val at HON
    clear hnn hI hst hp7 hlt5 hon hob hits ha0 hit hsea hcells
    gi_wp2_with fail
    clear b1 k0 k1
    refine ((callsIn_wide.2 HON.out).inRound ly).mono ?_
    rintro e X2 ⟨rfl, hb⟩
    have HB2 := Lib.hid hb
    have HI2 := Lib.hid (HI.out.below hb)
    have HS := Lib.hid (HS.out.below hb)
    have HST2 := Lib.hid (HST0.out.below hb)
    have HP2 := Lib.hid ((hb.block _ (block_lt HP7.out)).trans HP7.out)
    clear hb HON
    cases ob
    · have a0 := cell_of_block (k := 0) (HS.out.blockAt 3 rfl) rfl
      have fa := free_of_block (HS.out.blockAt 3 rfl) 0
      have b0 := cell_of_block (k := 0) (HS.out.blockAt 2 rfl) rfl
      have fb := free_of_block (HS.out.blockAt 2 rfl) 0
      gi_wp2
      have h1 := HS.out.putAt (pre := [_, _, _]) (by intro i hi; simp at hi; rcases hi with rfl | rfl | rfl <;> exact ⟨_, _, rfl⟩) 0 (.slice none 0 0) rfl
      have h2 := St.putAt (pre := [_, _]) h1 (by intro i hi; simp at hi; rcases hi with rfl | rfl <;> exact ⟨_, _, rfl⟩) 0 (.int .i64 4) rfl
      simp only [List.nil_append, List.cons_append] at h2
      refine ⟨((show KeepsOthers X X2 from ⟨HB2.out.size, fun j o hj _ => (HB2.out.block j (block_lt hj)).trans hj⟩).trans ((KeepsOthers.setCell _ _ _).trans (KeepsOthers.setCell _ _ _))).from _, rfl, ?_, z, by simp, by rw [HNN.out]; exact HOB.out⟩
      first | exact h2 | (rw [HIT.out]; exact h2)
    · have b1 := cell_of_block (k := 0) (HS.out.blockAt 1 rfl) rfl
      have k0 := cell_of_block (k := 0) HP2.out rfl
      have k1 := cell_of_block (k := 1) HP2.out rfl
      have hbs2 : ∀ b ∈ bs, b < X2.heap.size := fun b hb => Nat.lt_of_lt_of_le (HF.out.1 b hb) (Nat.le_trans HL5.out HB2.out.size)
      have HBS := Lib.hid hbs2
      have MEET := Lib.hid (meet_any w5 _ _ bs _ S c _ _ _ v' X2 HI2.out hbs2 (by have := HCA.out.ok.wide; omega) (by have := HCA.out.ok.high; omega) nn HOB.out 0 (by decide) HML.out)
      unfold PtT.val at MEET
      clear hbs2
      gi_wp2_with fail
      refine ((callsIn_wide.2 MEET.out).inRound ly).mono ?_
      rintro e X3 ⟨rfl, ⟨v2, hs2, hloc⟩, ht2⟩
      have hko := HI2.out.ko (N0 := w5.heap.size) hs2 HBS.out HF.out.2.1 HF.out.2.2.1 ht2 hloc
      have hot := (HI2.out.keeps HBS.out HF.out.2.1 ht2).2
      have hown : ∀ j, v'.ownBlock = some j → w5.heap.size ≤ j := fun j hj => (HI2.out.o.row.lt j hj).1
      have hst3 := HST2.out.turned ht2 (fun k hk => by
       rcases hk with h | h
       · have := HWS.out; omega
       · have := hown k h; have := HF.out.2.2.1; have := HWS.out; omega) (HFREE.out 0 v' hown)
      have HR := Lib.hid (And.intro hko (And.intro hot (And.intro hst3 (And.intro hs2 ht2.size))))
      clear hko hot hown hst3 hs2 hloc ht2 MEET b1 k0 k1
      gi_wp2
      refine ⟨((show KeepsOthers X X2 from ⟨HB2.out.size, fun j o hj _ => (HB2.out.block j (block_lt hj)).trans hj⟩).trans HR.out.2.1).from _, (KO.of_below (ownSea_st HF.out.2.2.1) HB2.out HL5.out (fun c hc => Nat.lt_of_lt_of_le (HF.out.1 c hc) HL5.out)).trans HR.out.1, ⟨v2, by rw [HMA.out]; exact HR.out.2.2.2.1⟩, HR.out.2.2.1, Nat.le_trans HL5.out (Nat.le_trans HB2.out.size HR.out.2.2.2.2), fun x hx => ?_⟩
      rcases List.mem_append.1 hx with h | h
      · exact HALL.out x h
      · rw [List.mem_singleton.1 h, HNN.out]; exact HOB.out
   case done =>
    rintro D X hD ⟨⟨v', hI⟩, hst, hlt5, hon⟩ hK
    rw [ha0]
    dsimp only
    rw [HMAP.out, ← hA] at hI
    have hall : (ptsL l).all (onC C) = true := by
     rw [List.all_eq_true, hA]
     intro q hq
     obtain ⟨i, hi, e⟩ := List.mem_iff_getElem.1 hq
     have := hon ⟨i, hi⟩ (List.mem_finRange _)
     rwa [e] at this
    rw [HIT.out] at hst
    have HS := Lib.hid hst
    have HAT := Lib.hid hall
    have HDK := Lib.hid hK
    have HD := Lib.hid (show w.heap.size + 1 < D by have := HZ5.out; have := HSQ.out; omega)
    have e1 : ((8 * C.wide : Nat) : Int) = 8 * (C.wide : Int) := by omega
    have e2 : ((8 * C.high : Nat) : Int) = 8 * (C.high : Int) := by omega
    have hw32 : 8 * C.wide ≤ 32 := by have := HCA.out.ok.wide; omega
    have hh32 : 8 * C.high ≤ 32 := by have := HCA.out.ok.high; omega
    have hb6 := hst.blockAt 1 rfl
    have hgath := gath_rim S (8 * C.wide) (8 * C.high) hw32 hh32 (.pointer (some ⟨q6, 0, none⟩)) (rimI C l)
     (fun _ x => x.heap[S]? = some (seaO c (8 * (C.wide : Int)) (8 * (C.high : Int)) (metAll (ptsL l)).m v') ∧ x.heap[q6]? = some (.cells #[.pointer (some ⟨S, 0, none⟩)] 77 (0, 0))) X (block_lt hI.at_)
     (fun i x h => by
      rw [e1, e2]
      exact ⟨cell_of_block h.1 (seaA_1 _ _ _ _ _), cell_of_block h.1 (seaA_2 _ _ _ _ _)⟩)
     (fun i x y h hk => ⟨(hk _ (block_lt hI.at_)).trans h.1, (hk _ (block_lt hb6)).trans h.2⟩)
     (fun x y wr' hx hy h _ => (rim_cl q6 S c (8 * (C.wide : Int)) (8 * (C.high : Int)) (by omega) (by omega) (metAll (ptsL l)).m v' x y (onB_iff.2 ⟨⟨by simp only; omega, by simp only; omega⟩, by simp only; omega, by simp only; omega⟩) wr' (cell_of_block (k := 0) h.2 rfl) h.1).mono (by
      rintro e w' ⟨rfl, hb⟩
      exact ⟨by unfold rimI; rw [ptK_at hx], ⟨(hb.block S (block_lt h.1)).trans h.1, (hb.block _ (block_lt h.2)).trans h.2⟩, (Turned.refl _ _).belowT hb⟩))
     ⟨hI.at_, hb6⟩
    have HG := Lib.hid hgath
    have b1 := cell_of_block (k := 0) hb6 rfl
    have HSX := Lib.hid (block_lt hI.at_)
    clear hgath e1 e2 hw32 hh32 hb6 hI hst hlt5 hon hK hall hits ha0 hit hsea hcells
    gi_wp2_with fail
    clear b1
    refine (callsIn_wide.2 HG.out).mono ?_
    rintro e X2 ⟨u, rfl, hr, -, htu⟩
    have hst2 := HS.out.turned htu (fun k hk => by rw [hk]; exact HWS.out) (by
     intro i hi
     have := HSQ.out
     have := HF.out.2.2.2.1
     have := HF.out.2.2.2.2
     have := HWS.out
     simp at hi
     rcases hi with rfl | rfl | rfl | rfl | rfl <;> simp only [It.free] <;> omega)
    have hd2 := (htu.block D (block_lt HDK.out) (by have := HF.out.2.2.1; omega)).trans HDK.out
    have HST := Lib.hid hst2
    have HDK := Lib.hid hd2
    have HR := Lib.hid hr
    have a0 := cell_of_block (k := 0) (hst2.blockAt 3 rfl) rfl
    have fa := free_of_block (hst2.blockAt 3 rfl) 0
    have b0 := cell_of_block (k := 0) (hst2.blockAt 2 rfl) rfl
    have fb := free_of_block (hst2.blockAt 2 rfl) 0
    obtain ⟨ua, un, uc, rfl⟩ : ∃ ua un uc, u = .slice ua un uc := by
     rcases hr.2 with ⟨h1, h0⟩ | ⟨g, cp, cur, h1, _⟩
     · exact ⟨none, 0, 0, h1⟩
     · exact ⟨_, _, _, h1⟩
    clear hst2 hd2 hr htu HG
    gi_wp2
    have h1 := HST.out.putAt (pre := [_, _, _]) (by intro i hi; simp at hi; rcases hi with rfl | rfl | rfl <;> exact ⟨_, _, rfl⟩) 0 (.slice ua un uc) rfl
    have h2 := St.putAt (pre := [_, _]) h1 (by intro i hi; simp at hi; rcases hi with rfl | rfl <;> exact ⟨_, _, rfl⟩) 0 (.int .i64 0) rfl
    simp only [List.nil_append, List.cons_append] at h2
    have hko := (KeepsOthers.setCell X2 ⟨w.heap.size, 0, none⟩ (.slice ua un uc)).trans (KeepsOthers.setCell (X2.setCell ⟨w.heap.size, 0, none⟩ (.slice ua un uc)) ⟨w.heap.size + 1, 0, none⟩ (.int .i64 0))
    have hd3 := hko.same D _ HDK.out rfl
    have hr3 := ownsRow_kept2 HR.out (p := w.heap.size) (q := w.heap.size + 1) (u := .slice ua un uc) (u2 := .int .i64 0) (by have := HF.out.2.2.1; have := HF.out.2.2.2.1; have := HSX.out; omega) (by have := HF.out.2.2.1; have := HF.out.2.2.2.1; have := HSX.out; omega)
    generalize (X2.setCell ⟨w.heap.size, 0, none⟩ (.slice ua un uc)).setCell ⟨w.heap.size + 1, 0, none⟩ (.int .i64 0) = X3 at h2 hd3 hr3 ⊢
    have hn1 : w.heap.size ∉ [D] := by have := HD.out; simp; omega
    have hn2 : w.heap.size + 1 ∉ [D] := by have := HD.out; simp; omega
    refine ret_marks (lo := w.heap.size) (Ds := [D]) (v := .tuple #[.slice ua un uc, .int .i64 0]) rfl ⟨by simp, fun E hE => ?_⟩ (fun W' ht => ⟨?_, .slice ua un uc, by unfold rimE; rw [HRB.out, HAT.out]; rfl, ?_, h2.low.trans (ht.below h2.size fun k hk => ?_)⟩)
    · rw [List.mem_singleton.1 hE]; exact ⟨by have := HD.out; omega, hd3⟩
    · have c0 := cell_of_block (k := 0) ((ht.block _ (h2.lt 3 rfl) hn1).trans (h2.blockAt 3 rfl)) rfl
      have c1 := cell_of_block (k := 0) ((ht.block _ (h2.lt 2 rfl) hn2).trans (h2.blockAt 2 rfl)) rfl
      simp [results, Try.results8, go_sem, c0, c1]
    · rw [show rimR C l = gathL (8 * C.wide) (rimI C l) (8 * C.high * (8 * C.wide)) by unfold rimR rimOk; rw [HRB.out, HAT.out]; rfl]
      refine ownsRow_mono (ownsRow_turned hr3 ht (fun j cur hj hm => ?_)) HS.out.size
      rw [List.mem_singleton.1 hm, hd3] at hj; cases hj
    · rw [List.mem_singleton.1 hk]; have := HD.out; omega
   case stop =>
    rintro D c' pre X hD hpre ⟨rfl, hst, x, hx, hox⟩ hK
    rw [ha0]
    dsimp only
    rw [HIT.out] at hst
    have k0 := cell_of_block (k := 0) (hst.blockAt 3 rfl) rfl
    have k1 := cell_of_block (k := 0) (hst.blockAt 2 rfl) rfl
    have hno : (ptsL l).all (onC C) = false := by
     rw [hA, List.all_eq_false]
     exact ⟨A[x.1], List.getElem_mem _, by rw [hox]; simp⟩
    have h1 : w.heap.size + 1 < D := by have := HZ5.out; have := HSQ.out; omega
    have HST := Lib.hid hst
    have HNO := Lib.hid hno
    have HDK := Lib.hid hK
    have HD := Lib.hid h1
    clear hst k0 k1 hno h1 hx hox hK hits ha0 hit hsea hcells
    gi_wp2
    have hn1 : w.heap.size ∉ [D] := by have := HD.out; simp; omega
    have hn2 : w.heap.size + 1 ∉ [D] := by have := HD.out; simp; omega
    refine ret_marks (lo := w.heap.size) (Ds := [D]) (v := .tuple #[.slice none 0 0, .int .i64 4]) rfl ⟨by simp, fun E hE => ?_⟩ (fun W' ht => ⟨?_, .slice none 0 0, by unfold rimE; rw [HRB.out, HNO.out]; rfl, ?_, HST.out.low.trans (ht.below HST.out.size fun k hk => ?_)⟩)
    · rw [List.mem_singleton.1 hE]; exact ⟨by have := HD.out; omega, HDK.out⟩
    · have c0 := cell_of_block (k := 0) ((ht.block _ (HST.out.lt 3 rfl) hn1).trans (HST.out.blockAt 3 rfl)) rfl
      have c1 := cell_of_block (k := 0) ((ht.block _ (HST.out.lt 2 rfl) hn2).trans (HST.out.blockAt 2 rfl)) rfl
      simp [results, Try.results8, go_sem, c0, c1]
    · rw [show rimR C l = [] by unfold rimR rimOk; rw [HRB.out, HNO.out]; rfl]
      exact World.ownsRow_nil _ _ _ _
    · rw [List.mem_singleton.1 hk]; have := HD.out; omega
end Go.Proofs.Ytodpkgbpcpfamaa

/- shape: the pen's step. -/
namespace Go.Proofs.Ytodpkgbpcpfamaa
set_option linter.unusedSimpArgs false
set_option linter.unusedVariables false
open Go.RowKit Go.Shelf
end Go.Proofs.Ytodpkgbpcpfamaa

/- shape.Line. -/
namespace Go.Proofs.Ytodpkgbpcpfamaa
set_option linter.unusedSimpArgs false
set_option linter.unusedVariables false
open Go.RowKit Go.Shelf
section
variable {α : Type} {w0 x y : World} {its : List It} {base : Nat} {e : TypeId} {k : Nat} {enc : α → List Value} {v : Value} {L : List α}
/-- A row of one element. -/
theorem StO.one (h : St w0 its x) (e : TypeId) (enc : α → List Value) (q : α) (hk : (enc q).length = k) : StO w0 its x.heap.size e k enc (.slice (some ⟨x.heap.size, 0, none⟩) 1 1) [q] (x.alloc (.cells (enc q).toArray e (0, 0))) := by
 refine ⟨h.below ((Below.refl _ _).alloc (Nat.le_refl _) _), ⟨by simp [hk], .inr ⟨x.heap.size, 1, (enc q).toArray, rfl, Nat.le_refl _, World.alloc_heap_new _ _, Nat.le_refl _, by decide, by simp [hk], ?_⟩⟩, h.size, h.top, by simp⟩
 simp [← hk]
/-- The newest block is written by a call. -/
theorem StO.pen {p : Nat} {o o' : Obj} (h : StO w0 (.blk p o :: its) base e k enc v L x) (ht : Turned (fun j => j = p) x y) (hp : y.heap[p]? = some o') : StO w0 (.blk p o' :: its) base e k enc v L y := by
 have hpb : p < base := h.top (.blk p o) (by simp)
 have hord := h.st.ord
 have hd : St w0 its y := h.st.drop1.turned ht (fun j hj => by rw [hj]; exact hord.1) (fun i hi => by
  have htop := hord.2.1 i hi
  cases i with
  | blk b ob => exact fun e => by simp only [It.top] at htop; omega
  | row v n s c hi' => exact fun j hj => by simp only [It.top] at htop; omega)
 refine ⟨⟨hd.low, fun i hi => ?_, ⟨hord.1, hord.2.1, hord.2.2⟩, fun i hi => ?_⟩, h.row.kept (row := some p) ⟨ht.os, ht.tape, ht.output, ht.size, fun j hj hn => ht.block j hj (fun e => hn (by rw [e]))⟩ ?_, h.low, fun i hi => ?_, Nat.le_trans h.hi ht.size⟩
 · rcases List.mem_cons.1 hi with rfl | hi
   · exact hp
   · exact hd.ok i hi
 · rcases List.mem_cons.1 hi with rfl | hi
   · exact block_lt hp
   · exact hd.top i hi
 · cases hv : v.ownBlock with
   | none => exact .inl rfl
   | some j => exact .inr (fun e => by have := (h.row.lt j hv).1; cases e; omega)
 · rcases List.mem_cons.1 hi with rfl | hi
   · exact hpb
   · exact h.top i (by simp [hi])
end

theorem LineD.start {a b : PtT} {lx ly sx sy n m : Int} (h : LineD a b lx ly sx sy n m) : linePt a b 0 = a := by
 rw [h.pt 0 (by omega) (by have := h.mle; omega), less_zero]
 simp
end Go.Proofs.Ytodpkgbpcpfamaa

/- Layer 6: Disc, Square, Union. -/
namespace Go.Proofs.Ytodpkgbpcpfamaa
set_option linter.unusedSimpArgs false
set_option linter.unusedVariables false
open Go.RowKit Go.Shelf Go.Maps
attribute [local go_sem] Oper.semAt_some

end Go.Proofs.Ytodpkgbpcpfamaa

/- Layer 6: what the statements call, as rows that are read; the rows that 'wakes' looks at. -/
namespace Go.Proofs.Ytodpkgbpcpfamaa
set_option linter.unusedSimpArgs false
set_option linter.unusedVariables false
open Go.RowKit Go.Shelf

section
variable {α : Type}
/-- A row to be read, and a code. -/
def Got (k : Nat) (enc : α → List Value) (L : List α) (n : Nat) (er : Int) (w : World) (e : Ending) (w' : World) : Prop :=
 L.length = n ∧ ∃ a cap, e = .returned (.tuple #[.slice a n cap, .int .i64 er]) ∧ Elems w' (.slice a n cap) n k (rowC enc L) ∧ Below w.heap.size w w'
theorem GivesRowE.got {k : Nat} {enc : α → List Value} (hk : ∀ q, (enc q).length = k) {E : TypeId} {L : List α} {er : Int} {w : World} {e : Ending} {w' : World} (h : GivesRowE E k L.length (L.flatMap enc) er w e w') : Got k enc L L.length er w e w' := by
 obtain ⟨v, rfl, hr, hb⟩ := h
 have he := ownsRow_rows hk hr
 obtain ⟨a, cap, rfl, -⟩ := he.shape
 exact ⟨rfl, a, cap, rfl, he, hb⟩
theorem Got.is {k : Nat} {enc : α → List Value} {L M : List α} {n : Nat} {er er' : Int} {w : World} {e : Ending} {w' : World} (h : Got k enc L L.length er w e w') (h1 : L = M) (hn : M.length = n) (h2 : er = er') : Got k enc M n er' w e w' := by
 subst h1 h2
 rw [← hn]
 exact h
theorem Elems.ofBlock {k : Nat} {enc : α → List Value} {w : World} {b : Nat} {cs : Array Value} {t : TypeId} {f : Nat × Nat} (h : w.heap[b]? = some (.cells cs t f)) (L : List α) (n cap : Nat) (hL : cs.toList = L.flatMap enc) (hn : (L.flatMap enc).length = n * k) : Elems w (.slice (some ⟨b, 0, none⟩) n cap) n k (rowC enc L) := by
 refine .inr ⟨b, 0, cap, rfl, block_lt h, fun j hj => ?_⟩
 rw [Nat.zero_add]
 refine cell_of_block h ?_
 unfold rowC
 rw [← hL, ← Array.getElem?_toList]
 have : j < cs.toList.length := by rw [hL, hn]; exact hj
 rw [List.getElem?_eq_getElem this]
 rfl
end
theorem GivesSet.got {ok : Bool} {P : PtT → Prop} {er : Int} {w : World} {e : Ending} {w' : World} (h : GivesSet ok P er w e w') : ∃ M, (ok = true → SetRow P M) ∧ (ok = false → M = []) ∧ M.length ≤ 1000000 ∧ Got 3 encS M M.length (errOf ok er) w e w' := by
 obtain ⟨M, h1, h2, h3, h4⟩ := h
 exact ⟨M, h1, h2, h3, h4.got encS_len⟩
/-- A set whose row is known. -/
theorem GivesSet.known {ok : Bool} {P : PtT → Prop} {er : Int} {w : World} {e : Ending} {w' : World} (h : GivesSet ok P er w e w') (hok : ok = true) {L : List SpT} (hL : SetRow P L) (n : Nat) (hn : L.length = n) : Got 3 encS L n 0 w e w' := by
 obtain ⟨M, h1, h2, h3, h4⟩ := h.got
 exact h4.is ((h1 hok).unique hL) hn (by rw [hok]; rfl)

theorem right_one {y f t : Int} (h : spB ⟨y, f, t⟩ = true) : rightB [(⟨y, f, t⟩ : SpT)] = true := (rightB_iff _).2 ⟨fun k hk => by
 obtain rfl : k = 0 := by simp at hk; omega
 exact h, fun k hk => by simp at hk⟩
theorem sameB_self {α : Type} [DecidableEq α] (l : List α) : sameB l l = true := by unfold sameB; simp
theorem eqP_same (s1 s2 : Value) (L : List PtT) (n : Nat) (hn : L.length = n) (w : World) (h1 : Elems w s1 n 2 (rowC encP L)) (h2 : Elems w s2 n 2 (rowC encP L)) (hl : n ≤ 1000000000 := by decide) :
 Calls Try.prog 12 #[s1, s2] w (Gives (.bool true) w) := by
 subst hn
 have := eqP_any s1 s2 L L w h1 h2 hl
 rwa [sameB_self] at this
theorem eqS_same (s1 s2 : Value) (L : List SpT) (n : Nat) (hn : L.length = n) (w : World) (h1 : Elems w s1 n 3 (rowC encS L)) (h2 : Elems w s2 n 3 (rowC encS L)) (hl : n ≤ 1000000000 := by decide) :
 Calls Try.prog 22 #[s1, s2] w (Gives (.bool true) w) := by
 subst hn
 have := eqS_any s1 s2 L L w h1 h2 hl
 rwa [sameB_self] at this
end Go.Proofs.Ytodpkgbpcpfamaa

/- Layer 6: few. -/
namespace Go.Proofs.Ytodpkgbpcpfamaa
set_option linter.unusedSimpArgs false
set_option linter.unusedVariables false
open Go.RowKit Go.Shelf

/-- A row to be read. -/
def GotR {α : Type} (k : Nat) (enc : α → List Value) (L : List α) (n : Nat) (w : World) (e : Ending) (w' : World) : Prop :=
 L.length = n ∧ ∃ a cap, e = .returned (.slice a n cap) ∧ n ≤ cap ∧ Elems w' (.slice a n cap) n k (rowC enc L) ∧ Below w.heap.size w w'
theorem Cloned.got {α : Type} {E : TypeId} {k : Nat} {enc : α → List Value} (hk : ∀ q, (enc q).length = k) {L : List α} {sv : Value} {w : World} {e : Ending} {w' : World} (h : Cloned E k L.length (L.flatMap enc) sv w e w') : GotR k enc L L.length w e w' := by
 obtain ⟨v, rfl, hr, -, hb⟩ := h
 have he := ownsRow_rows hk hr
 have hc : ∃ a cap, v = .slice a L.length cap ∧ L.length ≤ cap := by
  rcases hr.2 with ⟨rfl, h0⟩ | ⟨g, cap, cur, rfl, _, _, h1, _⟩
  · exact ⟨none, 0, by rw [h0], by omega⟩
  · exact ⟨_, cap, rfl, h1⟩
 obtain ⟨a, cap, rfl, h1⟩ := hc
 exact ⟨rfl, a, cap, rfl, h1, he, hb⟩

end Go.Proofs.Ytodpkgbpcpfamaa

/- The plain law: clipped twice. -/
namespace Go.Proofs.Ytodpkgbpcpfamaa
set_option linter.unusedSimpArgs false
set_option linter.unusedVariables false
open Go.RowKit Go.Shelf

theorem RightP.of {l : List SpT} (h1 : ∀ s ∈ l, spB s = true) (h2 : l.Pairwise ordP) : RightP l :=
 ⟨fun k h => h1 _ (List.getElem_mem h), fun k h => by
  have := List.pairwise_iff_getElem.1 h2 k (k + 1) (by omega) h (by omega)
  unfold ordB
  unfold ordP at this
  simpa using this⟩
theorem RightP.mem {l : List SpT} (h : RightP l) {s : SpT} (hs : s ∈ l) : spB s = true := by
 obtain ⟨k, hk, rfl⟩ := List.getElem_of_mem hs
 exact h.sp k hk
end Go.Proofs.Ytodpkgbpcpfamaa

/- ShapeClips: the walk. -/
namespace Go.Proofs.Ytodpkgbpcpfamaa
set_option linter.unusedSimpArgs false
set_option linter.unusedVariables false
open Go.RowKit Go.Shelf

end Go.Proofs.Ytodpkgbpcpfamaa

/- ShapeSweeps: the walk. -/
namespace Go.Proofs.Ytodpkgbpcpfamaa
set_option linter.unusedSimpArgs false
set_option linter.unusedVariables false
open Go.RowKit Go.Shelf

theorem GivesRow.got {α : Type} {k : Nat} {enc : α → List Value} (hk : ∀ q, (enc q).length = k) {E : TypeId} {L : List α} {w : World} {e : Ending} {w' : World} (h : GivesRow E k L.length (L.flatMap enc) w e w') : ∃ a cap, e = .returned (.slice a L.length cap) ∧ Elems w' (.slice a L.length cap) L.length k (rowC enc L) ∧ Below w.heap.size w w' := by
 obtain ⟨v, rfl, hr, hb⟩ := h
 have he := ownsRow_rows hk hr
 obtain ⟨a, cap, rfl, -⟩ := he.shape
 exact ⟨a, cap, rfl, he, hb⟩
theorem elems_nil {α : Type} {k : Nat} {enc : α → List Value} (w : World) : Elems w (.slice none 0 0) 0 k (rowC enc ([] : List α)) := .inl ⟨rfl, rfl⟩

end Go.Proofs.Ytodpkgbpcpfamaa

/- ShapeLines: contracts of the calls, as rows that are read; pairs of places. -/
namespace Go.Proofs.Ytodpkgbpcpfamaa
set_option linter.unusedSimpArgs false
set_option linter.unusedVariables false
open Go.RowKit Go.Shelf

theorem GivesSet.good {P : PtT → Prop} {er : Int} {w : World} {e : Ending} {w' : World} (h : GivesSet true P er w e w') : ∃ M, SetRow P M ∧ M.length ≤ 1000000 ∧ Got 3 encS M M.length 0 w e w' := by
 obtain ⟨M, h1, -, h3, h4⟩ := h.got
 exact ⟨M, h1 rfl, h3, h4⟩

end Go.Proofs.Ytodpkgbpcpfamaa

/- ShapeSteps: the plain law of lines; slices.Contains at places. -/
namespace Go.Proofs.Ytodpkgbpcpfamaa
set_option linter.unusedSimpArgs false
set_option linter.unusedVariables false
open Go.RowKit Go.Shelf

end Go.Proofs.Ytodpkgbpcpfamaa

/- ShapeUnions: the plain law. -/
namespace Go.Proofs.Ytodpkgbpcpfamaa
set_option linter.unusedSimpArgs false
set_option linter.unusedVariables false
open Go.RowKit Go.Shelf

end Go.Proofs.Ytodpkgbpcpfamaa

/- Layer 8: what Steps and Region tell together, plain. -/
namespace Go.Proofs.Ytodpkgbpcpfamaa
set_option linter.unusedSimpArgs false
set_option linter.unusedVariables false
open Go.RowKit Go.Shelf

section
variable {C : CanT} {p q : PtT} {t : Int}
end
end Go.Proofs.Ytodpkgbpcpfamaa

/- Layer 8: the chapter's canvas; wakes. -/
namespace Go.Proofs.Ytodpkgbpcpfamaa
set_option linter.unusedSimpArgs false
set_option linter.unusedVariables false
open Go.RowKit Go.Shelf
attribute [local go_sem] Oper.semAt_some

def redC : ColT := ⟨255, 0, 0, 255⟩
theorem redC_ok : okC redC := by unfold okC redC; decide
/-- The chapter's canvas. -/
def corT : CanT := ⟨1, 1, [⟨[zeroC, redC, zeroC, zeroC, zeroC, zeroC, zeroC, zeroC, redC, redC] ++ List.replicate 54 zeroC, by simp⟩]⟩
/-- Its pixel 0, 0 filled. -/
def corF : CanT := ⟨1, 1, [⟨[redC, redC, zeroC, zeroC, zeroC, zeroC, zeroC, zeroC, redC, redC] ++ List.replicate 54 zeroC, by simp⟩]⟩
set_option maxRecDepth 100000 in
theorem corT_is : setC canE redC [⟨0, 1⟩, ⟨1, 1⟩, ⟨1, 0⟩] = corT := by decide +kernel
set_option maxRecDepth 100000 in
theorem corF_is : fillC corT ⟨0, 0⟩ 0 redC = corF := by decide +kernel
set_option maxRecDepth 100000 in
theorem cor_reg : regL (placesL corT ⟨1, 0⟩ 0) = [⟨0, 1, 1⟩, ⟨1, 0, 1⟩] := by decide +kernel
set_option maxRecDepth 100000 in
theorem cor_parts : partsR corT [0, 1020] = [3, 1] := by decide +kernel
set_option maxRecDepth 100000 in
theorem cor_parts2 : partsR corF [0] = [2] := by decide +kernel
set_option maxRecDepth 100000 in
theorem cor_steps : stepsR corT ⟨1, 0⟩ ⟨0, 1⟩ 0 = (2, 0) := by decide +kernel
set_option maxRecDepth 100000 in
theorem cor_steps2 : stepsR corT ⟨0, 0⟩ ⟨1, 0⟩ 0 = (0, 4) := by decide +kernel
theorem rim_right : rightB [(⟨0, 0, 0⟩ : SpT)] = true := right_one (by decide)
set_option maxRecDepth 100000 in
theorem cor_rim : rimR corT [⟨0, 0, 0⟩] = [⟨0, 0⟩] := by
 unfold rimR rimOk
 rw [rim_right]
 decide +kernel
theorem cor_rimE : rimE corT [⟨0, 0, 0⟩] = 0 := by
 unfold rimE
 rw [rim_right]
 decide +kernel

set_option maxRecDepth 100000 in
set_option maxHeartbeats 1000000 in
theorem corner_any (w : World) : Calls Try.prog 23 #[] w (GivesC corT w) := by
 have HS := Lib.hid (St.start w)
 have HSET := Lib.hid (fun (p : Nat) (a : Option Addr) (w' : World) h he => set_any canE p redC redC_ok a 3 3 [⟨0, 1⟩, ⟨1, 1⟩, ⟨1, 0⟩] rfl (by decide) w' h he)
 rw [corT_is] at HSET
 unfold ColT.val redC at HSET
 simp only at HSET
 go_enter Try.func23, Try.ntmps23
 go_wp2_with fail
 refine (new_any w).mono ?_
 rintro e w1 ⟨p, rfl, hc, hp, hb⟩
 have HS := Lib.hid (HS.out.below hb)
 have HC := Lib.hid hc
 clear hc hp hb
 go_wp2_with fail
 have hs_ := HS.out.alloc (.cells #[.int .i64 0, .int .i64 1, .int .i64 1, .int .i64 1, .int .i64 1, .int .i64 0] 41)
 have hk_HC := HC.out.below ((Below.refl _ _).alloc (Nat.le_refl _) (.cells #[.int .i64 0, .int .i64 1, .int .i64 1, .int .i64 1, .int .i64 1, .int .i64 0] 41))
 obtain ⟨w2, hw_⟩ : ∃ w2 : World, w1.alloc (.cells #[.int .i64 0, .int .i64 1, .int .i64 1, .int .i64 1, .int .i64 1, .int .i64 0] 41) = w2 := ⟨_, rfl⟩
 rw [hw_] at hs_ hk_HC
 have HS := Lib.hid hs_
 have HC := Lib.hid hk_HC
 rw [hw_]
 clear hw_ hs_ hk_HC
 refine (HSET.out p _ _ HC.out (Elems.ofBlock (HS.out.blockAt 0 rfl) _ _ _ rfl rfl)).mono ?_
 rintro e w3 ⟨p', rfl, hc3, hp3, hb3⟩
 have HR := Lib.hid (And.intro hc3 (And.intro (Nat.le_trans HS.out.size hp3) (HS.out.low.trans (hb3.mono HS.out.size))))
 clear hc3 hp3 hb3
 go_wp2_with fail
 go_ret
 exact ⟨p', rfl, HR.out⟩

theorem wk_reg (p : Nat) (w : World) (h : CanAt w p corT) : Calls Try.prog 16 #[.pointer (some ⟨p, 0, none⟩), .agg #[.int .i64 1, .int .i64 0], .int .i64 0] w (Got 3 encS [⟨0, 1, 1⟩, ⟨1, 0, 1⟩] 2 0 w) :=
 (region_good corT p ⟨1, 0⟩ 0 w h (by decide)).mono fun _ _ h => (h.got encS_len).is cor_reg rfl rfl
theorem wk_reg2 (p : Nat) (w : World) (h : CanAt w p corT) : Calls Try.prog 16 #[.pointer (some ⟨p, 0, none⟩), .agg #[.int .i64 1, .int .i64 0], .int .i64 (-1)] w (Gives (.tuple #[.slice none 0 0, .int .i64 2]) w) :=
 region_bad corT p ⟨1, 0⟩ (-1) w h (by decide)
theorem wk_parts (p : Nat) (a : Option Addr) (cap : Nat) (w : World) (h : CanAt w p corT) (he : Elems w (.slice a 2 cap) 2 1 (rowC encI [0, 1020])) : Calls Try.prog 24 #[.pointer (some ⟨p, 0, none⟩), .slice a 2 cap] w (Got 1 encI [3, 1] 2 0 w) :=
 (flParts_any corT p a 2 cap [0, 1020] rfl (by decide) w h he).mono fun _ _ h => (h.got encI_len).is cor_parts rfl rfl
theorem wk_parts2 (p : Nat) (a : Option Addr) (cap : Nat) (w : World) (h : CanAt w p corF) (he : Elems w (.slice a 1 cap) 1 1 (rowC encI [0])) : Calls Try.prog 24 #[.pointer (some ⟨p, 0, none⟩), .slice a 1 cap] w (Got 1 encI [2] 1 0 w) :=
 (flParts_any corF p a 1 cap [0] rfl (by decide) w h he).mono fun _ _ h => (h.got encI_len).is cor_parts2 rfl rfl
theorem wk_steps (p : Nat) (w : World) (h : CanAt w p corT) : Calls Try.prog 13 #[.pointer (some ⟨p, 0, none⟩), .agg #[.int .i64 1, .int .i64 0], .agg #[.int .i64 0, .int .i64 1], .int .i64 0] w (Gives (.tuple #[.int .i64 2, .int .i64 0]) w) := by
 have := steps_any corT p ⟨1, 0⟩ ⟨0, 1⟩ 0 w h
 rw [cor_steps] at this
 exact this
theorem wk_steps2 (p : Nat) (w : World) (h : CanAt w p corT) : Calls Try.prog 13 #[.pointer (some ⟨p, 0, none⟩), .agg #[.int .i64 0, .int .i64 0], .agg #[.int .i64 1, .int .i64 0], .int .i64 0] w (Gives (.tuple #[.int .i64 0, .int .i64 4]) w) := by
 have := steps_any corT p ⟨0, 0⟩ ⟨1, 0⟩ 0 w h
 rw [cor_steps2] at this
 exact this
theorem wk_rim (p : Nat) (a : Option Addr) (cap : Nat) (w : World) (h : CanAt w p corT) (he : Elems w (.slice a 1 cap) 1 3 (rowC encS [⟨0, 0, 0⟩])) : Calls Try.prog 8 #[.pointer (some ⟨p, 0, none⟩), .slice a 1 cap] w (Got 2 encP [⟨0, 0⟩] 1 0 w) :=
 (rim_any corT p a 1 cap [⟨0, 0, 0⟩] rfl (by decide) (by decide) w h he).mono fun _ _ h => (h.got encP_len).is cor_rim rfl cor_rimE
theorem wk_fill (p : Nat) (w : World) (h : CanAt w p corT) : Calls Try.prog 17 #[.pointer (some ⟨p, 0, none⟩), .agg #[.int .i64 0, .int .i64 0], .int .i64 0, .agg #[.int .u8 255, .int .u8 0, .int .u8 0, .int .u8 255]] w (GivesCan corF w) := by
 have := fill_good corT p ⟨0, 0⟩ 0 redC redC_ok w h (by decide)
 rw [corF_is] at this
 exact this
theorem eqI_same (a1 a2 : Option Addr) (n c d : Nat) (L : List Int) (hL : L.length = n) (w : World) (h1 : Elems w (.slice a1 n c) n 1 (rowC encI L)) (h2 : Elems w (.slice a2 n d) n 1 (rowC encI L)) (hn : n ≤ 1000000 := by decide) :
 Calls Try.prog 25 #[.slice a1 n c, .slice a2 n d] w (Gives (.bool true) w) := by
 have := eqI_any a1 a2 n n c d L L hL hL hn w h1 h2
 rwa [decide_eq_true rfl] at this

set_option maxRecDepth 100000 in
set_option maxHeartbeats 4000000 in
theorem flWakes_any (w : World) : Calls Try.prog 5 #[] w (Gives (.bool true) w) := by
 have HS := Lib.hid (St.start w)
 go_enter Try.func5, Try.ntmps5
 go_wp2_with fail
 refine (corner_any w).mono ?_
 rintro e w1 ⟨p, rfl, hc, -, hb⟩
 have HS := Lib.hid (HS.out.below hb)
 have HC := Lib.hid hc
 clear hc hb
 repeat ((fail_if_success (with_reducible refine stop_at (id := 3) ?_)); (first | go_values | go_skip | go_guarded | go_step | go_upon | go_back | (simp only [Int.not_lt, Int.not_le] at *; go_simp) | (go_values <;> (try go_simp)) | (go_ite <;> go_prune <;> (try go_simp)) | (split <;> (first | (rename_i hx; exact (hx _ rfl).elim) | go_prune))))
 have hs_ := HS.out.alloc (.cells #[.int .i64 1, .int .i64 0] 41)
 have hk_HC := HC.out.below ((Below.refl _ _).alloc (Nat.le_refl _) (.cells #[.int .i64 1, .int .i64 0] 41))
 obtain ⟨w2, hw_⟩ : ∃ w2 : World, w1.alloc (.cells #[.int .i64 1, .int .i64 0] 41) = w2 := ⟨_, rfl⟩
 rw [hw_] at hs_ hk_HC
 have HS := Lib.hid hs_
 have HC := Lib.hid hk_HC
 rw [hw_]
 clear hw_ hs_ hk_HC
 have k0 := cell_of_block (k := 0) (HS.out.blockAt 0 rfl) rfl
 have k1 := cell_of_block (k := 1) (HS.out.blockAt 0 rfl) rfl
 go_wp2_with fail
 clear k0 k1
 refine (wk_reg p _ HC.out).mono ?_
 rintro e w3 ⟨-, a3, c3, rfl, he_, hb_⟩
 have HS := Lib.hid ((HS.out.below hb_).addRow he_)
 have HC := Lib.hid (HC.out.below hb_)
 clear hb_ he_
 go_wp2_with fail
 have hs_ := HS.out.alloc (.cells #[.int .i64 0, .int .i64 1020] 3)
 have hk_HC := HC.out.below ((Below.refl _ _).alloc (Nat.le_refl _) (.cells #[.int .i64 0, .int .i64 1020] 3))
 obtain ⟨w4, hw_⟩ : ∃ w4 : World, w3.alloc (.cells #[.int .i64 0, .int .i64 1020] 3) = w4 := ⟨_, rfl⟩
 rw [hw_] at hs_ hk_HC
 have HS := Lib.hid hs_
 have HC := Lib.hid hk_HC
 rw [hw_]
 clear hw_ hs_ hk_HC
 refine (wk_parts p _ _ _ HC.out (Elems.ofBlock (HS.out.blockAt 0 rfl) _ _ _ rfl rfl)).mono ?_
 rintro e w5 ⟨-, a5, c5, rfl, he_, hb_⟩
 have HS := Lib.hid ((HS.out.below hb_).addRow he_)
 have HC := Lib.hid (HC.out.below hb_)
 clear hb_ he_
 have k0 := cell_of_block (k := 0) (HS.out.blockAt 3 rfl) rfl
 have k1 := cell_of_block (k := 1) (HS.out.blockAt 3 rfl) rfl
 go_wp2_with fail
 clear k0 k1
 refine (wk_steps p _ HC.out).mono ?_
 rintro e w6 ⟨rfl, hb_⟩
 have HS := Lib.hid (HS.out.below hb_)
 have HC := Lib.hid (HC.out.below hb_)
 clear hb_
 have k0 := cell_of_block (k := 0) (HS.out.blockAt 3 rfl) rfl
 have k1 := cell_of_block (k := 1) (HS.out.blockAt 3 rfl) rfl
 go_wp2_with fail
 clear k0 k1
 refine (wk_steps2 p _ HC.out).mono ?_
 rintro e w7 ⟨rfl, hb_⟩
 have HS := Lib.hid (HS.out.below hb_)
 have HC := Lib.hid (HC.out.below hb_)
 clear hb_
 go_wp2_with fail
 have hs_ := HS.out.alloc (.cells #[.int .i64 0, .int .i64 0, .int .i64 0] 33)
 have hk_HC := HC.out.below ((Below.refl _ _).alloc (Nat.le_refl _) (.cells #[.int .i64 0, .int .i64 0, .int .i64 0] 33))
 obtain ⟨w8, hw_⟩ : ∃ w8 : World, w7.alloc (.cells #[.int .i64 0, .int .i64 0, .int .i64 0] 33) = w8 := ⟨_, rfl⟩
 rw [hw_] at hs_ hk_HC
 have HS := Lib.hid hs_
 have HC := Lib.hid hk_HC
 rw [hw_]
 clear hw_ hs_ hk_HC
 refine (wk_rim p _ _ _ HC.out (Elems.ofBlock (HS.out.blockAt 0 rfl) _ _ _ rfl rfl)).mono ?_
 rintro e w9 ⟨-, a9, c9, rfl, he_, hb_⟩
 have HS := Lib.hid ((HS.out.below hb_).addRow he_)
 have HC := Lib.hid (HC.out.below hb_)
 clear hb_ he_
 have k0 := cell_of_block (k := 0) (HS.out.blockAt 5 rfl) rfl
 have k1 := cell_of_block (k := 1) (HS.out.blockAt 5 rfl) rfl
 go_wp2_with fail
 clear k0 k1
 refine (wk_reg2 p _ HC.out).mono ?_
 rintro e w10 ⟨rfl, hb_⟩
 have HS := Lib.hid (HS.out.below hb_)
 have HC := Lib.hid (HC.out.below hb_)
 clear hb_
 go_wp2_with fail
 refine (wk_fill p _ HC.out).mono ?_
 rintro e w11 ⟨p2, rfl, hc2, -, hb2⟩
 have HS := Lib.hid (HS.out.below hb2)
 have HC := Lib.hid hc2
 clear hc2 hb2
 go_wp2_with fail
 have hs_ := HS.out.alloc (.cells #[.int .i64 0] 3)
 have hk_HC := HC.out.below ((Below.refl _ _).alloc (Nat.le_refl _) (.cells #[.int .i64 0] 3))
 obtain ⟨w12, hw_⟩ : ∃ w12 : World, w11.alloc (.cells #[.int .i64 0] 3) = w12 := ⟨_, rfl⟩
 rw [hw_] at hs_ hk_HC
 have HS := Lib.hid hs_
 have HC := Lib.hid hk_HC
 rw [hw_]
 clear hw_ hs_ hk_HC
 refine (wk_parts2 p2 _ _ _ HC.out (Elems.ofBlock (HS.out.blockAt 0 rfl) _ _ _ rfl rfl)).mono ?_
 rintro e w13 ⟨-, a13, c13, rfl, he_, hb_⟩
 have HS := Lib.hid ((HS.out.below hb_).addRow he_)
 have HC := Lib.hid (HC.out.below hb_)
 clear hb_ he_
 go_wp2_with fail
 have hs_ := (HS.out.alloc (.cells #[.int .i64 0, .int .i64 1, .int .i64 1, .int .i64 1, .int .i64 0, .int .i64 1] 33))
 obtain ⟨w14, hw_⟩ : ∃ w14 : World, (w13.alloc (.cells #[.int .i64 0, .int .i64 1, .int .i64 1, .int .i64 1, .int .i64 0, .int .i64 1] 33)) = w14 := ⟨_, rfl⟩
 rw [hw_] at hs_
 try simp only [World.size_alloc] at hs_
 have HS := Lib.hid hs_
 rw [hw_]
 clear hw_ hs_
 refine (eqS_same _ _ [⟨0, 1, 1⟩, ⟨1, 0, 1⟩] 2 rfl _ (HS.out.elems 7 rfl) (Elems.ofBlock (HS.out.blockAt 0 rfl) _ _ _ rfl rfl)).mono ?_
 rintro e w15 ⟨rfl, hb_⟩
 have HS := Lib.hid (HS.out.below hb_)
 clear hb_
 go_wp2_with fail
 have hs_ := (HS.out.alloc (.cells #[.int .i64 3, .int .i64 1] 3))
 obtain ⟨w16, hw_⟩ : ∃ w16 : World, (w15.alloc (.cells #[.int .i64 3, .int .i64 1] 3)) = w16 := ⟨_, rfl⟩
 rw [hw_] at hs_
 try simp only [World.size_alloc] at hs_
 have HS := Lib.hid hs_
 rw [hw_]
 clear hw_ hs_
 refine (eqI_same _ _ 2 _ _ [3, 1] rfl _ (HS.out.elems 6 rfl) (Elems.ofBlock (HS.out.blockAt 0 rfl) _ _ _ rfl rfl)).mono ?_
 rintro e w17 ⟨rfl, hb_⟩
 have HS := Lib.hid (HS.out.below hb_)
 clear hb_
 go_wp2_with fail
 have hs_ := (HS.out.alloc (.cells #[.int .i64 0, .int .i64 0] 41))
 obtain ⟨w18, hw_⟩ : ∃ w18 : World, (w17.alloc (.cells #[.int .i64 0, .int .i64 0] 41)) = w18 := ⟨_, rfl⟩
 rw [hw_] at hs_
 try simp only [World.size_alloc] at hs_
 have HS := Lib.hid hs_
 rw [hw_]
 clear hw_ hs_
 refine (eqP_same _ _ [⟨0, 0⟩] 1 rfl _ (HS.out.elems 5 rfl) (Elems.ofBlock (HS.out.blockAt 0 rfl) _ _ _ rfl rfl)).mono ?_
 rintro e w19 ⟨rfl, hb_⟩
 have HS := Lib.hid (HS.out.below hb_)
 clear hb_
 go_wp2_with fail
 have hs_ := (HS.out.alloc (.cells #[.int .i64 2] 3))
 obtain ⟨w20, hw_⟩ : ∃ w20 : World, (w19.alloc (.cells #[.int .i64 2] 3)) = w20 := ⟨_, rfl⟩
 rw [hw_] at hs_
 try simp only [World.size_alloc] at hs_
 have HS := Lib.hid hs_
 rw [hw_]
 clear hw_ hs_
 refine (eqI_same _ _ 1 _ _ [2] rfl _ (HS.out.elems 4 rfl) (Elems.ofBlock (HS.out.blockAt 0 rfl) _ _ _ rfl rfl)).mono ?_
 rintro e w21 ⟨rfl, hb_⟩
 have HS := Lib.hid (HS.out.below hb_)
 clear hb_
 go_wp2_with fail
 go_ret
 exact ⟨rfl, HS.out.low⟩
end Go.Proofs.Ytodpkgbpcpfamaa

/- Layer 8: FloodSteps. -/
namespace Go.Proofs.Ytodpkgbpcpfamaa
set_option linter.unusedSimpArgs false
set_option linter.unusedVariables false
open Go.RowKit Go.Shelf
attribute [local go_sem] Oper.semAt_some

/-- A canvas, or none. -/
def OfV (ok : Bool) (C : CanT) (v : Value) (w : World) : Prop := (ok = true → ∃ p, v = .pointer (some ⟨p, 0, none⟩) ∧ CanAt w p C) ∧ (ok = false → v = .pointer none)
theorem OfV.below {ok : Bool} {C : CanT} {v : Value} {w w' : World} (h : OfV ok C v w) (hb : Below w.heap.size w w') : OfV ok C v w' :=
 ⟨fun e => by
  obtain ⟨p, h1, h2⟩ := h.1 e
  exact ⟨p, h1, h2.below hb⟩, h.2⟩
theorem region_is {C : CanT} {c : Nat} {p : PtT} {t e : Int} (h : begE C p t = e) (hb : begB C p t = false) (w : World) (hC : CanAt w c C) : Calls Try.prog 16 #[.pointer (some ⟨c, 0, none⟩), p.val, .int .i64 t] w (Gives (.tuple #[.slice none 0 0, .int .i64 e]) w) := by
 have := region_bad C c p t w hC hb
 rw [h] at this
 exact this
theorem region_got (C : CanT) (c : Nat) (p : PtT) (t : Int) (n : Nat) (hn : (regL (placesL C p t)).length = n) (hb : begB C p t = true) (w : World) (hC : CanAt w c C) : Calls Try.prog 16 #[.pointer (some ⟨c, 0, none⟩), p.val, .int .i64 t] w (Got 3 encS (regL (placesL C p t)) n 0 w) := by
 subst hn
 exact (region_good C c p t w hC hb).mono fun _ _ h => h.got encS_len
def Kp (w0 w1 : World) : Prop := Below w0.heap.size w0 w1
theorem Kp.below {w0 w1 w2 : World} (h : Kp w0 w1) (hb : Below w1.heap.size w1 w2) : Kp w0 w2 := Below.trans h (hb.mono (Below.size h))

end Go.Proofs.Ytodpkgbpcpfamaa

/- Layer 8: fields of numbers in memory; waves, plain. -/
namespace Go.Proofs.Ytodpkgbpcpfamaa
set_option linter.unusedSimpArgs false
set_option linter.unusedVariables false
open Go.RowKit Go.Shelf

def fldA (m : Nat → Nat) : Array Value := (mvL m).toArray
abbrev fldO (m : Nat → Nat) : Obj := Obj.cells (fldA m) 50 (0, 0)
theorem fldA_size (m : Nat → Nat) : (fldA m).size = 1024 := by simp [fldA, mvL_len]
theorem fldA_get (m : Nat → Nat) {i : Nat} (h : i < 1024) : (fldA m)[i]? = some (.int .i64 (m i)) := by
 unfold fldA
 rw [List.getElem?_toArray, mvL_get _ h]
theorem fldA_set (m : Nat → Nat) (k u : Nat) : (fldA m).setIfInBounds k (.int .i64 u) = fldA fun i => if i = k then u else m i := by
 unfold fldA
 rw [List.setIfInBounds_toArray, mvL_set]
theorem fldA_one (m : Nat → Nat) : (fldA m).all (·.oneCell') = true := by
 unfold fldA mvL
 simp [Value.oneCell']
/-- A field that is written. -/
theorem St.putFld {w0 x : World} {p : Nat} {m : Nat → Nat} {pre post : List It} (h : St w0 (pre ++ .blk p (fldO m) :: post) x) (hpre : ∀ i ∈ pre, ∃ b ob, i = .blk b ob) (k u : Nat) :
 St w0 (pre ++ .blk p (fldO fun i => if i = k then u else m i) :: post) (x.setCell ⟨p, k, none⟩ (.int .i64 u)) := h.putAt hpre k _ (fldA_set m k u)

/-! ### Waves -/
/-- In the middle of a wave: the first k places are gone over, and those behind L0 are the next wave. -/
structure Wav (N : PtT → Bool) (W H : Int) (p : PtT) (k n : Nat) (next : List PtT) (s : Bf) : Prop where
 bk : BfK N W H (fun _ => 0) p k s
 nl : n ≤ s.l.length
 kn : k ≤ n
 nx : s.l.drop n = next
theorem Wav.start {N : PtT → Bool} {W H : Int} {p : PtT} (hp : onB W H p = true) (hn : N p = true) : Wav N W H p 0 1 [] ((Bf.mk (fun _ => 0) []).meet p 0) :=
 ⟨BfK.start hp hn rfl, by simp [Bf.meet], by omega, by simp [Bf.meet]⟩
/-- The next wave. -/
theorem Wav.turn {N : PtT → Bool} {W H : Int} {p : PtT} {k n : Nat} {next : List PtT} {s : Bf} (h : Wav N W H p k n next s) (hk : k = n) : Wav N W H p k (n + next.length) [] s ∧ s.l.drop k = next := by
 subst hk
 have hl : k + next.length = s.l.length := by rw [← h.nx, List.length_drop]; have := h.nl; omega
 exact ⟨⟨h.bk, by omega, by omega, by rw [List.drop_eq_nil_iff]; omega⟩, h.nx⟩
theorem look_next {N : PtT → Bool} {W H : Int} {n : Nat} {s : Bf} {q a : PtT} (hn : n ≤ s.l.length) :
 n ≤ (s.look N W H q a).l.length ∧ (s.look N W H q a).l.drop n = s.l.drop n ++ (if (onB W H a && N a && decide (s.m (ixP a) = 0)) = true then [a] else []) ∧
  (s.look N W H q a).m = (if (onB W H a && N a && decide (s.m (ixP a) = 0)) = true then (fun i => if i = ixP a then s.m (ixP q) + 1 else s.m i) else s.m) := by
 unfold Bf.look Bf.meet
 by_cases h1 : (onB W H a && N a) = true
 · rw [if_pos h1, h1, Bool.true_and]
   by_cases h2 : s.m (ixP a) = 0
   · rw [if_pos h2, decide_eq_true h2, if_pos rfl, if_pos rfl]
     refine ⟨by simp; omega, ?_, rfl⟩
     simp only
     rw [List.drop_append_of_le_length hn]
   · rw [if_neg h2, decide_eq_false h2, if_neg (by simp), if_neg (by simp)]
     exact ⟨hn, by simp, rfl⟩
 · rw [if_neg h1]
   have h3 : (onB W H a && N a) = false := by simpa using h1
   rw [h3, Bool.false_and, if_neg (by simp), if_neg (by simp)]
   exact ⟨hn, by simp, rfl⟩
end Go.Proofs.Ytodpkgbpcpfamaa

/- Layer 8: the document's Parts. -/
namespace Go.Proofs.Ytodpkgbpcpfamaa
set_option linter.unusedSimpArgs false
set_option linter.unusedVariables false
open Go.RowKit Go.Shelf
attribute [local go_sem] Oper.semAt_some

theorem ix_lt {i j W H : Nat} (hi : i < W) (hj : j < H) (hW : W ≤ 32) (hH : H ≤ 32) : j * 32 + i < 1024 ∧ i < 32 ∧ j < 32 := by omega
theorem wrap_succ {n : Nat} (h : n ≤ 100000) : wrap64 ((n : Int) + 1) = ((n + 1 : Nat) : Int) := by unfold wrap64; omega
end Go.Proofs.Ytodpkgbpcpfamaa

/- Layer 8: a canvas of a law, as what it shows; clones of numbers. -/
namespace Go.Proofs.Ytodpkgbpcpfamaa
set_option linter.unusedSimpArgs false
set_option linter.unusedVariables false
open Go.RowKit Go.Shelf
attribute [local go_sem] Oper.semAt_some
theorem okE_wide {wide high : Int} {n : Nat} (h : okE wide high n = true) : wide = (wide.toNat : Int) ∧ high = (high.toNat : Int) := by
 unfold okE at h
 have h1 := mayB_iff.1 (Bool.and_eq_true_iff.1 h).1
 omega
/-- A canvas, and what it shows, or none. -/
def GivesOfD (ok : Bool) (C : CanT) (w : World) (e : Ending) (w' : World) : Prop :=
 ∃ v wi hi a cap, e = .returned (.tuple #[v, .agg #[.int .i64 wi, .int .i64 hi, .slice a C.tiles.length cap], .bool ok]) ∧ Below w.heap.size w w' ∧ (ok = false → v = .pointer none) ∧
  (ok = true → (∃ p, v = .pointer (some ⟨p, 0, none⟩) ∧ CanAt w' p C) ∧ wi = (C.wide : Int) ∧ hi = (C.high : Int) ∧ CanV w' C (.agg #[.int .i64 C.wide, .int .i64 C.high, .slice a C.tiles.length cap]))
theorem lawOf_doc (wide high : Int) (a : Option Addr) (n cap : Nat) (ts : List TileT) (hl : ts.length = n) (hc : n ≤ cap) (hc2 : cap ≤ 9223372036854775807) (hcol : ∀ t ∈ ts, ∀ c ∈ t.1, okC c) (w : World) (he : Elems w (.slice a n cap) n 256 (rowC encT ts)) :
 Calls Try.prog 6 #[.agg #[.int .i64 wide, .int .i64 high, .slice a n cap]] w (GivesOfD (okE wide high (ts.take 17).length) ⟨wide.toNat, high.toNat, ts.take 17⟩ w) := by
 refine (lawOf_any wide high a n cap ts hl hc hc2 hcol w he).mono fun e w' h => ?_
 obtain ⟨v, y, rfl, hb, ⟨a', c', rfl, h1, h2⟩, h3, h4⟩ := h
 refine ⟨v, wide, high, a', c', rfl, hb, h4, fun hok => ?_⟩
 obtain ⟨e1, e2⟩ := okE_wide hok
 exact ⟨h3 hok, e1, e2, a', c', rfl, h1, h2⟩

/-- What a clone is, for those who only read it. -/
theorem Cloned.read {α : Type} {E : TypeId} {k n : Nat} {enc : α → List Value} {L : List α} {sv : Value} {w : World} {e : Ending} {w' : World} (hk : ∀ q, (enc q).length = k) (hn : L.length = n) (h : Cloned E k L.length (L.flatMap enc) sv w e w') : ∃ a cap, e = .returned (.slice a n cap) ∧ n ≤ cap ∧ Elems w' (.slice a n cap) n k (rowC enc L) ∧ Below w.heap.size w w' := by
 obtain ⟨v, rfl, hr, -, hb⟩ := h
 subst hn
 have he := ownsRow_rows hk hr
 rcases hr.2 with ⟨rfl, h0⟩ | ⟨g, cap, cur, rfl, h1, h2, h3, h4⟩
 · exact ⟨none, 0, by rw [h0], by omega, by rw [h0] at he ⊢; exact he, hb⟩
 · exact ⟨_, cap, rfl, h3, he, hb⟩
end Go.Proofs.Ytodpkgbpcpfamaa

/- Layer 8: rims, plain: by the document, and by the program. -/
namespace Go.Proofs.Ytodpkgbpcpfamaa
set_option linter.unusedSimpArgs false
set_option linter.unusedVariables false
open Go.RowKit Go.Shelf
end Go.Proofs.Ytodpkgbpcpfamaa

/- Layer 8: the document's Rim. -/
namespace Go.Proofs.Ytodpkgbpcpfamaa
set_option linter.unusedSimpArgs false
set_option linter.unusedVariables false
open Go.RowKit Go.Shelf
attribute [local go_sem] Oper.semAt_some

/-- A row that grows, beside a block that is not its own. -/
structure StB {α : Type} (w0 : World) (its : List It) (base : Nat) (e : TypeId) (k : Nat) (enc : α → List Value) (B : Nat) (ob : Obj) (v : Value) (L : List α) (x : World) : Prop where
 o : StO w0 its base e k enc v L x
 at_ : x.heap[B]? = some ob
 nb : ∀ b, v.ownBlock = some b → b ≠ B
theorem StB.below {α : Type} {w0 : World} {its : List It} {base : Nat} {e : TypeId} {k : Nat} {enc : α → List Value} {B : Nat} {ob : Obj} {v : Value} {L : List α} {x y : World} (h : StB w0 its base e k enc B ob v L x) (hb : Below x.heap.size x y) : StB w0 its base e k enc B ob v L y :=
 ⟨h.o.below hb, (hb.block B (block_lt h.at_)).trans h.at_, h.nb⟩
theorem StB.app {α : Type} {w0 : World} {its : List It} {base : Nat} {e : TypeId} {k : Nat} {enc : α → List Value} {B : Nat} {ob : Obj} {v v' : Value} {L L' : List α} {x y : World} (h : StB w0 its base e k enc B ob v L x) (ho : StO w0 its base e k enc v' L' y) (hg : x.grownBy y v.ownBlock) (hl : v'.ownBlock = v.ownBlock ∨ ∃ b, v'.ownBlock = some b ∧ x.heap.size < b) : StB w0 its base e k enc B ob v' L' y := by
 refine ⟨ho, ((Turned.of_grown hg).block B (block_lt h.at_) fun hd => h.nb B hd.symm rfl).trans h.at_, fun b hb => ?_⟩
 rcases hl with e1 | ⟨c, e1, hc⟩
 · rw [e1] at hb
   exact h.nb b hb
 · rw [e1] at hb
   cases hb
   have := block_lt h.at_
   omega
def KpR (w0 w1 : World) : Prop := Below w0.heap.size w0 w1
theorem KpR.below {a b c : World} (h : KpR a b) (hb : Below b.heap.size b c) : KpR a c := Below.trans h (hb.mono (Below.size h))
end Go.Proofs.Ytodpkgbpcpfamaa
