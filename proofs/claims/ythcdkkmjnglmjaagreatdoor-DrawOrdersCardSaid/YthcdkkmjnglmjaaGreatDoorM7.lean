/- Merged texts: ShZ ShN. -/
import Derived.Test.YthcdkkmjnglmjaaGreatDoorM6
import Derived.Test.YthcdkkmjnglmjaaGreatDoorM1
set_option linter.unusedSimpArgs false
set_option linter.unusedVariables false
/- Layer 6: rows.row. -/
namespace Go.Proofs.YthcdkkmjnglmjaaGreatDoor
open Go.RowKit Go.Shelf Go.Maps
def cmpF (a b : SpT) : Int := Lib.compareInt a.f b.f
set_option maxRecDepth 100000 in
theorem row1_any (a b : SpT) (w : World) : Calls Tryz.prog 113 #[a.val, b.val] w (GivesG (.int .i64 (cmpF a b)) w) := by
 obtain ⟨ay, af, at'⟩ := a
 obtain ⟨by', bf, bt⟩ := b
 unfold SpT.val cmpF
 simp only
 go_enter Tryz.func113, Tryz.ntmps113
 go_wp2_with fail
 refine (cmp_int _ _ _).mono ?_
 rintro e w' ⟨rfl, rfl⟩
 go_wp2_with fail
 go_ret
 exact ⟨rfl, (Grows.alloc _ _).trans (Grows.alloc _ _)⟩
theorem ltF (a b : SpT) : ltOf cmpF a b = decide (a.f < b.f) := by
 unfold ltOf cmpF
 exact cmp_lt _ _
theorem swoF : Sort.SWO (ltOf cmpF) where
 irrefl x := by rw [ltF]; simp
 trans x y z h1 h2 := by rw [ltF, decide_eq_true_eq] at *; omega
 ntrans x y z h1 h2 := by rw [ltF, decide_eq_false_iff_not] at *; omega
theorem GrD.turn {w w' : World} {base b n : Nat} {D : DataW Value} {F : Int → Value} {G : Int → List SpT} (h : GrD w base b n D F G) {y : Int} (hy : inK y) (hg : w.grownBy w' (F y).ownBlock) {s : List SpT} (hrow : w'.ownsRow base 60 3 (F y) s.length (s.flatMap encS)) (hs : s ≠ [] ↔ G y ≠ []) :
 GrD w' base b n D F (fun z => if z = y then s else G z) := by
 have hbF : some b ≠ (F y).ownBlock := fun e => by have := ((h.row y hy).lt b e.symm).1; have := h.lt; omega
 refine ⟨h.map.kept hg hbF, h.at_, fun z hz => ?_, h.apart, fun z hz => ?_, h.only, h.lt⟩
 · by_cases e : z = y
   · subst e; simp only [if_true]; exact hrow
   · simp only [if_neg e]
     refine (h.row z hz).kept hg ?_
     cases hv : (F z).ownBlock with
     | none => exact .inl rfl
     | some j => exact .inr fun e' => h.apart z y j hz hy e hv e'.symm
 · by_cases e : z = y
   · subst e; simp only [if_true]; rw [h.has z hz]; exact hs.symm
   · simp only [if_neg e]; exact h.has z hz
theorem GrD.other {w w' : World} {base b n : Nat} {D : DataW Value} {F : Int → Value} {G : Int → List SpT} (h : GrD w base b n D F G) {row : Option Nat} (hg : w.grownBy w' row) (hb : some b ≠ row) (hr : ∀ z, inK z → (F z).ownBlock = none ∨ (F z).ownBlock ≠ row) : GrD w' base b n D F G :=
 ⟨h.map.kept hg hb, h.at_, fun z hz => (h.row z hz).kept hg (hr z hz), h.apart, h.has, h.only, h.lt⟩
theorem keeps_row {x y : World} {base : Nat} {e : TypeId} {k : Nat} {v : Value} {n : Nat} {xs : List Value} (h : x.ownsRow base e k v n xs) (hg : x.grownBy y v.ownBlock) : KeepsOthers x y :=
 KeepsOthers.of_grownBy hg fun j o ej hj => by
  rcases h.2 with ⟨rfl, _⟩ | ⟨g, cap, cur, rfl, _, hgb, _⟩
  · simp [Value.ownBlock] at ej
  · obtain rfl : g = j := by simpa [Value.ownBlock] using ej
    rw [hgb] at hj; cases hj; rfl
theorem keeps_below {x y : World} (h : Below x.heap.size x y) : KeepsOthers x y := ⟨h.size, fun j o hj _ => (h.block j (b7t hj)).trans hj⟩
theorem idx_int {w : World} {base : Nat} {sv : Value} {ks : List Int} (h : w.ownsRow base 3 1 sv ks.length (ks.map (Value.int .i64))) (k : Nat) (y : Int) (hk : ks[k]? = some y) : ∃ g cap, sv = .slice (some ⟨g, 0, none⟩) ks.length cap ∧ w.cell? ⟨g, k, none⟩ = some (.int .i64 y) := by
 have hlt := (List.getElem?_eq_some_iff.1 hk).1
 have h' := h
 rcases h.2 with ⟨_, h0⟩ | ⟨g, cap, cur, rfl, _⟩
 · omega
 · exact ⟨g, cap, rfl, ownsRow_cell h (by simp [hk])⟩
set_option maxRecDepth 100000 in
set_option maxHeartbeats 1000000 in
theorem row_any (w0 : World) (pr base b n : Nat) (D : DataW Value) (F : Int → Value) (L : List SpT) (hn : n ≤ 1000000) (hL : L.length ≤ 1000000) (hsp : ∀ s ∈ L, inK s.y ∧ (-1000 ≤ s.f ∧ s.f ≤ s.t ∧ s.t ≤ 1000)) (w : World) (hlow : Below w0.heap.size w0 w)
 (h0 : w0.heap.size ≤ pr) (hpr : pr < base) (hbase : base ≤ w.heap.size) (h : GrD w base b n D F (GrOf L)) (hp : w.heap[pr]? = some (.cells #[.map (some b)] 131 (0, 0))) :
 Calls Tryz.prog 91 #[.pointer (some ⟨pr, 0, none⟩)] w fun e w' => ∃ M v, SetRow (fun p => hasB L p = true) M ∧ M.length ≤ L.length ∧ e = .returned v ∧ w'.ownsRow w0.heap.size 60 3 v M.length (M.flatMap encS) ∧ Below w0.heap.size w0 w' ∧ KeepsOthers w w' := by
 have HSO := H7 (sorted_any b n D (by omega) w h.map)
 have HG := H7 h
 have HS := H7 (show St w0 [.blk pr (.cells #[.map (some b)] 131 (0, 0))] w from ⟨hlow, fun i hi => by simp at hi; subst hi; exact hp, ⟨h0, by simp, trivial⟩, fun i hi => by simp at hi; subst hi; simp only [It.top]; omega⟩)
 have HB := H7 (And.intro hn (And.intro hL (And.intro hpr hbase)))
 have HSP := H7 hsp
 have c0 := c7b (k := 0) hp rfl
 have HOWN := H7 (show ∀ z, inK z → ∀ j, (F z).ownBlock = some j → base ≤ j ∧ j < w.heap.size from fun z hz j hj => (h.row z hz).lt j hj)
 clear h hp hn hL hpr hbase hsp hlow h0
 go_enter Tryz.func91, Tryz.ntmps91
 go_wp2_with fail
 refine HSO.out.mono ?_
 rintro e w2 ⟨sv, ks, rfl, hks, hb2, hlen, hpw, hmem⟩
 have hg2 := HG.out.kept hb2
 have HO := H7 (StO.start (HS.out.below hb2) 60 3 encS)
 have HKS := H7 hks
 have HPW := H7 hpw
 have HME := H7 (fun y (hy : inK y) => (hmem y).trans (HG.out.has y hy))
 have HIN := H7 (fun y (hy : y ∈ ks) => show inK y by
  obtain ⟨z, hz, e⟩ := HG.out.only _ ((hmem y).1 hy)
  cases e; exact hz)
 have HLN := H7 hlen
 have HSZ := H7 hb2.size
 have HSV := H7 (show ∀ j, sv.ownBlock = some j → w.heap.size ≤ j ∧ j < w2.heap.size from fun j hj => hks.lt j hj)
 have HGD := H7 hg2
 have HPM := H7 (fun z => List.Perm.refl (GrOf L z))
 have HBL := H7 HG.out.lt
 have HRK := H7 (rowK_start L ks)
 have HKO := H7 (keeps_below hb2)
 obtain ⟨m, hm⟩ : ∃ m, ks.length = m := ⟨_, rfl⟩
 obtain ⟨cpk, adk, hsv⟩ : ∃ cpk adk, sv = .slice adk m cpk := by
  rcases hks.2 with ⟨e, h0⟩ | ⟨g, cap, cur, e, _⟩
  · exact ⟨0, none, by rw [e, ← hm, h0]⟩
  · exact ⟨cap, _, by rw [e, hm]⟩
 subst hsv
 have HM := H7 hm
 clear hks hb2 hlen hpw hmem hg2 HSO HG HS c0 hm
 obtain ⟨N1, hN1⟩ : ∃ N1, w2.heap.size = N1 := ⟨_, rfl⟩
 rw [hN1] at HO HSZ HSV
 clear hN1
 go_wp2_with fail
 go_loopw [3, 17] (fun v i wr => ∃ (k : Nat) (M : List SpT) (G : Int → List SpT), k ≤ m ∧ i = .int .i64 (k : Int) ∧ StO w0 [.blk pr (.cells #[.map (some b)] 131 (0, 0))] N1 60 3 encS v M wr ∧ RowK L ks k M ∧ GrD wr base b n D F G ∧ (∀ z, (G z).Perm (GrOf L z)) ∧ wr.ownsRow w.heap.size 3 1 (.slice adk m cpk) ks.length (ks.map (Value.int .i64)) ∧ KeepsOthers w wr) (fun _ i _ => m - (intOf i).toNat)
 case atStart => exact ⟨0, [], _, by omega, rfl, HO.out, HRK.out, HGD.out, HPM.out, HKS.out, HKO.out⟩
 case round =>
  obtain ⟨k, M, G, hk, rfl, ho, hrk, hgd, hpm, hks, hko⟩ := hrel
  clear HO HRK HGD HPM HKS HKO
  have HKO := H7 hko
  have HO := H7 ho
  have HRK := H7 hrk
  have HGD := H7 hgd
  have HPM := H7 hpm
  have HKS := H7 hks
  clear ho hrk hgd hpm hks hko
  by_cases hlt : k < m
  · have HLT := H7 hlt
    have e3 : wrap64 ((k : Int) + 1) = ((k + 1 : Nat) : Int) := by have := HB.out.1; have := HLN.out; have := HM.out; unfold wrap64; omega
    obtain ⟨y, hy⟩ : ∃ y, ks[k]? = some y := ⟨_, List.getElem?_eq_getElem (by rw [HM.out]; exact hlt)⟩
    obtain ⟨gk, capk, hsv, hck⟩ := idx_int HKS.out k y hy
    obtain ⟨rfl, -, rfl⟩ := (Value.slice.injEq _ _ _ _ _ _).mp hsv
    have hyin := HIN.out y (List.mem_of_getElem? hy)
    have HYI := H7 hyin
    have HY := H7 hy
    have HLK := H7 (HGD.out.look hyin)
    have hrow := HGD.out.row y hyin
    have hne : G y ≠ [] := by
     have h1 := (HME.out y hyin).1 (List.mem_of_getElem? hy)
     intro e
     have h2 := (HPM.out y).length_eq
     rw [e] at h2
     exact h1 (List.length_eq_zero_iff.1 h2.symm)
    have HNE := H7 hne
    obtain ⟨gy, cy, hFy⟩ : ∃ gy cy, F y = .slice (some ⟨gy, 0, none⟩) (G y).length cy := by
     rcases hrow.2 with ⟨_, h0⟩ | ⟨g', cap', cur', e, _⟩
     · exact absurd (List.length_eq_zero_iff.1 h0) hne
     · exact ⟨g', cap', e⟩
    rw [hFy] at HLK hrow
    have HFY := H7 hFy
    have hGL : (G y).length ≤ 1000000 := by
     have h2 := (HPM.out y).length_eq
     have h3 := GrOf_len L y
     have h4 := HB.out.2.1
     omega
    have HSORT := H7 (sortRowsG lay_sortS 3 Tryz.isAgg60 Tryz.sizeOf60 encS encS_len encS_one cmpF swoF 113 #[] (enters_of Tryz.func113 (by kernel_rfl) rfl) (fun x y w => row1_any x y w) _ (G y) base wr hrow (by omega))
    have cpr := c7b (k := 0) (HO.out.st.blockAt 0 rfl) rfl
    have lk := HLK.out
    clear hy hsv hyin hne hFy hrow HLK hGL
    go_wp2_with fail
    refine HSORT.out.mono ?_
    rintro e w4 ⟨rfl, s, hsp, hso, hrow, hg⟩
    have hg : wr.grownBy w4 (some gy) := hg
    have hrw0 := HGD.out.row y HYI.out
    have HKO := H7 (HKO.out.trans (keeps_row hrw0 (by rw [HFY.out]; exact hg)))
    clear hrw0
    have hgy := HOWN.out y HYI.out gy (by rw [HFY.out]; rfl)
    have hsl : (G y).length = s.length := hsp.length_eq.symm
    rw [hsl] at hrow
    have HGD2 := H7 (HGD.out.turn HYI.out (s := s) (by rw [HFY.out]; exact hg) (by rw [HFY.out, hsl]; exact hrow) ⟨fun _ => HNE.out, fun _ e => HNE.out (List.length_eq_zero_iff.1 (by rw [hsl, e]; rfl))⟩)
    have HO2 := H7 (show StO w0 [.blk pr (.cells #[.map (some b)] 131 (0, 0))] N1 60 3 encS u3 M w4 from ⟨HO.out.st.grown (base := base) (row := some gy) (fun j e => by cases e; exact hgy.1) (Nat.le_trans (by have := HO.out.st.ord; simp [ItOrd] at this; exact this) (Nat.le_of_lt HB.out.2.2.1)) (fun i hi => by simp at hi; subst hi; simp only [It.top]; exact HB.out.2.2.1) hg,
     HO.out.row.kept hg (by
      cases hv : u3.ownBlock with
      | none => exact .inl rfl
      | some j => exact .inr fun e => by cases e; have := (HO.out.row.lt _ hv).1; have := HSZ.out; omega), HO.out.low, HO.out.top, Nat.le_trans HO.out.hi hg.size⟩)
    have HKS2 := H7 (HKS.out.kept hg (.inr fun e => by cases e; have := (HSV.out _ rfl).1; omega))
    have HSB := H7 (show ∀ q ∈ s, q.y = y ∧ (-1000 ≤ q.f ∧ q.f ≤ q.t ∧ q.t ≤ 1000) from fun q hq => by
     obtain ⟨h1, h2⟩ := GrOf_mem.1 ((HPM.out y).mem_iff.1 (hsp.mem_iff.1 hq))
     exact ⟨h2, (HSP.out q h1).2⟩)
    have HPS := H7 (show s.Perm (GrOf L y) from hsp.trans (HPM.out y))
    have HPM2 := H7 (show ∀ z, ((fun z => if z = y then s else G z) z).Perm (GrOf L z) from fun z => by
     by_cases e : z = y
     · subst e; simp only [if_true]; exact HPS.out
     · simp only [if_neg e]; exact HPM.out z)
    have HSO := H7 hso
    have HFY2 := H7 (show F y = .slice (some ⟨gy, 0, none⟩) s.length cy by rw [HFY.out, hsl])
    obtain ⟨ms, hms⟩ : ∃ ms, s.length = ms := ⟨_, rfl⟩
    rw [hms] at HFY2 hsl
    have HMS := H7 hms
    have HML := H7 (show M.length + ms ≤ 1000000 by
     have h1 := HRK.out.step HPW.out HY.out HPS.out (R := s)
     have h2 := HRK.out.len
     have h3 := HPS.out.length_eq
     have hnd : (ks.take (k + 1)).Nodup := (HPW.out.sublist (List.take_sublist _ _)).imp fun {a b} h => by omega
     have h4 := GrOf_sum hnd L
     have h5 := HB.out.2.1
     rw [List.take_add_one, HY.out, List.map_append, List.sum_append] at h4
     simp only [Option.toList_some, List.map_cons, List.map_nil, List.sum_cons, List.sum_nil] at h4
     omega)
    rw [hsl]
    obtain ⟨ao, co, hv, -⟩ := HO2.out.shape
    subst hv
    have HO3 := H7 (show StO w0 [.blk pr (.cells #[.map (some b)] 131 (0, 0))] N1 60 3 encS (.slice ao M.length co) (M ++ []) w4 by rw [List.append_nil]; exact HO2.out)
    have HOTH := H7 (fun (x x' : World) (row : Option Nat) (hr : ∀ j, row = some j → N1 ≤ j) (hg : x.grownBy x' row) (hgd : GrD x base b n D F (fun z => if z = y then s else G z)) (hks : x.ownsRow w.heap.size 3 1 (.slice (some ⟨gk, 0, none⟩) m cpk) ks.length (ks.map (Value.int .i64))) =>
     And.intro (hgd.other hg (fun e => by have h1 := hr b e.symm; have h2 := HBL.out; have h3 := HB.out.2.2.2; have h4 := HSZ.out; omega) (fun z hz => by
      cases hv : (F z).ownBlock with
      | none => exact .inl rfl
      | some j => exact .inr fun e => by have h1 := hr j e.symm; have h2 := (HOWN.out z hz j hv).2; have h3 := HSZ.out; omega))
     (hks.kept hg (.inr fun e => by have h1 := hr gk e.symm; have h2 := (HSV.out gk rfl).2; omega)))
    clear hsp hso hrow hg hgy hsl hms HO HGD HPM HKS HO2 HFY HSORT lk cpr
    go_wp2_with fail
    go_loopw [3, 33] (fun v i wx => ∃ (j : Nat) (R : List SpT), j ≤ ms ∧ i = .int .i64 (j : Int) ∧ StO w0 [.blk pr (.cells #[.map (some b)] 131 (0, 0))] N1 60 3 encS v (M ++ R) wx ∧ MgTo y (s.take j) R ∧ GrD wx base b n D F (fun z => if z = y then s else G z) ∧ wx.ownsRow w.heap.size 3 1 (.slice (some ⟨gk, 0, none⟩) m cpk) ks.length (ks.map (Value.int .i64)) ∧ KeepsOthers w wx) (fun _ i _ => ms - (intOf i).toNat)
    case atStart => exact ⟨0, [], by omega, rfl, HO3.out, mgTo_start y, HGD2.out, HKS2.out, HKO.out⟩
    case round =>
     obtain ⟨j, R, hj, rfl, ho, hmg, hgd, hks, hko⟩ := hrel
     clear HO3 HGD2 HKS2 HKO
     have HKO := H7 hko
     have HO := H7 ho
     have HMG := H7 hmg
     have HGD := H7 hgd
     have HKS := H7 hks
     clear ho hmg hgd hks hko
     by_cases hlt2 : j < ms
     · have HJ := H7 hlt2
       have e4 : wrap64 ((j : Int) + 1) = ((j + 1 : Nat) : Int) := by have := HML.out; unfold wrap64; omega
       obtain ⟨x, hx⟩ : ∃ x, s[j]? = some x := ⟨_, List.getElem?_eq_getElem (by rw [HMS.out]; exact hlt2)⟩
       have hrw := HGD.out.row y HYI.out
       simp only [if_true] at hrw
       rw [HFY2.out, HMS.out] at hrw
       have hcell : ∀ c u, (encS x)[c]? = some u → wr.cell? ⟨gy, j * 3 + c, none⟩ = some u := fun c u hu => ownsRow_cell hrw (by
        rw [flat_get encS_len s j c (by rw [← encS_len x]; exact (List.getElem?_eq_some_iff.1 hu).1), hx]; exact hu)
       have c0 := hcell 0 _ rfl
       have c1 := hcell 1 _ rfl
       have c2 := hcell 2 _ rfl
       simp only [Nat.add_zero] at c0
       have hxs := HSB.out x (List.mem_of_getElem? hx)
       have HTS := H7 (take_snoc hx)
       have HGE := H7 (show ∀ q ∈ s.take j, q.f ≤ x.f from fun q hq => by
        have hso' := HSO.out
        have hsplit : s = s.take j ++ x :: s.drop (j + 1) := by
         obtain ⟨hk, e⟩ := List.getElem?_eq_some_iff.1 hx
         conv => lhs; rw [← List.take_append_drop j s, List.drop_eq_getElem_cons hk, e]
        rw [hsplit] at hso'
        have h1 := (List.pairwise_append.1 hso').2.2 q hq x (by simp)
        rw [ltF, decide_eq_false_iff_not] at h1
        omega)
       have HXS := H7 hxs
       obtain ⟨X, hX⟩ : ∃ X, X = x := ⟨_, rfl⟩
       rw [← hX] at HTS HGE HXS
       have HX := H7 hX
       obtain ⟨xy, xf, xt⟩ := x
       have hxx := HXS.out
       rw [hX] at hxx
       simp only at c0 c1 c2 hxx
       have HXB := H7 hxx
       clear hx hrw hcell hxs hX hxx
       have HS := H7 (St.start wr)
       repeat ((fail_if_success (with_reducible refine stop_at (id := 11) ?_)); (first | go_values | go_skip | go_guarded | go_step | go_upon | go_back | (simp only [Int.not_lt, Int.not_le] at *; go_simp) | (go_values <;> (try go_simp)) | (go_ite <;> go_prune <;> (try go_simp)) | (split <;> (first | (rename_i hx; exact (hx _ rfl).elim) | go_prune))))
       clear c0 c1 c2
       obtain ⟨p, hp⟩ : ∃ p, wr.heap.size = p := ⟨_, rfl⟩
       have hpn : N1 ≤ p := by rw [← hp]; exact HO.out.hi
       have hpo : ∀ j, u3.ownBlock = some j → j < p := fun j hj => by rw [← hp]; exact (HO.out.row.lt j hj).2
       have hs_ := (HS.out.alloc (.cells #[.int .i64 xy, .int .i64 xf, .int .i64 xt] 60))
       obtain ⟨w5, hw_⟩ : ∃ w5 : World, (wr.alloc (.cells #[.int .i64 xy, .int .i64 xf, .int .i64 xt] 60)) = w5 := ⟨_, rfl⟩
       rw [hw_] at hs_
       try simp only [World.size_alloc] at hs_
       have HS := H7 hs_
       rw [hw_]
       clear hw_ hs_
       have hgb : wr.grownBy w5 none := below_grown HS.out.low
       obtain ⟨hgd5, hks5⟩ := HOTH.out wr w5 none (fun j e => by cases e) hgb HGD.out HKS.out
       have HKO := H7 (HKO.out.trans (keeps_below HS.out.low))
       have HO := H7 (HO.out.below HS.out.low)
       have HGD := H7 hgd5
       have HKS := H7 hks5
       have hpb := HS.out.blockAt 0 rfl
       rw [hp] at hpb
       have HP := H7 hpb
       simp only [hp]
       have HMX := H7 (show (M ++ R).length < 1000000000 by
        have h1 := HMG.out.len
        have h2 := HML.out
        rw [List.length_append]
        rw [List.length_take, HMS.out] at h1
        omega)
       have hxv : X = ⟨xy, xf, xt⟩ := HX.out
       have hvo : ∀ g q c, u3 = .slice (some ⟨g, 0, none⟩) q c → N1 ≤ g := fun g q c e => (HO.out.row.lt g (by rw [e]; rfl)).1
       have HVO := H7 hvo
       have HVL := H7 (show ∀ j, u3.ownBlock = some j → N1 ≤ j from fun j hj => (HO.out.row.lt j hj).1)
       clear hpb hp HS hgb hgd5 hks5 hpn hvo
       have kf := c7b (k := 1) HP.out rfl
       have kt := c7b (k := 2) HP.out rfl
       have ky := c7b (k := 0) HP.out rfl
       rcases List.eq_nil_or_concat R with hR | ⟨R0, r, hR⟩
       · subst hR
         have HN := H7 (show MgTo y (s.take (j + 1)) ([] ++ [X]) by
          rw [HTS.out]
          exact HMG.out.new HXS.out.1 HXS.out.2.2.1 (fun R0 r e => by cases R0 <;> cases e))
         simp only [List.append_nil] at HO HMX
         obtain ⟨ao, co, hv, -⟩ := HO.out.shape
         subst hv
         go_wp2_with fail
         refine (wpIn_wide (n := 0)).1 ?_
         clear kf kt ky hpo
         apply w7v 15 (Rl := [(eqv _), (eqv _), (eqv _), (eqv _), (fun v_ _ => v_ = (undef : Value)), (fun v_ _ => v_ = (undef : Value)), (fun v_ _ => v_ = (undef : Value)), (fun v_ _ => v_ = (undef : Value)), (fun v_ _ => v_ = (undef : Value)), (fun v_ _ => v_ = (undef : Value)), (fun v_ _ => v_ = (undef : Value)), (fun v_ _ => v_ = (undef : Value)), (fun v_ _ => v_ = (undef : Value)), (fun v_ _ => v_ = (undef : Value)), (eqv _)]) (C := (fun x y => Below w5.heap.size x y))
         case hm => kernel_rfl
         case hk => rfl
         case hCr => exact (fun x => B7 _ x)
         case hCt => intro _ _ _; exact (fun h k => h.trans k)
         case hst => repeat (first | exact trivial | refine ⟨fun _ _ _ _ h => h, ?_⟩)
         case hfo => kernel_rfl
         case ht => kernel_rfl
         case hC0 => exact ((B7 _ _).drew)
         case hsteps =>
          refine ⟨?_, ?_, ?_, ?_, ?_, ?_, ?_, ?_, ?_, ?_, ?_, ?_, ?_, ?_, ?_, trivial⟩
          · intro a' w' hA hC hD; have s10 := hA.to 10 (by kernel_rfl) rfl; clear hA hD; refine o7p rfl ?_; intro K hK; gi_wp2; exact hK _ _ rfl ((fun x => B7 _ x) _)
          · intro a' w' hA hC hD; have s7 := hA.to 7 (by kernel_rfl) rfl; clear hA hD; refine o7p rfl ?_; intro K hK; gi_wp2; exact hK _ _ rfl ((fun x => B7 _ x) _)
          · intro a' w' hA hC hD; obtain ⟨u39, s39, rfl⟩ := hD ⟨0, .data⟩ (by simp) rfl _ rfl; obtain ⟨u40, s40, rfl⟩ := hD ⟨1, .data⟩ (by simp) rfl _ rfl; clear hA hD; refine o7p rfl ?_; intro K hK; gi_wp2; exact hK _ _ rfl ((fun x => B7 _ x) _)
          · intro a' w' hA hC hD; obtain ⟨u41, s41, rfl⟩ := hD ⟨2, .data⟩ (by simp) rfl _ rfl; clear hA hD; refine o7p rfl ?_; intro K hK; gi_wp2; exact hK _ _ rfl ((fun x => B7 _ x) _)
          · intro a' w' hA hC hD; have s9 := hA.to 9 (by kernel_rfl) rfl; obtain ⟨u42, s42, rfl⟩ := hD ⟨3, .guard⟩ (by simp) rfl _ rfl; clear hA hD
            exact o7s rfl rfl s42 rfl
          · intro a' w' hA hC hD; obtain ⟨u43, s43, r43⟩ := hD ⟨4, .data⟩ (by simp) rfl _ rfl; replace r43 : u43 = undef := r43; subst r43; obtain ⟨u42, s42, rfl⟩ := hD ⟨3, .guard⟩ (by simp) rfl _ rfl; clear hA hD
            exact o7s rfl rfl s42 rfl
          · intro a' w' hA hC hD; have s3 := hA.to 3 (by kernel_rfl) rfl; obtain ⟨u42, s42, rfl⟩ := hD ⟨3, .guard⟩ (by simp) rfl _ rfl; clear hA hD
            exact o7s rfl rfl s42 rfl
          · intro a' w' hA hC hD; have s10 := hA.to 10 (by kernel_rfl) rfl; obtain ⟨u42, s42, rfl⟩ := hD ⟨3, .guard⟩ (by simp) rfl _ rfl; clear hA hD
            exact o7s rfl rfl s42 rfl
          · intro a' w' hA hC hD; obtain ⟨u46, s46, r46⟩ := hD ⟨7, .data⟩ (by simp) rfl _ rfl; replace r46 : u46 = undef := r46; subst r46; obtain ⟨u42, s42, rfl⟩ := hD ⟨3, .guard⟩ (by simp) rfl _ rfl; clear hA hD
            exact o7s rfl rfl s42 rfl
          · intro a' w' hA hC hD; obtain ⟨u45, s45, r45⟩ := hD ⟨6, .data⟩ (by simp) rfl _ rfl; replace r45 : u45 = undef := r45; subst r45; obtain ⟨u47, s47, r47⟩ := hD ⟨8, .data⟩ (by simp) rfl _ rfl; replace r47 : u47 = undef := r47; subst r47; obtain ⟨u42, s42, rfl⟩ := hD ⟨3, .guard⟩ (by simp) rfl _ rfl; clear hA hD
            exact o7s rfl rfl s42 rfl
          · intro a' w' hA hC hD; obtain ⟨u48, s48, r48⟩ := hD ⟨9, .data⟩ (by simp) rfl _ rfl; replace r48 : u48 = undef := r48; subst r48; obtain ⟨u42, s42, rfl⟩ := hD ⟨3, .guard⟩ (by simp) rfl _ rfl; clear hA hD
            exact o7s rfl rfl s42 rfl
          · intro a' w' hA hC hD; obtain ⟨u49, s49, r49⟩ := hD ⟨10, .data⟩ (by simp) rfl _ rfl; replace r49 : u49 = undef := r49; subst r49; obtain ⟨u42, s42, rfl⟩ := hD ⟨3, .guard⟩ (by simp) rfl _ rfl; clear hA hD
            exact o7s rfl rfl s42 rfl
          · intro a' w' hA hC hD; obtain ⟨u50, s50, r50⟩ := hD ⟨11, .data⟩ (by simp) rfl _ rfl; replace r50 : u50 = undef := r50; subst r50; obtain ⟨u42, s42, rfl⟩ := hD ⟨3, .guard⟩ (by simp) rfl _ rfl; clear hA hD
            exact o7s rfl rfl s42 rfl
          · intro a' w' hA hC hD; obtain ⟨u44, s44, r44⟩ := hD ⟨5, .data⟩ (by simp) rfl _ rfl; replace r44 : u44 = undef := r44; subst r44; obtain ⟨u51, s51, r51⟩ := hD ⟨12, .data⟩ (by simp) rfl _ rfl; replace r51 : u51 = undef := r51; subst r51; obtain ⟨u42, s42, rfl⟩ := hD ⟨3, .guard⟩ (by simp) rfl _ rfl; clear hA hD
            exact o7s rfl rfl s42 rfl
          · intro a' w' hA hC hD; obtain ⟨u42, s42, rfl⟩ := hD ⟨3, .data⟩ (by simp) rfl _ rfl; obtain ⟨u52, s52, r52⟩ := hD ⟨13, .data⟩ (by simp) rfl _ rfl; replace r52 : u52 = undef := r52; subst r52; clear hA hD; refine o7p rfl ?_; intro K hK; gi_wp2; exact hK _ _ rfl ((fun x => B7 _ x) _)
         case hend =>
          intro w6 hC
          simp only [EndFrom, eqv, forall_eq, Act.put, List.length_cons, List.length_nil, List.drop_succ_cons, List.drop_zero, Nat.reduceAdd, List.setIfInBounds_toArray, List.set_cons_succ, List.set_cons_zero]
          have hpb := (hC.block p (b7t HP.out)).trans HP.out
          have k0 := c7b (k := 0) hpb rfl
          have k1 := c7b (k := 1) hpb rfl
          have k2 := c7b (k := 2) hpb rfl
          obtain ⟨hgd6, hks6⟩ := HOTH.out w5 w6 none (fun j e => by cases e) (below_grown hC) HGD.out HKS.out
          have HKO := H7 (HKO.out.trans (keeps_below hC))
          have HO := H7 (HO.out.below hC)
          have HGD := H7 hgd6
          have HKS := H7 hks6
          clear hpb hgd6 hks6 hC
          gi_wp2
          go_wp2_with (at_builtin; refine wpList_app1g (enc := encS) (L := M) rowS encS_len encS_one HO.out (B7 _ _) ⟨xy, xf, xt⟩ M.length rfl HMX.out (by decide) _ _ rfl rfl rfl _ rfl rfl ?_; intro v' w7 ho7 hsh hg7; have HO7 := H7 ho7; have HOT := H7 (HOTH.out _ _ _ HVL.out hg7 HGD.out HKS.out); have HKO7 := H7 (HKO.out.trans (keeps_row HO.out.row hg7)); clear ho7 hsh hg7)
          go_roundw
          case rel => exact ⟨j + 1, [] ++ [⟨xy, xf, xt⟩], HJ.out, by first | rw [e4] | simp, HO7.out, by have := HN.out; rw [HX.out] at this; exact this, HOT.out.1, HOT.out.2, HKO7.out⟩
          case measure => have := HJ.out; (try rw [e4]); simp [intOf]; omega
       · have hR' : R = R0 ++ [r] := by rw [hR, List.concat_eq_append]
         clear hR
         subst hR'
         rw [← List.append_assoc] at HO HMX
         obtain ⟨Q, hQ⟩ : ∃ Q, (M ++ R0).length = Q := ⟨_, rfl⟩
         have HQ := H7 hQ
         have hlen : (M ++ R0 ++ [r]).length = Q + 1 := by rw [List.length_append, hQ]; rfl
         have hMQ : M.length < Q + 1 := by rw [← hQ, List.length_append]; omega
         have HRT := H7 (show -1000 ≤ r.t ∧ r.t ≤ 1000 from by
          obtain ⟨q, hq, e⟩ := HMG.out.t_ r (by simp)
          have := HSB.out q (List.mem_of_mem_take hq)
          omega)
         have HQB := H7 (show Q < 1000000000 by have := HMX.out; rw [hlen] at this; omega)
         obtain ⟨ao, co, hv, hg⟩ := HO.out.shape
         rw [hlen] at hv hg
         obtain ⟨go, rfl⟩ := hg.resolve_left (by omega)
         subst hv
         have wl : wrap64 (Q : Int) = (Q : Int) := by have := HQB.out; unfold wrap64; omega
         have wt : wrap64 (r.t + 1) = r.t + 1 := by have := HRT.out; unfold wrap64; omega
         have HLEN := H7 hlen
         have HMQ := H7 hMQ
         have HGO := H7 (HVO.out go _ _ rfl)
         clear hQ hlen hg hMQ
         go_wp2_with fail
         refine (wpIn_wide (n := 0)).1 ?_
         clear kf kt ky hpo
         apply w7v 15 (Rl := [(eqv _), (eqv _), (eqv _), (eqv _), (eqv _), (eqv _), (eqv _), (eqv _), (eqv _), (eqv _), (eqv _), (eqv _), (eqv _), (eqv _), (eqv _)]) (C := (fun x y => Below w5.heap.size x y))
         case hm => kernel_rfl
         case hk => rfl
         case hCr => exact (fun x => B7 _ x)
         case hCt => intro _ _ _; exact (fun h k => h.trans k)
         case hst => repeat (first | exact trivial | refine ⟨fun _ _ _ _ h => h, ?_⟩)
         case hfo => kernel_rfl
         case ht => kernel_rfl
         case hC0 => exact ((B7 _ _).drew)
         case hsteps =>
          refine ⟨?_, ?_, ?_, ?_, ?_, ?_, ?_, ?_, ?_, ?_, ?_, ?_, ?_, ?_, ?_, trivial⟩
          · intro a' w' hA hC hD; have s10 := hA.to 10 (by kernel_rfl) rfl; clear hA hD; refine o7p rfl ?_; intro K hK; gi_wp2; exact hK _ _ rfl ((fun x => B7 _ x) _)
          · intro a' w' hA hC hD; have s7 := hA.to 7 (by kernel_rfl) rfl; clear hA hD; refine o7p rfl ?_; intro K hK; gi_wp2; exact hK _ _ rfl ((fun x => B7 _ x) _)
          · intro a' w' hA hC hD; obtain ⟨u39, s39, rfl⟩ := hD ⟨0, .data⟩ (by simp) rfl _ rfl; obtain ⟨u40, s40, rfl⟩ := hD ⟨1, .data⟩ (by simp) rfl _ rfl; clear hA hD; refine o7p rfl ?_; intro K hK; gi_wp2; rw [(show decide ((M.length : Int) < (Q : Int) + 1) = true by have := HMQ.out; simp; omega)]; exact hK _ _ rfl ((fun x => B7 _ x) _)
          · intro a' w' hA hC hD; obtain ⟨u41, s41, rfl⟩ := hD ⟨2, .data⟩ (by simp) rfl _ rfl; clear hA hD; refine o7p rfl ?_; intro K hK; gi_wp2; exact hK _ _ rfl ((fun x => B7 _ x) _)
          · intro a' w' hA hC hD; have s9 := hA.to 9 (by kernel_rfl) rfl; obtain ⟨u42, s42, rfl⟩ := hD ⟨3, .guard⟩ (by simp) rfl _ rfl; clear hA hD; refine o7w rfl rfl s42 ?_; intro K hK; gi_wp2; exact hK _ _ rfl ((fun x => B7 _ x) _)
          · intro a' w' hA hC hD; obtain ⟨u43, s43, rfl⟩ := hD ⟨4, .data⟩ (by simp) rfl _ rfl; obtain ⟨u42, s42, rfl⟩ := hD ⟨3, .guard⟩ (by simp) rfl _ rfl
            have b1 := c7b (k := 1) ((hC.block p (b7t HP.out)).trans HP.out) rfl
            clear hA hD; refine o7w rfl rfl s42 ?_; intro K hK; gi_wp2; exact hK _ _ rfl ((fun x => B7 _ x) _)
          · intro a' w' hA hC hD; have s3 := hA.to 3 (by kernel_rfl) rfl; obtain ⟨u42, s42, rfl⟩ := hD ⟨3, .guard⟩ (by simp) rfl _ rfl; clear hA hD; refine o7w rfl rfl s42 ?_; intro K hK; gi_wp2; exact hK _ _ rfl ((fun x => B7 _ x) _)
          · intro a' w' hA hC hD; have s10 := hA.to 10 (by kernel_rfl) rfl; obtain ⟨u42, s42, rfl⟩ := hD ⟨3, .guard⟩ (by simp) rfl _ rfl; clear hA hD; refine o7w rfl rfl s42 ?_; intro K hK; gi_wp2; exact hK _ _ rfl ((fun x => B7 _ x) _)
          · intro a' w' hA hC hD; obtain ⟨u46, s46, rfl⟩ := hD ⟨7, .data⟩ (by simp) rfl _ rfl; obtain ⟨u42, s42, rfl⟩ := hD ⟨3, .guard⟩ (by simp) rfl _ rfl; clear hA hD; refine o7w rfl rfl s42 ?_; intro K hK; gi_wp2; exact hK _ _ rfl ((fun x => B7 _ x) _)
          · intro a' w' hA hC hD; obtain ⟨u45, s45, rfl⟩ := hD ⟨6, .data⟩ (by simp) rfl _ rfl; obtain ⟨u47, s47, rfl⟩ := hD ⟨8, .data⟩ (by simp) rfl _ rfl; obtain ⟨u42, s42, rfl⟩ := hD ⟨3, .guard⟩ (by simp) rfl _ rfl; clear hA hD; refine o7w rfl rfl s42 ?_; intro K hK; gi_wp2; exact hK _ _ rfl ((fun x => B7 _ x) _)
          · intro a' w' hA hC hD; obtain ⟨u48, s48, rfl⟩ := hD ⟨9, .data⟩ (by simp) rfl _ rfl; obtain ⟨u42, s42, rfl⟩ := hD ⟨3, .guard⟩ (by simp) rfl _ rfl; clear hA hD; refine o7w rfl rfl s42 ?_; intro K hK; gi_wp2; exact hK _ _ rfl ((fun x => B7 _ x) _)
          · intro a' w' hA hC hD; obtain ⟨u49, s49, rfl⟩ := hD ⟨10, .data⟩ (by simp) rfl _ rfl; obtain ⟨u42, s42, rfl⟩ := hD ⟨3, .guard⟩ (by simp) rfl _ rfl
            have b1 := (HO.out.below hC).cell encS_len Q r 2 (.int .i64 r.t) (by rw [← HQ.out]; simp) rfl
            clear hA hD; refine o7w rfl rfl s42 ?_; intro K hK; gi_wp2; exact hK _ _ rfl ((fun x => B7 _ x) _)
          · intro a' w' hA hC hD; obtain ⟨u50, s50, rfl⟩ := hD ⟨11, .data⟩ (by simp) rfl _ rfl; obtain ⟨u42, s42, rfl⟩ := hD ⟨3, .guard⟩ (by simp) rfl _ rfl; clear hA hD; refine o7w rfl rfl s42 ?_; intro K hK; gi_wp2; exact hK _ _ rfl ((fun x => B7 _ x) _)
          · intro a' w' hA hC hD; obtain ⟨u44, s44, rfl⟩ := hD ⟨5, .data⟩ (by simp) rfl _ rfl; obtain ⟨u51, s51, rfl⟩ := hD ⟨12, .data⟩ (by simp) rfl _ rfl; obtain ⟨u42, s42, rfl⟩ := hD ⟨3, .guard⟩ (by simp) rfl _ rfl; clear hA hD; refine o7w rfl rfl s42 ?_; intro K hK; gi_wp2; exact hK _ _ rfl ((fun x => B7 _ x) _)
          · intro a' w' hA hC hD; obtain ⟨u42, s42, rfl⟩ := hD ⟨3, .data⟩ (by simp) rfl _ rfl; obtain ⟨u52, s52, rfl⟩ := hD ⟨13, .data⟩ (by simp) rfl _ rfl; clear hA hD; refine o7p rfl ?_; intro K hK; gi_wp2; exact hK _ _ rfl ((fun x => B7 _ x) _)
         case hend =>
          intro w6 hC
          simp only [EndFrom, eqv, forall_eq, Act.put, List.length_cons, List.length_nil, List.drop_succ_cons, List.drop_zero, Nat.reduceAdd, List.setIfInBounds_toArray, List.set_cons_succ, List.set_cons_zero]
          have hpb := (hC.block p (b7t HP.out)).trans HP.out
          have HP6 := H7 hpb
          obtain ⟨hgd6, hks6⟩ := HOTH.out w5 w6 none (fun j e => by cases e) (below_grown hC) HGD.out HKS.out
          have HKO := H7 (HKO.out.trans (keeps_below hC))
          have HO := H7 (HO.out.below hC)
          have HGD := H7 hgd6
          have HKS := H7 hks6
          clear hpb hgd6 hks6 hC
          gi_wp2
          by_cases hmg : xf ≤ r.t + 1
          · have HN := H7 (show MgTo y (s.take (j + 1)) (R0 ++ [⟨r.y, r.f, max r.t xt⟩]) by
             rw [HTS.out]
             have := HMG.out.merge HXS.out.1 HXS.out.2.2.1 HGE.out (by rw [HX.out]; exact hmg)
             rw [HX.out] at this ⊢
             exact this)
            go_wp2_with fail
            refine (wpIn_wide (n := 0)).1 ?_
            apply w7v 12 (Rl := [(eqv _), (eqv _), (eqv _), (eqv _), (eqv _), (eqv _), (eqv _), (eqv _), (eqv _), (eqv _), (eqv _), (eqv _)]) (C := (fun x y => Below w6.heap.size x y))
            case hm => kernel_rfl
            case hk => rfl
            case hCr => exact (fun x => B7 _ x)
            case hCt => intro _ _ _; exact (fun h k => h.trans k)
            case hst => repeat (first | exact trivial | refine ⟨fun _ _ _ _ h => h, ?_⟩)
            case hfo => kernel_rfl
            case ht => kernel_rfl
            case hC0 => exact ((B7 _ _).drew)
            case hsteps =>
             refine ⟨?_, ?_, ?_, ?_, ?_, ?_, ?_, ?_, ?_, ?_, ?_, ?_, trivial⟩
             · intro a' w' hA hC hD; have s3 := hA.to 3 (by kernel_rfl) rfl; clear hA hD; refine o7p rfl ?_; intro K hK; gi_wp2; exact hK _ _ rfl ((fun x => B7 _ x) _)
             · intro a' w' hA hC hD; have s10 := hA.to 10 (by kernel_rfl) rfl; clear hA hD; refine o7p rfl ?_; intro K hK; gi_wp2; exact hK _ _ rfl ((fun x => B7 _ x) _)
             · intro a' w' hA hC hD; obtain ⟨u55, s55, rfl⟩ := hD ⟨1, .data⟩ (by simp) rfl _ rfl; clear hA hD; refine o7p rfl ?_; intro K hK; gi_wp2; exact hK _ _ rfl ((fun x => B7 _ x) _)
             · intro a' w' hA hC hD; have s3 := hA.to 3 (by kernel_rfl) rfl; clear hA hD; refine o7p rfl ?_; intro K hK; gi_wp2; exact hK _ _ rfl ((fun x => B7 _ x) _)
             · intro a' w' hA hC hD; have s10 := hA.to 10 (by kernel_rfl) rfl; clear hA hD; refine o7p rfl ?_; intro K hK; gi_wp2; exact hK _ _ rfl ((fun x => B7 _ x) _)
             · intro a' w' hA hC hD; obtain ⟨u58, s58, rfl⟩ := hD ⟨4, .data⟩ (by simp) rfl _ rfl; clear hA hD; refine o7p rfl ?_; intro K hK; gi_wp2; exact hK _ _ rfl ((fun x => B7 _ x) _)
             · intro a' w' hA hC hD; obtain ⟨u57, s57, rfl⟩ := hD ⟨3, .data⟩ (by simp) rfl _ rfl; obtain ⟨u59, s59, rfl⟩ := hD ⟨5, .data⟩ (by simp) rfl _ rfl; clear hA hD; refine o7p rfl ?_; intro K hK; gi_wp2; exact hK _ _ rfl ((fun x => B7 _ x) _)
             · intro a' w' hA hC hD; obtain ⟨u60, s60, rfl⟩ := hD ⟨6, .data⟩ (by simp) rfl _ rfl; clear hA hD; refine o7p rfl ?_; intro K hK; gi_wp2; exact hK _ _ rfl ((fun x => B7 _ x) _)
             · intro a' w' hA hC hD; obtain ⟨u61, s61, rfl⟩ := hD ⟨7, .data⟩ (by simp) rfl _ rfl
               have b1 := (HO.out.below hC).cell encS_len Q r 2 (.int .i64 r.t) (by rw [← HQ.out]; simp) rfl
               clear hA hD; refine o7p rfl ?_; intro K hK; gi_wp2; exact hK _ _ rfl ((fun x => B7 _ x) _)
             · intro a' w' hA hC hD; have s9 := hA.to 9 (by kernel_rfl) rfl; clear hA hD; refine o7p rfl ?_; intro K hK; gi_wp2; exact hK _ _ rfl ((fun x => B7 _ x) _)
             · intro a' w' hA hC hD; obtain ⟨u63, s63, rfl⟩ := hD ⟨9, .data⟩ (by simp) rfl _ rfl
               have b1 := c7b (k := 2) ((hC.block p (b7t HP6.out)).trans HP6.out) rfl
               clear hA hD; refine o7p rfl ?_; intro K hK; gi_wp2; exact hK _ _ rfl ((fun x => B7 _ x) _)
             · intro a' w' hA hC hD; obtain ⟨u62, s62, rfl⟩ := hD ⟨8, .data⟩ (by simp) rfl _ rfl; obtain ⟨u64, s64, rfl⟩ := hD ⟨10, .data⟩ (by simp) rfl _ rfl; clear hA hD; refine o7p rfl ?_; intro K hK; gi_wp2; exact hK _ _ rfl ((fun x => B7 _ x) _)
            case hend =>
             intro w7 hC
             simp only [EndFrom, eqv, forall_eq, Act.put, List.length_cons, List.length_nil, List.drop_succ_cons, List.drop_zero, Nat.reduceAdd, List.setIfInBounds_toArray, List.set_cons_succ, List.set_cons_zero]
             have HKO7 := H7 (HKO.out.trans (keeps_below hC))
             have HO7 := H7 (HO.out.below hC)
             obtain ⟨hgd7, hks7⟩ := HOTH.out w6 w7 none (fun j e => by cases e) (below_grown hC) HGD.out HKS.out
             have HGD := H7 hgd7
             have HKS := H7 hks7
             have c5 := HO7.out.cell encS_len Q r 2 (.int .i64 r.t) (by rw [← HQ.out]; simp) rfl
             have f5 := HO7.out.free (Q * 3 + 2)
             clear hC hgd7 hks7
             gi_wp2
             have hs := HO7.out.setLast encS_len ⟨r.y, r.f, max r.t xt⟩ 2 (.int .i64 (max r.t xt)) (by omega) rfl
             rw [HQ.out] at hs
             have HO8 := H7 hs
             have HOT := H7 (HOTH.out _ _ (some go) (fun j e => by cases e; exact HGO.out) (g7c w7 go (Q * 3 + 2) (.int .i64 (max r.t xt))) HGD.out HKS.out)
             clear hs c5 f5
             go_wp2_with fail
             go_roundw
             case rel => exact ⟨j + 1, R0 ++ [⟨r.y, r.f, max r.t xt⟩], HJ.out, by first | rw [e4] | simp, by rw [← List.append_assoc]; exact HO8.out, HN.out, HOT.out.1, HOT.out.2, HKO7.out.trans (KeepsOthers.setCell _ _ _)⟩
             case measure => have := HJ.out; (try rw [e4]); simp [intOf]; omega
          · have HN := H7 (show MgTo y (s.take (j + 1)) (R0 ++ [r] ++ [X]) by
             rw [HTS.out]
             refine HMG.out.new HXS.out.1 HXS.out.2.2.1 (fun R1 r1 e => ?_)
             have e2 : r = r1 := by
              have := congrArg List.getLast? e
              simpa using this
             rw [← e2, HX.out]
             simp only
             omega)
            have k0 := c7b (k := 0) HP6.out rfl
            have k1 := c7b (k := 1) HP6.out rfl
            have k2 := c7b (k := 2) HP6.out rfl
            have hmx := HMX.out
            rw [HLEN.out] at hmx
            have HMX2 := H7 hmx
            have HHL := H7 (show decide (xf ≤ r.t + 1) = false by simp; omega)
            clear hmx
            go_wp2_with (at_builtin; refine wpList_app1g (enc := encS) (L := (M ++ R0 ++ [r])) rowS encS_len encS_one HO.out (B7 _ _) ⟨xy, xf, xt⟩ (Q + 1) HLEN.out HMX2.out (by decide) _ _ rfl rfl rfl _ rfl rfl ?_; intro v' w7 ho7 hsh hg7; have HO7 := H7 ho7; have HOT := H7 (HOTH.out _ _ _ HVL.out hg7 HGD.out HKS.out); have HKO7 := H7 (HKO.out.trans (keeps_row HO.out.row hg7)); clear ho7 hsh hg7)
            go_roundw
            case rel => exact ⟨j + 1, R0 ++ [r] ++ [⟨xy, xf, xt⟩], HJ.out, by first | rw [e4] | simp, by rw [← List.append_assoc, ← List.append_assoc]; exact HO7.out, by have := HN.out; rw [HX.out] at this; exact this, HOT.out.1, HOT.out.2, HKO7.out⟩
            case measure => have := HJ.out; (try rw [e4]); simp [intOf]; omega
     · have hjm : j = ms := by omega
       subst hjm
       have HRK2 := H7 (show RowK L ks (k + 1) (M ++ R) by
        refine HRK.out.step HPW.out HY.out HPS.out ?_
        have := HMG.out
        rwa [List.take_of_length_le (by rw [HMS.out]; exact Nat.le_refl _)] at this)
       clear hj hlt2
       go_wp2_with fail
       go_roundw
       case rel => exact ⟨k + 1, M ++ R, _, HLT.out, by first | rw [e3] | simp, HO.out, HRK2.out, HGD.out, HPM2.out, HKS.out, HKO.out⟩
       case measure => have := HLT.out; (try rw [e3]); simp [intOf]; omega
  · have hkm : k = m := by omega
    subst hkm
    have HSET := H7 (show SetRow (fun p => hasB L p = true) M by
     refine RowK.setRow (ks := ks) (by rw [HM.out]; exact HRK.out) (fun s hs => (HME.out s.y (HSP.out s hs).1).2 (fun e => ?_))
     have : s ∈ GrOf L s.y := GrOf_mem.2 ⟨hs, rfl⟩
     rw [e] at this
     cases this)
    have HML := H7 (show M.length ≤ L.length by
     have h1 := HRK.out.len
     have hnd : (ks.take k).Nodup := (HPW.out.sublist (List.take_sublist _ _)).imp fun {a b} h => by omega
     have h2 := GrOf_sum hnd L
     omega)
    clear hk hlt
    go_wp2_with fail
    go_ret
    refine ⟨M, u3, HSET.out, HML.out, rfl, ?_, ?_, HKO.out⟩
    · exact ownsRow_mono HO.out.row HO.out.low
    · exact HO.out.st.low
end Go.Proofs.YthcdkkmjnglmjaaGreatDoor
/- Layer 6: All, Count. -/
namespace Go.Proofs.YthcdkkmjnglmjaaGreatDoor
open Go.RowKit Go.Shelf
attribute [local go_sem] Oper.semAt_some
/-- The places of a span; of a row. -/
def spPts (s : SpT) : List PtT := (List.range (s.t - s.f + 1).toNat).map fun (i : Nat) => ⟨s.f + (i : Int), s.y⟩
def ptsL (l : List SpT) : List PtT := l.flatMap spPts
noncomputable def allL (l : List SpT) : List PtT := bif rightB l then ptsL l else []
theorem spPts_len (s : SpT) : (spPts s).length = (s.t - s.f + 1).toNat := by simp [spPts]
theorem spPts_get (s : SpT) (i : Nat) (h : i < (s.t - s.f + 1).toNat) : (spPts s)[i]? = some ⟨s.f + (i : Int), s.y⟩ := by simp [spPts, h]
/-- How many places the first k spans have. -/
def posL (l : List SpT) (k : Nat) : Nat := (ptsL (l.take k)).length
theorem posL_succ {l : List SpT} {k : Nat} {s : SpT} (hx : l[k]? = some s) : posL l (k + 1) = posL l k + (s.t - s.f + 1).toNat := by
 unfold posL ptsL
 rw [List.take_add_one, hx]
 simp [spPts_len]
theorem posL_all (l : List SpT) : posL l l.length = (ptsL l).length := by unfold posL; rw [List.take_length]
theorem ptsL_split {l : List SpT} {k : Nat} {s : SpT} (hx : l[k]? = some s) : ptsL l = ptsL (l.take k) ++ (spPts s ++ ptsL (l.drop (k + 1))) := by
 obtain ⟨hk, e⟩ := List.getElem?_eq_some_iff.1 hx
 unfold ptsL
 conv => lhs; rw [← List.take_append_drop k l, List.drop_eq_getElem_cons hk, e]
 simp
theorem ptsL_at {l : List SpT} {k : Nat} {s : SpT} (hx : l[k]? = some s) (i : Nat) (hi : i < (s.t - s.f + 1).toNat) : (ptsL l)[posL l k + i]? = some ⟨s.f + (i : Int), s.y⟩ := by
 rw [ptsL_split hx]
 unfold posL
 rw [List.getElem?_append_right (by omega), Nat.add_sub_cancel_left, List.getElem?_append_left (by rw [spPts_len]; exact hi), spPts_get s i hi]
theorem posL_le {l : List SpT} {k : Nat} {s : SpT} (hx : l[k]? = some s) (i : Nat) (hi : i ≤ (s.t - s.f + 1).toNat) : posL l k + i ≤ (ptsL l).length := by
 rw [ptsL_split hx]
 unfold posL
 simp [spPts_len]
 omega
theorem Elems.keepsAt {w w' : World} {bs : List Nat} {a : Option Addr} {n cap size : Nat} {c : Nat → Value} (h : Elems w (.slice a n cap) n size c) (hb : ∀ b off, a = some ⟨b, off, none⟩ → b ∈ bs) (hk : KeepsAt bs w w') : Elems w' (.slice a n cap) n size c := by
 rcases h with h | ⟨b, off, cap', e, hlt, hc⟩
 · exact .inl h
 · cases e
   have e1 := hk b (hb b off rfl)
   refine .inr ⟨b, off, cap, rfl, ?_, fun j hj => by rw [← hc j hj]; simp only [World.cell?, e1]⟩
   rw [Array.getElem?_eq_getElem hlt] at e1
   exact (Array.getElem?_eq_some_iff.1 e1).1
theorem cell_keepsAt {w w' : World} {bs : List Nat} {b o : Nat} {v : Value} (h : w.cell? ⟨b, o, none⟩ = some v) (hb : b ∈ bs) (hk : KeepsAt bs w w') : w'.cell? ⟨b, o, none⟩ = some v := by
 rw [← h]; simp only [World.cell?, hk b hb]
theorem keepsAt_lt {w w' : World} {bs : List Nat} (hk : KeepsAt bs w w') (h : ∀ b ∈ bs, b < w.heap.size) : ∀ b ∈ bs, b < w'.heap.size := fun b hb => by
 have h1 := hk b hb
 rw [Array.getElem?_eq_getElem (h b hb)] at h1
 exact (Array.getElem?_eq_some_iff.1 h1).1
/-- Between two places. -/
structure AllAt (own : World → Nat → Prop) (bs : List Nat) (N0 : Nat) (N : Nat) (J : List (Fin N) → World → Prop) (W : World) (p : Nat) (wr : World) : Prop where
 j : J (firsts N p) wr
 ko : KO own bs N0 W wr
 wf : ∀ q, own wr q → q < wr.heap.size
theorem AllAt.below {own : World → Nat → Prop} {bs : List Nat} {N0 N : Nat} {J : List (Fin N) → World → Prop} {W : World} {p : Nat} {wr w' : World} (h : AllAt own bs N0 N J W p wr) (ho : OwnSt own N0) (hJd : ∀ pre x y, J pre x → Below x.heap.size x y → J pre y)
 (hN : N0 ≤ W.heap.size) (hbs : ∀ b ∈ bs, b < W.heap.size) (hb : Below wr.heap.size wr w') : AllAt own bs N0 N J W p w' := by
 have k := KO.of_below (own := own) (bs := bs) ho hb (Nat.le_trans hN h.ko.size) (keepsAt_lt h.ko.at_ hbs)
 exact ⟨hJd _ _ _ h.j hb, h.ko.trans k, k.wf h.wf⟩
set_option maxRecDepth 100000 in
set_option maxHeartbeats 2000000 in
theorem all1_right (n : Nat) (hn : 1 ≤ n) (own : World → Nat → Prop) (N0 : Nat) (ho : OwnSt own N0) (L Bs : Nat) (bs : List Nat) (a : Option Addr) (m cap : Nat) (l : List SpT) (hl : l.length = m) (hm : m ≤ 1000000000) (hr : rightB l = true)
 (J Jx : List (Fin (ptsL l).length) → World → Prop) (hJd : ∀ pre x y, J pre x → Below x.heap.size x y → J pre y) (hb1 : Bs ∈ bs) (hb2 : ∀ b off, a = some ⟨b, off, none⟩ → b ∈ bs)
 (hY : ∀ pre x W, J pre W → pre.length < (ptsL l).length → YieldAt Fence.wide (n - 1) Tryz.prog L #[((ptsL l)[x.1]).val] W fun e W' =>
  (e = .returned (.bool true) ∧ J (pre ++ [x]) W' ∧ KO own bs N0 W W') ∨ (e = .returned (.bool false) ∧ Jx (pre ++ [x]) W'))
 (W : World) (hN : N0 ≤ W.heap.size) (hBs : ∀ c ∈ bs, c < W.heap.size) (hwf : ∀ q, own W q → q < W.heap.size) (hc : W.cell? ⟨Bs, 0, none⟩ = some (.slice a m cap)) (hh : Elems W (.slice a m cap) m 3 (rowC encS l)) (h0 : J [] W) :
 CallsIn Fence.wide n Tryz.prog 108 #[.func (.yield L) #[] #[], .pointer (some ⟨Bs, 0, none⟩)] W fun e W' => (∃ v, e = .returned v) ∧
  ((∃ ys, ys = List.finRange (ptsL l).length ∧ J ys W') ∨ (∃ pre, pre <+: List.finRange (ptsL l).length ∧ Jx pre W')) := by
 have HY := H7 hY
 have HL := H7 hl
 have HR := H7 hr
 have HO := H7 ho
 have HCH := H7 (check_any a m cap l hl hm W hh)
 have HD := H7 (fun (p : Nat) (x y : World) (h : AllAt own bs N0 (ptsL l).length J W p x) (hb : Below x.heap.size x y) => h.below ho hJd hN hBs hb)
 have HC : Hid (∀ wr, KeepsAt bs W wr → wr.cell? ⟨Bs, 0, none⟩ = some (.slice a m cap) ∧ Elems wr (.slice a m cap) m 3 (rowC encS l)) := H7 fun wr hk => ⟨cell_keepsAt hc hb1 hk, hh.keepsAt hb2 hk⟩
 have HA := H7 (show AllAt own bs N0 (ptsL l).length J W 0 W from ⟨h0, KO.refl _ _ _ _, hwf⟩)
 have HN := H7 hN
 have HRP := H7 ((rightB_iff l).1 hr)
 have c0 := (HC.out W (KeepsAt.refl _ _)).1
 clear hY hl hr ho hJd hb1 hb2 hBs hc hh h0 hwf hN
 refine callsIn_of_wp Tryz.func108 rfl trivial ?_ rfl
 simp only [Tryz.ntmps108, List.size_toArray, List.length_cons, List.length_nil, Nat.reduceAdd, Nat.reduceSub, Array.replicate_succ, Array.replicate_zero, List.push_toArray, List.append_toArray, List.nil_append, List.cons_append]
 gi_wp2
 apply wpIn_scope
 gi_wp2_with fail
 refine (callsIn_wide.2 HCH.out).mono ?_
 rintro e w2 ⟨rfl, hb_⟩
 have HA := H7 (HD.out _ _ _ HA.out hb_)
 rw [HR.out, errOf_true]
 clear hb_ HCH c0
 have c0 := (HC.out w2 HA.out.ko.at_).1
 gi_wp2
 apply wpIn_label
 gi_wp2
 clear c0
 gi_loopw [11] (fun i wr => ∃ k : Nat, k ≤ m ∧ i = .int .i64 k ∧ AllAt own bs N0 (ptsL l).length J W (posL l k) wr) (fun i _ => m - (intOf i).toNat)
 case atStart => exact ⟨0, by omega, rfl, HA.out⟩
 case round =>
  obtain ⟨k, hk, rfl, ha⟩ := hrel
  clear HA
  have HA := H7 ha
  clear ha
  by_cases hlt : k < m
  · have HLT := H7 (show k < l.length by rw [HL.out]; exact hlt)
    have wk : wrap64 ((k : Int) + 1) = ((k + 1 : Nat) : Int) := by unfold wrap64; omega
    obtain ⟨s, hx⟩ : ∃ s, l[k]? = some s := ⟨_, List.getElem?_eq_getElem HLT.out⟩
    obtain ⟨bb, off, rfl, hbb, c0, c1, c2⟩ := spCells HL.out (HC.out wr HA.out.ko.at_).2 k s hx
    have hs := (spB_iff s).1 (by have := HRP.out.sp k HLT.out; rwa [(List.getElem?_eq_some_iff.1 hx).2] at this)
    have HAT := H7 (fun i hi => ptsL_at hx i hi)
    have HLE := H7 (fun i hi => posL_le hx i hi)
    have HS := H7 (posL_succ hx)
    have HSB := H7 hs
    obtain ⟨sy, sf, st⟩ := s
    simp only at c0 c1 c2 HAT HLE HS HSB
    clear hx hbb hs
    gi_wp2
    obtain ⟨q, hq⟩ : ∃ q, wr.heap.size = q := ⟨_, rfl⟩
    obtain ⟨w3, hw3⟩ : ∃ w3, wr.alloc (.cells #[.int .i64 sy, .int .i64 sf, .int .i64 st] 60) = w3 := ⟨_, rfl⟩
    have hb3 : Below wr.heap.size wr w3 := by rw [← hw3]; exact (B7 _ _).alloc (Nat.le_refl _) _
    have HA3 := H7 (HD.out _ _ _ HA.out hb3)
    have hq3 : w3.heap[q]? = some (.cells #[.int .i64 sy, .int .i64 sf, .int .i64 st] 60 (0, 0)) := by rw [← hw3, ← hq]; exact World.alloc_heap_new wr _
    have hno : ¬ own w3 q := by
     intro h
     have h1 := (HO.out wr w3 (fun k hk => hb3.block k (by have := HN.out; have := HA.out.ko.size; omega)) q).1 h
     have := HA.out.wf q h1
     omega
    have hNq : N0 ≤ q := by have := HN.out; have := HA.out.ko.size; omega
    have HNQ := H7 hNq
    have HQ := H7 (And.intro hno hq3)
    rw [hw3]
    simp only [hq]
    clear hw3 hq hb3 hq3 hno hNq c0 c1 c2 HA
    gi_loopw [5] (fun x wi => ∃ i : Nat, (i : Int) ≤ st - sf + 1 ∧ x = .int .i64 (sf + (i : Int)) ∧ AllAt own bs N0 (ptsL l).length J W (posL l k + i) wi ∧ ¬ own wi q ∧ wi.heap[q]? = some (.cells #[.int .i64 sy, .int .i64 sf, .int .i64 st] 60 (0, 0))) (fun x _ => (st + 1 - intOf x).toNat)
    case atStart => exact ⟨0, by have := HSB.out; omega, by simp, HA3.out, HQ.out⟩
    case round =>
     obtain ⟨i, hi, rfl, ha, hno, hq3⟩ := hrel
     have HA := H7 ha
     have HNO := H7 hno
     have HQ3 := H7 hq3
     have k0 := c7b (k := 0) hq3 rfl
     have k2 := c7b (k := 2) hq3 rfl
     clear ha hno hq3 HA3 HQ
     by_cases hlt2 : sf + (i : Int) ≤ st
     · have wi1 : wrap64 (sf + (i : Int) + 1) = sf + ((i + 1 : Nat) : Int) := by have := HSB.out; unfold wrap64; omega
       have hii : i < (st - sf + 1).toNat := by omega
       have hpl : posL l k + i < (ptsL l).length := by have := HLE.out (i + 1) (by omega); omega
       obtain ⟨fn, tmps, assign, body, hy, hR⟩ := HY.out _ (⟨posL l k + i, hpl⟩ : Fin (ptsL l).length) wr HA.out.j (by rw [firsts_length (by omega)]; exact hpl)
       have he : (ptsL l)[posL l k + i] = ⟨sf + (i : Int), sy⟩ := by have := HAT.out i hii; rw [List.getElem?_eq_getElem hpl] at this; exact Option.some.inj this
       simp only [he, PtT.val] at hy
       have hs := firsts_succ (N := (ptsL l).length) (k := posL l k + i) hpl
       rw [hs] at hR
       have HPL := H7 hpl
       clear hs he hii hpl
       gi_wp2
       refine hR.mono ?_
       rintro e w4 (⟨rfl, hJ4, hk4⟩ | ⟨rfl, hJx⟩)
       · obtain ⟨n4, q4⟩ := hk4.rest q _ HNQ.out HQ3.out rfl HNO.out
         have HA4 := H7 (show AllAt own bs N0 (ptsL l).length J W (posL l k + (i + 1)) w4 from ⟨hJ4, HA.out.ko.trans hk4, hk4.wf HA.out.wf⟩)
         have HQ4 := H7 (And.intro n4 q4)
         clear hJ4 hk4 n4 q4
         gi_wp2
         go_roundw
         case rel => exact ⟨i + 1, by omega, by rw [wi1], HA4.out, HQ4.out⟩
         case measure => simp [intOf]; omega
       · have HJ3 := H7 hJx
         clear hJx
         gi_wp2; rw [Exit.noGoto_normal]
         go_end0
         exact ⟨⟨_, rfl⟩, .inr ⟨_, firsts_prefix _ _, HJ3.out⟩⟩
     · have HE := H7 (show posL l k + i = posL l (k + 1) by (rw [HS.out, show i = (st - sf + 1).toNat by omega]))
       clear hi
       gi_wp2
       go_roundw
       case rel => exact ⟨k + 1, hlt, by simp, by have := HA.out; rwa [HE.out] at this⟩
       case measure => simp [intOf]; omega
  · obtain rfl : k = m := by omega
    have HJ := H7 (show J (List.finRange (ptsL l).length) wr by have := HA.out.j; rwa [← HL.out, posL_all, firsts_all] at this)
    clear hk hlt
    gi_wp2; rw [Exit.noGoto_normal]
    go_end0
    exact ⟨⟨_, rfl⟩, .inl ⟨_, rfl, HJ.out⟩⟩
set_option maxRecDepth 100000 in
theorem all1_wrong (n : Nat) (L Bs : Nat) (a : Option Addr) (m cap : Nat) (l : List SpT) (hl : l.length = m) (hm : m ≤ 1000000000) (hr : rightB l = false) (R : World → Prop) (hJd : ∀ x y, R x → Below x.heap.size x y → R y)
 (W : World) (hc : W.cell? ⟨Bs, 0, none⟩ = some (.slice a m cap)) (hh : Elems W (.slice a m cap) m 3 (rowC encS l)) (h0 : R W) :
 CallsIn Fence.wide n Tryz.prog 108 #[.func (.yield L) #[] #[], .pointer (some ⟨Bs, 0, none⟩)] W fun e W' => (∃ v, e = .returned v) ∧ R W' := by
 have HR := H7 hr
 have HCH := H7 (check_any a m cap l hl hm W hh)
 have HJ := H7 (fun y hb => hJd W y h0 hb)
 clear hh hr hJd h0
 refine callsIn_of_wp Tryz.func108 rfl trivial ?_ rfl
 simp only [Tryz.ntmps108, List.size_toArray, List.length_cons, List.length_nil, Nat.reduceAdd, Nat.reduceSub, Array.replicate_succ, Array.replicate_zero, List.push_toArray, List.append_toArray, List.nil_append, List.cons_append]
 gi_wp2
 apply wpIn_scope
 gi_wp2_with fail
 refine (callsIn_wide.2 HCH.out).mono ?_
 rintro e w2 ⟨rfl, hb_⟩
 have HK := H7 (HJ.out _ hb_)
 rw [HR.out, errOf_false]
 clear hb_ HCH hc
 gi_wp2; rw [Exit.noGoto_ret]
 refine bodyPost_ret (results_none rfl _ _ _) rfl ?_
 exact ⟨⟨_, rfl⟩, HK.out⟩
theorem all_iter (own : World → Nat → Prop) (w : World) (ho : OwnSt own w.heap.size) (hwf : ∀ q, own w q → q < w.heap.size) (Bs : Nat) (bs : List Nat) (a : Option Addr) (m cap : Nat) (l : List SpT) (hl : l.length = m) (hm : m ≤ 1000000000) (A : List PtT) (hA : allL l = A)
 (hbs : ∀ c ∈ bs, c < w.heap.size) (hb1 : Bs ∈ bs) (hb2 : ∀ b off, a = some ⟨b, off, none⟩ → b ∈ bs) (hc : w.cell? ⟨Bs, 0, none⟩ = some (.slice a m cap)) (hh : Elems w (.slice a m cap) m 3 (rowC encS l)) :
 IterO Tryz.prog 108 #[.pointer (some ⟨Bs, 0, none⟩)] A.length (fun i => #[(A[i.1]).val]) own bs w := by
 unfold allL at hA
 cases hr : rightB l
 · rw [hr, cond_false] at hA
   subst hA
   intro n hn1 L J Jx W hW hJ _ hY h0
   refine (all1_wrong n L Bs a m cap l hl hm hr (J []) (fun x y h hb => hJ [] x y none h (below_grown hb) (by simp)) W ((hW.cell (p := ⟨Bs, 0, none⟩) (hbs Bs hb1)).trans hc) (hh.below hW) h0).mono ?_
   rintro e w' ⟨h1, h2⟩
   exact ⟨h1, .inl ⟨_, rfl, h2⟩⟩
 · rw [hr, cond_true] at hA
   subst hA
   intro n hn1 L J Jx W hW hJ _ hY h0
   have e := ho w W (fun k hk => hW.block k hk)
   exact all1_right n hn1 own w.heap.size ho L Bs bs a m cap l hl hm hr J Jx (fun pre x y h hb => hJ pre x y none h (below_grown hb) (by simp)) hb1 hb2 hY W hW.size (fun c hc => Nat.lt_of_lt_of_le (hbs c hc) hW.size) (fun q hq => Nat.lt_of_lt_of_le (hwf q ((e q).1 hq)) hW.size)
    ((hW.cell (p := ⟨Bs, 0, none⟩) (hbs Bs hb1)).trans hc) (hh.below hW) h0
theorem all_any (a : Option Addr) (n cap : Nat) (w : World) :
 Calls Tryz.prog 82 #[.slice a n cap] w fun e w' => e = .returned (.func (.func 108) #[] #[.pointer (some ⟨w.heap.size, 0, none⟩)]) ∧ w.alloc (.cells #[.slice a n cap] 57) = w' := by
 go_enter Tryz.func82, Tryz.ntmps82
 go_wp2
 go_ret
 exact ⟨rfl, rfl⟩
end Go.Proofs.YthcdkkmjnglmjaaGreatDoor
