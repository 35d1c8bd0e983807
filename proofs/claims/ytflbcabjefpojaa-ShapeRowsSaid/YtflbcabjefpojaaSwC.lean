/- Layer 6: Disc, Square, Union. -/
import Derived.Test.YtflbcabjefpojaaSwB
namespace Go.Proofs.Ytflbcabjefpojaa
set_option linter.unusedSimpArgs false
set_option linter.unusedVariables false
open Go.RowKit Go.Shelf Go.Maps
attribute [local go_sem] Oper.semAt_some

set_option maxRecDepth 100000 in
set_option maxHeartbeats 1000000 in
theorem shDisc_any (c : PtT) (size : Int) (w : World) :
    Calls Try.prog 23 #[c.val, .int .i64 size] w (GivesSet (sizeB size && drawnB c) (SwM size true [c]) 2 w) := by
  have HSW := Lib.hid (fun (a : Option Addr) (cap : Nat) (w : World) h => shSweep_any a 1 cap [c] rfl (by omega) size true w h)
  have hok : (sizeB size && !([c].any fun p => !drawnB p)) = (sizeB size && drawnB c) := by simp
  rw [hok] at HSW
  obtain ⟨ok, hok2⟩ : ∃ ok, (sizeB size && drawnB c) = ok := ⟨_, rfl⟩
  rw [hok2] at HSW ⊢
  have HS := Lib.hid (St.start w)
  unfold PtT.val
  clear hok hok2
  go_enter Try.func23, Try.ntmps23
  go_wp2_with fail
  have hs_ := ((HS.out.alloc (.cells #[.int .i64 c.x, .int .i64 c.y] 28)).alloc (.cells #[.int .i64 c.x, .int .i64 c.y] 28))
  obtain ⟨w1, hw_⟩ : ∃ w1 : World, ((w.alloc (.cells #[.int .i64 c.x, .int .i64 c.y] 28)).alloc (.cells #[.int .i64 c.x, .int .i64 c.y] 28)) = w1 := ⟨_, rfl⟩
  rw [hw_] at hs_
  try simp only [World.size_alloc] at hs_
  have HS := Lib.hid hs_
  rw [hw_]
  clear hw_ hs_
  refine (HSW.out _ _ _ (.inr ⟨w.heap.size + 1, 0, 1, rfl, HS.out.lt 0 rfl, fun j hj => ?_⟩)).mono ?_
  · rw [Nat.zero_add]
    have hb := HS.out.blockAt 0 rfl
    rcases j with _ | _ | j
    · exact cell_of_block hb rfl
    · exact cell_of_block hb rfl
    · omega
  rintro e w2 ⟨M, h1, h2, h3, v, rfl, hrow, hlow⟩
  have HR := Lib.hid (And.intro h1 (And.intro h2 (And.intro h3 (And.intro (ownsRow_mono hrow HS.out.low.size) (HS.out.low.trans (hlow.mono HS.out.low.size))))))
  clear h1 h2 h3 hrow hlow HSW
  go_wp2_with fail
  refine bodyPost_ret (v := .tuple #[v, .int .i64 (errOf ok 2)]) (by simp [results, Try.results23, go_sem]) rfl ⟨M, HR.out.1, HR.out.2.1, HR.out.2.2.1, v, rfl, HR.out.2.2.2⟩

set_option maxRecDepth 100000 in
set_option maxHeartbeats 1000000 in
theorem shSquare_any (c : PtT) (size : Int) (w : World) :
    Calls Try.prog 22 #[c.val, .int .i64 size] w (GivesSet (sizeB size && drawnB c) (SwM size false [c]) 2 w) := by
  have HSW := Lib.hid (fun (a : Option Addr) (cap : Nat) (w : World) h => shSweep_any a 1 cap [c] rfl (by omega) size false w h)
  have hok : (sizeB size && !([c].any fun p => !drawnB p)) = (sizeB size && drawnB c) := by simp
  rw [hok] at HSW
  obtain ⟨ok, hok2⟩ : ∃ ok, (sizeB size && drawnB c) = ok := ⟨_, rfl⟩
  rw [hok2] at HSW ⊢
  have HS := Lib.hid (St.start w)
  unfold PtT.val
  clear hok hok2
  go_enter Try.func22, Try.ntmps22
  go_wp2_with fail
  have hs_ := ((HS.out.alloc (.cells #[.int .i64 c.x, .int .i64 c.y] 28)).alloc (.cells #[.int .i64 c.x, .int .i64 c.y] 28))
  obtain ⟨w1, hw_⟩ : ∃ w1 : World, ((w.alloc (.cells #[.int .i64 c.x, .int .i64 c.y] 28)).alloc (.cells #[.int .i64 c.x, .int .i64 c.y] 28)) = w1 := ⟨_, rfl⟩
  rw [hw_] at hs_
  try simp only [World.size_alloc] at hs_
  have HS := Lib.hid hs_
  rw [hw_]
  clear hw_ hs_
  refine (HSW.out _ _ _ (.inr ⟨w.heap.size + 1, 0, 1, rfl, HS.out.lt 0 rfl, fun j hj => ?_⟩)).mono ?_
  · rw [Nat.zero_add]
    have hb := HS.out.blockAt 0 rfl
    rcases j with _ | _ | j
    · exact cell_of_block hb rfl
    · exact cell_of_block hb rfl
    · omega
  rintro e w2 ⟨M, h1, h2, h3, v, rfl, hrow, hlow⟩
  have HR := Lib.hid (And.intro h1 (And.intro h2 (And.intro h3 (And.intro (ownsRow_mono hrow HS.out.low.size) (HS.out.low.trans (hlow.mono HS.out.low.size))))))
  clear h1 h2 h3 hrow hlow HSW
  go_wp2_with fail
  refine bodyPost_ret (v := .tuple #[v, .int .i64 (errOf ok 2)]) (by simp [results, Try.results22, go_sem]) rfl ⟨M, HR.out.1, HR.out.2.1, HR.out.2.2.1, v, rfl, HR.out.2.2.2⟩

theorem all_take {ls : List (List SpT)} {k : Nat} {l : List SpT} (hx : ls[k]? = some l) (h : rightB l = false) : ls.all rightB = false := by
  rw [List.all_eq_false]
  exact ⟨l, List.mem_of_getElem? hx, by simp [h]⟩
theorem flat_le {ls : List (List SpT)} {k : Nat} {l : List SpT} (hx : ls[k]? = some l) (q : Nat) : ((ls.take k).flatten ++ l.take q).length ≤ ls.flatten.length := by
  obtain ⟨hk, e⟩ := List.getElem?_eq_some_iff.1 hx
  have : ls.flatten.length = (ls.take k).flatten.length + (l.length + (ls.drop (k + 1)).flatten.length) := by
    conv => lhs; rw [← List.take_append_drop k ls, List.drop_eq_getElem_cons hk, e]
    simp
  rw [List.length_append, List.length_take]
  omega

set_option maxRecDepth 100000 in
set_option maxHeartbeats 1000000 in
theorem shUnion_any (a : Option Addr) (n cap : Nat) (ls : List (List SpT)) (hl : ls.length = n) (hn : n ≤ 1000000) (hT : ls.flatten.length ≤ 1000000) (w : World) (h : RowsR w a ls) :
    Calls Try.prog 34 #[.slice a n cap] w (GivesSet (ls.all rightB) (fun p => hasB ls.flatten p = true) 160 w) := by
  have HS := Lib.hid (St.start w)
  have HL := Lib.hid hl
  have HT := Lib.hid hT
  have HRO := Lib.hid h
  obtain ⟨ok, hok⟩ : ∃ ok, ls.all rightB = ok := ⟨_, rfl⟩
  rw [hok]
  have HOK := Lib.hid hok
  clear hl hT h hok
  have hmm := makeMap_rows
  go_enter Try.func34, Try.ntmps34
  go_wp2_with fail
  clear hmm
  have hB3 : Below (w.heap.size + 1) (w.alloc (.map #[] 0)) ((w.alloc (.map #[] 0)).alloc (.cells #[.map (some w.heap.size)] 76)) := (Below.refl _ _).alloc (by simp) _
  have hs3 := (HS.out.alloc (.map #[] 0)).alloc (.cells #[.map (some w.heap.size)] 76)
  obtain ⟨w3, hw3⟩ : ∃ w3 : World, (w.alloc (.map #[] 0)).alloc (.cells #[.map (some w.heap.size)] 76) = w3 := ⟨_, rfl⟩
  have hz3 : w3.heap.size = w.heap.size + 2 := by rw [← hw3]; simp
  rw [hw3] at hB3 hs3
  rw [hw3]
  simp only [World.size_alloc] at hs3
  have hgs := GrS.start (hs3.sub (.cons_cons _ (.cons _ (List.Sublist.refl _)))) hB3 (by omega)
  obtain ⟨N3, hN3⟩ : ∃ N3, w3.heap.size = N3 := ⟨_, rfl⟩
  rw [hN3] at hgs hz3
  have HZ := Lib.hid hz3
  have HGS := Lib.hid hgs
  clear hB3 hs3 hw3 hz3 hgs hN3 HS
  go_loopw [15] (fun i wr => ∃ k : Nat, k ≤ n ∧ i = .int .i64 (k : Int) ∧ GrS w [.blk (w.heap.size + 1) (.cells #[.map (some w.heap.size)] 76)] [] N3 w.heap.size (ls.take k).flatten wr ∧ ∀ l ∈ ls.take k, rightB l = true) (fun i _ => n - (intOf i).toNat)
  case atStart => exact ⟨0, by omega, rfl, HGS.out, by simp⟩
  case round =>
    obtain ⟨k, hk, rfl, hg, hr⟩ := hrel
    clear HGS
    have HG := Lib.hid hg
    have HR := Lib.hid hr
    clear hg hr
    by_cases hlt : k < n
    · have HK := Lib.hid hlt
      have e3 : wrap64 ((k : Int) + 1) = ((k + 1 : Nat) : Int) := by unfold wrap64; omega
      obtain ⟨l, hx⟩ : ∃ l, ls[k]? = some l := ⟨_, List.getElem?_eq_getElem (by rw [HL.out]; exact hlt)⟩
      obtain ⟨bb, off, a', cap', rfl, hbb, c00, hel⟩ := HRO.out k l hx
      have c0 := (HG.out.st.low.cell (p := ⟨bb, off + k, none⟩) hbb).trans c00
      have HEL := Lib.hid hel
      have HX := Lib.hid hx
      have HTF := Lib.hid (take_flat hx)
      have HFL := Lib.hid (flat_le hx)
      have hlen : l.length ≤ 1000000 := by have := HFL.out l.length; have := HT.out; simp at *; omega
      have HLN := Lib.hid hlen
      obtain ⟨m, hm⟩ : ∃ m, l.length = m := ⟨_, rfl⟩
      rw [hm] at HEL HLN c0
      have HM := Lib.hid hm
      have HCH := Lib.hid (check_any a' m cap' l hm (by rw [← hm]; omega) wr (HEL.out.below HG.out.st.low))
      clear hx c00 hel hbb hlen hm
      go_wp2_with fail
      refine HCH.out.mono ?_
      rintro e w4 ⟨rfl, hb_⟩
      have HG := Lib.hid (HG.out.below hb_)
      clear hb_ c0 HCH
      cases hrl : rightB l
      · have hok1 : ok = false := by rw [← HOK.out]; exact all_take HX.out hrl
        subst hok1
        rw [errOf_false]
        clear hrl
        go_wp2_with fail
        refine bodyPost_ret (v := .tuple #[.slice none 0 0, .int .i64 160]) (by simp [results, Try.results34, go_sem]) rfl (givesBad 160 rfl HG.out.st.low)
      · have HRL := Lib.hid hrl
        have HRP := Lib.hid ((rightB_iff l).1 hrl)
        rw [errOf_true]
        clear hrl
        have HG0 := Lib.hid (show GrS w [.blk (w.heap.size + 1) (.cells #[.map (some w.heap.size)] 76)] [] N3 w.heap.size ((ls.take k).flatten ++ l.take 0) w4 by simpa using HG.out)
        go_wp2_with fail
        go_loopw [26] (fun i wx => ∃ q : Nat, q ≤ m ∧ i = .int .i64 (q : Int) ∧ GrS w [.blk (w.heap.size + 1) (.cells #[.map (some w.heap.size)] 76)] [] N3 w.heap.size ((ls.take k).flatten ++ l.take q) wx) (fun i _ => m - (intOf i).toNat)
        case atStart => exact ⟨0, by omega, rfl, HG0.out⟩
        case round =>
          obtain ⟨q, hq, rfl, hg⟩ := hrel
          clear HG HG0
          have HG := Lib.hid hg
          clear hg
          by_cases hlt2 : q < m
          · have HQ := Lib.hid hlt2
            have e4 : wrap64 ((q : Int) + 1) = ((q + 1 : Nat) : Int) := by have := HLN.out; unfold wrap64; omega
            obtain ⟨s, hx⟩ : ∃ s, l[q]? = some s := ⟨_, List.getElem?_eq_getElem (by rw [HM.out]; exact hlt2)⟩
            obtain ⟨bb', off', rfl, hbb', c0, c1, c2⟩ := spCells HM.out (HEL.out.below HG.out.st.low) q s hx
            have hs := (spB_iff s).1 (by have := HRP.out.sp q (by rw [HM.out]; exact hlt2); rwa [(List.getElem?_eq_some_iff.1 hx).2] at this)
            have HTS := Lib.hid (take_snoc hx)
            have hb1 := (Below.refl wr.heap.size wr).alloc (Nat.le_refl _) (.cells #[.int .i64 s.y, .int .i64 s.f, .int .i64 s.t] 39)
            have hput := (HG.out.below hb1).put (pr := w.heap.size + 1) s (by unfold inK; omega) (by have := HFL.out q; have := HT.out; omega) (by simp) ⟨by have := HZ.out; omega, by omega⟩ (Nat.le_refl _) (by have := HZ.out; omega) (fun i hi => by simp at hi; subst hi; have := HZ.out; simp only [It.free]; omega) (by simp)
            have HP := Lib.hid hput
            clear hx hbb' hs hput hb1
            unfold SpT.val at HP
            go_wp2_with fail
            refine HP.out.mono ?_
            rintro e w6 ⟨rfl, hg6, -, -, -, -⟩
            have HG6 := Lib.hid hg6
            clear hg6 HP c0 c1 c2
            go_wp2_with fail
            go_roundw
            case rel => exact ⟨q + 1, HQ.out, by first | rw [e4] | simp, by rw [HTS.out, ← List.append_assoc]; exact HG6.out⟩
            case measure => have := HQ.out; (try rw [e4]); simp [intOf]; omega
          · have HD := Lib.hid (show GrS w [.blk (w.heap.size + 1) (.cells #[.map (some w.heap.size)] 76)] [] N3 w.heap.size (ls.take (k + 1)).flatten wr by
              have := HG.out
              rwa [List.take_of_length_le (show l.length ≤ q by rw [HM.out]; omega), ← HTF.out] at this)
            have HRN := Lib.hid (show ∀ l' ∈ ls.take (k + 1), rightB l' = true by
              intro l' hl'
              rw [List.take_add_one, HX.out] at hl'
              rcases List.mem_append.1 hl' with h | h
              · exact HR.out l' h
              · simp at h; subst h; exact HRL.out)
            clear hq
            go_wp2_with fail
            go_roundw
            case rel => exact ⟨k + 1, HK.out, by first | rw [e3] | simp, HD.out, HRN.out⟩
            case measure => have := HK.out; (try rw [e3]); simp [intOf]; omega
    · have hkn : k = n := by omega
      subst hkn
      have htk : ls.take k = ls := List.take_of_length_le (by rw [HL.out]; omega)
      rw [htk] at HG HR
      have hok1 : ok = true := by rw [← HOK.out]; exact List.all_eq_true.2 HR.out
      subst hok1
      have hg := HG.out
      obtain ⟨nn, D, F, h1, h2, h3⟩ := hg.gr
      have HROW := Lib.hid (row_any w (w.heap.size + 1) N3 w.heap.size nn D F ls.flatten (by have := HT.out; omega) HT.out (fun s hs => by
        obtain ⟨l, hl, hsl⟩ := List.mem_flatten.1 hs
        obtain ⟨j, hj⟩ := List.getElem?_of_mem hsl
        have hrp := (rightB_iff l).1 (HR.out l hl)
        have := (spB_iff s).1 (by have := hrp.sp j (List.getElem?_eq_some_iff.1 hj).1; rwa [(List.getElem?_eq_some_iff.1 hj).2] at this)
        unfold inK
        omega) wr hg.st.low (by omega) (by have := HZ.out; omega) hg.hi h2 (hg.st.blockAt 0 rfl))
      clear hk hlt htk hg h1 h2 h3
      go_wp2_with fail
      refine HROW.out.mono ?_
      rintro e w6 ⟨M, v, hset, hml, rfl, hrow, hlow, -⟩
      have HR1 := Lib.hid (And.intro hset (And.intro (Nat.le_trans hml HT.out) (And.intro hrow hlow)))
      clear hset hml hrow hlow HROW
      go_wp2_with fail
      refine bodyPost_ret (v := .tuple #[v, .int .i64 0]) (by simp [results, Try.results34, go_sem]) rfl ⟨M, fun _ => HR1.out.1, fun h => Bool.noConfusion h, HR1.out.2.1, v, rfl, ?_, ?_⟩
      · exact HR1.out.2.2.1
      · exact HR1.out.2.2.2
end Go.Proofs.Ytflbcabjefpojaa
