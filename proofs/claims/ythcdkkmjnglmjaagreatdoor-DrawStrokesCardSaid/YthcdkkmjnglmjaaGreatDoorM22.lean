/- Merged texts: DgN DrV DhA Dsp Drc DstA. -/
import Derived.Test.YthcdkkmjnglmjaaGreatDoorM21
import Derived.Test.YthcdkkmjnglmjaaGreatDoorM20
import Derived.Test.YthcdkkmjnglmjaaGreatDoorM11
set_option linter.unusedSimpArgs false
set_option linter.unusedVariables false
/- The document's layer 7: Near, and Stroke. -/
namespace Go.Proofs.YthcdkkmjnglmjaaGreatDoor
open Go.RowKit Go.Shelf
attribute [local go_sem] Oper.semAt_some
theorem wayN_swap (a b : Int) : wayN a b = wayN b a := by unfold wayN; split <;> split <;> omega
theorem wayN_bound {a b : Int} (h1 : -400 ≤ a ∧ a ≤ 400) (h2 : -400 ≤ b ∧ b ≤ 400) : 0 ≤ wayN a b ∧ wayN a b ≤ 1000 := by unfold wayN; split <;> omega
set_option maxRecDepth 100000 in
theorem r7Way_any {a b : Int} (h1 : -400 ≤ a ∧ a ≤ 400) (h2 : -400 ≤ b ∧ b ≤ 400) (w : World) : Calls Tryz.prog 92 #[.int .i64 a, .int .i64 b] w (Gives (.int .i64 (wayN a b)) w) := by
 have e1 : wrap64 (b - a) = b - a := by unfold wrap64; omega
 have e2 : wrap64 (a - b) = a - b := by unfold wrap64; omega
 have e0 : wayN a b = if a < b then b - a else a - b := by unfold wayN; split <;> split <;> omega
 rw [e0]
 by_cases h : a < b
 · clear h1 h2 e0
   rw [if_pos h]
   go_enter Tryz.func92, Tryz.ntmps92
   go_wp2_with fail
   go_ret
   exact ⟨by first | rfl | simp [e1], B7 _ _⟩
 · clear h1 h2 e0
   rw [if_neg h]
   go_enter Tryz.func92, Tryz.ntmps92
   go_wp2_with fail
   go_ret
   exact ⟨by first | rfl | simp [e2], B7 _ _⟩
def strokeB (size : Int) (round : Bool) (L : List PtT) (p : PtT) : Bool := L.any fun c => inRef size round c p
theorem strokeB_iff {size : Int} {round : Bool} {L : List PtT} {p : PtT} : strokeB size round L p = true ↔ SwM size round L p := by unfold strokeB SwM; rw [List.any_eq_true]
set_option maxRecDepth 100000 in
set_option maxHeartbeats 2000000 in
theorem r7Near_any (p : PtT) (br : BrT) (a : Option Addr) (m cap : Nat) (L : List PtT) (hlen : L.length = m) (hm : m ≤ 100000) (hL : ∀ c ∈ L, (-400 ≤ c.x ∧ c.x ≤ 400) ∧ (-400 ≤ c.y ∧ c.y ≤ 400)) (hp : (-400 ≤ p.x ∧ p.x ≤ 400) ∧ (-400 ≤ p.y ∧ p.y ≤ 400)) (hs : 0 ≤ br.size ∧ br.size ≤ 400)
 (w : World) (he : Elems w (.slice a m cap) m 2 (rowC encP L)) :
 Calls Tryz.prog 58 #[p.val, br.val, .slice a m cap] w (Gives (.bool (strokeB br.size br.round L p)) w) := by
 have HE := H7 he
 have HL := H7 (And.intro hlen (And.intro hm (And.intro hL (And.intro hp hs))))
 have HS := H7 (St.start w)
 obtain ⟨⟨r, g, b, al⟩, size, round⟩ := br
 obtain ⟨px, py⟩ := p
 unfold PtT.val BrT.val
 simp only at *
 clear he hlen hm hL hp hs
 go_enter Tryz.func58, Tryz.ntmps58
 repeat ((fail_if_success (with_reducible refine stop_at (id := 1) ?_)); (first | go_values | go_skip | go_guarded | go_step | go_upon | go_back | (simp only [Int.not_lt, Int.not_le] at *; go_simp) | (go_values <;> (try go_simp)) | (go_ite <;> go_prune <;> (try go_simp)) | (split <;> (first | (rename_i hx; exact (hx _ rfl).elim) | go_prune))))
 have hs_ := ((HS.out.alloc (.cells #[.int .i64 px, .int .i64 py] 26)).alloc (.cells #[.int .u8 r, .int .u8 g, .int .u8 b, .int .u8 al, .int .i64 size, .bool round] 38))
 obtain ⟨w1, hw_⟩ : ∃ w1 : World, ((w.alloc (.cells #[.int .i64 px, .int .i64 py] 26)).alloc (.cells #[.int .u8 r, .int .u8 g, .int .u8 b, .int .u8 al, .int .i64 size, .bool round] 38)) = w1 := ⟨_, rfl⟩
 rw [hw_] at hs_
 try simp only [World.size_alloc] at hs_
 have HS := H7 hs_
 rw [hw_]
 clear hw_ hs_
 go_wp2_with fail
 have HLW := H7 (LowAt.mk (B7 w1.heap.size w1))
 go_loopw [13] (fun i wr => ∃ j : Nat, j ≤ m ∧ i = .int .i64 (j : Int) ∧ (L.take j).any (fun c => inRef size round c ⟨px, py⟩) = false ∧ LowAt w1 wr) (fun i _ => m - (intOf i).toNat)
 case atStart => exact ⟨0, by omega, rfl, rfl, HLW.out⟩
 case round =>
  obtain ⟨j, hj, rfl, hno, hg⟩ := hrel
  clear HLW
  have HG := H7 hg
  have HNO := H7 hno
  clear hg hno
  by_cases hlt : j < m
  · have HJ := H7 hlt
    have HE1 := H7 (wrapS (n := j) (by have := HL.out; omega))
    obtain ⟨q, hx⟩ : ∃ q, L[j]? = some q := ⟨_, List.getElem?_eq_getElem (by rw [HL.out.1]; exact hlt)⟩
    have hin := HL.out.2.2.1 q (List.mem_of_getElem? hx)
    obtain ⟨bb, off, rfl, hbb, g0, g1⟩ := ptCells HL.out.1 HE.out j q hx
    have HS := H7 (HS.out.below HG.out.low)
    have HQ := H7 hin
    have HTK := H7 (show (L.take (j + 1)).any (fun c => inRef size round c ⟨px, py⟩) = inRef size round q ⟨px, py⟩ by
     rw [List.take_add_one, hx]
     simp only [Option.toList_some, List.any_append, HNO.out, Bool.false_or, List.any_cons, List.any_nil, Bool.or_false])
    have HALL := H7 (fun (h : inRef size round q ⟨px, py⟩ = true) => show strokeB size round L ⟨px, py⟩ = true from List.any_eq_true.2 ⟨q, List.mem_of_getElem? hx, h⟩)
    have g0' := (HS.out.low.cell (p := ⟨bb, off + j * 2, none⟩) hbb).trans g0
    have g1' := (HS.out.low.cell (p := ⟨bb, off + j * 2 + 1, none⟩) hbb).trans g1
    clear g0 g1 hx hin hbb hj
    obtain ⟨qx, qy⟩ := q
    simp only at *
    repeat ((fail_if_success (with_reducible refine stop_at (id := 4) ?_)); (first | go_values | go_skip | go_guarded | go_step | go_upon | go_back | (simp only [Int.not_lt, Int.not_le] at *; go_simp) | (go_values <;> (try go_simp)) | (go_ite <;> go_prune <;> (try go_simp)) | (split <;> (first | (rename_i hx; exact (hx _ rfl).elim) | go_prune))))
    clear g0' g1' hlt
    have hs_ := (HS.out.alloc (.cells #[.int .i64 qx, .int .i64 qy] 26))
    have hk_HG := HG.out.below ((B7 _ _).alloc (by exact Nat.le_refl _) (.cells #[.int .i64 qx, .int .i64 qy] 26))
    obtain ⟨w2, hw_⟩ : ∃ w2 : World, (wr.alloc (.cells #[.int .i64 qx, .int .i64 qy] 26)) = w2 := ⟨_, rfl⟩
    rw [hw_] at hs_ hk_HG
    try simp only [World.size_alloc] at hs_
    have HS := H7 hs_
    have HG := H7 hk_HG
    rw [hw_]
    clear hw_ hs_ hk_HG
    obtain ⟨dx, hdx⟩ : ∃ dx, wayN px qx = dx := ⟨_, rfl⟩
    obtain ⟨dy, hdy⟩ : ∃ dy, wayN py qy = dy := ⟨_, rfl⟩
    have HWX := H7 (fun w' => hdx ▸ r7Way_any (a := px) (b := qx) HL.out.2.2.2.1.1 HQ.out.1 w')
    have HWY := H7 (fun w' => hdy ▸ r7Way_any (a := py) (b := qy) HL.out.2.2.2.1.2 HQ.out.2 w')
    have HDX := H7 (And.intro (hdx ▸ wayN_bound (a := px) (b := qx) HL.out.2.2.2.1.1 HQ.out.1) (hdy ▸ wayN_bound (a := py) (b := qy) HL.out.2.2.2.1.2 HQ.out.2))
    have hir : inRef size round ⟨qx, qy⟩ ⟨px, py⟩ = (bif round then decide (dx * dx + dy * dy ≤ size * size) else decide (dx ≤ size ∧ dy ≤ size)) := by
     unfold inRef
     simp only
     rw [wayN_swap qx px, wayN_swap qy py, hdx, hdy]
    rw [hir] at HTK HALL
    clear hdx hdy hir
    refine (wpIn_wide (n := 0)).1 ?_
    apply w7v 12 (Rl := [(eqv _), (eqv _), (eqv _), (eqv _), (eqv _), (eqv _), (eqv _), (eqv _), (eqv _), (eqv _), (eqv _), (eqv _)]) (C := (fun x y => Below x.heap.size x y))
    case hm => kernel_rfl
    case hk => rfl
    case hCr => exact (fun _ => B7 _ _)
    case hCt => intro _ _ _; exact (fun h k => g7t h k)
    case hst => repeat (first | exact trivial | refine ⟨fun _ _ _ _ h => h, ?_⟩)
    case hfo => kernel_rfl
    case ht => kernel_rfl
    case hC0 => exact (g7d _)
    case hsteps =>
     refine ⟨?_, ?_, ?_, ?_, ?_, ?_, ?_, ?_, ?_, ?_, ?_, ?_, trivial⟩
     · intro a' w' hA hC hD; have s3 := hA.to 3 (by kernel_rfl) rfl; clear hA hD; refine o7p rfl ?_; intro K hK; gi_wp2; exact hK _ _ rfl (B7 _ _)
     · intro a' w' hA hC hD; obtain ⟨u17, s17, rfl⟩ := hD ⟨0, .data⟩ (by simp) rfl _ rfl
       have h1_ := (HS.out.below hC).blockAt 2 rfl; have c1_0 := c7b (k := 0) h1_ rfl; have c1_1 := c7b (k := 1) h1_ rfl; clear h1_
       clear hA hD; refine o7p rfl ?_; intro K hK; gi_wp2; exact hK _ _ rfl (B7 _ _)
     · intro a' w' hA hC hD; have s8 := hA.to 8 (by kernel_rfl) rfl; clear hA hD; refine o7p rfl ?_; intro K hK; gi_wp2; exact hK _ _ rfl (B7 _ _)
     · intro a' w' hA hC hD; obtain ⟨u19, s19, rfl⟩ := hD ⟨2, .data⟩ (by simp) rfl _ rfl
       have h1_ := (HS.out.below hC).blockAt 0 rfl; have c1_0 := c7b (k := 0) h1_ rfl; have c1_1 := c7b (k := 1) h1_ rfl; clear h1_
       clear hA hD; refine o7p rfl ?_; intro K hK; gi_wp2; exact hK _ _ rfl (B7 _ _)
     · intro a' w' hA hC hD; obtain ⟨u18, s18, rfl⟩ := hD ⟨1, .data⟩ (by simp) rfl _ rfl; obtain ⟨u20, s20, rfl⟩ := hD ⟨3, .data⟩ (by simp) rfl _ rfl; clear hA hD; refine o7p rfl ?_; intro K hK
       gi_wp2_with fail; refine (callsIn_wide.2 (HWX.out _)).mono ?_; rintro e w2 ⟨rfl, hb⟩
       exact hK _ _ rfl hb
     · intro a' w' hA hC hD; have s3 := hA.to 3 (by kernel_rfl) rfl; clear hA hD; refine o7p rfl ?_; intro K hK; gi_wp2; exact hK _ _ rfl (B7 _ _)
     · intro a' w' hA hC hD; obtain ⟨u22, s22, rfl⟩ := hD ⟨5, .data⟩ (by simp) rfl _ rfl
       have h1_ := (HS.out.below hC).blockAt 2 rfl; have c1_0 := c7b (k := 0) h1_ rfl; have c1_1 := c7b (k := 1) h1_ rfl; clear h1_
       clear hA hD; refine o7p rfl ?_; intro K hK; gi_wp2; exact hK _ _ rfl (B7 _ _)
     · intro a' w' hA hC hD; have s8 := hA.to 8 (by kernel_rfl) rfl; clear hA hD; refine o7p rfl ?_; intro K hK; gi_wp2; exact hK _ _ rfl (B7 _ _)
     · intro a' w' hA hC hD; obtain ⟨u24, s24, rfl⟩ := hD ⟨7, .data⟩ (by simp) rfl _ rfl
       have h1_ := (HS.out.below hC).blockAt 0 rfl; have c1_0 := c7b (k := 0) h1_ rfl; have c1_1 := c7b (k := 1) h1_ rfl; clear h1_
       clear hA hD; refine o7p rfl ?_; intro K hK; gi_wp2; exact hK _ _ rfl (B7 _ _)
     · intro a' w' hA hC hD; obtain ⟨u23, s23, rfl⟩ := hD ⟨6, .data⟩ (by simp) rfl _ rfl; obtain ⟨u25, s25, rfl⟩ := hD ⟨8, .data⟩ (by simp) rfl _ rfl; clear hA hD; refine o7p rfl ?_; intro K hK
       gi_wp2_with fail; refine (callsIn_wide.2 (HWY.out _)).mono ?_; rintro e w2 ⟨rfl, hb⟩
       exact hK _ _ rfl hb
     · intro a' w' hA hC hD; obtain ⟨u21, s21, rfl⟩ := hD ⟨4, .data⟩ (by simp) rfl _ rfl; clear hA hD; refine o7p rfl ?_; intro K hK; gi_wp2; exact hK _ _ rfl (B7 _ _)
     · intro a' w' hA hC hD; obtain ⟨u26, s26, rfl⟩ := hD ⟨9, .data⟩ (by simp) rfl _ rfl; clear hA hD; refine o7p rfl ?_; intro K hK; gi_wp2; exact hK _ _ rfl (B7 _ _)
    case hend =>
     intro w3 hC
     simp only [EndFrom, eqv, forall_eq, Act.put, List.length_cons, List.length_nil, List.drop_succ_cons, List.drop_zero, Nat.reduceAdd, List.setIfInBounds_toArray, List.set_cons_succ, List.set_cons_zero]
     have HS := H7 (HS.out.below hC)
     have HG := H7 (HG.out.below hC)
     clear hC HWX HWY
     gi_wp2
     have s1 := h7c HS 1 4 rfl rfl
     have s2 := h7c HS 1 5 rfl rfl
     have hsz := HL.out.2.2.2.2
     obtain ⟨x1, x2⟩ := wrap_sq (a := dx) (n := 1000) (by have := HDX.out; omega) (by have := HDX.out; omega) (by omega)
     obtain ⟨y1, y2⟩ := wrap_sq (a := dy) (n := 1000) (by have := HDX.out; omega) (by have := HDX.out; omega) (by omega)
     obtain ⟨z1, z2⟩ := wrap_sq (a := size) (n := 1000) (by omega) (by omega) (by omega)
     have u1 := wrap_sum x2 y2
     clear hsz x2 y2 z2
     cases round with
     | true =>
      simp only [cond_true] at HTK HALL
      obtain ⟨X, hX⟩ : ∃ X, dx * dx = X := ⟨_, rfl⟩
      obtain ⟨Y, hY⟩ : ∃ Y, dy * dy = Y := ⟨_, rfl⟩
      obtain ⟨Z, hZ⟩ : ∃ Z, size * size = Z := ⟨_, rfl⟩
      rw [hX] at u1 HTK HALL
      rw [hY] at u1 HTK HALL
      rw [hZ] at HTK HALL
      replace x1 := x1.trans hX
      replace y1 := y1.trans hY
      replace z1 := z1.trans hZ
      clear hX hY hZ
      by_cases hle : X + Y ≤ Z
      · have HLE := H7 hle
        go_wp2_with fail
        go_ret
        exact ⟨ret_bool (by rw [HALL.out (decide_eq_true HLE.out)]), HS.out.low⟩
      · have HLE := H7 hle
        go_wp2_with fail
        go_roundw
        case rel => exact ⟨j + 1, HJ.out, by first | exact congrArg (Value.int .i64) HE1.out | exact congrArg (Value.int .i64) (Int.natCast_succ j).symm | (congr 1; omega), by rw [HTK.out]; exact decide_eq_false HLE.out, HG.out⟩
        case measure => (try rw [HE1.out]); have := HJ.out; simp only [intOf]; omega
     | false =>
      simp only [cond_false] at HTK HALL
      clear x1 y1 z1 u1
      by_cases h1 : dx ≤ size <;> by_cases h2 : dy ≤ size
      · have HLE := H7 (And.intro h1 h2)
        go_wp2_with fail
        go_ret
        exact ⟨ret_bool (by rw [HALL.out (decide_eq_true HLE.out)]), HS.out.low⟩
      all_goals
       have HLE := H7 (show ¬ (dx ≤ size ∧ dy ≤ size) by omega)
       go_wp2_with fail
       go_roundw
       case rel => exact ⟨j + 1, HJ.out, by first | exact congrArg (Value.int .i64) HE1.out | exact congrArg (Value.int .i64) (Int.natCast_succ j).symm | (congr 1; omega), by rw [HTK.out]; exact decide_eq_false HLE.out, HG.out⟩
       case measure => (try rw [HE1.out]); have := HJ.out; simp only [intOf]; omega
  · go_wp2_with fail
    go_ret
    have hjm : j = m := by omega
    exact ⟨ret_bool (by have h := HNO.out; rw [hjm, ← HL.out.1, List.take_length] at h; unfold strokeB; rw [h]), HS.out.low.trans (HG.out.low.mono HS.out.low.size)⟩
set_option maxRecDepth 100000 in
set_option maxHeartbeats 4000000 in
theorem r7Stroke_any (C : CanT) (hC : okCan C) (v : Value) (br : BrT) (hc : okC br.c) (hs : 0 ≤ br.size ∧ br.size ≤ 400) (a : Option Addr) (m cap : Nat) (L : List PtT) (hlen : L.length = m) (hm : m ≤ 100000) (hL : ∀ c ∈ L, (-400 ≤ c.x ∧ c.x ≤ 400) ∧ (-400 ≤ c.y ∧ c.y ≤ 400)) (w : World) (hv : CanV w C v) (he : Elems w (.slice a m cap) m 2 (rowC encP L)) :
 Calls Tryz.prog 20 #[v, br.val, .slice a m cap] w (GivesV (pixTo C (fun x y : Nat => strokeB br.size br.round L ⟨(x : Int), (y : Int)⟩) (fpaint br.c) (8 * C.high * (8 * C.wide))) w) := by
 have HHS := H7 (fun p hp w' (hb : Below w.heap.size w w') => r7Near_any p br a m cap L hlen hm hL hp hs w' (he.below hb))
 obtain ⟨c, size, round⟩ := br
 simp only at hc hs HHS ⊢
 have HV := H7 hv
 have HOC := H7 hC
 have HAT := H7 (fun (x y : Nat) hx hy w' (hb : Below w.heap.size w w') => r5At_any C hC v x y hx hy w' (hv.below hb))
 have HOV := H7 (fun u hu w' => r3Over_any u c hu hc w')
 have HPT := H7 (fun D hD v d w' h => r5Put_any D hD v d w' h)
 have HOK := H7 (fun q k hk => pixTo_ok hC q (fpaint_ok hc) k hk)
 have HWD := H7 (fun q k => pixTo_wide C q (fpaint c) k)
 obtain ⟨q, hq⟩ : ∃ q : Nat → Nat → Bool, q = fun x y : Nat => strokeB size round L ⟨(x : Int), (y : Int)⟩ := ⟨_, rfl⟩
 have HQ := H7 (fun x y : Nat => show q x y = strokeB size round L ⟨(x : Int), (y : Int)⟩ by rw [hq])
 rw [← hq]
 obtain ⟨ca, ccap, rfl, -, -⟩ := id hv
 obtain ⟨W, hW⟩ : ∃ W, 8 * C.wide = W := ⟨_, rfl⟩
 obtain ⟨H, hH⟩ : ∃ H, 8 * C.high = H := ⟨_, rfl⟩
 have HST := H7 (fun j k (hk : k < W) => pixTo_step q (fpaint c) (x := k) (y := j) hW hk)
 rw [hW, hH] at HOK
 rw [hW] at HAT
 rw [hH] at HAT
 rw [hW, hH]
 have HB := H7 (And.intro hC.wide (And.intro hC.high (And.intro hW hH)))
 obtain ⟨wi, hwi⟩ : ∃ wi, C.wide = wi := ⟨_, rfl⟩
 obtain ⟨hi, hhi⟩ : ∃ hi, C.high = hi := ⟨_, rfl⟩
 obtain ⟨n, hn⟩ : ∃ n, C.tiles.length = n := ⟨_, rfl⟩
 have HN := H7 (And.intro hwi (And.intro hhi hn))
 have e1 : wrap64 (8 * (wi : Int)) = (W : Int) := by have := HB.out; unfold wrap64; omega
 have e2 : wrap64 (8 * (hi : Int)) = (H : Int) := by have := HB.out; unfold wrap64; omega
 have HWH := H7 (show W ≤ 32 ∧ H ≤ 32 by have := HB.out; omega)
 rw [hwi, hhi, hn] at HAT ⊢
 have HS := H7 (St.start w)
 obtain ⟨f, hf⟩ : ∃ f, fpaint c = f := ⟨_, rfl⟩
 have HF := H7 hf
 rw [hf] at HOK HWD HST ⊢
 obtain ⟨cc, hcc⟩ : ∃ cc, cc = c := ⟨_, rfl⟩
 have HCC := H7 hcc
 obtain ⟨r, g, b, al⟩ := c
 unfold ColT.val at HAT HOV
 unfold BrT.val at HHS ⊢
 simp only at HAT HOV HHS ⊢
 clear hv hC he hlen hm hL hs hc hq hW hH hwi hhi hn hf hcc
 go_enter Tryz.func20, Tryz.ntmps20
 repeat ((fail_if_success (with_reducible refine stop_at (id := 1) ?_)); (first | go_values | go_skip | go_guarded | go_step | go_upon | go_back | (simp only [Int.not_lt, Int.not_le] at *; go_simp) | (go_values <;> (try go_simp)) | (go_ite <;> go_prune <;> (try go_simp)) | (split <;> (first | (rename_i hx; exact (hx _ rfl).elim) | go_prune))))
 have hs_ := (((HS.out.alloc (.cells #[.int .i64 wi, .int .i64 hi, .slice ca n ccap] 24)).alloc (.cells #[.int .u8 r, .int .u8 g, .int .u8 b, .int .u8 al, .int .i64 size, .bool round] 38)).alloc (.cells #[.int .i64 0, .int .i64 0, .slice none 0 0] 24))
 obtain ⟨w1, hw_⟩ : ∃ w1 : World, (((w.alloc (.cells #[.int .i64 wi, .int .i64 hi, .slice ca n ccap] 24)).alloc (.cells #[.int .u8 r, .int .u8 g, .int .u8 b, .int .u8 al, .int .i64 size, .bool round] 38)).alloc (.cells #[.int .i64 0, .int .i64 0, .slice none 0 0] 24)) = w1 := ⟨_, rfl⟩
 rw [hw_] at hs_
 try simp only [World.size_alloc] at hs_
 have HS := H7 hs_
 rw [hw_]
 clear hw_ hs_
 have q0 := h7c HS 2 0 rfl rfl
 have q1 := h7c HS 2 1 rfl rfl
 have q2 := h7c HS 2 2 rfl rfl
 repeat ((fail_if_success (with_reducible refine stop_at (id := 2) ?_)); (first | go_values | go_skip | go_guarded | go_step | go_upon | go_back | (simp only [Int.not_lt, Int.not_le] at *; go_simp) | (go_values <;> (try go_simp)) | (go_ite <;> go_prune <;> (try go_simp)) | (split <;> (first | (rename_i hx; exact (hx _ rfl).elim) | go_prune))))
 clear q0 q1 q2
 have HLW := H7 HS.out.size
 have HTOP := H7 HS.out.top
 obtain ⟨B, hB⟩ : ∃ B, w1.heap.size = B := ⟨_, rfl⟩
 have hs_ := (HS.out.alloc (.cells #[.int .i64 wi, .int .i64 hi, .slice ca n ccap] 24))
 obtain ⟨w2, hw_⟩ : ∃ w2 : World, (w1.alloc (.cells #[.int .i64 wi, .int .i64 hi, .slice ca n ccap] 24)) = w2 := ⟨_, rfl⟩
 rw [hw_] at hs_
 try simp only [World.size_alloc] at hs_
 have HS := H7 hs_
 rw [hw_]
 clear hw_ hs_
 obtain ⟨its, hits⟩ : ∃ its : List It, its = [.blk (w.heap.size + 1 + 1) (.cells #[.int .i64 0, .int .i64 0, .slice none 0 0] 24 (0, 0)), .blk (w.heap.size + 1) (.cells #[.int .u8 r, .int .u8 g, .int .u8 b, .int .u8 al, .int .i64 size, .bool round] 38 (0, 0)), .blk w.heap.size (.cells #[.int .i64 wi, .int .i64 hi, .slice ca n ccap] 24 (0, 0))] := ⟨_, rfl⟩
 have HBK := H7 (show ∀ (x : World) (D : CanT), PutS w its B D x → x.heap[w.heap.size + 1 + 1]? = some (.cells #[.int .i64 0, .int .i64 0, .slice none 0 0] 24 (0, 0)) ∧ x.heap[w.heap.size + 1]? = some (.cells #[.int .u8 r, .int .u8 g, .int .u8 b, .int .u8 al, .int .i64 size, .bool round] 38 (0, 0)) ∧ x.heap[w.heap.size]? = some (.cells #[.int .i64 wi, .int .i64 hi, .slice ca n ccap] 24 (0, 0)) from
  fun x D h => by subst hits; exact ⟨h.st.blockAt 0 rfl, h.st.blockAt 1 rfl, h.st.blockAt 2 rfl⟩)
 have HP := H7 (show PutS w its B C w2 by
  have hs := HS.out
  rw [hB, ← hits] at hs
  refine PutS.start (a := ca) (cap := ccap) ?_ HOC.out ?_ ?_ ?_
  · rw [HN.out.1, HN.out.2.1, HN.out.2.2]; exact hs
  · exact HV.out.below hs.low
  · have h1 := HS.out.drop1.low.size
    rw [← hB]
    exact HLW.out
  · intro i hi
    rw [← hB]
    exact HTOP.out i (by rw [← hits]; exact hi))
 rw [hB]
 clear HS HLW HTOP hits hB HV
 have q1 := c7b (k := 1) (HBK.out _ _ HP.out).2.2 rfl
 go_wp2_with fail
 clear q1
 try rw [e2]
 clear e2
 go_loopw [14] (fun i wr => ∃ j : Nat, j ≤ H ∧ i = .int .i64 (j : Int) ∧ PutS w its B (pixTo C q f (j * W)) wr) (fun i _ => H - (intOf i).toNat)
 case atStart => exact ⟨0, Nat.zero_le _, rfl, by rw [Nat.zero_mul]; exact HP.out⟩
 case round =>
  obtain ⟨j, hj, rfl, hp⟩ := hrel
  clear HP
  have HP := H7 hp
  clear hp
  by_cases hlt : j < H
  · have HJ := H7 hlt
    have HE1 := H7 (wrapS (n := j) (by have := HWH.out; omega))
    have q0 := c7b (k := 0) (HBK.out _ _ HP.out).2.2 rfl
    clear hj
    go_wp2_with fail
    clear q0 hlt
    try rw [e1]
    clear e1
    go_loopw [20] (fun i wx => ∃ k : Nat, k ≤ W ∧ i = .int .i64 (k : Int) ∧ PutS w its B (pixTo C q f (j * W + k)) wx) (fun i _ => W - (intOf i).toNat)
    case atStart => exact ⟨0, Nat.zero_le _, rfl, HP.out⟩
    case round =>
     obtain ⟨k, hk, rfl, hp⟩ := hrel
     clear HP
     have HP := H7 hp
     clear hp
     by_cases hkt : k < W
     · have HK := H7 hkt
       have HE2 := H7 (wrapS (n := k) (by have := HWH.out; omega))
       clear hk
       have b1 := (HBK.out _ _ HP.out).2.1
       have y0 := c7b (k := 0) b1 rfl
       have y1 := c7b (k := 1) b1 rfl
       have y2 := c7b (k := 2) b1 rfl
       have y3 := c7b (k := 3) b1 rfl
       have y4 := c7b (k := 4) b1 rfl
       have y5 := c7b (k := 5) b1 rfl
       clear b1
       go_wp2_with fail
       clear hkt
       clear y0 y1 y2 y3 y4 y5
       refine (HHS.out ⟨k, j⟩ ⟨by have := HK.out; have := HWH.out; simp only; omega, by have := HJ.out; have := HWH.out; simp only; omega⟩ _ HP.out.st.low).mono ?_
       rintro e w5 ⟨rfl, hb⟩
       have HP := H7 (HP.out.below hb)
       clear hb
       cases hh : strokeB size round L ⟨(k : Int), (j : Int)⟩ with
       | false =>
        have HH := H7 hh
        clear hh
        go_wp2_with fail
        go_roundw
        case rel => exact ⟨k + 1, HK.out, by first | exact congrArg (Value.int .i64) HE2.out | exact congrArg (Value.int .i64) (Int.natCast_succ k).symm | (congr 1; omega), by rw [HST.out j k HK.out, if_neg (by rw [HQ.out, HH.out]; simp)]; exact HP.out⟩
        case measure => (try rw [HE2.out]); have := HK.out; simp only [intOf]; omega
       | true =>
        have HH := H7 hh
        clear hh
        obtain ⟨D, hD⟩ : ∃ D, pixTo C q f (j * W + k) = D := ⟨_, rfl⟩
        have HST2 := H7 (show pixTo C q f (j * W + (k + 1)) = dotC D ⟨(k : Int), (j : Int), ⟨r, g, b, al⟩⟩ by rw [HST.out j k HK.out, if_pos (by rw [HQ.out, HH.out]), ← hD, ← HF.out]; rfl)
        rw [hD] at HP
        clear hD
        obtain ⟨a6, c6, hB6, hv6⟩ := HP.out.ex
        have z0 := c7b (k := 0) hB6 rfl
        have z1 := c7b (k := 1) hB6 rfl
        have z2 := c7b (k := 2) hB6 rfl
        have HV6 := H7 hv6
        clear hB6 hv6
        have b1 := (HBK.out _ _ HP.out).2.1
        have y0 := c7b (k := 0) b1 rfl
        have y1 := c7b (k := 1) b1 rfl
        have y2 := c7b (k := 2) b1 rfl
        have y3 := c7b (k := 3) b1 rfl
        have y4 := c7b (k := 4) b1 rfl
        have y5 := c7b (k := 5) b1 rfl
        clear b1
        go_wp2_with fail
        clear z0 z1 z2
        clear y0 y1 y2 y3 y4 y5
        refine (HPT.out D HP.out.ok _ ⟨(k : Int), (j : Int), ⟨r, g, b, al⟩⟩ _ HV6.out).mono ?_
        rintro e w7 ⟨v7, rfl, hv7, hb⟩
        obtain ⟨a7, c7, rfl, -, -⟩ := id hv7
        have HP := H7 (HP.out.below hb)
        have HV7 := H7 hv7
        clear hb hv7
        obtain ⟨a8, c8, hB8, -⟩ := HP.out.ex
        have z0 := c7b (k := 0) hB8 rfl
        have z1 := c7b (k := 1) hB8 rfl
        have z2 := c7b (k := 2) hB8 rfl
        have f0 := f7b hB8
        clear hB8
        have HOK3 := H7 (show okCan (dotC D ⟨(k : Int), (j : Int), ⟨r, g, b, al⟩⟩) from HST2.out ▸ HOK.out q (j * W + (k + 1)) (pix_le HJ.out HK.out))
        go_wp2_with fail
        go_roundw
        case rel => exact ⟨k + 1, HK.out, by first | exact congrArg (Value.int .i64) HE2.out | exact congrArg (Value.int .i64) (Int.natCast_succ k).symm | (congr 1; omega), by rw [HST2.out]; exact HP.out.put HOK3.out HV7.out⟩
        case measure => (try rw [HE2.out]); have := HK.out; simp only [intOf]; omega
     · have hkW : k = W := by omega
       subst hkW
       go_wp2_with fail
       go_roundw
       case rel => exact ⟨j + 1, HJ.out, by first | exact congrArg (Value.int .i64) HE1.out | exact congrArg (Value.int .i64) (Int.natCast_succ j).symm | (congr 1; omega), by rw [← row_next]; exact HP.out⟩
       case measure => (try rw [HE1.out]); have := HJ.out; simp only [intOf]; omega
  · have hjH : j = H := by omega
    subst hjH
    obtain ⟨a6, c6, hB6, hv6⟩ := HP.out.ex
    obtain ⟨D, hD⟩ : ∃ D, pixTo C q f (j * W) = D := ⟨_, rfl⟩
    rw [hD] at hB6 hv6 HP
    have HDD := H7 hD
    have b0 := (HBK.out _ _ HP.out).1
    have z0 := c7b (k := 0) hB6 rfl
    have z1 := c7b (k := 1) hB6 rfl
    have z2 := c7b (k := 2) hB6 rfl
    have j0 := c7b (k := 0) b0 rfl
    have j1 := c7b (k := 1) b0 rfl
    have j2 := c7b (k := 2) b0 rfl
    have f0 := f7b b0
    have s1 := h7s (k := 0) b0 (.int .i64 D.wide)
    have s2 := h7s (k := 1) s1 (.int .i64 D.high)
    have HV9 := H7 (((hv6.other3 HP.out.ok b0 (by simp) 0 (.int .i64 D.wide)).other3 HP.out.ok s1 (by simp) 1 (.int .i64 D.high)).other3 HP.out.ok s2 (by simp) 2 (.slice a6 D.tiles.length c6))
    clear s1 s2 b0 hB6 hv6 hD hlt hj
    go_wp2_with fail
    have h0 := HP.out.st.low
    rw [HDD.out]
    refine bodyPost_ret (v := .agg #[.int .i64 D.wide, .int .i64 D.high, .slice a6 D.tiles.length c6]) (by simp [results, Tryz.results20, go_sem, j0, j1, j2]) rfl ⟨_, rfl, HV9.out, ?_⟩
    (repeat (first | exact B7 _ _ | assumption | refine Below.alloc ?_ (by first | omega | (simp; done) | (simp; omega)) _ | refine Below.setCell ?_ (by first | omega | (simp; done) | (simp; omega)) _ | refine Below.drew ?_))
/- gessolaw07.DrawTwice. -/
/-- Of, whatever it is. -/
theorem ofBothD (wide high : Int) (a : Option Addr) (cap : Nat) (us : List TileT) (hcol : ∀ t ∈ us, ∀ c ∈ t.1, okC c) (w : World) (he : Elems w (.slice a us.length cap) us.length 256 (rowC encT us)) :
 Calls Tryz.prog 10 #[.agg #[.int .i64 wide, .int .i64 high, .slice a us.length cap]] w fun e w' => ∃ v, e = .returned (.tuple #[v, .int .i64 (errOf (okE wide high us.length) 150)]) ∧ Below w.heap.size w w' ∧
  (okE wide high us.length = true → ∃ p, v = .pointer (some ⟨p, 0, none⟩) ∧ CanAt w' p ⟨wide.toNat, high.toNat, us⟩) ∧ (okE wide high us.length = false → v = .pointer none) := by
 cases hok : okE wide high us.length with
 | false =>
  refine (of_bad wide high a us.length cap hok w).mono ?_
  rintro e w' ⟨rfl, hb⟩
  exact ⟨_, rfl, hb, fun h => (by cases h), fun _ => rfl⟩
 | true =>
  unfold okE at hok
  rw [Bool.and_eq_true] at hok
  have h1 := mayB_iff.1 hok.1
  have h2 := of_decide_eq_true hok.2
  obtain ⟨W, rfl⟩ := Int.eq_ofNat_of_zero_le (a := wide) (by omega)
  obtain ⟨H, rfl⟩ := Int.eq_ofNat_of_zero_le (a := high) (by omega)
  have hC : okCan ⟨W, H, us⟩ := ⟨by simp only; omega, by simp only; omega, by simp only; exact_mod_cast h2, hcol⟩
  refine (of_good ⟨W, H, us⟩ hC a cap w he).mono ?_
  rintro e w' ⟨p, rfl, hc, -, hb⟩
  exact ⟨_, rfl, hb, fun _ => ⟨p, rfl, by simpa using hc⟩, fun h => (by cases h)⟩
/- Layer 7's laws: what a law clones, and what it says of drawings. -/
/-- A clone: a row of its own type's block. -/
def Cl {α : Type} (k : Nat) (enc : α → List Value) (E : TypeId) (L : List α) (n : Nat) (v : Value) (w : World) : Prop :=
 ∃ a cap, v = .slice a n cap ∧ n ≤ cap ∧ Elems w (.slice a n cap) n k (rowC enc L) ∧ ∀ ad, a = some ad → ∃ cs, w.heap[ad.block]? = some (.cells cs E (0, 0))
theorem Cl.below {α : Type} {k : Nat} {enc : α → List Value} {E : TypeId} {L : List α} {n : Nat} {v : Value} {w w' : World} (h : Cl k enc E L n v w) (hb : Below w.heap.size w w') : Cl k enc E L n v w' := by
 obtain ⟨a, cap, h1, h2, h3, h4⟩ := h
 exact ⟨a, cap, h1, h2, h3.below hb, fun ad e => by obtain ⟨cs, h5⟩ := h4 ad e; exact ⟨cs, (hb.block _ (b7t h5)).trans h5⟩⟩
theorem Cl.store {α : Type} {k : Nat} {enc : α → List Value} {E : TypeId} {L : List α} {n : Nat} {v : Value} {w : World} (h : Cl k enc E L n v w) {g : Nat} {c : Array Value} {E' : TypeId} {f : Nat × Nat} (hg : w.heap[g]? = some (.cells c E' f)) (hE : E' ≠ E) (j : Nat) (u : Value) : Cl k enc E L n v (w.setCell ⟨g, j, none⟩ u) := by
 obtain ⟨a, cap, h1, h2, h3, h4⟩ := h
 have hne : ∀ ad, a = some ad → ad.block ≠ g := fun ad e e2 => by
  obtain ⟨cs, h5⟩ := h4 ad e
  rw [e2, hg] at h5
  cases h5
  exact hE rfl
 exact ⟨a, cap, h1, h2, elems_other h3 hne j u, fun ad e => by obtain ⟨cs, h5⟩ := h4 ad e; exact ⟨cs, (Below.heap_setCell _ _ _ _ (hne ad e)).trans h5⟩⟩
theorem cloned_cl {α : Type} {E : TypeId} {k n : Nat} {enc : α → List Value} {L : List α} {sv : Value} {w : World} {e : Ending} {w' : World} (hk : ∀ q, (enc q).length = k) (hn : L.length = n) (h : Cloned E k L.length (L.flatMap enc) sv w e w') :
 ∃ v, e = .returned v ∧ Cl k enc E L n v w' ∧ Below w.heap.size w w' := by
 obtain ⟨v, rfl, hr, -, hb⟩ := h
 subst hn
 have he := ownsRow_rows hk hr
 rcases hr.2 with ⟨rfl, h0⟩ | ⟨g, cap, cur, rfl, h1, h2, h3, h4⟩
 · exact ⟨_, rfl, ⟨none, 0, by rw [h0], by omega, by rw [h0] at he ⊢; exact he, fun ad e => by cases e⟩, hb⟩
 · exact ⟨_, rfl, ⟨_, cap, rfl, h3, he, fun ad e => by cases e; exact ⟨cur, h2⟩⟩, hb⟩
/-- A canvas of a law's own, as a value. -/
def OwnV (wide high : Int) (T : List TileT) (n : Nat) (v : Value) (w : World) : Prop :=
 ∃ a cap, v = .agg #[.int .i64 wide, .int .i64 high, .slice a n cap] ∧ n ≤ cap ∧ Elems w (.slice a n cap) n 256 (rowC encT T)
theorem OwnV.below {wide high : Int} {T : List TileT} {n : Nat} {v : Value} {w w' : World} (h : OwnV wide high T n v w) (hb : Below w.heap.size w w') : OwnV wide high T n v w' := by
 obtain ⟨a, cap, h1, h2, h3⟩ := h
 exact ⟨a, cap, h1, h2, h3.below hb⟩
theorem elemsT_store {w : World} {a : Option Addr} {n cap : Nat} {f : Nat → Value} (h : Elems w (.slice a n cap) n 256 f) {g : Nat} {c : Array Value} {t : TypeId} {fr : Nat × Nat} (hg : w.heap[g]? = some (.cells c t fr)) (hc : c.size ≤ 255) (j : Nat) (u : Value) : Elems (w.setCell ⟨g, j, none⟩ u) (.slice a n cap) n 256 f := by
 rcases h with h | ⟨b, off, cap', e, hlt, hcs⟩
 · exact .inl h
 · cases e
   refine .inr ⟨b, off, cap, rfl, by rw [World.size_setCell]; exact hlt, fun i hi => ?_⟩
   rw [← hcs i hi]
   refine World.cell?_of_block (Below.heap_setCell _ _ _ b (fun e3 => ?_))
   have e3 : b = g := e3
   subst e3
   have h5 := hcs 255 (by omega)
   unfold World.cell? at h5
   simp only [hg] at h5
   rw [if_neg (by simp), Array.getElem?_eq_none (by omega)] at h5
   cases h5
theorem OwnV.store {wide high : Int} {T : List TileT} {n : Nat} {v : Value} {w : World} (h : OwnV wide high T n v w) {g : Nat} {c : Array Value} {t : TypeId} {fr : Nat × Nat} (hg : w.heap[g]? = some (.cells c t fr)) (hc : c.size ≤ 255) (j : Nat) (u : Value) : OwnV wide high T n v (w.setCell ⟨g, j, none⟩ u) := by
 obtain ⟨a, cap, h1, h2, h3⟩ := h
 exact ⟨a, cap, h1, h2, elemsT_store h3 hg hc j u⟩
theorem own_v {wide high : Int} {us : List TileT} {n : Nat} (hn : us.length = n) {w : World} {e : Ending} {w' : World} (h : GivesOwn wide high us w e w') : ∃ v, e = .returned v ∧ OwnV wide high us n v w' ∧ Below w.heap.size w w' := by
 obtain ⟨a, cap, rfl, h1, h2, hb⟩ := h
 subst hn
 exact ⟨_, rfl, ⟨a, cap, rfl, h1, h2⟩, hb⟩
/-- What a law says of what was drawn. -/
structure SaysD (ok : Bool) (D : CanT) (v : Value) (w : World) : Prop where
 yes : ok = true → ∃ d, v = .pointer (some ⟨d, 0, none⟩) ∧ CanAt w d D
 no : ok = false → v = .pointer none
theorem SaysD.below {ok : Bool} {D : CanT} {v : Value} {w w' : World} (h : SaysD ok D v w) (hb : Below w.heap.size w w') : SaysD ok D v w' :=
 ⟨fun h0 => by obtain ⟨d, h1, h2⟩ := h.yes h0; exact ⟨d, h1, h2.below hb⟩, h.no⟩
theorem says_drawn (ok : Bool) (er : Int) (her : er ≠ 0) (D D' : CanT) (hD : ok = true → D' = D) (p v : Value) (w : World) (hp : SaysD ok D p w) (hv : CanV w D' v) :
 Calls Tryz.prog 22 #[p, .int .i64 (errOf ok er), v, .int .i64 (errOf ok er)] w (Gives (.bool true) w) := by
 cases ok with
 | true =>
  obtain ⟨d, rfl, h2⟩ := hp.yes rfl
  obtain rfl := hD rfl
  exact says_yes _ d v w h2 hv
 | false =>
  obtain rfl := hp.no rfl
  obtain ⟨a, cap, rfl, -, -⟩ := hv
  exact says_no er her _ _ a _ cap w
theorem DrawnS.says {ok : Bool} {er : Int} {C : CanT} {Q : PtT → Prop} {f : ColT → ColT} {w w' : World} {e : Ending} (h : DrawnS ok er C Q f w e w') {D : CanT} (hD : Shown C Q f D) : ∃ v, e = .returned (.tuple #[v, .int .i64 (errOf ok er)]) ∧ SaysD ok D v w' ∧ Below w.heap.size w w' := by
 cases ok with
 | true =>
  obtain ⟨d, D', he, h1, h2⟩ := h.2.1 rfl
  obtain rfl := h2.unique hD
  exact ⟨_, he, ⟨fun _ => ⟨d, rfl, h1⟩, fun h => (by cases h)⟩, h.1⟩
 | false => exact ⟨_, h.2.2 rfl, ⟨fun h => (by cases h), fun _ => rfl⟩, h.1⟩
/- gessolaw07.DrawSpans. -/
theorem okE_wideN {wide high : Int} {n : Nat} (h : okE wide high n = true) : wide = (wide.toNat : Int) ∧ high = (high.toNat : Int) := by
 unfold okE at h
 have h1 := mayB_iff.1 (Bool.and_eq_true_iff.1 h).1
 omega
theorem ofBothN (wide high : Int) (T : List TileT) (n : Nat) (hn : T.length = n) (hcol : ∀ t ∈ T, ∀ c ∈ t.1, okC c) (v : Value) (w : World) (he : OwnV wide high T n v w) :
 Calls Tryz.prog 10 #[v] w fun e w' => ∃ v, e = .returned (.tuple #[v, .int .i64 (errOf (okE wide high n) 150)]) ∧ Below w.heap.size w w' ∧
  (okE wide high n = true → ∃ p, v = .pointer (some ⟨p, 0, none⟩) ∧ CanAt w' p ⟨wide.toNat, high.toNat, T⟩) ∧ (okE wide high n = false → v = .pointer none) := by
 subst hn
 obtain ⟨a, cap, rfl, h1, h2⟩ := he
 exact ofBothD wide high a cap T hcol w h2
theorem OwnV.canV {wide high : Int} {T : List TileT} {n : Nat} {v : Value} {w : World} (h : OwnV wide high T n v w) (hn : T.length = n) (hok : okE wide high n = true) : CanV w ⟨wide.toNat, high.toNat, T⟩ v := by
 obtain ⟨a, cap, rfl, h1, h2⟩ := h
 obtain ⟨e1, e2⟩ := okE_wideN hok
 subst hn
 exact ⟨a, cap, by simp only; rw [← e1, ← e2], h1, h2⟩
/- gessolaw07.DrawRects. -/
set_option maxRecDepth 100000 in
theorem r7May_any (p : PtT) (w : World) : Calls Tryz.prog 19 #[p.val] w (Gives (.bool (drawnB p)) w) := by
 have HS := H7 (St.start w)
 obtain ⟨x, y⟩ := p
 unfold PtT.val drawnB
 simp only [Bool.decide_and]
 obtain ⟨b1, h1⟩ : ∃ b1, decide (-64 ≤ x) = b1 := ⟨_, rfl⟩
 obtain ⟨b2, h2⟩ : ∃ b2, decide (x ≤ 127) = b2 := ⟨_, rfl⟩
 obtain ⟨b3, h3⟩ : ∃ b3, decide (-64 ≤ y) = b3 := ⟨_, rfl⟩
 obtain ⟨b4, h4⟩ : ∃ b4, decide (y ≤ 127) = b4 := ⟨_, rfl⟩
 rw [h1, h2, h3, h4]
 cases b1 <;> cases b2 <;> cases b3 <;> cases b4 <;> (
  go_enter Tryz.func19, Tryz.ntmps19
  repeat ((fail_if_success (with_reducible refine stop_at (id := 1) ?_)); (first | go_values | go_skip | go_guarded | go_step | go_upon | go_back | (simp only [Int.not_lt, Int.not_le] at *; go_simp) | (go_values <;> (try go_simp)) | (go_ite <;> go_prune <;> (try go_simp)) | (split <;> (first | (rename_i hx; exact (hx _ rfl).elim) | go_prune))))
  have hs_ := (HS.out.alloc (.cells #[.int .i64 x, .int .i64 y] 26))
  obtain ⟨w1, hw_⟩ : ∃ w1 : World, (w.alloc (.cells #[.int .i64 x, .int .i64 y] 26)) = w1 := ⟨_, rfl⟩
  rw [hw_] at hs_
  try simp only [World.size_alloc] at hs_
  have HS := H7 hs_
  rw [hw_]
  clear hw_ hs_
  have q0 := h7c HS 0 0 rfl rfl
  have q1 := h7c HS 0 1 rfl rfl
  go_wp2_with fail
  go_ret
  exact ⟨rfl, HS.out.low⟩)
/- gessolaw07.DrawStrokes: its predicate; lines between places that may be drawn. -/
theorem lineL_drawn {a b : PtT} (ha : drawnB a = true) (hb : drawnB b = true) : ∀ c ∈ lineL a b, drawnB c = true := by
 intro c hc
 unfold lineL lineN at hc
 obtain ⟨i, hi, rfl⟩ := List.mem_map.1 hc
 have hi := List.mem_range.1 hi
 have h := linePt_in (a := a) (b := b) (i := (i : Int)) (by omega) (by omega)
 unfold RectP at h
 simp only [drawn_iff] at *
 omega
theorem lineOk_eq (b : BrT) (f t : PtT) : lineOk b f t = ((drawnB f && drawnB t) && sizeB b.size) := by
 unfold lineOk
 cases hf : drawnB f
 · simp
 · cases ht : drawnB t
   · simp
   · have h : (lineL f t).any (fun p => !drawnB p) = false := List.any_eq_false.2 fun c hc => by rw [lineL_drawn hf ht c hc]; simp
     rw [h]
     simp
theorem drawn_bound {c : PtT} (h : drawnB c = true) : (-400 ≤ c.x ∧ c.x ≤ 400) ∧ (-400 ≤ c.y ∧ c.y ≤ 400) := by rw [drawn_iff] at h; omega
theorem size_bound {n : Int} (h : sizeB n = true) : 0 ≤ n ∧ n ≤ 400 := by unfold sizeB at h; have := of_decide_eq_true h; omega
set_option maxRecDepth 100000 in
set_option maxHeartbeats 4000000 in
theorem indexFuncStr (q : PtT → Bool) (cb : Array Value) (a : Option Addr) (n cap : Nat) (l : List PtT) (hl : l.length = n) (hn : n ≤ 1000000000) (w : World) (h : Elems w (.slice a n cap) n 2 (rowC encP l))
 (hq : ∀ (x : PtT) (y : World), Below w.heap.size w y → Calls Tryz.prog 18 (#[x.val] ++ cb) y (Gives (.bool (q x)) y)) :
 Calls Tryz.prog 57 #[.slice a n cap, .func (.func 18) #[] cb] w (Gives (.int .i64 (idxI q l)) w) := by
 have HS := H7 ((St.start w).addRow h)
 have HL := H7 hl
 have HQ := H7 hq
 clear h hl hq
 go_enter Tryz.func57, Tryz.ntmps57
 go_wp2_with fail
 go_loopw [8] (fun i wr => ∃ k : Nat, k ≤ n ∧ i = .int .i64 (k : Int) ∧ St w [.row (.slice a n cap) n 2 (rowC encP l) w.heap.size] wr ∧ ∀ (j : Nat) (x : PtT), l[j]? = some x → j < k → q x = false) (fun i _ => n - (intOf i).toNat)
 case atStart => exact ⟨0, by omega, rfl, HS.out, fun j x _ h => by omega⟩
 case round =>
  obtain ⟨k, hk, rfl, hs, hall⟩ := hrel
  clear HS
  have HS := H7 hs
  have HA := H7 hall
  clear hs hall
  by_cases hlt : k < n
  · have wk : wrap64 ((k : Int) + 1) = ((k + 1 : Nat) : Int) := by unfold wrap64; omega
    obtain ⟨x, hx⟩ : ∃ x, l[k]? = some x := ⟨_, List.getElem?_eq_getElem (by rw [HL.out]; exact hlt)⟩
    obtain ⟨bb, off, rfl, hbb, c0, c1⟩ := ptCells HL.out (HS.out.elems 0 rfl) k x hx
    have HX := H7 hx
    have HC := H7 (HQ.out x)
    obtain ⟨x1, x2⟩ := x
    simp only [PtT.val] at c0 c1 HC
    clear hx hbb
    go_wp2_with fail
    refine (HC.out _ HS.out.low).mono ?_
    rintro e w3 ⟨rfl, hb_⟩
    have HS := H7 (HS.out.below hb_)
    clear hb_ c0 c1
    cases hg : q ⟨x1, x2⟩
    · have HB := H7 hg
      clear hg
      go_wp2_with fail
      go_roundw
      case rel => exact ⟨k + 1, hlt, by simp, HS.out, fun j x hj hjk => by rcases Nat.lt_or_eq_of_le (Nat.lt_succ_iff.1 hjk) with h | rfl; exact HA.out j x hj h; rw [HX.out] at hj; cases hj; exact HB.out⟩
      case measure => simp [intOf]; omega
    · have HB := H7 (idxI_hit HX.out hg HA.out)
      clear hg
      go_wp2_with fail
      go_ret
      exact ⟨by rw [HB.out]; rfl, HS.out.low⟩
  · obtain rfl : k = n := by omega
    have HB := H7 (show idxI q l = -1 from idxI_none fun j x hj => HA.out j x hj (by rw [← HL.out]; exact (List.getElem?_eq_some_iff.1 hj).1))
    clear hk hlt
    go_wp2_with fail
    go_ret
    exact ⟨by rw [HB.out]; rfl, HS.out.low⟩
theorem containsFuncStr (q : PtT → Bool) (cb : Array Value) (a : Option Addr) (n cap : Nat) (l : List PtT) (hl : l.length = n) (hn : n ≤ 1000000000) (w : World) (h : Elems w (.slice a n cap) n 2 (rowC encP l))
 (hq : ∀ (x : PtT) (y : World), Below w.heap.size w y → Calls Tryz.prog 18 (#[x.val] ++ cb) y (Gives (.bool (q x)) y)) :
 Calls Tryz.prog 17 #[.slice a n cap, .func (.func 18) #[] cb] w (Gives (.bool (l.any q)) w) := by
 have HI := H7 (indexFuncStr q cb a n cap l hl hn w h hq)
 clear h hq
 rw [← idxI_ge]
 generalize idxI q l = r at HI ⊢
 go_enter Tryz.func17, Tryz.ntmps17
 go_wp2_with fail
 refine HI.out.mono ?_
 rintro e w3 ⟨rfl, hb_⟩
 go_wp2_with fail
 go_ret
 exact ⟨rfl, hb_⟩
set_option maxRecDepth 100000 in
theorem strokes1_any (x : PtT) (w : World) : Calls Tryz.prog 18 #[x.val] w (Gives (.bool (!drawnB x)) w) := by
 have HS := H7 (St.start w)
 have HM := H7 (fun w' => r7May_any x w')
 obtain ⟨d, hd⟩ : ∃ d, drawnB x = d := ⟨_, rfl⟩
 rw [hd] at HM ⊢
 obtain ⟨px, py⟩ := x
 unfold PtT.val at HM ⊢
 clear hd
 go_enter Tryz.func18, Tryz.ntmps18
 repeat ((fail_if_success (with_reducible refine stop_at (id := 1) ?_)); (first | go_values | go_skip | go_guarded | go_step | go_upon | go_back | (simp only [Int.not_lt, Int.not_le] at *; go_simp) | (go_values <;> (try go_simp)) | (go_ite <;> go_prune <;> (try go_simp)) | (split <;> (first | (rename_i hx; exact (hx _ rfl).elim) | go_prune))))
 have hs_ := (HS.out.alloc (.cells #[.int .i64 px, .int .i64 py] 26))
 obtain ⟨w1, hw_⟩ : ∃ w1 : World, (w.alloc (.cells #[.int .i64 px, .int .i64 py] 26)) = w1 := ⟨_, rfl⟩
 rw [hw_] at hs_
 try simp only [World.size_alloc] at hs_
 have HS := H7 hs_
 rw [hw_]
 clear hw_ hs_
 have q0 := h7c HS 0 0 rfl rfl
 have q1 := h7c HS 0 1 rfl rfl
 go_wp2_with fail
 clear q0 q1
 refine (HM.out _).mono ?_
 rintro e w2 ⟨rfl, hb_⟩
 have HS := H7 (HS.out.below hb_)
 clear hb_
 go_wp2_with fail
 go_ret
 exact ⟨rfl, HS.out.low⟩
end Go.Proofs.YthcdkkmjnglmjaaGreatDoor
