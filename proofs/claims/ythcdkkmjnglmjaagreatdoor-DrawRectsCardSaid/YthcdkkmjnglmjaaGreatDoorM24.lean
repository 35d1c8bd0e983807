/- Merged texts: DgN DrV DhA Dsp Drc. -/
import Derived.Test.YthcdkkmjnglmjaaGreatDoorM22
import Derived.Test.YthcdkkmjnglmjaaGreatDoorM20
import Derived.Test.YthcdkkmjnglmjaaGreatDoorM23
import Derived.Test.YthcdkkmjnglmjaaGreatDoorM21
set_option linter.unusedSimpArgs false
set_option linter.unusedVariables false
/- The document's layer 7: Near, and Stroke. -/
namespace Go.Proofs.YthcdkkmjnglmjaaGreatDoor
open Go.RowKit Go.Shelf
attribute [local go_sem] Oper.semAt_some
/- gessolaw07.DrawTwice. -/
/-- Of, whatever it is. -/
theorem ofBothD (wide high : Int) (a : Option Addr) (cap : Nat) (us : List TileT) (hcol : ∀ t ∈ us, ∀ c ∈ t.1, okC c) (w : World) (he : Elems w (.slice a us.length cap) us.length 256 (rowC encT us)) :
 Calls Tryz.prog 10 #[.agg #[.int .i64 wide, .int .i64 high, .slice a us.length cap]] w fun e w' => ∃ v, e = .returned (.tuple #[v, .int .i64 (errOf (okE wide high us.length) 150)]) ∧ Below w.heap.size w w' ∧
  (okE wide high us.length = true → ∃ p, v = .pointer (some ⟨p, 0, none⟩) ∧ CanAt w' p ⟨wide.toNat, high.toNat, us⟩) ∧ (okE wide high us.length = false → v = .pointer none) := by
 cases hok : okE wide high us.length with
 | false =>
  refine (of_bad wide high a us.length cap hok w).mono ?_
  rintro e w' ⟨rfl, hb⟩
  exact ⟨_, rfl, hb, fun h => (by cases h), fun _ => rfl⟩
 | true =>
  unfold okE at hok
  rw [Bool.and_eq_true] at hok
  have h1 := mayB_iff.1 hok.1
  have h2 := of_decide_eq_true hok.2
  obtain ⟨W, rfl⟩ := Int.eq_ofNat_of_zero_le (a := wide) (by omega)
  obtain ⟨H, rfl⟩ := Int.eq_ofNat_of_zero_le (a := high) (by omega)
  have hC : okCan ⟨W, H, us⟩ := ⟨by simp only; omega, by simp only; omega, by simp only; exact_mod_cast h2, hcol⟩
  refine (of_good ⟨W, H, us⟩ hC a cap w he).mono ?_
  rintro e w' ⟨p, rfl, hc, -, hb⟩
  exact ⟨_, rfl, hb, fun _ => ⟨p, rfl, by simpa using hc⟩, fun h => (by cases h)⟩
/- Layer 7's laws: what a law clones, and what it says of drawings. -/
/-- A clone: a row of its own type's block. -/
def Cl {α : Type} (k : Nat) (enc : α → List Value) (E : TypeId) (L : List α) (n : Nat) (v : Value) (w : World) : Prop :=
 ∃ a cap, v = .slice a n cap ∧ n ≤ cap ∧ Elems w (.slice a n cap) n k (rowC enc L) ∧ ∀ ad, a = some ad → ∃ cs, w.heap[ad.block]? = some (.cells cs E (0, 0))
theorem Cl.below {α : Type} {k : Nat} {enc : α → List Value} {E : TypeId} {L : List α} {n : Nat} {v : Value} {w w' : World} (h : Cl k enc E L n v w) (hb : Below w.heap.size w w') : Cl k enc E L n v w' := by
 obtain ⟨a, cap, h1, h2, h3, h4⟩ := h
 exact ⟨a, cap, h1, h2, h3.below hb, fun ad e => by obtain ⟨cs, h5⟩ := h4 ad e; exact ⟨cs, (hb.block _ (b7t h5)).trans h5⟩⟩
theorem Cl.store {α : Type} {k : Nat} {enc : α → List Value} {E : TypeId} {L : List α} {n : Nat} {v : Value} {w : World} (h : Cl k enc E L n v w) {g : Nat} {c : Array Value} {E' : TypeId} {f : Nat × Nat} (hg : w.heap[g]? = some (.cells c E' f)) (hE : E' ≠ E) (j : Nat) (u : Value) : Cl k enc E L n v (w.setCell ⟨g, j, none⟩ u) := by
 obtain ⟨a, cap, h1, h2, h3, h4⟩ := h
 have hne : ∀ ad, a = some ad → ad.block ≠ g := fun ad e e2 => by
  obtain ⟨cs, h5⟩ := h4 ad e
  rw [e2, hg] at h5
  cases h5
  exact hE rfl
 exact ⟨a, cap, h1, h2, elems_other h3 hne j u, fun ad e => by obtain ⟨cs, h5⟩ := h4 ad e; exact ⟨cs, (Below.heap_setCell _ _ _ _ (hne ad e)).trans h5⟩⟩
/-- A canvas of a law's own, as a value. -/
def OwnV (wide high : Int) (T : List TileT) (n : Nat) (v : Value) (w : World) : Prop :=
 ∃ a cap, v = .agg #[.int .i64 wide, .int .i64 high, .slice a n cap] ∧ n ≤ cap ∧ Elems w (.slice a n cap) n 256 (rowC encT T)
theorem OwnV.below {wide high : Int} {T : List TileT} {n : Nat} {v : Value} {w w' : World} (h : OwnV wide high T n v w) (hb : Below w.heap.size w w') : OwnV wide high T n v w' := by
 obtain ⟨a, cap, h1, h2, h3⟩ := h
 exact ⟨a, cap, h1, h2, h3.below hb⟩
theorem elemsT_store {w : World} {a : Option Addr} {n cap : Nat} {f : Nat → Value} (h : Elems w (.slice a n cap) n 256 f) {g : Nat} {c : Array Value} {t : TypeId} {fr : Nat × Nat} (hg : w.heap[g]? = some (.cells c t fr)) (hc : c.size ≤ 255) (j : Nat) (u : Value) : Elems (w.setCell ⟨g, j, none⟩ u) (.slice a n cap) n 256 f := by
 rcases h with h | ⟨b, off, cap', e, hlt, hcs⟩
 · exact .inl h
 · cases e
   refine .inr ⟨b, off, cap, rfl, by rw [World.size_setCell]; exact hlt, fun i hi => ?_⟩
   rw [← hcs i hi]
   refine World.cell?_of_block (Below.heap_setCell _ _ _ b (fun e3 => ?_))
   have e3 : b = g := e3
   subst e3
   have h5 := hcs 255 (by omega)
   unfold World.cell? at h5
   simp only [hg] at h5
   rw [if_neg (by simp), Array.getElem?_eq_none (by omega)] at h5
   cases h5
theorem OwnV.store {wide high : Int} {T : List TileT} {n : Nat} {v : Value} {w : World} (h : OwnV wide high T n v w) {g : Nat} {c : Array Value} {t : TypeId} {fr : Nat × Nat} (hg : w.heap[g]? = some (.cells c t fr)) (hc : c.size ≤ 255) (j : Nat) (u : Value) : OwnV wide high T n v (w.setCell ⟨g, j, none⟩ u) := by
 obtain ⟨a, cap, h1, h2, h3⟩ := h
 exact ⟨a, cap, h1, h2, elemsT_store h3 hg hc j u⟩
theorem own_v {wide high : Int} {us : List TileT} {n : Nat} (hn : us.length = n) {w : World} {e : Ending} {w' : World} (h : GivesOwn wide high us w e w') : ∃ v, e = .returned v ∧ OwnV wide high us n v w' ∧ Below w.heap.size w w' := by
 obtain ⟨a, cap, rfl, h1, h2, hb⟩ := h
 subst hn
 exact ⟨_, rfl, ⟨a, cap, rfl, h1, h2⟩, hb⟩
/-- What a law says of what was drawn. -/
structure SaysD (ok : Bool) (D : CanT) (v : Value) (w : World) : Prop where
 yes : ok = true → ∃ d, v = .pointer (some ⟨d, 0, none⟩) ∧ CanAt w d D
 no : ok = false → v = .pointer none
theorem SaysD.below {ok : Bool} {D : CanT} {v : Value} {w w' : World} (h : SaysD ok D v w) (hb : Below w.heap.size w w') : SaysD ok D v w' :=
 ⟨fun h0 => by obtain ⟨d, h1, h2⟩ := h.yes h0; exact ⟨d, h1, h2.below hb⟩, h.no⟩
theorem says_drawn (ok : Bool) (er : Int) (her : er ≠ 0) (D D' : CanT) (hD : ok = true → D' = D) (p v : Value) (w : World) (hp : SaysD ok D p w) (hv : CanV w D' v) :
 Calls Tryz.prog 22 #[p, .int .i64 (errOf ok er), v, .int .i64 (errOf ok er)] w (Gives (.bool true) w) := by
 cases ok with
 | true =>
  obtain ⟨d, rfl, h2⟩ := hp.yes rfl
  obtain rfl := hD rfl
  exact says_yes _ d v w h2 hv
 | false =>
  obtain rfl := hp.no rfl
  obtain ⟨a, cap, rfl, -, -⟩ := hv
  exact says_no er her _ _ a _ cap w
theorem DrawnS.says {ok : Bool} {er : Int} {C : CanT} {Q : PtT → Prop} {f : ColT → ColT} {w w' : World} {e : Ending} (h : DrawnS ok er C Q f w e w') {D : CanT} (hD : Shown C Q f D) : ∃ v, e = .returned (.tuple #[v, .int .i64 (errOf ok er)]) ∧ SaysD ok D v w' ∧ Below w.heap.size w w' := by
 cases ok with
 | true =>
  obtain ⟨d, D', he, h1, h2⟩ := h.2.1 rfl
  obtain rfl := h2.unique hD
  exact ⟨_, he, ⟨fun _ => ⟨d, rfl, h1⟩, fun h => (by cases h)⟩, h.1⟩
 | false => exact ⟨_, h.2.2 rfl, ⟨fun h => (by cases h), fun _ => rfl⟩, h.1⟩
/- gessolaw07.DrawSpans. -/
theorem okE_wideN {wide high : Int} {n : Nat} (h : okE wide high n = true) : wide = (wide.toNat : Int) ∧ high = (high.toNat : Int) := by
 unfold okE at h
 have h1 := mayB_iff.1 (Bool.and_eq_true_iff.1 h).1
 omega
theorem ofBothN (wide high : Int) (T : List TileT) (n : Nat) (hn : T.length = n) (hcol : ∀ t ∈ T, ∀ c ∈ t.1, okC c) (v : Value) (w : World) (he : OwnV wide high T n v w) :
 Calls Tryz.prog 10 #[v] w fun e w' => ∃ v, e = .returned (.tuple #[v, .int .i64 (errOf (okE wide high n) 150)]) ∧ Below w.heap.size w w' ∧
  (okE wide high n = true → ∃ p, v = .pointer (some ⟨p, 0, none⟩) ∧ CanAt w' p ⟨wide.toNat, high.toNat, T⟩) ∧ (okE wide high n = false → v = .pointer none) := by
 subst hn
 obtain ⟨a, cap, rfl, h1, h2⟩ := he
 exact ofBothD wide high a cap T hcol w h2
theorem OwnV.canV {wide high : Int} {T : List TileT} {n : Nat} {v : Value} {w : World} (h : OwnV wide high T n v w) (hn : T.length = n) (hok : okE wide high n = true) : CanV w ⟨wide.toNat, high.toNat, T⟩ v := by
 obtain ⟨a, cap, rfl, h1, h2⟩ := h
 obtain ⟨e1, e2⟩ := okE_wideN hok
 subst hn
 exact ⟨a, cap, by simp only; rw [← e1, ← e2], h1, h2⟩
/- gessolaw07.DrawRects. -/
theorem betwB_iff (n a b : Int) : betwB n a b = true ↔ min a b ≤ n ∧ n ≤ max a b := by unfold betwB; rw [decide_eq_true_iff]; omega
theorem rectB_rect (p q : PtT) (x y : Nat) : rectB false p q x y = true ↔ RectP p q ⟨(x : Int), (y : Int)⟩ := by
 unfold rectB RectP
 simp [betwB_iff]
theorem rectB_frame (p q : PtT) (x y : Nat) : rectB true p q x y = true ↔ FrameP p q ⟨(x : Int), (y : Int)⟩ := by
 unfold rectB FrameP RectP edgeB
 simp [betwB_iff, or_assoc]
set_option maxRecDepth 100000 in
theorem r7May_any (p : PtT) (w : World) : Calls Tryz.prog 19 #[p.val] w (Gives (.bool (drawnB p)) w) := by
 have HS := H7 (St.start w)
 obtain ⟨x, y⟩ := p
 unfold PtT.val drawnB
 simp only [Bool.decide_and]
 obtain ⟨b1, h1⟩ : ∃ b1, decide (-64 ≤ x) = b1 := ⟨_, rfl⟩
 obtain ⟨b2, h2⟩ : ∃ b2, decide (x ≤ 127) = b2 := ⟨_, rfl⟩
 obtain ⟨b3, h3⟩ : ∃ b3, decide (-64 ≤ y) = b3 := ⟨_, rfl⟩
 obtain ⟨b4, h4⟩ : ∃ b4, decide (y ≤ 127) = b4 := ⟨_, rfl⟩
 rw [h1, h2, h3, h4]
 cases b1 <;> cases b2 <;> cases b3 <;> cases b4 <;> (
  go_enter Tryz.func19, Tryz.ntmps19
  repeat ((fail_if_success (with_reducible refine stop_at (id := 1) ?_)); (first | go_values | go_skip | go_guarded | go_step | go_upon | go_back | (simp only [Int.not_lt, Int.not_le] at *; go_simp) | (go_values <;> (try go_simp)) | (go_ite <;> go_prune <;> (try go_simp)) | (split <;> (first | (rename_i hx; exact (hx _ rfl).elim) | go_prune))))
  have hs_ := (HS.out.alloc (.cells #[.int .i64 x, .int .i64 y] 26))
  obtain ⟨w1, hw_⟩ : ∃ w1 : World, (w.alloc (.cells #[.int .i64 x, .int .i64 y] 26)) = w1 := ⟨_, rfl⟩
  rw [hw_] at hs_
  try simp only [World.size_alloc] at hs_
  have HS := H7 hs_
  rw [hw_]
  clear hw_ hs_
  have q0 := h7c HS 0 0 rfl rfl
  have q1 := h7c HS 0 1 rfl rfl
  go_wp2_with fail
  go_ret
  exact ⟨rfl, HS.out.low⟩)
set_option maxRecDepth 100000 in
set_option maxHeartbeats 8000000 in
theorem drawRects_any (wide high : Int) (a : Option Addr) (cap : Nat) (us : List TileT) (hcap : us.length ≤ cap) (hcol : ∀ t ∈ us, ∀ c ∈ t.1, okC c) (c : ColT) (hc : okC c) (a2 : Option Addr) (m cap2 : Nat) (L : List PtT) (hlen : L.length = m)
 (w : World) (hred : RedAt w) (he : Elems w (.slice a us.length cap) us.length 256 (rowC encT us)) (he2 : Elems w (.slice a2 m cap2) m 2 (rowC encP L)) :
 Calls Tryz.prog 6 #[.agg #[.int .i64 wide, .int .i64 high, .slice a us.length cap], c.val, .slice a2 m cap2] w (Gives (.bool true) w) := by
 have HS := H7 (St.start w)
 have HR := H7 hred
 obtain ⟨T, hT⟩ : ∃ T, us.take 17 = T := ⟨_, rfl⟩
 obtain ⟨tn, htn⟩ : ∃ tn, T.length = tn := ⟨_, rfl⟩
 have hcolT : ∀ t ∈ T, ∀ c ∈ t.1, okC c := fun t ht => hcol t (List.mem_of_mem_take (hT ▸ ht))
 have HOW := H7 (fun w' (hb : Below w.heap.size w w') => (own_any wide high a us.length cap us rfl hcap w' (he.below hb)).mono fun e w'' h => own_v htn (hT ▸ h))
 have HOF := H7 (fun v w' h => ofBothN wide high T tn htn hcolT v w' h)
 have HCAN := H7 (fun (v : Value) (w' : World) (h : OwnV wide high T tn v w') hok => h.canV htn hok)
 obtain ⟨ok, hok⟩ : ∃ ok, okE wide high tn = ok := ⟨_, rfl⟩
 have HOKE := H7 hok
 rw [hok] at HOF HCAN
 obtain ⟨n, hn⟩ : ∃ n, us.length = n := ⟨_, rfl⟩
 rw [hn] at HOW ⊢
 have HY := H7 he2
 have HL := H7 hlen
 have HC0 := H7 hc
 obtain ⟨r, g, b, al⟩ := c
 unfold ColT.val
 simp only
 clear hred he he2 hok hn hlen hc hcol hcolT hT htn hcap
 go_enter Tryz.func6, Tryz.ntmps6
 repeat ((fail_if_success (with_reducible refine stop_at (id := 1) ?_)); (first | go_values | go_skip | go_guarded | go_step | go_upon | go_back | (simp only [Int.not_lt, Int.not_le] at *; go_simp) | (go_values <;> (try go_simp)) | (go_ite <;> go_prune <;> (try go_simp)) | (split <;> (first | (rename_i hx; exact (hx _ rfl).elim) | go_prune))))
 have hs_ := ((HS.out.alloc (.cells #[.int .i64 wide, .int .i64 high, .slice a n cap] 24)).alloc (.cells #[.int .u8 r, .int .u8 g, .int .u8 b, .int .u8 al] 34))
 have hk_HR := HR.out.below (((B7 _ _).alloc (by exact Nat.le_refl _) (.cells #[.int .i64 wide, .int .i64 high, .slice a n cap] 24)).alloc (by simp only [World.size_alloc]; omega) (.cells #[.int .u8 r, .int .u8 g, .int .u8 b, .int .u8 al] 34))
 have hk_HY := HY.out.below (((B7 _ _).alloc (by exact Nat.le_refl _) (.cells #[.int .i64 wide, .int .i64 high, .slice a n cap] 24)).alloc (by simp only [World.size_alloc]; omega) (.cells #[.int .u8 r, .int .u8 g, .int .u8 b, .int .u8 al] 34))
 obtain ⟨w1, hw_⟩ : ∃ w1 : World, ((w.alloc (.cells #[.int .i64 wide, .int .i64 high, .slice a n cap] 24)).alloc (.cells #[.int .u8 r, .int .u8 g, .int .u8 b, .int .u8 al] 34)) = w1 := ⟨_, rfl⟩
 rw [hw_] at hs_ hk_HR hk_HY
 try simp only [World.size_alloc] at hs_
 have HS := H7 hs_
 have HR := H7 hk_HR
 have HY := H7 hk_HY
 rw [hw_]
 clear hw_ hs_ hk_HR hk_HY
 go_wp2_with fail
 refine (dWakes_any w1 HR.out).mono ?_
 rintro e w2 ⟨rfl, hb⟩
 have HS := H7 (HS.out.below hb)
 have HY := H7 (HY.out.below hb)
 clear hb
 have z0 := h7c HS 1 0 rfl rfl
 have z1 := h7c HS 1 1 rfl rfl
 have z2 := h7c HS 1 2 rfl rfl
 go_wp2_with fail
 clear z0 z1 z2
 refine (HOW.out w2 HS.out.low).mono ?_
 rintro e w3 ⟨v, rfl, how, hb⟩
 obtain ⟨oa, oc, rfl, -, -⟩ := id how
 have HOW := H7 how
 have HS := H7 (HS.out.below hb)
 have HY := H7 (HY.out.below hb)
 clear hb
 clear how
 repeat ((fail_if_success (with_reducible refine stop_at (id := 4) ?_)); (first | go_values | go_skip | go_guarded | go_step | go_upon | go_back | (simp only [Int.not_lt, Int.not_le] at *; go_simp) | (go_values <;> (try go_simp)) | (go_ite <;> go_prune <;> (try go_simp)) | (split <;> (first | (rename_i hx; exact (hx _ rfl).elim) | go_prune))))
 have hs_ := (HS.out.alloc (.cells #[.int .i64 wide, .int .i64 high, .slice oa tn oc] 24))
 have hk_HY := HY.out.below ((B7 _ _).alloc (by exact Nat.le_refl _) (.cells #[.int .i64 wide, .int .i64 high, .slice oa tn oc] 24))
 have hk_HOW := HOW.out.below ((B7 _ _).alloc (by exact Nat.le_refl _) (.cells #[.int .i64 wide, .int .i64 high, .slice oa tn oc] 24))
 obtain ⟨w4, hw_⟩ : ∃ w4 : World, (w3.alloc (.cells #[.int .i64 wide, .int .i64 high, .slice oa tn oc] 24)) = w4 := ⟨_, rfl⟩
 rw [hw_] at hs_ hk_HY hk_HOW
 try simp only [World.size_alloc] at hs_
 have HS := H7 hs_
 have HY := H7 hk_HY
 have HOW := H7 hk_HOW
 rw [hw_]
 clear hw_ hs_ hk_HY hk_HOW
 have z0 := h7c HS 0 0 rfl rfl
 have z1 := h7c HS 0 1 rfl rfl
 have z2 := h7c HS 0 2 rfl rfl
 go_wp2_with fail
 clear z0 z1 z2
 refine (HOF.out _ w4 HOW.out).mono ?_
 rintro e w5 ⟨v, rfl, hb, hv1, hv2⟩
 have HS := H7 (HS.out.below hb)
 have HY := H7 (HY.out.below hb)
 have HOW := H7 (HOW.out.below hb)
 clear hb
 clear HOF
 cases ok with
 | false =>
  obtain rfl := hv2 rfl
  clear hv1 hv2
  simp only [errOf]
  have z0 := h7c HS 0 0 rfl rfl
  have z1 := h7c HS 0 1 rfl rfl
  have z2 := h7c HS 0 2 rfl rfl
  go_wp2_with fail
  clear z0 z1 z2
  refine (r5Right_any _ _ _ _ _ _).mono ?_
  rintro e w8 ⟨rfl, hb_⟩
  have HS := H7 (HS.out.below hb_)
  clear hb_
  rw [HOKE.out]
  go_wp2_with fail
  go_ret
  exact ⟨rfl, HS.out.low⟩
 | true =>
  obtain ⟨pc, rfl, hcan⟩ := hv1 rfl
  have HCP := H7 hcan
  have HCV := H7 (HCAN.out _ w5 HOW.out rfl)
  clear hv1 hv2 hcan HOW HCAN HOKE
  obtain ⟨C, hC⟩ : ∃ C, (⟨wide.toNat, high.toNat, T⟩ : CanT) = C := ⟨_, rfl⟩
  rw [hC] at HCP HCV
  clear hC
  have HNC := H7 (show C.tiles.length ≤ 1000 by have := HCP.out.ok.len; omega)
  simp only [errOf]
  go_wp2_with fail
  have HLW := H7 (LowAt.mk (B7 w5.heap.size w5))
  go_loopw [10] (fun i wr => ∃ j : Nat, j ≤ 4 ∧ i = .int .i64 ((j + 1 : Nat) : Int) ∧ LowAt w5 wr) (fun i _ => 6 - (intOf i).toNat)
  case atStart => exact ⟨0, by omega, rfl, HLW.out⟩
  case round =>
   obtain ⟨j, hj, rfl, hg⟩ := hrel
   clear HLW
   have HG := H7 hg
   clear hg
   by_cases hlt : j + 1 < m ∧ j + 1 < 5
   · obtain ⟨h1, h2⟩ := hlt
     have HJ := H7 (And.intro h1 h2)
     have e3 : wrap64 (((j + 1 : Nat) : Int) + 1) = ((j + 1 + 1 : Nat) : Int) := by unfold wrap64; omega
     have e4 : wrap64 (((j + 1 : Nat) : Int) - 1) = (j : Int) := by unfold wrap64; omega
     have HWK := H7 (And.intro e3 e4)
     obtain ⟨p, hp⟩ : ∃ p, L[j]? = some p := ⟨_, List.getElem?_eq_getElem (by rw [HL.out]; omega)⟩
     obtain ⟨q, hq⟩ : ∃ q, L[j + 1]? = some q := ⟨_, List.getElem?_eq_getElem (by rw [HL.out]; omega)⟩
     have hs := HS.out.below HG.out.low
     obtain ⟨bb, off, rfl, hbb, p0, p1⟩ := ptCells HL.out (HY.out.below HG.out.low) j p hp
     obtain ⟨bb', off', e', -, q0, q1⟩ := ptCells HL.out (HY.out.below HG.out.low) (j + 1) q hq
     cases e'
     have HPQ := H7 (And.intro (And.intro p0 p1) (And.intro q0 q1))
     have HBB := H7 hbb
     have HS := H7 hs
     clear hp hq p0 p1 q0 q1 hbb hs hj
     obtain ⟨px, py⟩ := p
     obtain ⟨qx, qy⟩ := q
     simp only at HPQ
     repeat ((fail_if_success (with_reducible refine stop_at (id := 10) ?_)); (first | go_values | go_skip | go_guarded | go_step | go_upon | go_back | (simp only [Int.not_lt, Int.not_le] at *; go_simp) | (go_values <;> (try go_simp)) | (go_ite <;> go_prune <;> (try go_simp)) | (split <;> (first | (rename_i hx; exact (hx _ rfl).elim) | go_prune))))
     have HCP := H7 (HCP.out.below HG.out.low)
     have HCV := H7 (HCV.out.below HG.out.low)
     refine (wpIn_wide (n := 0)).1 ?_
     apply wp_region_slots 13 [⟨9, 11, 11, .cells #[.int .i64 0, .int .i64 0] 26 (0, 0), .cells #[.int .i64 px, .int .i64 py] 26 (0, 0)⟩, ⟨10, 12, 12, .cells #[.int .i64 0, .int .i64 0] 26 (0, 0), .cells #[.int .i64 qx, .int .i64 qy] 26 (0, 0)⟩] _ (Rl := [(eqv _), (eqv _), (eqv _), (eqv _), (eqv _), (eqv _), (eqv _), (eqv _), (eqv _), (fun _ _ => True), (fun _ _ => True), (fun _ _ => True), (fun _ _ => True)])
     case hm => kernel_rfl
     case hk => rfl
     case hst => repeat (first | exact trivial | refine ⟨fun _ _ _ _ h => h, ?_⟩)
     case hfo => kernel_rfl
     case ht => kernel_rfl
     case hN => exact Nat.le_refl _
     case hok => kernel_rfl
     case hsk => intro s hs; simp only [List.mem_cons, List.not_mem_nil, or_false] at hs; rcases hs with rfl | rfl <;> exact ⟨Nat.le_of_ble_eq_true rfl, Nat.le_of_ble_eq_true rfl⟩
     case hsteps =>
      refine ⟨?_, ?_, ?_, ?_, ?_, ?_, ?_, ?_, ?_, ?_, ?_, ?_, ?_, trivial⟩
      · intro l_ a' w' hA hC hJ hN hB hD; have s2 := hA.to 2 (by kernel_rfl) rfl; clear hA hD; refine o7t rfl ?_; intro K hK; gi_wp2; exact hK _ _ rfl (B7 _ _) (SlT.plainB rfl (B7 _ _))
      · intro l_ a' w' hA hC hJ hN hB hD; have s10 := hA.to 10 (by kernel_rfl) rfl; clear hA hD; refine o7t rfl ?_; intro K hK; gi_wp2; exact hK _ _ rfl (B7 _ _) (SlT.plainB rfl (B7 _ _))
      · intro l_ a' w' hA hC hJ hN hB hD; obtain ⟨u45, s45, r45⟩ := hD ⟨1, .data⟩ (by simp) rfl _ rfl; replace r45 : u45 = _ := r45; subst r45; clear hA hD; refine o7t rfl ?_; intro K hK; gi_wp2; exact hK _ _ rfl (B7 _ _) (SlT.plainB rfl (B7 _ _))
      · intro l_ a' w' hA hC hJ hN hB hD; obtain ⟨u44, s44, r44⟩ := hD ⟨0, .data⟩ (by simp) rfl _ rfl; replace r44 : u44 = _ := r44; subst r44; obtain ⟨u46, s46, r46⟩ := hD ⟨2, .data⟩ (by simp) rfl _ rfl; replace r46 : u46 = _ := r46; subst r46
        have hin : j < m := by (have := HJ.out.1; omega)
        clear hA hD; refine o7t rfl ?_; intro K hK; gi_wp2; exact hK _ _ rfl (B7 _ _) (SlT.plainB rfl (B7 _ _))
      · intro l_ a' w' hA hC hJ hN hB hD; obtain ⟨u47, s47, r47⟩ := hD ⟨3, .data⟩ (by simp) rfl _ rfl; replace r47 : u47 = _ := r47; subst r47
        have c0 := (hC.cell (p := ⟨bb, off + j * 2, none⟩) HBB.out).trans HPQ.out.1.1; have c1 := (hC.cell (p := ⟨bb, off + j * 2 + 1, none⟩) HBB.out).trans HPQ.out.1.2
        clear hA hD; refine o7t rfl ?_; intro K hK; gi_wp2; exact hK _ _ rfl (B7 _ _) (SlT.plainB rfl (B7 _ _))
      · intro l_ a' w' hA hC hJ hN hB hD; have s2 := hA.to 2 (by kernel_rfl) rfl; clear hA hD; refine o7t rfl ?_; intro K hK; gi_wp2; exact hK _ _ rfl (B7 _ _) (SlT.plainB rfl (B7 _ _))
      · intro l_ a' w' hA hC hJ hN hB hD; have s10 := hA.to 10 (by kernel_rfl) rfl; clear hA hD; refine o7t rfl ?_; intro K hK; gi_wp2; exact hK _ _ rfl (B7 _ _) (SlT.plainB rfl (B7 _ _))
      · intro l_ a' w' hA hC hJ hN hB hD; obtain ⟨u49, s49, r49⟩ := hD ⟨5, .data⟩ (by simp) rfl _ rfl; replace r49 : u49 = _ := r49; subst r49; obtain ⟨u50, s50, r50⟩ := hD ⟨6, .data⟩ (by simp) rfl _ rfl; replace r50 : u50 = _ := r50; subst r50
        have hin : j + 1 < m := HJ.out.1
        clear hA hD; refine o7t rfl ?_; intro K hK; gi_wp2; exact hK _ _ rfl (B7 _ _) (SlT.plainB rfl (B7 _ _))
      · intro l_ a' w' hA hC hJ hN hB hD; obtain ⟨u51, s51, r51⟩ := hD ⟨7, .data⟩ (by simp) rfl _ rfl; replace r51 : u51 = _ := r51; subst r51
        have c0 := (hC.cell (p := ⟨bb, off + (j + 1) * 2, none⟩) HBB.out).trans HPQ.out.2.1; have c1 := (hC.cell (p := ⟨bb, off + (j + 1) * 2 + 1, none⟩) HBB.out).trans HPQ.out.2.2
        clear hA hD; refine o7t rfl ?_; intro K hK; gi_wp2; exact hK _ _ rfl (B7 _ _) (SlT.plainB rfl (B7 _ _))
      · intro l_ a' w' hA hC hJ hN hB hD; clear hA hD; refine o7t rfl ?_; intro K hK; gi_wp2; exact hK _ _ trivial ((B7 _ _).alloc hC.size _) (SlT.alloc (by intro t ht e; simp only [List.mem_cons, List.not_mem_nil, or_false] at ht; rcases ht with rfl | rfl <;> first | rfl | (exact absurd e (Nat.ne_of_beq_eq_false rfl))) (by intro t ht; simp only [List.mem_cons, List.not_mem_nil, or_false] at ht; rcases ht with rfl | rfl <;> exact Nat.ne_of_beq_eq_false rfl))
      · intro l_ a' w' hA hC hJ hN hB hD; clear hA hD; refine o7t rfl ?_; intro K hK; gi_wp2; exact hK _ _ trivial ((B7 _ _).alloc hC.size _) (SlT.alloc (by intro t ht e; simp only [List.mem_cons, List.not_mem_nil, or_false] at ht; rcases ht with rfl | rfl <;> first | rfl | (exact absurd e (Nat.ne_of_beq_eq_false rfl))) (by intro t ht; simp only [List.mem_cons, List.not_mem_nil, or_false] at ht; rcases ht with rfl | rfl <;> exact Nat.ne_of_beq_eq_false rfl))
      · intro l_ a' w' hA hC hJ hN hB hD; obtain ⟨u11, s11, r11⟩ := hD ⟨9, .data⟩ (by simp) rfl _ rfl; replace r11 : (fun _ _ => True) u11 w' := r11; obtain ⟨u48, s48, r48⟩ := hD ⟨4, .data⟩ (by simp) rfl _ rfl; replace r48 : u48 = _ := r48; subst r48
        obtain ⟨b11, n11, t11, o11⟩ := hJ.at_ _ (List.mem_of_getElem? (i := 0) rfl) (hB ⟨9, .data⟩ (by simp) rfl)
        rw [show l_.getD 11 false = false from hN] at o11
        replace o11 : w'.heap[b11]? = some (.cells #[.int .i64 0, .int .i64 0] 26 (0, 0)) := o11
        obtain rfl : u11 = ptrB b11 := Option.some.inj (s11.symm.trans t11)
        clear r11
        obtain ⟨b12, n12, t12, o12⟩ := hJ.at_ _ (List.mem_of_getElem? (i := 1) rfl) (hB ⟨10, .phase⟩ (by simp) rfl)
        clear hA hD; refine o7t rfl ?_; intro K hK
        have f11 := f7b o11
        have c11_0 := c7b (k := 0) o11 rfl
        have c11_1 := c7b (k := 1) o11 rfl
        have f11_0 := f11 0
        have f11_1 := f11 1
        clear f11; unfold ptrB at s11 t11; gi_wp2; exact hK undef _ trivial (by repeat (first | exact B7 _ _ | refine Below.setCell ?_ (by omega) _)) (SlT.store _ (by intro t ht e; simp only [List.mem_cons, List.not_mem_nil, or_false] at ht; rcases ht with rfl | rfl <;> first | rfl | (exact absurd e (Nat.ne_of_beq_eq_false rfl))) (by intro t ht; simp only [List.mem_cons, List.not_mem_nil, or_false] at ht; rcases ht with rfl | rfl <;> exact Nat.ne_of_beq_eq_false rfl) (List.mem_of_getElem? (i := 0) rfl) rfl b11 (by unfold envOf; rw [t11]; rfl) (h7s (h7s o11 _) _) (by intro k hk; repeat (first | rfl | refine (Below.heap_setCell _ _ _ k (by simpa using hk)).trans ?_)))
      · intro l_ a' w' hA hC hJ hN hB hD; obtain ⟨u12, s12, r12⟩ := hD ⟨10, .data⟩ (by simp) rfl _ rfl; replace r12 : (fun _ _ => True) u12 w' := r12; obtain ⟨u52, s52, r52⟩ := hD ⟨8, .data⟩ (by simp) rfl _ rfl; replace r52 : u52 = _ := r52; subst r52
        obtain ⟨b11, n11, t11, o11⟩ := hJ.at_ _ (List.mem_of_getElem? (i := 0) rfl) (hB ⟨9, .phase⟩ (by simp) rfl)
        obtain ⟨b12, n12, t12, o12⟩ := hJ.at_ _ (List.mem_of_getElem? (i := 1) rfl) (hB ⟨10, .data⟩ (by simp) rfl)
        rw [show l_.getD 12 false = false from hN] at o12
        replace o12 : w'.heap[b12]? = some (.cells #[.int .i64 0, .int .i64 0] 26 (0, 0)) := o12
        obtain rfl : u12 = ptrB b12 := Option.some.inj (s12.symm.trans t12)
        clear r12
        clear hA hD; refine o7t rfl ?_; intro K hK
        have f12 := f7b o12
        have c12_0 := c7b (k := 0) o12 rfl
        have c12_1 := c7b (k := 1) o12 rfl
        have f12_0 := f12 0
        have f12_1 := f12 1
        clear f12; unfold ptrB at s12 t12; gi_wp2; exact hK undef _ trivial (by repeat (first | exact B7 _ _ | refine Below.setCell ?_ (by omega) _)) (SlT.store _ (by intro t ht e; simp only [List.mem_cons, List.not_mem_nil, or_false] at ht; rcases ht with rfl | rfl <;> first | rfl | (exact absurd e (Nat.ne_of_beq_eq_false rfl))) (by intro t ht; simp only [List.mem_cons, List.not_mem_nil, or_false] at ht; rcases ht with rfl | rfl <;> exact Nat.ne_of_beq_eq_false rfl) (List.mem_of_getElem? (i := 1) rfl) rfl b12 (by unfold envOf; rw [t12]; rfl) (h7s (h7s o12 _) _) (by intro k hk; repeat (first | rfl | refine (Below.heap_setCell _ _ _ k (by simpa using hk)).trans ?_)))
     case hend =>
      intro w6 hC
      simp only [EndFrom, eqv, forall_eq, Act.put, List.length_cons, List.length_nil, List.drop_succ_cons, List.drop_zero, Nat.reduceAdd, List.setIfInBounds_toArray, List.set_cons_succ, List.set_cons_zero]
      intro pA _ pB _ pC _ pD _ hX
      obtain ⟨bA, hA1, hA2, hA3⟩ := hX.1 _ (List.mem_of_getElem? (i := 0) rfl)
      obtain ⟨bB, hB1, hB2, hB3⟩ := hX.1 _ (List.mem_of_getElem? (i := 1) rfl)
      obtain rfl : pA = ptrB bA := Option.some.inj hA2
      obtain rfl : pB = ptrB bB := Option.some.inj hB2
      clear hX hA2 hB2
      unfold ptrB
      dsimp only at hA3 hB3
      have HA := H7 (BlkA.mk hA3)
      have HB := H7 (BlkA.mk hB3)
      have HS := H7 (HS.out.below hC)
      have HG := H7 (HG.out.below hC)
      have HCP := H7 (HCP.out.below hC)
      have HCV := H7 (HCV.out.below hC)
      clear hC
      clear hA3 hB3 HPQ HBB
      have HMP := H7 (fun w' => r7May_any ⟨px, py⟩ w')
      have HMQ := H7 (fun w' => r7May_any ⟨qx, qy⟩ w')
      have HS0 := H7 (fun w' h => sRect_any ⟨r, g, b, al⟩ HC0.out ⟨px, py⟩ ⟨qx, qy⟩ pc C w' h)
      have HS1 := H7 (fun w' h => sFrame_any ⟨r, g, b, al⟩ HC0.out ⟨px, py⟩ ⟨qx, qy⟩ pc C w' h)
      have HS2 := H7 (fun w' h => sVeil_any ⟨r, g, b, al⟩ HC0.out ⟨px, py⟩ ⟨qx, qy⟩ pc C w' h)
      have HR0 := H7 (fun v w' h => r7Rect_paint C HCP.out.ok v ⟨px, py⟩ ⟨qx, qy⟩ ⟨r, g, b, al⟩ HC0.out w' h)
      have HR1 := H7 (fun v w' h => r7Rect_frame C HCP.out.ok v ⟨px, py⟩ ⟨qx, qy⟩ ⟨r, g, b, al⟩ HC0.out w' h)
      have HR2 := H7 (fun v w' h => r7Rect_wash C HCP.out.ok v ⟨px, py⟩ ⟨qx, qy⟩ ⟨r, g, b, al⟩ HC0.out w' h)
      have HH0 := H7 (pixTo_shown HCP.out.ok (fpaint_ok HC0.out) (fun x y _ _ => rectB_rect ⟨px, py⟩ ⟨qx, qy⟩ x y))
      have HH1 := H7 (pixTo_shown HCP.out.ok (fpaint_ok HC0.out) (fun x y _ _ => rectB_frame ⟨px, py⟩ ⟨qx, qy⟩ x y))
      have HH2 := H7 (pixTo_shown HCP.out.ok (fwash_ok HC0.out) (fun x y _ _ => rectB_rect ⟨px, py⟩ ⟨qx, qy⟩ x y))
      obtain ⟨D0, hD0⟩ : ∃ D, pixTo C (rectB false ⟨px, py⟩ ⟨qx, qy⟩) (fpaint ⟨r, g, b, al⟩) (8 * C.high * (8 * C.wide)) = D := ⟨_, rfl⟩
      obtain ⟨D1, hD1⟩ : ∃ D, pixTo C (rectB true ⟨px, py⟩ ⟨qx, qy⟩) (fpaint ⟨r, g, b, al⟩) (8 * C.high * (8 * C.wide)) = D := ⟨_, rfl⟩
      obtain ⟨D2, hD2⟩ : ∃ D, pixTo C (rectB false ⟨px, py⟩ ⟨qx, qy⟩) (fwash ⟨r, g, b, al⟩) (8 * C.high * (8 * C.wide)) = D := ⟨_, rfl⟩
      rw [hD0] at HH0 HR0
      rw [hD1] at HH1 HR1
      rw [hD2] at HH2 HR2
      obtain ⟨dp, hdp⟩ : ∃ dp, drawnB ⟨px, py⟩ = dp := ⟨_, rfl⟩
      obtain ⟨dq, hdq⟩ : ∃ dq, drawnB ⟨qx, qy⟩ = dq := ⟨_, rfl⟩
      rw [hdp] at HMP HS0 HS1 HS2
      rw [hdq] at HMQ HS0 HS1 HS2
      clear hD0 hD1 hD2 hdp hdq
      have a0 := c7b (k := 0) HA.out.at_ rfl
      have a1 := c7b (k := 1) HA.out.at_ rfl
      have b0 := c7b (k := 0) HB.out.at_ rfl
      have b1 := c7b (k := 1) HB.out.at_ rfl
      gi_wp2
      go_wp2_with fail
      clear a0 a1 b0 b1
      refine (HMP.out _).mono ?_
      rintro e w7 ⟨rfl, hb⟩
      have HS := H7 (HS.out.below hb)
      have HG := H7 (HG.out.below hb)
      have HCP := H7 (HCP.out.below hb)
      have HCV := H7 (HCV.out.below hb)
      have HA := H7 (HA.out.below hb)
      have HB := H7 (HB.out.below hb)
      clear hb
      rcases (show dp = false ∨ (dp = true ∧ dq = false) ∨ (dp = true ∧ dq = true) by cases dp <;> cases dq <;> simp) with rfl | ⟨rfl, rfl⟩ | ⟨rfl, rfl⟩
      rotate_left
      all_goals try (
       have a0 := c7b (k := 0) HA.out.at_ rfl
       have a1 := c7b (k := 1) HA.out.at_ rfl
       have b0 := c7b (k := 0) HB.out.at_ rfl
       have b1 := c7b (k := 1) HB.out.at_ rfl
       go_wp2_with fail
       clear a0 a1 b0 b1
       refine (HMQ.out _).mono ?_
       rintro e w8 ⟨rfl, hb⟩
       have HS := H7 (HS.out.below hb)
       have HG := H7 (HG.out.below hb)
       have HCP := H7 (HCP.out.below hb)
       have HCV := H7 (HCV.out.below hb)
       have HA := H7 (HA.out.below hb)
       have HB := H7 (HB.out.below hb)
       clear hb
       skip)
      all_goals
       clear HMP HMQ
       have y0 := h7c HS 1 0 rfl rfl
       have y1 := h7c HS 1 1 rfl rfl
       have y2 := h7c HS 1 2 rfl rfl
       have y3 := h7c HS 1 3 rfl rfl
       have a0 := c7b (k := 0) HA.out.at_ rfl
       have a1 := c7b (k := 1) HA.out.at_ rfl
       have b0 := c7b (k := 0) HB.out.at_ rfl
       have b1 := c7b (k := 1) HB.out.at_ rfl
       go_wp2_with fail
       clear a0 a1 b0 b1 y0 y1 y2 y3
       refine (HS0.out _ HCP.out).mono ?_
       intro e w9 h
       obtain ⟨p0, rfl, hs, hb⟩ := h.says HH0.out
       have HP0 := H7 hs
       have HS := H7 (HS.out.below hb)
       have HG := H7 (HG.out.below hb)
       have HCP := H7 (HCP.out.below hb)
       have HCV := H7 (HCV.out.below hb)
       have HA := H7 (HA.out.below hb)
       have HB := H7 (HB.out.below hb)
       clear hb
       clear h hs HS0
       have y0 := h7c HS 1 0 rfl rfl
       have y1 := h7c HS 1 1 rfl rfl
       have y2 := h7c HS 1 2 rfl rfl
       have y3 := h7c HS 1 3 rfl rfl
       have a0 := c7b (k := 0) HA.out.at_ rfl
       have a1 := c7b (k := 1) HA.out.at_ rfl
       have b0 := c7b (k := 0) HB.out.at_ rfl
       have b1 := c7b (k := 1) HB.out.at_ rfl
       go_wp2_with fail
       clear a0 a1 b0 b1 y0 y1 y2 y3
       refine (HS1.out _ HCP.out).mono ?_
       intro e w9 h
       obtain ⟨p1, rfl, hs, hb⟩ := h.says HH1.out
       have HP1 := H7 hs
       have HS := H7 (HS.out.below hb)
       have HG := H7 (HG.out.below hb)
       have HCP := H7 (HCP.out.below hb)
       have HCV := H7 (HCV.out.below hb)
       have HA := H7 (HA.out.below hb)
       have HB := H7 (HB.out.below hb)
       have HP0 := H7 (HP0.out.below hb)
       clear hb
       clear h hs HS1
       have y0 := h7c HS 1 0 rfl rfl
       have y1 := h7c HS 1 1 rfl rfl
       have y2 := h7c HS 1 2 rfl rfl
       have y3 := h7c HS 1 3 rfl rfl
       have a0 := c7b (k := 0) HA.out.at_ rfl
       have a1 := c7b (k := 1) HA.out.at_ rfl
       have b0 := c7b (k := 0) HB.out.at_ rfl
       have b1 := c7b (k := 1) HB.out.at_ rfl
       go_wp2_with fail
       clear a0 a1 b0 b1 y0 y1 y2 y3
       refine (HS2.out _ HCP.out).mono ?_
       intro e w9 h
       obtain ⟨p2, rfl, hs, hb⟩ := h.says HH2.out
       have HP2 := H7 hs
       have HS := H7 (HS.out.below hb)
       have HG := H7 (HG.out.below hb)
       have HCP := H7 (HCP.out.below hb)
       have HCV := H7 (HCV.out.below hb)
       have HA := H7 (HA.out.below hb)
       have HB := H7 (HB.out.below hb)
       have HP0 := H7 (HP0.out.below hb)
       have HP1 := H7 (HP1.out.below hb)
       clear hb
       clear h hs HS2
       have y0 := h7c HS 1 0 rfl rfl
       have y1 := h7c HS 1 1 rfl rfl
       have y2 := h7c HS 1 2 rfl rfl
       have y3 := h7c HS 1 3 rfl rfl
       have a0 := c7b (k := 0) HA.out.at_ rfl
       have a1 := c7b (k := 1) HA.out.at_ rfl
       have b0 := c7b (k := 0) HB.out.at_ rfl
       have b1 := c7b (k := 1) HB.out.at_ rfl
       have g0 := h7c HS 0 0 rfl rfl
       have g1 := h7c HS 0 1 rfl rfl
       have g2 := h7c HS 0 2 rfl rfl
       go_wp2_with fail
       clear a0 a1 b0 b1 y0 y1 y2 y3 g0 g1 g2
       refine (HR0.out _ _ HCV.out).mono ?_
       rintro e w9 ⟨v0, rfl, hv, hb⟩
       have HV := H7 hv
       have HS := H7 (HS.out.below hb)
       have HG := H7 (HG.out.below hb)
       have HCP := H7 (HCP.out.below hb)
       have HCV := H7 (HCV.out.below hb)
       have HA := H7 (HA.out.below hb)
       have HB := H7 (HB.out.below hb)
       have HP0 := H7 (HP0.out.below hb)
       have HP1 := H7 (HP1.out.below hb)
       have HP2 := H7 (HP2.out.below hb)
       clear hb
       clear hv HR0
       go_wp2_with fail
       refine (says_drawn _ 2 (by decide) D0 D0 (fun _ => rfl) _ _ _ HP0.out HV.out).mono ?_
       rintro e w9 ⟨rfl, hb⟩
       have HS := H7 (HS.out.below hb)
       have HG := H7 (HG.out.below hb)
       have HCP := H7 (HCP.out.below hb)
       have HCV := H7 (HCV.out.below hb)
       have HA := H7 (HA.out.below hb)
       have HB := H7 (HB.out.below hb)
       have HP0 := H7 (HP0.out.below hb)
       have HP1 := H7 (HP1.out.below hb)
       have HP2 := H7 (HP2.out.below hb)
       clear hb
       clear HV
       have y0 := h7c HS 1 0 rfl rfl
       have y1 := h7c HS 1 1 rfl rfl
       have y2 := h7c HS 1 2 rfl rfl
       have y3 := h7c HS 1 3 rfl rfl
       have a0 := c7b (k := 0) HA.out.at_ rfl
       have a1 := c7b (k := 1) HA.out.at_ rfl
       have b0 := c7b (k := 0) HB.out.at_ rfl
       have b1 := c7b (k := 1) HB.out.at_ rfl
       have g0 := h7c HS 0 0 rfl rfl
       have g1 := h7c HS 0 1 rfl rfl
       have g2 := h7c HS 0 2 rfl rfl
       go_wp2_with fail
       clear a0 a1 b0 b1 y0 y1 y2 y3 g0 g1 g2
       refine (HR1.out _ _ HCV.out).mono ?_
       rintro e w9 ⟨v1, rfl, hv, hb⟩
       have HV := H7 hv
       have HS := H7 (HS.out.below hb)
       have HG := H7 (HG.out.below hb)
       have HCP := H7 (HCP.out.below hb)
       have HCV := H7 (HCV.out.below hb)
       have HA := H7 (HA.out.below hb)
       have HB := H7 (HB.out.below hb)
       have HP1 := H7 (HP1.out.below hb)
       have HP2 := H7 (HP2.out.below hb)
       clear hb
       clear hv HR1
       go_wp2_with fail
       refine (says_drawn _ 2 (by decide) D1 D1 (fun _ => rfl) _ _ _ HP1.out HV.out).mono ?_
       rintro e w9 ⟨rfl, hb⟩
       have HS := H7 (HS.out.below hb)
       have HG := H7 (HG.out.below hb)
       have HCP := H7 (HCP.out.below hb)
       have HCV := H7 (HCV.out.below hb)
       have HA := H7 (HA.out.below hb)
       have HB := H7 (HB.out.below hb)
       have HP1 := H7 (HP1.out.below hb)
       have HP2 := H7 (HP2.out.below hb)
       clear hb
       clear HV
       have y0 := h7c HS 1 0 rfl rfl
       have y1 := h7c HS 1 1 rfl rfl
       have y2 := h7c HS 1 2 rfl rfl
       have y3 := h7c HS 1 3 rfl rfl
       have a0 := c7b (k := 0) HA.out.at_ rfl
       have a1 := c7b (k := 1) HA.out.at_ rfl
       have b0 := c7b (k := 0) HB.out.at_ rfl
       have b1 := c7b (k := 1) HB.out.at_ rfl
       have g0 := h7c HS 0 0 rfl rfl
       have g1 := h7c HS 0 1 rfl rfl
       have g2 := h7c HS 0 2 rfl rfl
       go_wp2_with fail
       clear a0 a1 b0 b1 y0 y1 y2 y3 g0 g1 g2
       refine (HR2.out _ _ HCV.out).mono ?_
       rintro e w9 ⟨v2, rfl, hv, hb⟩
       have HV := H7 hv
       have HS := H7 (HS.out.below hb)
       have HG := H7 (HG.out.below hb)
       have HCP := H7 (HCP.out.below hb)
       have HCV := H7 (HCV.out.below hb)
       have HA := H7 (HA.out.below hb)
       have HB := H7 (HB.out.below hb)
       have HP2 := H7 (HP2.out.below hb)
       clear hb
       clear hv HR2
       go_wp2_with fail
       refine (says_drawn _ 2 (by decide) D2 D2 (fun _ => rfl) _ _ _ HP2.out HV.out).mono ?_
       rintro e w9 ⟨rfl, hb⟩
       have HS := H7 (HS.out.below hb)
       have HG := H7 (HG.out.below hb)
       have HCP := H7 (HCP.out.below hb)
       have HCV := H7 (HCV.out.below hb)
       have HA := H7 (HA.out.below hb)
       have HB := H7 (HB.out.below hb)
       have HP2 := H7 (HP2.out.below hb)
       clear hb
       clear HV
       go_wp2_with fail
       go_roundw
       case rel => exact ⟨j + 1, by have := HJ.out; omega, by first | exact congrArg (Value.int .i64) HWK.out.1 | exact congrArg (Value.int .i64) (Int.natCast_succ (j + 1)).symm | (congr 1; omega), HG.out⟩
       case measure => (try rw [HWK.out.1]); have := HJ.out; simp only [intOf]; omega
   · have HCP := H7 (HCP.out.below HG.out.low)
     have HCV := H7 (HCV.out.below HG.out.low)
     have HS := H7 (HS.out.below HG.out.low)
     by_cases h1 : j + 1 < m
     · have h2 : ¬ (j + 1 < 5) := fun h2 => hlt ⟨h1, h2⟩
       have d2 : decide (((j + 1 : Nat) : Int) < 5) = false := by rw [decide_eq_false_iff_not]; omega
       have d3 : decide (j + 1 < 5) = false := by rw [decide_eq_false_iff_not]; omega
       have d4 : decide ((j : Int) + 1 < 5) = false := by rw [decide_eq_false_iff_not]; omega
       clear hlt h2
       repeat ((fail_if_success (with_reducible refine stop_at (id := 19) ?_)); (first | go_values | go_skip | go_guarded | go_step | go_upon | go_back | (simp only [Int.not_lt, Int.not_le] at *; go_simp) | (go_values <;> (try go_simp)) | (go_ite <;> go_prune <;> (try go_simp)) | (split <;> (first | (rename_i hx; exact (hx _ rfl).elim) | go_prune))))
       refine (wpIn_wide (n := 0)).1 ?_
       apply w7v 4 (Rl := [(eqv _), (fun v_ w_ => CanV w_ C v_), (eqv _), (eqv _)]) (C := (fun x y => Below x.heap.size x y))
       case hm => kernel_rfl
       case hk => rfl
       case hCr => exact (fun _ => B7 _ _)
       case hCt => intro _ _ _; exact (fun h k => g7t h k)
       case hst => exact ⟨fun _ _ _ _ h => h, fun _ _ _ hC h => h.below hC, fun _ _ _ _ h => h, fun _ _ _ _ h => h, trivial⟩
       case hfo => kernel_rfl
       case ht => kernel_rfl
       case hC0 => exact (g7d _)
       case hsteps =>
        refine ⟨?_, ?_, ?_, ?_, trivial⟩
        · intro a' w' hA hC hD; have s8 := hA.to 8 (by kernel_rfl) rfl; clear hA hD; refine o7p rfl ?_; intro K hK; gi_wp2; exact hK _ _ rfl (B7 _ _)
        · intro a' w' hA hC hD; obtain ⟨u117, s117, r117⟩ := hD ⟨0, .data⟩ (by simp) rfl _ rfl; replace r117 : u117 = _ := r117; subst r117; clear hA hD; refine o7p rfl ?_; intro K hK
          gi_wp2_with fail; refine (callsIn_wide.2 (show_any C pc _ (HCP.out.below hC))).mono ?_; rintro e w9 ⟨v9, rfl, hr9, hb9⟩
          exact hK _ _ hr9 hb9
        · intro a' w' hA hC hD; have s7 := hA.to 7 (by kernel_rfl) rfl
          have g0 := c7b (k := 0) ((HS.out.below hC).blockAt 0 rfl) rfl; have g1 := c7b (k := 1) ((HS.out.below hC).blockAt 0 rfl) rfl; have g2 := c7b (k := 2) ((HS.out.below hC).blockAt 0 rfl) rfl
          clear hA hD; refine o7p rfl ?_; intro K hK; gi_wp2; exact hK _ _ rfl (B7 _ _)
        · intro a' w' hA hC hD; obtain ⟨u118, s118, r118⟩ := hD ⟨1, .data⟩ (by simp) rfl _ rfl; replace r118 : (fun v_ w_ => CanV w_ C v_) u118 w' := r118; obtain ⟨u119, s119, r119⟩ := hD ⟨2, .data⟩ (by simp) rfl _ rfl; replace r119 : u119 = _ := r119; subst r119; clear hA hD; refine o7p rfl ?_; intro K hK
          gi_wp2_with fail; refine (callsIn_wide.2 (r5Same_eq C HNC.out _ _ _ r118 (HCV.out.below hC))).mono ?_; rintro e w2 ⟨rfl, hb⟩
          exact hK _ _ rfl hb
       case hend =>
        intro w10 hC
        simp only [EndFrom, eqv, forall_eq, Act.put, List.length_cons, List.length_nil, List.drop_succ_cons, List.drop_zero, Nat.reduceAdd, List.setIfInBounds_toArray, List.set_cons_succ, List.set_cons_zero]
        have HS := H7 (HS.out.below hC)
        clear hC
        intro v118 hv118
        clear hv118
        gi_wp2
        go_wp2_with fail
        go_ret
        exact ⟨rfl, HS.out.low⟩
     · have d1 : decide (((j + 1 : Nat) : Int) < (m : Int)) = false := by rw [decide_eq_false_iff_not]; omega
       have d4 : decide ((j : Int) + 1 < (m : Int)) = false := by rw [decide_eq_false_iff_not]; omega
       clear hlt h1
       repeat ((fail_if_success (with_reducible refine stop_at (id := 19) ?_)); (first | go_values | go_skip | go_guarded | go_step | go_upon | go_back | (simp only [Int.not_lt, Int.not_le] at *; go_simp) | (go_values <;> (try go_simp)) | (go_ite <;> go_prune <;> (try go_simp)) | (split <;> (first | (rename_i hx; exact (hx _ rfl).elim) | go_prune))))
       refine (wpIn_wide (n := 0)).1 ?_
       apply w7v 4 (Rl := [(eqv _), (fun v_ w_ => CanV w_ C v_), (eqv _), (eqv _)]) (C := (fun x y => Below x.heap.size x y))
       case hm => kernel_rfl
       case hk => rfl
       case hCr => exact (fun _ => B7 _ _)
       case hCt => intro _ _ _; exact (fun h k => g7t h k)
       case hst => exact ⟨fun _ _ _ _ h => h, fun _ _ _ hC h => h.below hC, fun _ _ _ _ h => h, fun _ _ _ _ h => h, trivial⟩
       case hfo => kernel_rfl
       case ht => kernel_rfl
       case hC0 => exact (g7d _)
       case hsteps =>
        refine ⟨?_, ?_, ?_, ?_, trivial⟩
        · intro a' w' hA hC hD; have s8 := hA.to 8 (by kernel_rfl) rfl; clear hA hD; refine o7p rfl ?_; intro K hK; gi_wp2; exact hK _ _ rfl (B7 _ _)
        · intro a' w' hA hC hD; obtain ⟨u117, s117, r117⟩ := hD ⟨0, .data⟩ (by simp) rfl _ rfl; replace r117 : u117 = _ := r117; subst r117; clear hA hD; refine o7p rfl ?_; intro K hK
          gi_wp2_with fail; refine (callsIn_wide.2 (show_any C pc _ (HCP.out.below hC))).mono ?_; rintro e w9 ⟨v9, rfl, hr9, hb9⟩
          exact hK _ _ hr9 hb9
        · intro a' w' hA hC hD; have s7 := hA.to 7 (by kernel_rfl) rfl
          have g0 := c7b (k := 0) ((HS.out.below hC).blockAt 0 rfl) rfl; have g1 := c7b (k := 1) ((HS.out.below hC).blockAt 0 rfl) rfl; have g2 := c7b (k := 2) ((HS.out.below hC).blockAt 0 rfl) rfl
          clear hA hD; refine o7p rfl ?_; intro K hK; gi_wp2; exact hK _ _ rfl (B7 _ _)
        · intro a' w' hA hC hD; obtain ⟨u118, s118, r118⟩ := hD ⟨1, .data⟩ (by simp) rfl _ rfl; replace r118 : (fun v_ w_ => CanV w_ C v_) u118 w' := r118; obtain ⟨u119, s119, r119⟩ := hD ⟨2, .data⟩ (by simp) rfl _ rfl; replace r119 : u119 = _ := r119; subst r119; clear hA hD; refine o7p rfl ?_; intro K hK
          gi_wp2_with fail; refine (callsIn_wide.2 (r5Same_eq C HNC.out _ _ _ r118 (HCV.out.below hC))).mono ?_; rintro e w2 ⟨rfl, hb⟩
          exact hK _ _ rfl hb
       case hend =>
        intro w10 hC
        simp only [EndFrom, eqv, forall_eq, Act.put, List.length_cons, List.length_nil, List.drop_succ_cons, List.drop_zero, Nat.reduceAdd, List.setIfInBounds_toArray, List.set_cons_succ, List.set_cons_zero]
        have HS := H7 (HS.out.below hC)
        clear hC
        intro v118 hv118
        clear hv118
        gi_wp2
        go_wp2_with fail
        go_ret
        exact ⟨rfl, HS.out.low⟩
end Go.Proofs.YthcdkkmjnglmjaaGreatDoor
