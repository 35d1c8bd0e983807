/- Merged texts: DhA Dsp. -/
import Derived.Test.YthcdkkmjnglmjaaGreatDoorM23
import Derived.Test.YthcdkkmjnglmjaaGreatDoorM22
set_option linter.unusedSimpArgs false
set_option linter.unusedVariables false
/- Layer 7's laws: what a law clones, and what it says of drawings. -/
namespace Go.Proofs.YthcdkkmjnglmjaaGreatDoor
open Go.RowKit Go.Shelf
attribute [local go_sem] Oper.semAt_some
/-- A clone: a row of its own type's block. -/
def Cl {α : Type} (k : Nat) (enc : α → List Value) (E : TypeId) (L : List α) (n : Nat) (v : Value) (w : World) : Prop :=
 ∃ a cap, v = .slice a n cap ∧ n ≤ cap ∧ Elems w (.slice a n cap) n k (rowC enc L) ∧ ∀ ad, a = some ad → ∃ cs, w.heap[ad.block]? = some (.cells cs E (0, 0))
theorem Cl.below {α : Type} {k : Nat} {enc : α → List Value} {E : TypeId} {L : List α} {n : Nat} {v : Value} {w w' : World} (h : Cl k enc E L n v w) (hb : Below w.heap.size w w') : Cl k enc E L n v w' := by
 obtain ⟨a, cap, h1, h2, h3, h4⟩ := h
 exact ⟨a, cap, h1, h2, h3.below hb, fun ad e => by obtain ⟨cs, h5⟩ := h4 ad e; exact ⟨cs, (hb.block _ (b7t h5)).trans h5⟩⟩
theorem Cl.store {α : Type} {k : Nat} {enc : α → List Value} {E : TypeId} {L : List α} {n : Nat} {v : Value} {w : World} (h : Cl k enc E L n v w) {g : Nat} {c : Array Value} {E' : TypeId} {f : Nat × Nat} (hg : w.heap[g]? = some (.cells c E' f)) (hE : E' ≠ E) (j : Nat) (u : Value) : Cl k enc E L n v (w.setCell ⟨g, j, none⟩ u) := by
 obtain ⟨a, cap, h1, h2, h3, h4⟩ := h
 have hne : ∀ ad, a = some ad → ad.block ≠ g := fun ad e e2 => by
  obtain ⟨cs, h5⟩ := h4 ad e
  rw [e2, hg] at h5
  cases h5
  exact hE rfl
 exact ⟨a, cap, h1, h2, elems_other h3 hne j u, fun ad e => by obtain ⟨cs, h5⟩ := h4 ad e; exact ⟨cs, (Below.heap_setCell _ _ _ _ (hne ad e)).trans h5⟩⟩
theorem cloned_cl {α : Type} {E : TypeId} {k n : Nat} {enc : α → List Value} {L : List α} {sv : Value} {w : World} {e : Ending} {w' : World} (hk : ∀ q, (enc q).length = k) (hn : L.length = n) (h : Cloned E k L.length (L.flatMap enc) sv w e w') :
 ∃ v, e = .returned v ∧ Cl k enc E L n v w' ∧ Below w.heap.size w w' := by
 obtain ⟨v, rfl, hr, -, hb⟩ := h
 subst hn
 have he := ownsRow_rows hk hr
 rcases hr.2 with ⟨rfl, h0⟩ | ⟨g, cap, cur, rfl, h1, h2, h3, h4⟩
 · exact ⟨_, rfl, ⟨none, 0, by rw [h0], by omega, by rw [h0] at he ⊢; exact he, fun ad e => by cases e⟩, hb⟩
 · exact ⟨_, rfl, ⟨_, cap, rfl, h3, he, fun ad e => by cases e; exact ⟨cur, h2⟩⟩, hb⟩
/-- A canvas of a law's own, as a value. -/
def OwnV (wide high : Int) (T : List TileT) (n : Nat) (v : Value) (w : World) : Prop :=
 ∃ a cap, v = .agg #[.int .i64 wide, .int .i64 high, .slice a n cap] ∧ n ≤ cap ∧ Elems w (.slice a n cap) n 256 (rowC encT T)
theorem OwnV.below {wide high : Int} {T : List TileT} {n : Nat} {v : Value} {w w' : World} (h : OwnV wide high T n v w) (hb : Below w.heap.size w w') : OwnV wide high T n v w' := by
 obtain ⟨a, cap, h1, h2, h3⟩ := h
 exact ⟨a, cap, h1, h2, h3.below hb⟩
theorem elemsT_store {w : World} {a : Option Addr} {n cap : Nat} {f : Nat → Value} (h : Elems w (.slice a n cap) n 256 f) {g : Nat} {c : Array Value} {t : TypeId} {fr : Nat × Nat} (hg : w.heap[g]? = some (.cells c t fr)) (hc : c.size ≤ 255) (j : Nat) (u : Value) : Elems (w.setCell ⟨g, j, none⟩ u) (.slice a n cap) n 256 f := by
 rcases h with h | ⟨b, off, cap', e, hlt, hcs⟩
 · exact .inl h
 · cases e
   refine .inr ⟨b, off, cap, rfl, by rw [World.size_setCell]; exact hlt, fun i hi => ?_⟩
   rw [← hcs i hi]
   refine World.cell?_of_block (Below.heap_setCell _ _ _ b (fun e3 => ?_))
   have e3 : b = g := e3
   subst e3
   have h5 := hcs 255 (by omega)
   unfold World.cell? at h5
   simp only [hg] at h5
   rw [if_neg (by simp), Array.getElem?_eq_none (by omega)] at h5
   cases h5
theorem OwnV.store {wide high : Int} {T : List TileT} {n : Nat} {v : Value} {w : World} (h : OwnV wide high T n v w) {g : Nat} {c : Array Value} {t : TypeId} {fr : Nat × Nat} (hg : w.heap[g]? = some (.cells c t fr)) (hc : c.size ≤ 255) (j : Nat) (u : Value) : OwnV wide high T n v (w.setCell ⟨g, j, none⟩ u) := by
 obtain ⟨a, cap, h1, h2, h3⟩ := h
 exact ⟨a, cap, h1, h2, elemsT_store h3 hg hc j u⟩
theorem own_v {wide high : Int} {us : List TileT} {n : Nat} (hn : us.length = n) {w : World} {e : Ending} {w' : World} (h : GivesOwn wide high us w e w') : ∃ v, e = .returned v ∧ OwnV wide high us n v w' ∧ Below w.heap.size w w' := by
 obtain ⟨a, cap, rfl, h1, h2, hb⟩ := h
 subst hn
 exact ⟨_, rfl, ⟨a, cap, rfl, h1, h2⟩, hb⟩
/-- What a law says of what was drawn. -/
structure SaysD (ok : Bool) (D : CanT) (v : Value) (w : World) : Prop where
 yes : ok = true → ∃ d, v = .pointer (some ⟨d, 0, none⟩) ∧ CanAt w d D
 no : ok = false → v = .pointer none
theorem SaysD.below {ok : Bool} {D : CanT} {v : Value} {w w' : World} (h : SaysD ok D v w) (hb : Below w.heap.size w w') : SaysD ok D v w' :=
 ⟨fun h0 => by obtain ⟨d, h1, h2⟩ := h.yes h0; exact ⟨d, h1, h2.below hb⟩, h.no⟩
theorem says_drawn (ok : Bool) (er : Int) (her : er ≠ 0) (D D' : CanT) (hD : ok = true → D' = D) (p v : Value) (w : World) (hp : SaysD ok D p w) (hv : CanV w D' v) :
 Calls Tryz.prog 22 #[p, .int .i64 (errOf ok er), v, .int .i64 (errOf ok er)] w (Gives (.bool true) w) := by
 cases ok with
 | true =>
  obtain ⟨d, rfl, h2⟩ := hp.yes rfl
  obtain rfl := hD rfl
  exact says_yes _ d v w h2 hv
 | false =>
  obtain rfl := hp.no rfl
  obtain ⟨a, cap, rfl, -, -⟩ := hv
  exact says_no er her _ _ a _ cap w
theorem DrawnS.says {ok : Bool} {er : Int} {C : CanT} {Q : PtT → Prop} {f : ColT → ColT} {w w' : World} {e : Ending} (h : DrawnS ok er C Q f w e w') {D : CanT} (hD : Shown C Q f D) : ∃ v, e = .returned (.tuple #[v, .int .i64 (errOf ok er)]) ∧ SaysD ok D v w' ∧ Below w.heap.size w w' := by
 cases ok with
 | true =>
  obtain ⟨d, D', he, h1, h2⟩ := h.2.1 rfl
  obtain rfl := h2.unique hD
  exact ⟨_, he, ⟨fun _ => ⟨d, rfl, h1⟩, fun h => (by cases h)⟩, h.1⟩
 | false => exact ⟨_, h.2.2 rfl, ⟨fun h => (by cases h), fun _ => rfl⟩, h.1⟩
/- gessolaw07.DrawSpans. -/
theorem okE_wideN {wide high : Int} {n : Nat} (h : okE wide high n = true) : wide = (wide.toNat : Int) ∧ high = (high.toNat : Int) := by
 unfold okE at h
 have h1 := mayB_iff.1 (Bool.and_eq_true_iff.1 h).1
 omega
theorem ofBothN (wide high : Int) (T : List TileT) (n : Nat) (hn : T.length = n) (hcol : ∀ t ∈ T, ∀ c ∈ t.1, okC c) (v : Value) (w : World) (he : OwnV wide high T n v w) :
 Calls Tryz.prog 10 #[v] w fun e w' => ∃ v, e = .returned (.tuple #[v, .int .i64 (errOf (okE wide high n) 150)]) ∧ Below w.heap.size w w' ∧
  (okE wide high n = true → ∃ p, v = .pointer (some ⟨p, 0, none⟩) ∧ CanAt w' p ⟨wide.toNat, high.toNat, T⟩) ∧ (okE wide high n = false → v = .pointer none) := by
 subst hn
 obtain ⟨a, cap, rfl, h1, h2⟩ := he
 exact ofBothD wide high a cap T hcol w h2
theorem OwnV.canV {wide high : Int} {T : List TileT} {n : Nat} {v : Value} {w : World} (h : OwnV wide high T n v w) (hn : T.length = n) (hok : okE wide high n = true) : CanV w ⟨wide.toNat, high.toNat, T⟩ v := by
 obtain ⟨a, cap, rfl, h1, h2⟩ := h
 obtain ⟨e1, e2⟩ := okE_wideN hok
 subst hn
 exact ⟨a, cap, by simp only; rw [← e1, ← e2], h1, h2⟩
set_option maxRecDepth 100000 in
set_option maxHeartbeats 4000000 in
theorem drawSpans_any (wide high : Int) (a : Option Addr) (cap : Nat) (us : List TileT) (hcap : us.length ≤ cap) (hcol : ∀ t ∈ us, ∀ c ∈ t.1, okC c) (a2 : Option Addr) (m cap2 : Nat) (L : List SpT) (hlen : L.length = m) (hcap2 : m ≤ cap2) (c : ColT) (hc : okC c)
 (w : World) (hred : RedAt w) (he : Elems w (.slice a us.length cap) us.length 256 (rowC encT us)) (he2 : Elems w (.slice a2 m cap2) m 3 (rowC encS L)) :
 Calls Tryz.prog 7 #[.agg #[.int .i64 wide, .int .i64 high, .slice a us.length cap], .slice a2 m cap2, c.val] w (Gives (.bool true) w) := by
 have HS := H7 (St.start w)
 have HR := H7 hred
 obtain ⟨T, hT⟩ : ∃ T, us.take 17 = T := ⟨_, rfl⟩
 obtain ⟨tn, htn⟩ : ∃ tn, T.length = tn := ⟨_, rfl⟩
 have hcolT : ∀ t ∈ T, ∀ c ∈ t.1, okC c := fun t ht => hcol t (List.mem_of_mem_take (hT ▸ ht))
 have HOW := H7 (fun w' (hb : Below w.heap.size w w') => (own_any wide high a us.length cap us rfl hcap w' (he.below hb)).mono fun e w'' h => own_v htn (hT ▸ h))
 have HOF := H7 (fun v w' h => ofBothN wide high T tn htn hcolT v w' h)
 have HCAN := H7 (fun (v : Value) (w' : World) (h : OwnV wide high T tn v w') hok => h.canV htn hok)
 obtain ⟨ok, hok⟩ : ∃ ok, okE wide high tn = ok := ⟨_, rfl⟩
 have HOKE := H7 hok
 rw [hok] at HOF HCAN
 obtain ⟨n, hn⟩ : ∃ n, us.length = n := ⟨_, rfl⟩
 rw [hn] at HOW ⊢
 obtain ⟨k, hk⟩ : ∃ k, min m 20 = k := ⟨_, rfl⟩
 have hk2 : k ≤ m ∧ k ≤ 20 := by omega
 have het := Elems.take encS_len hlen he2 hk2.1
 have htl : (L.take k).length = k := by rw [List.length_take]; omega
 have e1 : min (m : Int) 20 = (k : Int) := by omega
 obtain ⟨LL, hLL⟩ : ∃ LL, L.take k = LL := ⟨_, rfl⟩
 rw [hLL] at het htl
 have hkc : k ≤ cap2 := by omega
 have HCL := H7 (fun w' (hb : Below w.heap.size w w') => (cloneS_any (.slice a2 k cap2) LL w' (by rw [htl]; exact het.below hb) (by omega)).mono fun e w'' h => cloned_cl encS_len htl h)
 have HY := H7 het
 have HL := H7 (And.intro htl hk2)
 have HC0 := H7 hc
 obtain ⟨r, g, b, al⟩ := c
 unfold ColT.val
 simp only
 clear hred he he2 het hok hn hk htl hLL hlen hc hcol hcolT hT htn hcap
 go_enter Tryz.func7, Tryz.ntmps7
 repeat ((fail_if_success (with_reducible refine stop_at (id := 1) ?_)); (first | go_values | go_skip | go_guarded | go_step | go_upon | go_back | (simp only [Int.not_lt, Int.not_le] at *; go_simp) | (go_values <;> (try go_simp)) | (go_ite <;> go_prune <;> (try go_simp)) | (split <;> (first | (rename_i hx; exact (hx _ rfl).elim) | go_prune))))
 have hs_ := ((HS.out.alloc (.cells #[.int .i64 wide, .int .i64 high, .slice a n cap] 24)).alloc (.cells #[.int .u8 r, .int .u8 g, .int .u8 b, .int .u8 al] 34))
 have hk_HR := HR.out.below (((B7 _ _).alloc (by exact Nat.le_refl _) (.cells #[.int .i64 wide, .int .i64 high, .slice a n cap] 24)).alloc (by simp only [World.size_alloc]; omega) (.cells #[.int .u8 r, .int .u8 g, .int .u8 b, .int .u8 al] 34))
 have hk_HY := HY.out.below (((B7 _ _).alloc (by exact Nat.le_refl _) (.cells #[.int .i64 wide, .int .i64 high, .slice a n cap] 24)).alloc (by simp only [World.size_alloc]; omega) (.cells #[.int .u8 r, .int .u8 g, .int .u8 b, .int .u8 al] 34))
 obtain ⟨w1, hw_⟩ : ∃ w1 : World, ((w.alloc (.cells #[.int .i64 wide, .int .i64 high, .slice a n cap] 24)).alloc (.cells #[.int .u8 r, .int .u8 g, .int .u8 b, .int .u8 al] 34)) = w1 := ⟨_, rfl⟩
 rw [hw_] at hs_ hk_HR hk_HY
 try simp only [World.size_alloc] at hs_
 have HS := H7 hs_
 have HR := H7 hk_HR
 have HY := H7 hk_HY
 rw [hw_]
 clear hw_ hs_ hk_HR hk_HY
 go_wp2_with fail
 refine (dWakes_any w1 HR.out).mono ?_
 rintro e w2 ⟨rfl, hb⟩
 have HS := H7 (HS.out.below hb)
 have HY := H7 (HY.out.below hb)
 clear hb
 repeat ((fail_if_success (with_reducible refine stop_at (id := 3) ?_)); (first | go_values | go_skip | go_guarded | go_step | go_upon | go_back | (simp only [Int.not_lt, Int.not_le] at *; go_simp) | (go_values <;> (try go_simp)) | (go_ite <;> go_prune <;> (try go_simp)) | (split <;> (first | (rename_i hx; exact (hx _ rfl).elim) | go_prune))))
 refine (wpIn_wide (n := 0)).1 ?_
 apply w7v 9 (Rl := [(eqv _), (fun v_ w_ => OwnV wide high T tn v_ w_), (eqv _), (eqv _), (eqv _), (eqv _), (eqv _), (fun v_ w_ => Cl 3 encS 60 LL k v_ w_), (fun v_ w_ => ∃ g, v_ = .pointer (some ⟨g, 0, none⟩) ∧ w2.heap.size ≤ g ∧ w_.heap[g]? = some (.cells #[.int .i64 0, .int .i64 0, .slice none 0 0] 24 (0, 0)))]) (C := (fun x y => Below x.heap.size x y))
 case hm => kernel_rfl
 case hk => rfl
 case hCr => exact (fun _ => B7 _ _)
 case hCt => intro _ _ _; exact (fun h k => g7t h k)
 case hst => exact ⟨fun _ _ _ _ h => h, fun _ _ _ hC h => h.below hC, fun _ _ _ _ h => h, fun _ _ _ _ h => h, fun _ _ _ _ h => h, fun _ _ _ _ h => h, fun _ _ _ _ h => h, fun _ _ _ hC h => h.below hC, fun _ _ _ hC ⟨g, e, hg, h⟩ => ⟨g, e, hg, (hC.block _ (b7t h)).trans h⟩, trivial⟩
 case hfo => kernel_rfl
 case ht => kernel_rfl
 case hC0 => exact (g7d _)
 case hsteps =>
  refine ⟨?_, ?_, ?_, ?_, ?_, ?_, ?_, ?_, ?_, trivial⟩
  · intro a' w' hA hC hD; have s3 := hA.to 3 (by kernel_rfl) rfl
    have h1_ := (HS.out.below hC).blockAt 1 rfl; have c1_0 := c7b (k := 0) h1_ rfl; have c1_1 := c7b (k := 1) h1_ rfl; have c1_2 := c7b (k := 2) h1_ rfl; clear h1_
    clear hA hD; refine o7p rfl ?_; intro K hK; gi_wp2; exact hK _ _ rfl (B7 _ _)
  · intro a' w' hA hC hD; obtain ⟨u21, s21, r21⟩ := hD ⟨0, .data⟩ (by simp) rfl _ rfl; replace r21 : u21 = _ := r21; subst r21; clear hA hD; refine o7p rfl ?_; intro K hK
    gi_wp2_with fail; refine (callsIn_wide.2 (HOW.out _ (HS.out.below hC).low)).mono ?_; rintro e w5 ⟨v5, rfl, hr5, hb5⟩
    exact hK _ _ hr5 hb5
  · intro a' w' hA hC hD; have s1 := hA.to 1 (by kernel_rfl) rfl; clear hA hD; refine o7p rfl ?_; intro K hK; gi_wp2; exact hK _ _ rfl (B7 _ _)
  · intro a' w' hA hC hD; have s1 := hA.to 1 (by kernel_rfl) rfl; clear hA hD; refine o7p rfl ?_; intro K hK; gi_wp2; exact hK _ _ rfl (B7 _ _)
  · intro a' w' hA hC hD; obtain ⟨u24, s24, r24⟩ := hD ⟨3, .data⟩ (by simp) rfl _ rfl; replace r24 : u24 = _ := r24; subst r24; clear hA hD; refine o7p rfl ?_; intro K hK; gi_wp2; exact hK _ _ rfl (B7 _ _)
  · intro a' w' hA hC hD; obtain ⟨u25, s25, r25⟩ := hD ⟨4, .data⟩ (by simp) rfl _ rfl; replace r25 : u25 = _ := r25; subst r25; clear hA hD; refine o7p rfl ?_; intro K hK; gi_wp2; exact hK _ _ rfl (B7 _ _)
  · intro a' w' hA hC hD; obtain ⟨u23, s23, r23⟩ := hD ⟨2, .data⟩ (by simp) rfl _ rfl; replace r23 : u23 = _ := r23; subst r23; obtain ⟨u26, s26, r26⟩ := hD ⟨5, .data⟩ (by simp) rfl _ rfl; replace r26 : u26 = _ := r26; subst r26; clear hA hD; refine o7p rfl ?_; intro K hK; gi_wp2; exact hK _ _ rfl (B7 _ _)
  · intro a' w' hA hC hD; obtain ⟨u27, s27, r27⟩ := hD ⟨6, .data⟩ (by simp) rfl _ rfl; replace r27 : u27 = _ := r27; subst r27; clear hA hD; refine o7p rfl ?_; intro K hK
    gi_wp2_with fail; refine (callsIn_wide.2 (HCL.out _ (HS.out.below hC).low)).mono ?_; rintro e w5 ⟨v5, rfl, hr5, hb5⟩
    exact hK _ _ hr5 hb5
  · intro a' w' hA hC hD; clear hA hD; refine o7p rfl ?_; intro K hK; gi_wp2; exact hK _ _ ⟨w'.heap.size, rfl, hC.size, newBlock _ _ _ rfl⟩ ((B7 _ _).alloc (Nat.le_refl _) _)
 case hend =>
  intro w3 hC
  simp only [EndFrom, eqv, forall_eq, Act.put, List.length_cons, List.length_nil, List.drop_succ_cons, List.drop_zero, Nat.reduceAdd, List.setIfInBounds_toArray, List.set_cons_succ, List.set_cons_zero]
  intro v22 hv22 v28 hv28 v7 hv7
  obtain ⟨G, rfl, hgg, hgb⟩ := hv7
  obtain ⟨ca, cc, rfl, hcc, hce, hcb⟩ := id hv28
  obtain ⟨oa, oc, rfl, hoc, hoe⟩ := id hv22
  have z0 := c7b (k := 0) hgb rfl
  have z1 := c7b (k := 1) hgb rfl
  have z2 := c7b (k := 2) hgb rfl
  have f0 := f7b hgb
  have s1 := h7s (k := 0) hgb (.int .i64 wide)
  have s2 := h7s (k := 1) s1 (.int .i64 high)
  have s3 := h7s (k := 2) s2 (.slice oa tn oc)
  have hcl4 := ((hv28.store hgb (by decide) 0 (.int .i64 wide)).store s1 (by decide) 1 (.int .i64 high)).store s2 (by decide) 2 (.slice oa tn oc)
  have how4 := ((hv22.store hgb (by simp) 0 (.int .i64 wide)).store s1 (by simp) 1 (.int .i64 high)).store s2 (by simp) 2 (.slice oa tn oc)
  have hb4 : Below w2.heap.size w2 (((w3.setCell ⟨G, 0, none⟩ (.int .i64 wide)).setCell ⟨G, 1, none⟩ (.int .i64 high)).setCell ⟨G, 2, none⟩ (.slice oa tn oc)) := ((hC.setCell (p := ⟨G, 0, none⟩) hgg _).setCell (p := ⟨G, 1, none⟩) hgg _).setCell (p := ⟨G, 2, none⟩) hgg _
  clear hv28 hv22 hgb s1 s2 hcc hce hcb hoc hoe hC hgg
  gi_wp2
  clear z0 z1 z2 f0 e1 hkc
  obtain ⟨w4, hw4⟩ : ∃ w4, ((w3.setCell ⟨G, 0, none⟩ (.int .i64 wide)).setCell ⟨G, 1, none⟩ (.int .i64 high)).setCell ⟨G, 2, none⟩ (.slice oa tn oc) = w4 := ⟨_, rfl⟩
  rw [hw4] at s3 hcl4 how4 hb4
  first | rw [hw4] | simp only [hw4] | skip
  clear hw4
  have HG := H7 (BlkA.mk s3)
  have HCL := H7 hcl4
  have HOW := H7 how4
  have HS := H7 (HS.out.below hb4)
  have HY := H7 (HY.out.below hb4)
  clear s3 hcl4 how4 hb4
  have g0 := c7b (k := 0) HG.out.at_ rfl
  have g1 := c7b (k := 1) HG.out.at_ rfl
  have g2 := c7b (k := 2) HG.out.at_ rfl
  go_wp2_with fail
  clear g0 g1 g2
  refine (HOF.out _ w4 HOW.out).mono ?_
  rintro e w5 ⟨v, rfl, hb, hv1, hv2⟩
  have HG := H7 (HG.out.below hb)
  have HCL := H7 (HCL.out.below hb)
  have HOW := H7 (HOW.out.below hb)
  have HS := H7 (HS.out.below hb)
  have HY := H7 (HY.out.below hb)
  clear hb
  clear HOF
  cases ok with
  | false =>
   obtain rfl := hv2 rfl
   clear hv1 hv2
   simp only [errOf]
   have y0 := h7c HS 0 0 rfl rfl
   have y1 := h7c HS 0 1 rfl rfl
   have y2 := h7c HS 0 2 rfl rfl
   have y3 := h7c HS 0 3 rfl rfl
   go_wp2_with fail
   clear y0 y1 y2 y3
   refine (dPaint_nil ⟨r, g, b, al⟩ _ _ _ _).mono ?_
   rintro e w6 ⟨rfl, hb_⟩
   have HS := H7 (HS.out.below hb_)
   have HG := H7 (HG.out.below hb_)
   clear hb_
   have y0 := h7c HS 0 0 rfl rfl
   have y1 := h7c HS 0 1 rfl rfl
   have y2 := h7c HS 0 2 rfl rfl
   have y3 := h7c HS 0 3 rfl rfl
   go_wp2_with fail
   clear y0 y1 y2 y3
   refine (dWash_nil ⟨r, g, b, al⟩ _ _ _ _).mono ?_
   rintro e w7 ⟨rfl, hb_⟩
   have HS := H7 (HS.out.below hb_)
   have HG := H7 (HG.out.below hb_)
   clear hb_
   have g0 := c7b (k := 0) HG.out.at_ rfl
   have g1 := c7b (k := 1) HG.out.at_ rfl
   have g2 := c7b (k := 2) HG.out.at_ rfl
   go_wp2_with fail
   clear g0 g1 g2
   refine (r5Right_any _ _ _ _ _ _).mono ?_
   rintro e w8 ⟨rfl, hb_⟩
   have HS := H7 (HS.out.below hb_)
   clear hb_
   rw [HOKE.out]
   go_wp2_with fail
   go_ret
   exact ⟨rfl, HS.out.low⟩
  | true =>
   obtain ⟨pc, rfl, hcan⟩ := hv1 rfl
   have HCP := H7 hcan
   have HCV := H7 (HCAN.out _ w5 HOW.out rfl)
   clear hv1 hv2 hcan HOW HCAN HOKE
   obtain ⟨C, hC⟩ : ∃ C, (⟨wide.toNat, high.toNat, T⟩ : CanT) = C := ⟨_, rfl⟩
   rw [hC] at HCP HCV
   clear hC
   simp only [errOf]
   have HSP := H7 (fun p w' h1 h2 => sPaint_any ⟨r, g, b, al⟩ HC0.out p C ca k cc LL HL.out.1 (by have := HL.out; omega) w' h1 h2)
   have HSW := H7 (fun p w' h1 h2 => sWash_any ⟨r, g, b, al⟩ HC0.out p C ca k cc LL HL.out.1 (by have := HL.out; omega) w' h1 h2)
   have HD1 := H7 (pixTo_shown (q := fun x y : Nat => hasB LL ⟨(x : Int), (y : Int)⟩) HCP.out.ok (fpaint_ok HC0.out) (Q := fun p => hasB LL p = true) (fun x y _ _ => Iff.rfl))
   have HD2 := H7 (pixTo_shown (q := fun x y : Nat => hasB LL ⟨(x : Int), (y : Int)⟩) HCP.out.ok (fwash_ok HC0.out) (Q := fun p => hasB LL p = true) (fun x y _ _ => Iff.rfl))
   have HRP := H7 (fun v w' h1 h2 => r7Spans_paint C HCP.out.ok v ca k cc LL HL.out.1 (by have := HL.out; omega) ⟨r, g, b, al⟩ HC0.out w' h1 h2)
   have HRW := H7 (fun v w' h1 h2 => r7Spans_wash C HCP.out.ok v ca k cc LL HL.out.1 (by have := HL.out; omega) ⟨r, g, b, al⟩ HC0.out w' h1 h2)
   obtain ⟨D1, hD1⟩ : ∃ D1, pixTo C (fun x y : Nat => hasB LL ⟨(x : Int), (y : Int)⟩) (fpaint ⟨r, g, b, al⟩) (8 * C.high * (8 * C.wide)) = D1 := ⟨_, rfl⟩
   obtain ⟨D2, hD2⟩ : ∃ D2, pixTo C (fun x y : Nat => hasB LL ⟨(x : Int), (y : Int)⟩) (fwash ⟨r, g, b, al⟩) (8 * C.high * (8 * C.wide)) = D2 := ⟨_, rfl⟩
   rw [hD1] at HD1 HRP
   rw [hD2] at HD2 HRW
   clear hD1 hD2
   obtain ⟨okr, hokr⟩ : ∃ okr, rightB LL = okr := ⟨_, rfl⟩
   have HRI := H7 (fun w' h => refRight_any ca k cc LL HL.out.1 (by have := HL.out; omega) w' h)
   rw [hokr] at HSP HSW HRI
   clear hokr
   have HE := H7 (show Elems w5 (.slice ca k cc) k 3 (rowC encS LL) by obtain ⟨x, y, h1, -, h2, -⟩ := HCL.out; cases h1; exact h2)
   clear HCL
   have y0 := h7c HS 0 0 rfl rfl
   have y1 := h7c HS 0 1 rfl rfl
   have y2 := h7c HS 0 2 rfl rfl
   have y3 := h7c HS 0 3 rfl rfl
   go_wp2_with fail
   clear y0 y1 y2 y3
   refine (HSP.out pc w5 HCP.out HE.out).mono ?_
   intro e w6 h
   obtain ⟨p1, rfl, hs, hb⟩ := h.says HD1.out
   have HP1 := H7 hs
   have HG := H7 (HG.out.below hb)
   have HE := H7 (HE.out.below hb)
   have HCP := H7 (HCP.out.below hb)
   have HCV := H7 (HCV.out.below hb)
   have HS := H7 (HS.out.below hb)
   have HY := H7 (HY.out.below hb)
   clear hb
   clear h hs HSP
   have y0 := h7c HS 0 0 rfl rfl
   have y1 := h7c HS 0 1 rfl rfl
   have y2 := h7c HS 0 2 rfl rfl
   have y3 := h7c HS 0 3 rfl rfl
   go_wp2_with fail
   clear y0 y1 y2 y3
   refine (HSW.out pc w6 HCP.out HE.out).mono ?_
   intro e w7 h
   obtain ⟨p2, rfl, hs, hb⟩ := h.says HD2.out
   have HP2 := H7 hs
   have HG := H7 (HG.out.below hb)
   have HE := H7 (HE.out.below hb)
   have HCP := H7 (HCP.out.below hb)
   have HCV := H7 (HCV.out.below hb)
   have HS := H7 (HS.out.below hb)
   have HY := H7 (HY.out.below hb)
   have HP1 := H7 (HP1.out.below hb)
   clear hb
   clear h hs HSW HD1 HD2
   go_wp2_with fail
   refine (HRI.out w7 HE.out).mono ?_
   rintro e w8 ⟨rfl, hb⟩
   have HG := H7 (HG.out.below hb)
   have HE := H7 (HE.out.below hb)
   have HCP := H7 (HCP.out.below hb)
   have HCV := H7 (HCV.out.below hb)
   have HS := H7 (HS.out.below hb)
   have HY := H7 (HY.out.below hb)
   have HP1 := H7 (HP1.out.below hb)
   have HP2 := H7 (HP2.out.below hb)
   clear hb
   clear HRI
   have HNC := H7 (show C.tiles.length ≤ 1000 by have := HCP.out.ok.len; omega)
   cases okr
   all_goals
    repeat ((fail_if_success (with_reducible refine stop_at (id := 14) ?_)); (first | go_values | go_skip | go_guarded | go_step | go_upon | go_back | (simp only [Int.not_lt, Int.not_le] at *; go_simp) | (go_values <;> (try go_simp)) | (go_ite <;> go_prune <;> (try go_simp)) | (split <;> (first | (rename_i hx; exact (hx _ rfl).elim) | go_prune))))
    refine (wpIn_wide (n := 0)).1 ?_
    apply w7v 33 (Rl := [(eqv _), (eqv _), (eqv _), (eqv _), (eqv _), (fun v_ w_ => CanV w_ D1 v_), (eqv _), (eqv _), (eqv _), (eqv _), (eqv _), (eqv _), (eqv _), (eqv _), (fun v_ w_ => CanV w_ D2 v_), (eqv _), (eqv _), (eqv _), (eqv _), (eqv _), (fun v_ w_ => CanV w_ C v_), (eqv _), (eqv _), (eqv _), (eqv _), (eqv _), (eqv _), (eqv _), (eqv _), (eqv _), (eqv _), (eqv _), (eqv _)]) (C := (fun x y => Below x.heap.size x y))
    case hm => kernel_rfl
    case hk => rfl
    case hCr => exact (fun _ => B7 _ _)
    case hCt => intro _ _ _; exact (fun h k => g7t h k)
    case hst => exact ⟨fun _ _ _ _ h => h, fun _ _ _ _ h => h, fun _ _ _ _ h => h, fun _ _ _ _ h => h, fun _ _ _ _ h => h, fun _ _ _ hC h => h.below hC, fun _ _ _ _ h => h, fun _ _ _ _ h => h, fun _ _ _ _ h => h, fun _ _ _ _ h => h, fun _ _ _ _ h => h, fun _ _ _ _ h => h, fun _ _ _ _ h => h, fun _ _ _ _ h => h, fun _ _ _ hC h => h.below hC, fun _ _ _ _ h => h, fun _ _ _ _ h => h, fun _ _ _ _ h => h, fun _ _ _ _ h => h, fun _ _ _ _ h => h, fun _ _ _ hC h => h.below hC, fun _ _ _ _ h => h, fun _ _ _ _ h => h, fun _ _ _ _ h => h, fun _ _ _ _ h => h, fun _ _ _ _ h => h, fun _ _ _ _ h => h, fun _ _ _ _ h => h, fun _ _ _ _ h => h, fun _ _ _ _ h => h, fun _ _ _ _ h => h, fun _ _ _ _ h => h, fun _ _ _ _ h => h, trivial⟩
    case hfo => kernel_rfl
    case ht => kernel_rfl
    case hC0 => exact (g7d _)
    case hsteps =>
     refine ⟨?_, ?_, ?_, ?_, ?_, ?_, ?_, ?_, ?_, ?_, ?_, ?_, ?_, ?_, ?_, ?_, ?_, ?_, ?_, ?_, ?_, ?_, ?_, ?_, ?_, ?_, ?_, ?_, ?_, ?_, ?_, ?_, ?_, trivial⟩
     · intro a' w' hA hC hD; have s15 := hA.to 15 (by kernel_rfl) rfl; clear hA hD; refine o7p rfl ?_; intro K hK; gi_wp2; exact hK _ _ rfl (B7 _ _)
     · intro a' w' hA hC hD; have s10 := hA.to 10 (by kernel_rfl) rfl; clear hA hD; refine o7p rfl ?_; intro K hK; gi_wp2; exact hK _ _ rfl (B7 _ _)
     · intro a' w' hA hC hD; have s7 := hA.to 7 (by kernel_rfl) rfl
       have g0 := c7b (k := 0) (HG.out.below hC).at_ rfl; have g1 := c7b (k := 1) (HG.out.below hC).at_ rfl; have g2 := c7b (k := 2) (HG.out.below hC).at_ rfl
       clear hA hD; refine o7p rfl ?_; intro K hK; gi_wp2; exact hK _ _ rfl (B7 _ _)
     · intro a' w' hA hC hD; have s8 := hA.to 8 (by kernel_rfl) rfl; clear hA hD; refine o7p rfl ?_; intro K hK; gi_wp2; exact hK _ _ rfl (B7 _ _)
     · intro a' w' hA hC hD; have s5 := hA.to 5 (by kernel_rfl) rfl
       have h1_ := (HS.out.below hC).blockAt 0 rfl; have c1_0 := c7b (k := 0) h1_ rfl; have c1_1 := c7b (k := 1) h1_ rfl; have c1_2 := c7b (k := 2) h1_ rfl; have c1_3 := c7b (k := 3) h1_ rfl; clear h1_
       clear hA hD; refine o7p rfl ?_; intro K hK; gi_wp2; exact hK _ _ rfl (B7 _ _)
     · intro a' w' hA hC hD; obtain ⟨u88, s88, r88⟩ := hD ⟨2, .data⟩ (by simp) rfl _ rfl; replace r88 : u88 = _ := r88; subst r88; obtain ⟨u89, s89, r89⟩ := hD ⟨3, .data⟩ (by simp) rfl _ rfl; replace r89 : u89 = _ := r89; subst r89; obtain ⟨u90, s90, r90⟩ := hD ⟨4, .data⟩ (by simp) rfl _ rfl; replace r90 : u90 = _ := r90; subst r90; clear hA hD; refine o7p rfl ?_; intro K hK
       gi_wp2_with fail; refine (callsIn_wide.2 (HRP.out _ _ (HCV.out.below hC) (HE.out.below hC))).mono ?_; rintro e w9 ⟨v9, rfl, hr9, hb9⟩
       exact hK _ _ hr9 hb9
     · intro a' w' hA hC hD; have s18 := hA.to 18 (by kernel_rfl) rfl; clear hA hD; refine o7p rfl ?_; intro K hK; gi_wp2; exact hK _ _ rfl (B7 _ _)
     · intro a' w' hA hC hD; obtain ⟨u86, s86, r86⟩ := hD ⟨0, .data⟩ (by simp) rfl _ rfl; replace r86 : u86 = _ := r86; subst r86; obtain ⟨u87, s87, r87⟩ := hD ⟨1, .data⟩ (by simp) rfl _ rfl; replace r87 : u87 = _ := r87; subst r87; obtain ⟨u91, s91, r91⟩ := hD ⟨5, .data⟩ (by simp) rfl _ rfl; replace r91 : (fun v_ w_ => CanV w_ D1 v_) u91 w' := r91; obtain ⟨u92, s92, r92⟩ := hD ⟨6, .data⟩ (by simp) rfl _ rfl; replace r92 : u92 = _ := r92; subst r92; clear hA hD; refine o7p rfl ?_; intro K hK
       gi_wp2_with fail; refine (callsIn_wide.2 (says_drawn _ 160 (by decide) D1 D1 (fun _ => rfl) _ _ _ (HP1.out.below hC) r91)).mono ?_; rintro e w2 ⟨rfl, hb⟩
       exact hK _ _ rfl hb
     · intro a' w' hA hC hD; obtain ⟨u93, s93, r93⟩ := hD ⟨7, .data⟩ (by simp) rfl _ rfl; replace r93 : u93 = _ := r93; subst r93; clear hA hD; refine o7p rfl ?_; intro K hK; gi_wp2; exact hK _ _ rfl (B7 _ _)
     · intro a' w' hA hC hD; have s16 := hA.to 16 (by kernel_rfl) rfl; obtain ⟨u94, s94, r94⟩ := hD ⟨8, .guard⟩ (by simp) rfl _ rfl; replace r94 : u94 = _ := r94; subst r94; clear hA hD; refine o7w rfl rfl s94 ?_; intro K hK; gi_wp2; exact hK _ _ rfl (B7 _ _)
     · intro a' w' hA hC hD; have s17 := hA.to 17 (by kernel_rfl) rfl; obtain ⟨u94, s94, r94⟩ := hD ⟨8, .guard⟩ (by simp) rfl _ rfl; replace r94 : u94 = _ := r94; subst r94; clear hA hD; refine o7w rfl rfl s94 ?_; intro K hK; gi_wp2; exact hK _ _ rfl (B7 _ _)
     · intro a' w' hA hC hD; have s7 := hA.to 7 (by kernel_rfl) rfl; obtain ⟨u94, s94, r94⟩ := hD ⟨8, .guard⟩ (by simp) rfl _ rfl; replace r94 : u94 = _ := r94; subst r94
       have g0 := c7b (k := 0) (HG.out.below hC).at_ rfl; have g1 := c7b (k := 1) (HG.out.below hC).at_ rfl; have g2 := c7b (k := 2) (HG.out.below hC).at_ rfl
       clear hA hD; refine o7w rfl rfl s94 ?_; intro K hK; gi_wp2; exact hK _ _ rfl (B7 _ _)
     · intro a' w' hA hC hD; have s8 := hA.to 8 (by kernel_rfl) rfl; obtain ⟨u94, s94, r94⟩ := hD ⟨8, .guard⟩ (by simp) rfl _ rfl; replace r94 : u94 = _ := r94; subst r94; clear hA hD; refine o7w rfl rfl s94 ?_; intro K hK; gi_wp2; exact hK _ _ rfl (B7 _ _)
     · intro a' w' hA hC hD; have s5 := hA.to 5 (by kernel_rfl) rfl; obtain ⟨u94, s94, r94⟩ := hD ⟨8, .guard⟩ (by simp) rfl _ rfl; replace r94 : u94 = _ := r94; subst r94
       have h1_ := (HS.out.below hC).blockAt 0 rfl; have c1_0 := c7b (k := 0) h1_ rfl; have c1_1 := c7b (k := 1) h1_ rfl; have c1_2 := c7b (k := 2) h1_ rfl; have c1_3 := c7b (k := 3) h1_ rfl; clear h1_
       clear hA hD; refine o7w rfl rfl s94 ?_; intro K hK; gi_wp2; exact hK _ _ rfl (B7 _ _)
     · intro a' w' hA hC hD; obtain ⟨u97, s97, r97⟩ := hD ⟨11, .data⟩ (by simp) rfl _ rfl; replace r97 : u97 = _ := r97; subst r97; obtain ⟨u98, s98, r98⟩ := hD ⟨12, .data⟩ (by simp) rfl _ rfl; replace r98 : u98 = _ := r98; subst r98; obtain ⟨u99, s99, r99⟩ := hD ⟨13, .data⟩ (by simp) rfl _ rfl; replace r99 : u99 = _ := r99; subst r99; obtain ⟨u94, s94, r94⟩ := hD ⟨8, .chain⟩ (by simp) rfl _ rfl; replace r94 : u94 = _ := r94; subst r94; clear hA hD; refine o7w rfl rfl s94 ?_; intro K hK
       gi_wp2_with fail; refine (callsIn_wide.2 (HRW.out _ _ (HCV.out.below hC) (HE.out.below hC))).mono ?_; rintro e w9 ⟨v9, rfl, hr9, hb9⟩
       exact hK _ _ hr9 hb9
     · intro a' w' hA hC hD; have s18 := hA.to 18 (by kernel_rfl) rfl; obtain ⟨u94, s94, r94⟩ := hD ⟨8, .guard⟩ (by simp) rfl _ rfl; replace r94 : u94 = _ := r94; subst r94; clear hA hD; refine o7w rfl rfl s94 ?_; intro K hK; gi_wp2; exact hK _ _ rfl (B7 _ _)
     · intro a' w' hA hC hD; obtain ⟨u95, s95, r95⟩ := hD ⟨9, .data⟩ (by simp) rfl _ rfl; replace r95 : u95 = _ := r95; subst r95; obtain ⟨u96, s96, r96⟩ := hD ⟨10, .data⟩ (by simp) rfl _ rfl; replace r96 : u96 = _ := r96; subst r96; obtain ⟨u100, s100, r100⟩ := hD ⟨14, .data⟩ (by simp) rfl _ rfl; replace r100 : (fun v_ w_ => CanV w_ D2 v_) u100 w' := r100; obtain ⟨u101, s101, r101⟩ := hD ⟨15, .data⟩ (by simp) rfl _ rfl; replace r101 : u101 = _ := r101; subst r101; obtain ⟨u94, s94, r94⟩ := hD ⟨8, .guard⟩ (by simp) rfl _ rfl; replace r94 : u94 = _ := r94; subst r94; clear hA hD; refine o7w rfl rfl s94 ?_; intro K hK
       gi_wp2_with fail; refine (callsIn_wide.2 (says_drawn _ 160 (by decide) D2 D2 (fun _ => rfl) _ _ _ (HP2.out.below hC) r100)).mono ?_; rintro e w2 ⟨rfl, hb⟩
       exact hK _ _ rfl hb
     · intro a' w' hA hC hD; obtain ⟨u94, s94, r94⟩ := hD ⟨8, .data⟩ (by simp) rfl _ rfl; replace r94 : u94 = _ := r94; subst r94; obtain ⟨u102, s102, r102⟩ := hD ⟨16, .data⟩ (by simp) rfl _ rfl; replace r102 : u102 = _ := r102; subst r102; clear hA hD; refine o7p rfl ?_; intro K hK; gi_wp2; exact hK _ _ rfl (B7 _ _)
     · intro a' w' hA hC hD; obtain ⟨u103, s103, r103⟩ := hD ⟨17, .data⟩ (by simp) rfl _ rfl; replace r103 : u103 = _ := r103; subst r103; clear hA hD; refine o7p rfl ?_; intro K hK; gi_wp2; exact hK _ _ rfl (B7 _ _)
     · intro a' w' hA hC hD; have s9 := hA.to 9 (by kernel_rfl) rfl; obtain ⟨u104, s104, r104⟩ := hD ⟨18, .guard⟩ (by simp) rfl _ rfl; replace r104 : u104 = _ := r104; subst r104; clear hA hD; refine o7w rfl rfl s104 ?_; intro K hK; gi_wp2; exact hK _ _ rfl (B7 _ _)
     · intro a' w' hA hC hD; obtain ⟨u105, s105, r105⟩ := hD ⟨19, .data⟩ (by simp) rfl _ rfl; replace r105 : u105 = _ := r105; subst r105; obtain ⟨u104, s104, r104⟩ := hD ⟨18, .chain⟩ (by simp) rfl _ rfl; replace r104 : u104 = _ := r104; subst r104; clear hA hD; refine o7w rfl rfl s104 ?_; intro K hK
       gi_wp2_with fail; refine (callsIn_wide.2 (show_any C pc _ (HCP.out.below hC))).mono ?_; rintro e w9 ⟨v9, rfl, hr9, hb9⟩
       exact hK _ _ hr9 hb9
     · intro a' w' hA hC hD; have s7 := hA.to 7 (by kernel_rfl) rfl; obtain ⟨u104, s104, r104⟩ := hD ⟨18, .guard⟩ (by simp) rfl _ rfl; replace r104 : u104 = _ := r104; subst r104
       have g0 := c7b (k := 0) (HG.out.below hC).at_ rfl; have g1 := c7b (k := 1) (HG.out.below hC).at_ rfl; have g2 := c7b (k := 2) (HG.out.below hC).at_ rfl
       clear hA hD; refine o7w rfl rfl s104 ?_; intro K hK; gi_wp2; exact hK _ _ rfl (B7 _ _)
     · intro a' w' hA hC hD; obtain ⟨u106, s106, r106⟩ := hD ⟨20, .data⟩ (by simp) rfl _ rfl; replace r106 : (fun v_ w_ => CanV w_ C v_) u106 w' := r106; obtain ⟨u107, s107, r107⟩ := hD ⟨21, .data⟩ (by simp) rfl _ rfl; replace r107 : u107 = _ := r107; subst r107; obtain ⟨u104, s104, r104⟩ := hD ⟨18, .guard⟩ (by simp) rfl _ rfl; replace r104 : u104 = _ := r104; subst r104; clear hA hD; refine o7w rfl rfl s104 ?_; intro K hK
       gi_wp2_with fail; refine (callsIn_wide.2 (r5Same_eq C HNC.out _ _ _ r106 (HCV.out.below hC))).mono ?_; rintro e w2 ⟨rfl, hb⟩
       exact hK _ _ rfl hb
     · intro a' w' hA hC hD; obtain ⟨u104, s104, r104⟩ := hD ⟨18, .data⟩ (by simp) rfl _ rfl; replace r104 : u104 = _ := r104; subst r104; obtain ⟨u108, s108, r108⟩ := hD ⟨22, .data⟩ (by simp) rfl _ rfl; replace r108 : u108 = _ := r108; subst r108; clear hA hD; refine o7p rfl ?_; intro K hK; gi_wp2; exact hK _ _ rfl (B7 _ _)
     · intro a' w' hA hC hD; obtain ⟨u109, s109, r109⟩ := hD ⟨23, .data⟩ (by simp) rfl _ rfl; replace r109 : u109 = _ := r109; subst r109; clear hA hD; refine o7p rfl ?_; intro K hK; gi_wp2; exact hK _ _ rfl (B7 _ _)
     · intro a' w' hA hC hD; have s8 := hA.to 8 (by kernel_rfl) rfl; obtain ⟨u110, s110, r110⟩ := hD ⟨24, .guard⟩ (by simp) rfl _ rfl; replace r110 : u110 = _ := r110; subst r110; clear hA hD; refine o7w rfl rfl s110 ?_; intro K hK; gi_wp2; exact hK _ _ rfl (B7 _ _)
     · intro a' w' hA hC hD; have s1 := hA.to 1 (by kernel_rfl) rfl; obtain ⟨u110, s110, r110⟩ := hD ⟨24, .guard⟩ (by simp) rfl _ rfl; replace r110 : u110 = _ := r110; subst r110; clear hA hD; refine o7w rfl rfl s110 ?_; intro K hK; gi_wp2; exact hK _ _ rfl (B7 _ _)
     · intro a' w' hA hC hD; have s8 := hA.to 8 (by kernel_rfl) rfl; obtain ⟨u110, s110, r110⟩ := hD ⟨24, .guard⟩ (by simp) rfl _ rfl; replace r110 : u110 = _ := r110; subst r110; clear hA hD; refine o7w rfl rfl s110 ?_; intro K hK; gi_wp2; exact hK _ _ rfl (B7 _ _)
     · intro a' w' hA hC hD; obtain ⟨u113, s113, r113⟩ := hD ⟨27, .data⟩ (by simp) rfl _ rfl; replace r113 : u113 = _ := r113; subst r113; obtain ⟨u110, s110, r110⟩ := hD ⟨24, .guard⟩ (by simp) rfl _ rfl; replace r110 : u110 = _ := r110; subst r110; clear hA hD; refine o7w rfl rfl s110 ?_; intro K hK; gi_wp2; exact hK _ _ rfl (B7 _ _)
     · intro a' w' hA hC hD; obtain ⟨u112, s112, r112⟩ := hD ⟨26, .data⟩ (by simp) rfl _ rfl; replace r112 : u112 = _ := r112; subst r112; obtain ⟨u114, s114, r114⟩ := hD ⟨28, .data⟩ (by simp) rfl _ rfl; replace r114 : u114 = _ := r114; subst r114; obtain ⟨u110, s110, r110⟩ := hD ⟨24, .guard⟩ (by simp) rfl _ rfl; replace r110 : u110 = _ := r110; subst r110
       have hkc : k ≤ cap2 := by (have := HL.out; omega)
       clear hA hD; refine o7w rfl rfl s110 ?_; intro K hK; gi_wp2; exact hK _ _ rfl (B7 _ _)
     · intro a' w' hA hC hD; obtain ⟨u111, s111, r111⟩ := hD ⟨25, .data⟩ (by simp) rfl _ rfl; replace r111 : u111 = _ := r111; subst r111; obtain ⟨u115, s115, r115⟩ := hD ⟨29, .data⟩ (by simp) rfl _ rfl; replace r115 : u115 = _ := r115; subst r115; obtain ⟨u110, s110, r110⟩ := hD ⟨24, .chain⟩ (by simp) rfl _ rfl; replace r110 : u110 = _ := r110; subst r110; clear hA hD; refine o7w rfl rfl s110 ?_; intro K hK
       gi_wp2_with fail; refine (callsIn_wide.2 (eqS_same _ _ LL k HL.out.1 _ (HE.out.below hC) (HY.out.below hC) (by have := HL.out; omega))).mono ?_; rintro e w2 ⟨rfl, hb⟩
       exact hK _ _ rfl hb
     · intro a' w' hA hC hD; obtain ⟨u110, s110, r110⟩ := hD ⟨24, .data⟩ (by simp) rfl _ rfl; replace r110 : u110 = _ := r110; subst r110; obtain ⟨u116, s116, r116⟩ := hD ⟨30, .data⟩ (by simp) rfl _ rfl; replace r116 : u116 = _ := r116; subst r116; clear hA hD; refine o7p rfl ?_; intro K hK; gi_wp2; exact hK _ _ rfl (B7 _ _)
     · intro a' w' hA hC hD; obtain ⟨u117, s117, r117⟩ := hD ⟨31, .data⟩ (by simp) rfl _ rfl; replace r117 : u117 = _ := r117; subst r117; clear hA hD; refine o7p rfl ?_; intro K hK; gi_wp2; exact hK _ _ rfl (B7 _ _)
    case hend =>
     intro w10 hC
     simp only [EndFrom, eqv, forall_eq, Act.put, List.length_cons, List.length_nil, List.drop_succ_cons, List.drop_zero, Nat.reduceAdd, List.setIfInBounds_toArray, List.set_cons_succ, List.set_cons_zero]
     have HS := H7 (HS.out.below hC)
     clear hC
     intro v91 hv91 v100 hv100 v106 hv106
     clear hv91 hv100 hv106
     gi_wp2
     go_wp2_with fail
     go_ret
     exact ⟨rfl, HS.out.low⟩
end Go.Proofs.YthcdkkmjnglmjaaGreatDoor
