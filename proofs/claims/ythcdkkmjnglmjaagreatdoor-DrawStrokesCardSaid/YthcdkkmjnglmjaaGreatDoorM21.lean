/- Merged texts: RfC RfD DgL DgS DgR. -/
import Derived.Test.YthcdkkmjnglmjaaGreatDoorM20
import Derived.Test.YthcdkkmjnglmjaaGreatDoorM17
import Derived.Test.YthcdkkmjnglmjaaGreatDoorM13
set_option linter.unusedSimpArgs false
set_option linter.unusedVariables false
/- The document's layer 5: Put. -/
namespace Go.Proofs.YthcdkkmjnglmjaaGreatDoor
open Go.RowKit Go.Shelf
attribute [local go_sem] Oper.semAt_some
/-- Four cells of a row's element. -/
theorem flat_set4 {L : List TileT} {i : Nat} {t : TileT} (h : L[i]? = some t) {j : Nat} (hj : j < 64) (c : ColT) :
 ((((L.flatMap encT).set (i * 256 + j * 4) (.int .u8 c.r)).set (i * 256 + (j * 4 + 1)) (.int .u8 c.g)).set (i * 256 + (j * 4 + 2)) (.int .u8 c.b)).set (i * 256 + (j * 4 + 3)) (.int .u8 c.a) = (L.set i (setT t j c)).flatMap encT := by
 let f : TileT → { l : List Value // l.length = 256 } := fun t => ⟨encT t, encT_len t⟩
 let M := L.map f
 have e : ∀ L' : List TileT, L'.flatMap encT = (L'.map f).flatMap Subtype.val := fun L' => by rw [List.flatMap_map]
 have step : ∀ (M : List { l : List Value // l.length = 256 }) (q : { l : List Value // l.length = 256 }) (k : Nat) (u : Value), M[i]? = some q → k < 256 → (M.flatMap Subtype.val).set (i * 256 + k) u = (M.set i ⟨q.1.set k u, by rw [List.length_set]; exact q.2⟩).flatMap Subtype.val :=
  fun M q k u hq hk => (flatMap_set (fun q => q.2) M i q ⟨q.1.set k u, by rw [List.length_set]; exact q.2⟩ k u hq hk rfl).symm
 have hi := (List.getElem?_eq_some_iff.1 h).1
 have h0 : (L.map f)[i]? = some (f t) := by rw [List.getElem?_map, h]; rfl
 have g : ∀ (M : List { l : List Value // l.length = 256 }) (q : { l : List Value // l.length = 256 }), i < M.length → (M.set i q)[i]? = some q := fun M q hM => List.getElem?_set_self hM
 rw [e L, step _ _ _ _ h0 (by omega), step _ _ _ _ (g _ _ (by rw [List.length_map]; exact hi)) (by omega), step _ _ _ _ (g _ _ (by rw [List.length_set, List.length_map]; exact hi)) (by omega),
  step _ _ _ _ (g _ _ (by rw [List.length_set, List.length_set, List.length_map]; exact hi)) (by omega), e]
 simp only [List.set_set, List.map_set]
 congr 2
 exact Subtype.ext (encT_set t j hj c)
theorem putC_set {C : CanT} {x y : Nat} {t : TileT} (h : C.tiles[y / 8 * C.wide + x / 8]? = some t) (c : ColT) : (putC C x y c).tiles = C.tiles.set (y / 8 * C.wide + x / 8) (setT t (y % 8 * 8 + x % 8) c) := by
 unfold putC tileI inI
 simp only
 refine List.ext_getElem? fun k => ?_
 rw [List.getElem?_modify, List.getElem?_set]
 by_cases h1 : y / 8 * C.wide + x / 8 = k
 · subst h1
   have h2 := (List.getElem?_eq_some_iff.1 h).1
   rw [if_pos rfl, if_pos h2, h]
   simp
 · rw [if_neg h1]
   simp only [h1, if_false]
   cases C.tiles[k]? <;> rfl
theorem in64 (x y : Nat) : y % 8 * 8 + x % 8 < 64 := by omega
/-- A row of tiles, for append. -/
theorem src_tiles {w : World} {a : Option Addr} {n cap : Nat} {L : List TileT} (hn : L.length = n) (h : Elems w (.slice a n cap) n 256 (rowC encT L)) : Src w 256 (.slice a n cap) n (L.flatMap encT) := by
 refine ⟨by rw [flat_length encT_len, hn], ?_⟩
 rcases h with ⟨e, h0⟩ | ⟨b, off, cap', e, hlt, hc⟩
 · cases e
   exact .inl ⟨rfl, h0⟩
 · cases e
   refine .inr ⟨_, _, rfl, fun j x hx => ?_⟩
   have hj : j < n * 256 := by
    have := (List.getElem?_eq_some_iff.1 hx).1
    rwa [flat_length encT_len, hn] at this
   have h1 := hc j hj
   unfold rowC at h1
   rw [hx] at h1
   have e2 : (⟨b, off, none⟩ : Addr).add j = ⟨b, off + j, none⟩ := by unfold Addr.add; split <;> simp_all
   rw [e2]
   exact h1
set_option maxRecDepth 100000 in
set_option maxHeartbeats 4000000 in
theorem r5Put_any (C : CanT) (hC : okCan C) (v : Value) (d : DotT) (w : World) (hv : CanV w C v) :
 Calls Tryz.prog 59 #[v, .agg #[.int .i64 d.x, .int .i64 d.y, .int .u8 d.c.r, .int .u8 d.c.g, .int .u8 d.c.b, .int .u8 d.c.a]] w (GivesV (dotC C d) w) := by
 have HV := H7 hv
 have HON := H7 (fun v w' h => r5On_any C hC v d.x d.y w' h)
 have HOC := H7 hC
 obtain ⟨on, hon⟩ : ∃ on, onB (8 * (C.wide : Int)) (8 * (C.high : Int)) ⟨d.x, d.y⟩ = on := ⟨_, rfl⟩
 have HO := H7 (show onCan C ⟨d.x, d.y⟩ = on from hon)
 rw [hon] at HON
 obtain ⟨a, cap, rfl, hcap, he⟩ := hv
 have HE := H7 (And.intro hcap he)
 obtain ⟨wi, hwi⟩ : ∃ wi, C.wide = wi := ⟨_, rfl⟩
 obtain ⟨hi, hhi⟩ : ∃ hi, C.high = hi := ⟨_, rfl⟩
 obtain ⟨n, hn⟩ : ∃ n, C.tiles.length = n := ⟨_, rfl⟩
 have HN := H7 (And.intro hn (And.intro hwi hhi))
 rw [hwi, hhi, hn] at HV ⊢
 rw [hn] at HE
 have HS := H7 (St.start w)
 obtain ⟨x, y, r, g, b, al⟩ := d
 simp only at *
 clear hC hcap he hwi hhi hn hon
 go_enter Tryz.func59, Tryz.ntmps59
 repeat ((fail_if_success (with_reducible refine stop_at (id := 1) ?_)); (first | go_values | go_skip | go_guarded | go_step | go_upon | go_back | (simp only [Int.not_lt, Int.not_le] at *; go_simp) | (go_values <;> (try go_simp)) | (go_ite <;> go_prune <;> (try go_simp)) | (split <;> (first | (rename_i hx; exact (hx _ rfl).elim) | go_prune))))
 have hs_ := (((HS.out.alloc (.cells #[.int .i64 wi, .int .i64 hi, .slice a n cap] 24)).alloc (.cells #[.int .i64 x, .int .i64 y, .int .u8 r, .int .u8 g, .int .u8 b, .int .u8 al] 101)).alloc (.cells #[.int .i64 0, .int .i64 0, .slice none 0 0] 24))
 obtain ⟨w1, hw_⟩ : ∃ w1 : World, (((w.alloc (.cells #[.int .i64 wi, .int .i64 hi, .slice a n cap] 24)).alloc (.cells #[.int .i64 x, .int .i64 y, .int .u8 r, .int .u8 g, .int .u8 b, .int .u8 al] 101)).alloc (.cells #[.int .i64 0, .int .i64 0, .slice none 0 0] 24)) = w1 := ⟨_, rfl⟩
 rw [hw_] at hs_
 try simp only [World.size_alloc] at hs_
 have HS := H7 hs_
 rw [hw_]
 clear hw_ hs_
 have q0 := h7c HS 2 0 rfl rfl
 have q1 := h7c HS 2 1 rfl rfl
 have q2 := h7c HS 2 2 rfl rfl
 have p0 := h7c HS 1 0 rfl rfl
 have p1 := h7c HS 1 1 rfl rfl
 go_wp2_with fail
 clear q0 q1 q2 p0 p1
 refine (HON.out _ _ (HV.out.below HS.out.low)).mono ?_
 rintro e w2 ⟨rfl, hb_⟩
 have HS := H7 (HS.out.below hb_)
 clear hb_
 cases on with
 | false =>
  have q0 := h7c HS 2 0 rfl rfl
  have q1 := h7c HS 2 1 rfl rfl
  have q2 := h7c HS 2 2 rfl rfl
  have f0 := f7b (HS.out.blockAt 0 rfl)
  have j0 := h7c HS 0 0 rfl rfl
  have j1 := h7c HS 0 1 rfl rfl
  have j2 := h7c HS 0 2 rfl rfl
  go_wp2_with fail
  have hlow := HS.out.low
  have hb : Below w.heap.size w (((w2.setCell ⟨w.heap.size + 1 + 1, 0, none⟩ (.int .i64 wi)).setCell ⟨w.heap.size + 1 + 1, 1, none⟩ (.int .i64 hi)).setCell ⟨w.heap.size + 1 + 1, 2, none⟩ (.slice a n cap)) := by (repeat (first | exact B7 _ _ | assumption | refine Below.alloc ?_ (by first | omega | (simp; done) | (simp; omega)) _ | refine Below.setCell ?_ (by first | omega | (simp; done) | (simp; omega)) _ | refine Below.drew ?_))
  refine bodyPost_ret (v := .agg #[.int .i64 wi, .int .i64 hi, .slice a n cap]) (by simp [results, Tryz.results59, go_sem, j0, j1, j2]) rfl ⟨_, rfl, ?_, hb⟩
  have e : dotC C ⟨x, y, ⟨r, g, b, al⟩⟩ = C := by unfold dotC; rw [if_neg (by rw [HO.out]; simp)]
  rw [e]
  exact HV.out.below hb
 | true =>
  obtain ⟨xn, rfl⟩ : ∃ xn : Nat, x = (xn : Int) := ⟨x.toNat, by have := onCan_iff.1 HO.out; simp only at this; omega⟩
  obtain ⟨yn, rfl⟩ : ∃ yn : Nat, y = (yn : Int) := ⟨y.toNat, by have := onCan_iff.1 HO.out; simp only at this; omega⟩
  have hxy := onCan_nat HO.out
  simp only [Int.toNat_natCast] at hxy
  have HXY := H7 (And.intro hxy.1 hxy.2.1)
  have HLT := H7 (show w.heap.size + 1 + 1 < w2.heap.size from HS.out.lt 0 rfl)
  obtain ⟨t, ht, htc, -⟩ := HOC.out.tile hxy.1 hxy.2.1
  obtain ⟨oc, hoc⟩ : ∃ oc, colC C xn yn = oc := ⟨_, rfl⟩
  rw [hoc] at htc
  have hlt := (List.getElem?_eq_some_iff.1 ht).1
  have HD := H7 (show (dotC C ⟨(xn : Int), (yn : Int), ⟨r, g, b, al⟩⟩).tiles = C.tiles.set (yn / 8 * C.wide + xn / 8) (setT t (yn % 8 * 8 + xn % 8) ⟨r, g, b, al⟩) by
   unfold dotC
   rw [if_pos HO.out]
   exact putC_set ht _)
  have HWW := H7 (And.intro ((dotC_wide C ⟨(xn : Int), (yn : Int), ⟨r, g, b, al⟩⟩).trans HN.out.2.1) ((dotC_high C ⟨(xn : Int), (yn : Int), ⟨r, g, b, al⟩⟩).trans HN.out.2.2))
  obtain ⟨D, hD⟩ : ∃ D, dotC C ⟨(xn : Int), (yn : Int), ⟨r, g, b, al⟩⟩ = D := ⟨_, rfl⟩
  rw [hD] at HD HWW
  have HDD := H7 hD
  obtain ⟨qy, hqy⟩ : ∃ qy, yn / 8 = qy := ⟨_, rfl⟩
  obtain ⟨qx, hqx⟩ : ∃ qx, xn / 8 = qx := ⟨_, rfl⟩
  obtain ⟨m, hm⟩ : ∃ m, qy * C.wide = m := ⟨_, rfl⟩
  obtain ⟨i, hi'⟩ : ∃ i, m + qx = i := ⟨_, rfl⟩
  obtain ⟨j, hj⟩ : ∃ j, yn % 8 * 8 + xn % 8 = j := ⟨_, rfl⟩
  have hen := at_nums hqy hqx hm hi' hj hxy.1 hxy.2.1 HOC.out.wide.2 HOC.out.high.2
  rw [HN.out.2.1] at hen
  have HEN := H7 hen
  rw [hqy, hqx, hm, hi', hj] at HD
  rw [hqy, hqx, hm, hi'] at ht hlt
  rw [hj] at htc
  have HJ64 := H7 (show j < 64 from hj ▸ in64 xn yn)
  have HT := H7 (And.intro ht htc)
  have HIN := H7 (show i < n by rw [← HN.out.1]; exact hlt)
  clear hxy ht htc hoc hlt hD hqy hqx hm hi' hj hen
  repeat ((fail_if_success (with_reducible refine stop_at (id := 3) ?_)); (first | go_values | go_skip | go_guarded | go_step | go_upon | go_back | (simp only [Int.not_lt, Int.not_le] at *; go_simp) | (go_values <;> (try go_simp)) | (go_ite <;> go_prune <;> (try go_simp)) | (split <;> (first | (rename_i hx; exact (hx _ rfl).elim) | go_prune))))
  refine (wpIn_wide (n := 0)).1 ?_
  have HU := H7 (HE.out.2.below HS.out.low)
  have hlen := HOC.out.len
  obtain ⟨i0, hi1, hz0, hz1, hz2⟩ := info_parts infoTl
  have HI := H7 (And.intro hi1 (And.intro hz0 (And.intro hz1 hz2)))
  have HL := H7 hlen
  clear hi1 hz0 hz1 hz2 hlen
  apply wp_region_textv 4 (Rl := [(fun v_ w_ => ∃ g, v_ = .slice (some ⟨g, 0, none⟩) 0 0 ∧ w2.heap.size ≤ g ∧ w_.heap[g]? = some (.cells #[] 75 (0, 0))), (eqv _), (eqv _), (fun v_ w_ => w_.ownsRow w2.heap.size 75 256 v_ n (C.tiles.flatMap encT))]) (C := (fun x y => Below x.heap.size x y))
  case hk => rfl
  case hCr => exact (fun _ => B7 _ _)
  case hCt => intro _ _ _; exact (fun h k => g7t h k)
  case hst => exact ⟨fun _ _ _ hC ⟨g, e, hg, h⟩ => ⟨g, e, hg, (hC.block _ (b7t h)).trans h⟩, fun _ _ _ _ h => h, fun _ _ _ _ h => h, fun _ _ _ hC h => ownsRow_below h hC, trivial⟩
  case hfo => kernel_rfl
  case hsteps =>
   refine ⟨?_, ?_, ?_, ?_, trivial⟩
   · intro a' w' hA hC hD; clear hA hD; refine o7p rfl ?_; intro K hK; gi_wp2; exact hK (.slice (some ⟨w'.heap.size, 0, none⟩) 0 0) _ ⟨w'.heap.size, rfl, hC.size, World.alloc_heap_new _ _⟩ ((B7 _ _).alloc (Nat.le_refl _) _)
   · intro a' w' hA hC hD; have s2 := hA.to 2 (by kernel_rfl) rfl; clear hA hD; refine o7p rfl ?_; intro K hK; gi_wp2; exact hK _ _ rfl (B7 _ _)
   · intro a' w' hA hC hD; obtain ⟨u14, s14, rfl⟩ := hD ⟨1, .data⟩ (by simp) rfl _ rfl
     have q2 := c7b (k := 2) ((HS.out.below hC).blockAt 2 rfl) rfl
     clear hA hD; refine o7p rfl ?_; intro K hK; gi_wp2; exact hK _ _ rfl (B7 _ _)
   · intro a' w' hA hC hD; obtain ⟨u13, s13, r13⟩ := hD ⟨0, .data⟩ (by simp) rfl _ rfl; replace r13 : (fun v_ w_ => ∃ g, v_ = .slice (some ⟨g, 0, none⟩) 0 0 ∧ w2.heap.size ≤ g ∧ w_.heap[g]? = some (.cells #[] 75 (0, 0))) u13 w' := r13; obtain ⟨u15, s15, rfl⟩ := hD ⟨2, .data⟩ (by simp) rfl _ rfl; clear hA hD; refine o7p rfl ?_; intro K hK
     obtain ⟨g, rfl, hg, hgb⟩ := r13; obtain ⟨v', w4, hrun, r1, r2, _⟩ := run_append_fresh (P := Tryz.prog) (w := w') w2.heap.size 22 22 75 i0 (.agg Tryz.zeroCells75) 256 256 Tryz.underlying22 HI.out.1 HI.out.2.1 HI.out.2.2.1 HI.out.2.2.2 sizeZ (by decide) g hg hgb (.slice a n cap) n (C.tiles.flatMap encT) (src_tiles HN.out.1 (HU.out.below hC)) (fun u hu => by obtain ⟨t, -, h⟩ := List.mem_flatMap.1 hu; exact encT_one t u h) (by have := HN.out.1; have := HL.out; unfold maxLen; omega) (by have := HN.out.1; have := HL.out; omega) hC.size; refine opIn_append _ _ _ rfl (by simp [Act.eval, s13]) (by simp [Act.eval, s15]) hrun ?_
     exact hK _ _ r1 r2
  case hend =>
   intro w3 hC
   simp only [EndFrom, eqv, forall_eq, Act.put, List.length_cons, List.length_nil, List.drop_succ_cons, List.drop_zero, Nat.reduceAdd, List.setIfInBounds_toArray, List.set_cons_succ, List.set_cons_zero]
   intro v13 hv13 v16 hv16
   clear hv13
   have hn0 : 0 < n := by have := HIN.out; omega
   obtain ⟨gg, c', rfl, hgg, hcc⟩ : ∃ gg c', v16 = .slice (some ⟨gg, 0, none⟩) n c' ∧ w2.heap.size ≤ gg ∧ n ≤ c' := by
    rcases hv16.2 with ⟨-, h0⟩ | ⟨gg, cap', cur, e, hg, hgb, h1, h2⟩
    · omega
    · exact ⟨gg, cap', e, hg, h1⟩
   have HG := H7 (And.intro hgg hcc)
   have htop : ∀ k, k ≤ w.heap.size + 1 + 1 → k + 1 ≤ w2.heap.size := fun k hk => by have := HLT.out; omega
   have hst := HS.out.below hC
   have f2 := f7b (hst.blockAt 2 rfl)
   have q2 := c7b (k := 2) (hst.blockAt 2 rfl) rfl
   gi_wp2
   repeat ((fail_if_success (with_reducible refine stop_at (id := 4) ?_)); (first | go_values | go_skip | go_guarded | go_step | go_upon | go_back | (simp only [Int.not_lt, Int.not_le] at *; go_simp) | (go_values <;> (try go_simp)) | (go_ite <;> go_prune <;> (try go_simp)) | (split <;> (first | (rename_i hx; exact (hx _ rfl).elim) | go_prune))))
   clear f2 q2
   have hst4 := hst.putAt (pre := [_, _]) (by intro i hi; simp at hi; rcases hi with rfl | rfl <;> exact ⟨_, _, rfl⟩) 2 (.slice (some ⟨gg, 0, none⟩) n c') rfl
   have hne : (Value.slice (some ⟨gg, 0, none⟩) n c').ownBlock ≠ some w.heap.size := fun e => by have e2 : gg = w.heap.size := Option.some.inj e; have := HLT.out; omega
   have hrow4 := hv16.kept (g7c w3 w.heap.size 2 (.slice (some ⟨gg, 0, none⟩) n c')) (.inr hne)
   have hsz4 : w2.heap.size ≤ (w3.setCell ⟨w.heap.size, 2, none⟩ (.slice (some ⟨gg, 0, none⟩) n c')).heap.size := by rw [World.size_setCell]; exact hC.size
   obtain ⟨w4, hw4⟩ : ∃ w4, w3.setCell ⟨w.heap.size, 2, none⟩ (.slice (some ⟨gg, 0, none⟩) n c') = w4 := ⟨_, rfl⟩
   rw [hw4] at hst4 hrow4 hsz4 ⊢
   have HS := H7 hst4
   have HRW := H7 (And.intro hrow4 hsz4)
   clear hst hst4 hrow4 hsz4 hne hw4 hC hv16 hgg hcc hn0 htop
   obtain ⟨e1, e2, e3, e4, e5⟩ := HEN.out
   have hin : i < n := HIN.out
   obtain ⟨i2, hi2⟩ : ∃ i2, i * 256 = i2 := ⟨_, rfl⟩
   obtain ⟨j2, hj2⟩ : ∃ j2, j * 4 = j2 := ⟨_, rfl⟩
   have HIJ := H7 (And.intro hi2 hj2)
   have hj64 : j < 64 := HJ64.out
   clear hi2 hj2
   refine (wpIn_wide (n := 0)).1 ?_
   apply w7v 24 (Rl := [(eqv _), (eqv _), (eqv _), (eqv _), (eqv _), (eqv _), (eqv _), (eqv _), (eqv _), (eqv _), (eqv _), (eqv _), (eqv _), (eqv _), (eqv _), (eqv _), (eqv _), (eqv _), (eqv _), (eqv _), (eqv _), (eqv _), (eqv _), (eqv _)]) (C := (fun x y => Below x.heap.size x y))
   case hm => kernel_rfl
   case hk => rfl
   case hCr => exact (fun _ => B7 _ _)
   case hCt => intro _ _ _; exact (fun h k => g7t h k)
   case hst => repeat (first | exact trivial | refine ⟨fun _ _ _ _ h => h, ?_⟩)
   case hfo => kernel_rfl
   case ht => kernel_rfl
   case hC0 => exact (g7d _)
   case hsteps =>
    refine ⟨?_, ?_, ?_, ?_, ?_, ?_, ?_, ?_, ?_, ?_, ?_, ?_, ?_, ?_, ?_, ?_, ?_, ?_, ?_, ?_, ?_, ?_, ?_, ?_, trivial⟩
    · intro a' w' hA hC hD; have s2 := hA.to 2 (by kernel_rfl) rfl; clear hA hD; refine o7p rfl ?_; intro K hK; gi_wp2; exact hK _ _ rfl (B7 _ _)
    · intro a' w' hA hC hD; obtain ⟨u18, s18, rfl⟩ := hD ⟨0, .data⟩ (by simp) rfl _ rfl
      have h1_ := (HS.out.below hC).blockAt 2 rfl; have c1_0 := c7b (k := 0) h1_ rfl; have c1_1 := c7b (k := 1) h1_ rfl; have c1_2 := c7b (k := 2) h1_ rfl; clear h1_
      clear hA hD; refine o7p rfl ?_; intro K hK; gi_wp2; exact hK _ _ rfl (B7 _ _)
    · intro a' w' hA hC hD; have s3 := hA.to 3 (by kernel_rfl) rfl; clear hA hD; refine o7p rfl ?_; intro K hK; gi_wp2; exact hK _ _ rfl (B7 _ _)
    · intro a' w' hA hC hD; obtain ⟨u20, s20, rfl⟩ := hD ⟨2, .data⟩ (by simp) rfl _ rfl
      have h1_ := (HS.out.below hC).blockAt 1 rfl; have c1_0 := c7b (k := 0) h1_ rfl; have c1_1 := c7b (k := 1) h1_ rfl; clear h1_
      clear hA hD; refine o7p rfl ?_; intro K hK; gi_wp2; exact hK _ _ rfl (B7 _ _)
    · intro a' w' hA hC hD; obtain ⟨u21, s21, rfl⟩ := hD ⟨3, .data⟩ (by simp) rfl _ rfl; clear hA hD; refine o7p rfl ?_; intro K hK; gi_wp2; exact hK _ _ rfl (B7 _ _)
    · intro a' w' hA hC hD; have s2 := hA.to 2 (by kernel_rfl) rfl; clear hA hD; refine o7p rfl ?_; intro K hK; gi_wp2; exact hK _ _ rfl (B7 _ _)
    · intro a' w' hA hC hD; obtain ⟨u23, s23, rfl⟩ := hD ⟨5, .data⟩ (by simp) rfl _ rfl
      have h1_ := (HS.out.below hC).blockAt 2 rfl; have c1_0 := c7b (k := 0) h1_ rfl; clear h1_
      clear hA hD; refine o7p rfl ?_; intro K hK; gi_wp2; exact hK _ _ rfl (B7 _ _)
    · intro a' w' hA hC hD; obtain ⟨u22, s22, rfl⟩ := hD ⟨4, .data⟩ (by simp) rfl _ rfl; obtain ⟨u24, s24, rfl⟩ := hD ⟨6, .data⟩ (by simp) rfl _ rfl; clear hA hD; refine o7p rfl ?_; intro K hK; gi_wp2; exact hK _ _ rfl (B7 _ _)
    · intro a' w' hA hC hD; have s3 := hA.to 3 (by kernel_rfl) rfl; clear hA hD; refine o7p rfl ?_; intro K hK; gi_wp2; exact hK _ _ rfl (B7 _ _)
    · intro a' w' hA hC hD; obtain ⟨u26, s26, rfl⟩ := hD ⟨8, .data⟩ (by simp) rfl _ rfl
      have h1_ := (HS.out.below hC).blockAt 1 rfl; have c1_0 := c7b (k := 0) h1_ rfl; clear h1_
      clear hA hD; refine o7p rfl ?_; intro K hK; gi_wp2; exact hK _ _ rfl (B7 _ _)
    · intro a' w' hA hC hD; obtain ⟨u27, s27, rfl⟩ := hD ⟨9, .data⟩ (by simp) rfl _ rfl; clear hA hD; refine o7p rfl ?_; intro K hK; gi_wp2; exact hK _ _ rfl (B7 _ _)
    · intro a' w' hA hC hD; obtain ⟨u25, s25, rfl⟩ := hD ⟨7, .data⟩ (by simp) rfl _ rfl; obtain ⟨u28, s28, rfl⟩ := hD ⟨10, .data⟩ (by simp) rfl _ rfl; clear hA hD; refine o7p rfl ?_; intro K hK; gi_wp2; exact hK _ _ rfl (B7 _ _)
    · intro a' w' hA hC hD; have s3 := hA.to 3 (by kernel_rfl) rfl; clear hA hD; refine o7p rfl ?_; intro K hK; gi_wp2; exact hK _ _ rfl (B7 _ _)
    · intro a' w' hA hC hD; obtain ⟨u30, s30, rfl⟩ := hD ⟨12, .data⟩ (by simp) rfl _ rfl
      have h1_ := (HS.out.below hC).blockAt 1 rfl; have c1_0 := c7b (k := 0) h1_ rfl; have c1_1 := c7b (k := 1) h1_ rfl; clear h1_
      clear hA hD; refine o7p rfl ?_; intro K hK; gi_wp2; exact hK _ _ rfl (B7 _ _)
    · intro a' w' hA hC hD; obtain ⟨u31, s31, rfl⟩ := hD ⟨13, .data⟩ (by simp) rfl _ rfl; clear hA hD; refine o7p rfl ?_; intro K hK; gi_wp2; exact hK _ _ rfl (B7 _ _)
    · intro a' w' hA hC hD; obtain ⟨u32, s32, rfl⟩ := hD ⟨14, .data⟩ (by simp) rfl _ rfl; clear hA hD; refine o7p rfl ?_; intro K hK; gi_wp2; exact hK _ _ rfl (B7 _ _)
    · intro a' w' hA hC hD; have s3 := hA.to 3 (by kernel_rfl) rfl; clear hA hD; refine o7p rfl ?_; intro K hK; gi_wp2; exact hK _ _ rfl (B7 _ _)
    · intro a' w' hA hC hD; obtain ⟨u34, s34, rfl⟩ := hD ⟨16, .data⟩ (by simp) rfl _ rfl
      have h1_ := (HS.out.below hC).blockAt 1 rfl; have c1_0 := c7b (k := 0) h1_ rfl; clear h1_
      clear hA hD; refine o7p rfl ?_; intro K hK; gi_wp2; exact hK _ _ rfl (B7 _ _)
    · intro a' w' hA hC hD; obtain ⟨u35, s35, rfl⟩ := hD ⟨17, .data⟩ (by simp) rfl _ rfl; clear hA hD; refine o7p rfl ?_; intro K hK; gi_wp2; exact hK _ _ rfl (B7 _ _)
    · intro a' w' hA hC hD; obtain ⟨u33, s33, rfl⟩ := hD ⟨15, .data⟩ (by simp) rfl _ rfl; obtain ⟨u36, s36, rfl⟩ := hD ⟨18, .data⟩ (by simp) rfl _ rfl; clear hA hD; refine o7p rfl ?_; intro K hK; gi_wp2; exact hK _ _ rfl (B7 _ _)
    · intro a' w' hA hC hD; have s3 := hA.to 3 (by kernel_rfl) rfl; clear hA hD; refine o7p rfl ?_; intro K hK; gi_wp2; exact hK _ _ rfl (B7 _ _)
    · intro a' w' hA hC hD; obtain ⟨u38, s38, rfl⟩ := hD ⟨20, .data⟩ (by simp) rfl _ rfl
      have h1_ := (HS.out.below hC).blockAt 1 rfl; have c1_0 := c7b (k := 0) h1_ rfl; have c1_1 := c7b (k := 1) h1_ rfl; have c1_2 := c7b (k := 2) h1_ rfl; have c1_3 := c7b (k := 3) h1_ rfl; have c1_4 := c7b (k := 4) h1_ rfl; have c1_5 := c7b (k := 5) h1_ rfl; clear h1_
      clear hA hD; refine o7p rfl ?_; intro K hK; gi_wp2; exact hK _ _ rfl (B7 _ _)
    · intro a' w' hA hC hD; obtain ⟨u19, s19, rfl⟩ := hD ⟨1, .data⟩ (by simp) rfl _ rfl; obtain ⟨u29, s29, rfl⟩ := hD ⟨11, .data⟩ (by simp) rfl _ rfl
      have hi2 := HIJ.out.1
      clear hA hD; refine o7p rfl ?_; intro K hK; gi_wp2; exact hK _ _ rfl (B7 _ _)
    · intro a' w' hA hC hD; obtain ⟨u40, s40, rfl⟩ := hD ⟨22, .data⟩ (by simp) rfl _ rfl; obtain ⟨u37, s37, rfl⟩ := hD ⟨19, .data⟩ (by simp) rfl _ rfl
      have hj2 := HIJ.out.2
      clear hA hD; refine o7p rfl ?_; intro K hK; gi_wp2; exact hK _ _ rfl (B7 _ _)
   case hend =>
    intro w5 hC
    simp only [EndFrom, eqv, forall_eq, Act.put, List.length_cons, List.length_nil, List.drop_succ_cons, List.drop_zero, Nat.reduceAdd, List.setIfInBounds_toArray, List.set_cons_succ, List.set_cons_zero]
    clear e1 e2 e3 e4 e5 hin hj64
    have hs5 := HS.out.below hC
    have hr5 := ownsRow_below HRW.out.1 hC
    have hz5 : w2.heap.size ≤ w5.heap.size := Nat.le_trans HRW.out.2 hC.size
    have hcl : ∀ r u, (encC oc)[r]? = some u → w5.cell? ⟨gg, i * 256 + (j * 4 + r), none⟩ = some u := fun r u hu => ownsRow_cell hr5 (by
     have hr := (List.getElem?_eq_some_iff.1 hu).1
     rw [flat_get encT_len C.tiles i _ (by have := HJ64.out; rw [encC_len] at hr; omega), HT.out.1]
     simp only [Option.bind_some]
     rw [encT_get _ _ _ hr, HT.out.2]
     exact hu)
    have c0 := hcl 0 _ rfl
    have c1 := hcl 1 _ rfl
    have c2 := hcl 2 _ rfl
    have c3 := hcl 3 _ rfl
    have f0 := fun k => ownsRow_free hr5 k
    have W6 : ∃ w6, (((w5.setCell ⟨gg, i2 + j2, none⟩ (.int .u8 r)).setCell ⟨gg, i2 + j2 + 1, none⟩ (.int .u8 g)).setCell ⟨gg, i2 + j2 + 2, none⟩ (.int .u8 b)).setCell ⟨gg, i2 + j2 + 3, none⟩ (.int .u8 al) = w6 ∧ w6.ownsRow w2.heap.size 75 256 (.slice (some ⟨gg, 0, none⟩) n c') n (D.tiles.flatMap encT) ∧ w5.grownBy w6 (some gg) := by
     refine ⟨_, rfl, ?_, grownTrans (grownTrans (grownTrans (g7c _ _ _ _) (g7c _ _ _ _)) (g7c _ _ _ _)) (g7c _ _ _ _)⟩
     have hb := HIN.out
     have hj := HJ64.out
     have hr6 := ownsRow_set (ownsRow_set (ownsRow_set (ownsRow_set hr5 (i * 256 + j * 4) (by omega) (.int .u8 r)) (i * 256 + (j * 4 + 1)) (by omega) (.int .u8 g)) (i * 256 + (j * 4 + 2)) (by omega) (.int .u8 b)) (i * 256 + (j * 4 + 3)) (by omega) (.int .u8 al)
     rw [flat_set4 HT.out.1 hj ⟨r, g, b, al⟩, ← HD.out] at hr6
     rw [← HIJ.out.1, ← HIJ.out.2]
     simpa only [Nat.add_assoc] using hr6
    obtain ⟨w6, hw6, hr6, hg6⟩ := W6
    have hs6 := hs5.grown (base := w2.heap.size) (row := some gg) (fun k e => by cases e; exact HG.out.1) (Nat.le_of_lt (Nat.lt_of_le_of_lt (by omega) HLT.out)) (fun it hit => by
     have h1 := HLT.out
     simp only [List.cons_append, List.nil_append, List.mem_cons, List.not_mem_nil, or_false] at hit
     rcases hit with rfl | rfl | rfl <;> (simp only [It.top]; omega)) hg6
    rw [HIJ.out.1, HIJ.out.2, ← Nat.add_assoc] at c0 c1 c2 c3
    rw [Nat.add_zero] at c0
    clear hcl hs5 hr5 hz5 hC
    gi_wp2
    clear c0 c1 c2 c3 f0
    first | rw [hw6] | simp only [hw6] | skip
    have HS := H7 hs6
    have HRW := H7 hr6
    clear hs6 hr6 hg6 hw6
    have q0 := h7c HS 2 0 rfl rfl
    have q1 := h7c HS 2 1 rfl rfl
    have q2 := h7c HS 2 2 rfl rfl
    have f0 := f7b (HS.out.blockAt 0 rfl)
    have j0 := h7c HS 0 0 rfl rfl
    have j1 := h7c HS 0 1 rfl rfl
    have j2 := h7c HS 0 2 rfl rfl
    go_wp2_with fail
    rw [HDD.out]
    have hlow := HS.out.low
    have hl : D.tiles.length = n := by rw [HD.out, List.length_set]; exact HN.out.1
    have hel := ownsRow_rows encT_len (by rw [hl]; exact HRW.out)
    refine bodyPost_ret (v := .agg #[.int .i64 wi, .int .i64 hi, .slice (some ⟨gg, 0, none⟩) n c']) (by simp [results, Tryz.results59, go_sem, j0, j1, j2]) rfl ⟨_, rfl, ⟨some ⟨gg, 0, none⟩, c', by rw [HWW.out.1, HWW.out.2, hl], by rw [hl]; exact HG.out.2, ?_⟩, by (repeat (first | exact B7 _ _ | assumption | refine Below.alloc ?_ (by first | omega | (simp; done) | (simp; omega)) _ | refine Below.setCell ?_ (by first | omega | (simp; done) | (simp; omega)) _ | refine Below.drew ?_))⟩
    repeat refine elems_other ?_ (fun ad e => by cases e; have := HLT.out; have := HG.out.1; show gg ≠ w.heap.size + 1 + 1; omega) _ _
    rw [hl] at hel ⊢
    exact hel
/- The document's layer 3: Over. -/
theorem wrap_u {x : Int} (h : 0 ≤ x ∧ x < 256) : wrap64 x = x := by unfold wrap64; omega
set_option maxRecDepth 100000 in
set_option maxHeartbeats 1000000 in
theorem r3Parts_any (c : ColT) (hc : okC c) (w : World) : Calls Tryz.prog 102 #[c.val] w (Gives (.agg #[.int .i64 c.r, .int .i64 c.g, .int .i64 c.b, .int .i64 c.a]) w) := by
 have HS := H7 (St.start w)
 obtain ⟨r, g, b, a⟩ := c
 have e0 := wrap_u hc.1.1
 have e1 := wrap_u hc.1.2
 have e2 := wrap_u hc.2.1
 have e3 := wrap_u hc.2.2
 simp only at *
 unfold ColT.val
 clear hc
 go_enter Tryz.func102, Tryz.ntmps102
 repeat ((fail_if_success (with_reducible refine stop_at (id := 1) ?_)); (first | go_values | go_skip | go_guarded | go_step | go_upon | go_back | (simp only [Int.not_lt, Int.not_le] at *; go_simp) | (go_values <;> (try go_simp)) | (go_ite <;> go_prune <;> (try go_simp)) | (split <;> (first | (rename_i hx; exact (hx _ rfl).elim) | go_prune))))
 have hs_ := ((HS.out.alloc (.cells #[.int .u8 r, .int .u8 g, .int .u8 b, .int .u8 a] 34)).alloc (.cells #[.int .i64 0, .int .i64 0, .int .i64 0, .int .i64 0] 143))
 obtain ⟨w1, hw_⟩ : ∃ w1 : World, ((w.alloc (.cells #[.int .u8 r, .int .u8 g, .int .u8 b, .int .u8 a] 34)).alloc (.cells #[.int .i64 0, .int .i64 0, .int .i64 0, .int .i64 0] 143)) = w1 := ⟨_, rfl⟩
 rw [hw_] at hs_
 try simp only [World.size_alloc] at hs_
 have HS := H7 hs_
 rw [hw_]
 clear hw_ hs_
 have c0 := h7c HS 1 0 rfl rfl
 have c1 := h7c HS 1 1 rfl rfl
 have c2 := h7c HS 1 2 rfl rfl
 have c3 := h7c HS 1 3 rfl rfl
 have k0 := h7c HS 0 0 rfl rfl
 have k1 := h7c HS 0 1 rfl rfl
 have k2 := h7c HS 0 2 rfl rfl
 have k3 := h7c HS 0 3 rfl rfl
 have f0 := f7b (HS.out.blockAt 0 rfl)
 go_wp2_with fail
 refine bodyPost_ret (v := .agg #[.int .i64 r, .int .i64 g, .int .i64 b, .int .i64 a]) (by simp [results, Tryz.results102, go_sem, k0, k1, k2, k3]) rfl ⟨rfl, ?_⟩
 have h0 := HS.out.low
 (repeat (first | exact B7 _ _ | assumption | refine Below.alloc ?_ (by first | omega | (simp; done) | (simp; omega)) _ | refine Below.setCell ?_ (by first | omega | (simp; done) | (simp; omega)) _ | refine Below.drew ?_))
set_option maxRecDepth 100000 in
set_option maxHeartbeats 1000000 in
theorem r3Of_any (c : ColT) (hc : okC c) (w : World) : Calls Tryz.prog 103 #[.agg #[.int .i64 c.r, .int .i64 c.g, .int .i64 c.b, .int .i64 c.a]] w (Gives c.val w) := by
 have HS := H7 (St.start w)
 obtain ⟨r, g, b, a⟩ := c
 have e0 : r % 256 = r := by have := hc.1.1; simp only at this; omega
 have e1 : g % 256 = g := by have := hc.1.2; simp only at this; omega
 have e2 : b % 256 = b := by have := hc.2.1; simp only at this; omega
 have e3 : a % 256 = a := by have := hc.2.2; simp only at this; omega
 simp only at *
 unfold ColT.val
 clear hc
 go_enter Tryz.func103, Tryz.ntmps103
 repeat ((fail_if_success (with_reducible refine stop_at (id := 1) ?_)); (first | go_values | go_skip | go_guarded | go_step | go_upon | go_back | (simp only [Int.not_lt, Int.not_le] at *; go_simp) | (go_values <;> (try go_simp)) | (go_ite <;> go_prune <;> (try go_simp)) | (split <;> (first | (rename_i hx; exact (hx _ rfl).elim) | go_prune))))
 have hs_ := ((HS.out.alloc (.cells #[.int .i64 r, .int .i64 g, .int .i64 b, .int .i64 a] 143)).alloc (.cells #[.int .u8 0, .int .u8 0, .int .u8 0, .int .u8 0] 34))
 obtain ⟨w1, hw_⟩ : ∃ w1 : World, ((w.alloc (.cells #[.int .i64 r, .int .i64 g, .int .i64 b, .int .i64 a] 143)).alloc (.cells #[.int .u8 0, .int .u8 0, .int .u8 0, .int .u8 0] 34)) = w1 := ⟨_, rfl⟩
 rw [hw_] at hs_
 try simp only [World.size_alloc] at hs_
 have HS := H7 hs_
 rw [hw_]
 clear hw_ hs_
 have c0 := h7c HS 1 0 rfl rfl
 have c1 := h7c HS 1 1 rfl rfl
 have c2 := h7c HS 1 2 rfl rfl
 have c3 := h7c HS 1 3 rfl rfl
 have k0 := h7c HS 0 0 rfl rfl
 have k1 := h7c HS 0 1 rfl rfl
 have k2 := h7c HS 0 2 rfl rfl
 have k3 := h7c HS 0 3 rfl rfl
 have f0 := f7b (HS.out.blockAt 0 rfl)
 go_wp2_with fail
 refine bodyPost_ret (v := .agg #[.int .u8 r, .int .u8 g, .int .u8 b, .int .u8 a]) (by simp [results, Tryz.results103, go_sem, k0, k1, k2, k3]) rfl ⟨rfl, ?_⟩
 have h0 := HS.out.low
 (repeat (first | exact B7 _ _ | assumption | refine Below.alloc ?_ (by first | omega | (simp; done) | (simp; omega)) _ | refine Below.setCell ?_ (by first | omega | (simp; done) | (simp; omega)) _ | refine Below.drew ?_))
theorem shI_refs {x y p s : Int} (hx : 0 ≤ x ∧ x < 256) (hy : 0 ≤ y ∧ y < 256) (hp : 0 ≤ p ∧ p < 256) (hs : 255 - p = s) :
 wrap64 (255 - p) = s ∧ ∃ A B V : Int, A = x * s ∧ B = y * p ∧ V = shI x y p ∧ wrap64 (y * p) = B ∧ wrap64 (x * s) = A ∧ wrap64 (B + A) = B + A ∧ wrap64 (B + A + 127) = B + A + 127 ∧ wrap64 ((B + A + 127).tdiv 255) = V := by
 have h := sh_sum hx hy hp
 have h2 := shI_ok hx hy hp
 unfold shI at h2 ⊢
 rw [hs] at h h2 ⊢
 obtain ⟨A, hA⟩ : ∃ A, x * s = A := ⟨_, rfl⟩
 obtain ⟨B, hB⟩ : ∃ B, y * p = B := ⟨_, rfl⟩
 rw [hA, hB] at h h2 ⊢
 clear hA hB
 refine ⟨by unfold wrap64; omega, A, B, _, rfl, rfl, rfl, ?_, ?_, ?_, ?_, ?_⟩
 · unfold wrap64; omega
 · unfold wrap64; omega
 · unfold wrap64; omega
 · unfold wrap64; omega
 · rw [Int.tdiv_eq_ediv_of_nonneg (by omega : 0 ≤ B + A + 127)]; unfold wrap64; omega
theorem shA_refs {x p s : Int} (hx : 0 ≤ x ∧ x < 256) (hp : 0 ≤ p ∧ p < 256) (hs : 255 - p = s) :
 ∃ A V : Int, A = x * s ∧ V = shI x 0 p ∧ wrap64 (x * s) = A ∧ wrap64 (A + 127) = A + 127 ∧ wrap64 ((A + 127).tdiv 255) = V ∧ wrap64 (p + V) = p + V := by
 have h := sh_sum hx (y := 0) ⟨by omega, by omega⟩ hp
 have h2 := over_a hx hp
 unfold shI at h2 ⊢
 rw [Int.zero_mul] at h h2 ⊢
 rw [hs] at h h2 ⊢
 obtain ⟨A, hA⟩ : ∃ A, x * s = A := ⟨_, rfl⟩
 rw [hA] at h h2 ⊢
 clear hA
 refine ⟨A, _, rfl, rfl, ?_, ?_, ?_, ?_⟩
 · unfold wrap64; omega
 · unfold wrap64; omega
 · rw [Int.tdiv_eq_ediv_of_nonneg (by omega : 0 ≤ A + 127)]; unfold wrap64; omega
 · unfold wrap64; omega
set_option maxRecDepth 100000 in
set_option maxHeartbeats 2000000 in
theorem r3Over_any (u o : ColT) (hu : okC u) (ho : okC o) (w : World) : Calls Tryz.prog 71 #[u.val, o.val] w (Gives (overC u o).val w) := by
 have HU := H7 hu
 have HO := H7 ho
 have HPU := H7 (fun w' => r3Parts_any u hu w')
 have HPO := H7 (fun w' => r3Parts_any o ho w')
 have HOF := H7 (fun w' => r3Of_any (overC u o) (overC_ok hu ho) w')
 have HS := H7 (St.start w)
 obtain ⟨ur, ug, ub, ua⟩ := u
 obtain ⟨r, g, b, a⟩ := o
 unfold ColT.val at *
 simp only at *
 clear hu ho
 go_enter Tryz.func71, Tryz.ntmps71
 repeat ((fail_if_success (with_reducible refine stop_at (id := 1) ?_)); (first | go_values | go_skip | go_guarded | go_step | go_upon | go_back | (simp only [Int.not_lt, Int.not_le] at *; go_simp) | (go_values <;> (try go_simp)) | (go_ite <;> go_prune <;> (try go_simp)) | (split <;> (first | (rename_i hx; exact (hx _ rfl).elim) | go_prune))))
 have hs_ := (((HS.out.alloc (.cells #[.int .u8 ur, .int .u8 ug, .int .u8 ub, .int .u8 ua] 34)).alloc (.cells #[.int .u8 r, .int .u8 g, .int .u8 b, .int .u8 a] 34)).alloc (.cells #[.int .u8 0, .int .u8 0, .int .u8 0, .int .u8 0] 34))
 obtain ⟨w1, hw_⟩ : ∃ w1 : World, (((w.alloc (.cells #[.int .u8 ur, .int .u8 ug, .int .u8 ub, .int .u8 ua] 34)).alloc (.cells #[.int .u8 r, .int .u8 g, .int .u8 b, .int .u8 a] 34)).alloc (.cells #[.int .u8 0, .int .u8 0, .int .u8 0, .int .u8 0] 34)) = w1 := ⟨_, rfl⟩
 rw [hw_] at hs_
 try simp only [World.size_alloc] at hs_
 have HS := H7 hs_
 rw [hw_]
 clear hw_ hs_
 refine (wpIn_wide (n := 0)).1 ?_
 apply wp_region_slots 8 [⟨4, 6, 5, .cells #[.int .i64 0, .int .i64 0, .int .i64 0, .int .i64 0] 143 (0, 0), .cells #[.int .i64 ur, .int .i64 ug, .int .i64 ub, .int .i64 ua] 143 (0, 0)⟩, ⟨5, 7, 6, .cells #[.int .i64 0, .int .i64 0, .int .i64 0, .int .i64 0] 143 (0, 0), .cells #[.int .i64 r, .int .i64 g, .int .i64 b, .int .i64 a] 143 (0, 0)⟩] _ (Rl := [(eqv _), (eqv _), (eqv _), (eqv _), (fun _ _ => True), (fun _ _ => True), (fun _ _ => True), (fun _ _ => True)])
 case hm => kernel_rfl
 case hk => rfl
 case hst => repeat (first | exact trivial | refine ⟨fun _ _ _ _ h => h, ?_⟩)
 case hfo => kernel_rfl
 case ht => kernel_rfl
 case hN => exact Nat.le_refl _
 case hok => kernel_rfl
 case hsk => intro s hs; simp only [List.mem_cons, List.not_mem_nil, or_false] at hs; rcases hs with rfl | rfl <;> exact ⟨Nat.le_of_ble_eq_true rfl, Nat.le_of_ble_eq_true rfl⟩
 case hsteps =>
  refine ⟨?_, ?_, ?_, ?_, ?_, ?_, ?_, ?_, trivial⟩
  · intro l_ a' w' hA hC hJ hN hB hD; have s2 := hA.to 2 (by kernel_rfl) rfl
    have h1_ := (HS.out.below hC).blockAt 2 rfl; have c1_0 := c7b (k := 0) h1_ rfl; have c1_1 := c7b (k := 1) h1_ rfl; have c1_2 := c7b (k := 2) h1_ rfl; have c1_3 := c7b (k := 3) h1_ rfl; clear h1_
    clear hA hD; refine o7t rfl ?_; intro K hK; gi_wp2; exact hK _ _ rfl (B7 _ _) (SlT.plainB rfl (B7 _ _))
  · intro l_ a' w' hA hC hJ hN hB hD; obtain ⟨u8, s8, rfl⟩ := hD ⟨0, .data⟩ (by simp) rfl _ rfl; clear hA hD; refine o7t rfl ?_; intro K hK
    gi_wp2_with fail; refine (callsIn_wide.2 (HPU.out _)).mono ?_; rintro e w2 ⟨rfl, hb⟩
    exact hK _ _ rfl (hb.mono hC.size) (SlT.plainB rfl hb)
  · intro l_ a' w' hA hC hJ hN hB hD; have s3 := hA.to 3 (by kernel_rfl) rfl
    have h1_ := (HS.out.below hC).blockAt 1 rfl; have c1_0 := c7b (k := 0) h1_ rfl; have c1_1 := c7b (k := 1) h1_ rfl; have c1_2 := c7b (k := 2) h1_ rfl; have c1_3 := c7b (k := 3) h1_ rfl; clear h1_
    clear hA hD; refine o7t rfl ?_; intro K hK; gi_wp2; exact hK _ _ rfl (B7 _ _) (SlT.plainB rfl (B7 _ _))
  · intro l_ a' w' hA hC hJ hN hB hD; obtain ⟨u10, s10, rfl⟩ := hD ⟨2, .data⟩ (by simp) rfl _ rfl; clear hA hD; refine o7t rfl ?_; intro K hK
    gi_wp2_with fail; refine (callsIn_wide.2 (HPO.out _)).mono ?_; rintro e w2 ⟨rfl, hb⟩
    exact hK _ _ rfl (hb.mono hC.size) (SlT.plainB rfl hb)
  · intro l_ a' w' hA hC hJ hN hB hD; clear hA hD; refine o7t rfl ?_; intro K hK; gi_wp2; exact hK _ _ trivial ((B7 _ _).alloc hC.size _) (SlT.alloc (by intro t ht e; simp only [List.mem_cons, List.not_mem_nil, or_false] at ht; rcases ht with rfl | rfl <;> first | rfl | (exact absurd e (Nat.ne_of_beq_eq_false rfl))) (by intro t ht; simp only [List.mem_cons, List.not_mem_nil, or_false] at ht; rcases ht with rfl | rfl <;> exact Nat.ne_of_beq_eq_false rfl))
  · intro l_ a' w' hA hC hJ hN hB hD; clear hA hD; refine o7t rfl ?_; intro K hK; gi_wp2; exact hK _ _ trivial ((B7 _ _).alloc hC.size _) (SlT.alloc (by intro t ht e; simp only [List.mem_cons, List.not_mem_nil, or_false] at ht; rcases ht with rfl | rfl <;> first | rfl | (exact absurd e (Nat.ne_of_beq_eq_false rfl))) (by intro t ht; simp only [List.mem_cons, List.not_mem_nil, or_false] at ht; rcases ht with rfl | rfl <;> exact Nat.ne_of_beq_eq_false rfl))
  · intro l_ a' w' hA hC hJ hN hB hD; obtain ⟨u5, s5, r5⟩ := hD ⟨4, .data⟩ (by simp) rfl _ rfl; replace r5 : (fun _ _ => True) u5 w' := r5; obtain ⟨u9, s9, rfl⟩ := hD ⟨1, .data⟩ (by simp) rfl _ rfl
    obtain ⟨b5, n5, t5, o5⟩ := hJ.at_ _ (List.mem_of_getElem? (i := 0) rfl) (hB ⟨4, .data⟩ (by simp) rfl)
    rw [show l_.getD 6 false = false from hN] at o5
    replace o5 : w'.heap[b5]? = some (.cells #[.int .i64 0, .int .i64 0, .int .i64 0, .int .i64 0] 143 (0, 0)) := o5
    obtain rfl : u5 = ptrB b5 := Option.some.inj (s5.symm.trans t5)
    clear r5
    obtain ⟨b6, n6, t6, o6⟩ := hJ.at_ _ (List.mem_of_getElem? (i := 1) rfl) (hB ⟨5, .phase⟩ (by simp) rfl)
    clear hA hD; refine o7t rfl ?_; intro K hK
    have f5 := f7b o5
    have c5_0 := c7b (k := 0) o5 rfl
    have c5_1 := c7b (k := 1) o5 rfl
    have c5_2 := c7b (k := 2) o5 rfl
    have c5_3 := c7b (k := 3) o5 rfl
    have f5_0 := f5 0
    have f5_1 := f5 1
    have f5_2 := f5 2
    have f5_3 := f5 3
    clear f5; unfold ptrB at s5 t5; gi_wp2; exact hK undef _ trivial (by repeat (first | exact B7 _ _ | refine Below.setCell ?_ (by omega) _)) (SlT.store _ (by intro t ht e; simp only [List.mem_cons, List.not_mem_nil, or_false] at ht; rcases ht with rfl | rfl <;> first | rfl | (exact absurd e (Nat.ne_of_beq_eq_false rfl))) (by intro t ht; simp only [List.mem_cons, List.not_mem_nil, or_false] at ht; rcases ht with rfl | rfl <;> exact Nat.ne_of_beq_eq_false rfl) (List.mem_of_getElem? (i := 0) rfl) rfl b5 (by unfold envOf; rw [t5]; rfl) (h7s (h7s (h7s (h7s o5 _) _) _) _) (by intro k hk; repeat (first | rfl | refine (Below.heap_setCell _ _ _ k (by simpa using hk)).trans ?_)))
  · intro l_ a' w' hA hC hJ hN hB hD; obtain ⟨u6, s6, r6⟩ := hD ⟨5, .data⟩ (by simp) rfl _ rfl; replace r6 : (fun _ _ => True) u6 w' := r6; obtain ⟨u11, s11, rfl⟩ := hD ⟨3, .data⟩ (by simp) rfl _ rfl
    obtain ⟨b5, n5, t5, o5⟩ := hJ.at_ _ (List.mem_of_getElem? (i := 0) rfl) (hB ⟨4, .phase⟩ (by simp) rfl)
    obtain ⟨b6, n6, t6, o6⟩ := hJ.at_ _ (List.mem_of_getElem? (i := 1) rfl) (hB ⟨5, .data⟩ (by simp) rfl)
    rw [show l_.getD 7 false = false from hN] at o6
    replace o6 : w'.heap[b6]? = some (.cells #[.int .i64 0, .int .i64 0, .int .i64 0, .int .i64 0] 143 (0, 0)) := o6
    obtain rfl : u6 = ptrB b6 := Option.some.inj (s6.symm.trans t6)
    clear r6
    clear hA hD; refine o7t rfl ?_; intro K hK
    have f6 := f7b o6
    have c6_0 := c7b (k := 0) o6 rfl
    have c6_1 := c7b (k := 1) o6 rfl
    have c6_2 := c7b (k := 2) o6 rfl
    have c6_3 := c7b (k := 3) o6 rfl
    have f6_0 := f6 0
    have f6_1 := f6 1
    have f6_2 := f6 2
    have f6_3 := f6 3
    clear f6; unfold ptrB at s6 t6; gi_wp2; exact hK undef _ trivial (by repeat (first | exact B7 _ _ | refine Below.setCell ?_ (by omega) _)) (SlT.store _ (by intro t ht e; simp only [List.mem_cons, List.not_mem_nil, or_false] at ht; rcases ht with rfl | rfl <;> first | rfl | (exact absurd e (Nat.ne_of_beq_eq_false rfl))) (by intro t ht; simp only [List.mem_cons, List.not_mem_nil, or_false] at ht; rcases ht with rfl | rfl <;> exact Nat.ne_of_beq_eq_false rfl) (List.mem_of_getElem? (i := 1) rfl) rfl b6 (by unfold envOf; rw [t6]; rfl) (h7s (h7s (h7s (h7s o6 _) _) _) _) (by intro k hk; repeat (first | rfl | refine (Below.heap_setCell _ _ _ k (by simpa using hk)).trans ?_)))
 case hend =>
  intro w3 hC
  simp only [EndFrom, eqv, forall_eq, Act.put, List.length_cons, List.length_nil, List.drop_succ_cons, List.drop_zero, Nat.reduceAdd, List.setIfInBounds_toArray, List.set_cons_succ, List.set_cons_zero]
  intro pA _ pB _ pC _ pD _ hX
  obtain ⟨bA, hA1, hA2, hA3⟩ := hX.1 _ (List.mem_of_getElem? (i := 0) rfl)
  obtain ⟨bB, hB1, hB2, hB3⟩ := hX.1 _ (List.mem_of_getElem? (i := 1) rfl)
  obtain rfl : pA = ptrB bA := Option.some.inj hA2
  obtain rfl : pB = ptrB bB := Option.some.inj hB2
  clear hX hA2 hB2
  unfold ptrB
  dsimp only at hA3 hB3
  have HS := H7 (HS.out.below hC)
  have u0 := c7b (k := 0) hA3 rfl
  have u1 := c7b (k := 1) hA3 rfl
  have u2 := c7b (k := 2) hA3 rfl
  have u3 := c7b (k := 3) hA3 rfl
  have o0 := c7b (k := 0) hB3 rfl
  have o1 := c7b (k := 1) hB3 rfl
  have o2 := c7b (k := 2) hB3 rfl
  have o3 := c7b (k := 3) hB3 rfl
  clear hA3 hB3 hC
  gi_wp2
  have ex : overC ⟨ur, ug, ub, ua⟩ ⟨r, g, b, a⟩ = ⟨shI ur r a, shI ug g a, shI ub b a, a + shI ua 0 a⟩ := rfl
  rw [ex] at HOF ⊢
  obtain ⟨s, hs⟩ : ∃ s, 255 - a = s := ⟨_, rfl⟩
  obtain ⟨es, Ar, Br, Vr, -, -, hr, r1, r2, r3, r4, r5⟩ := shI_refs HU.out.1.1 HO.out.1.1 HO.out.2.2 hs
  obtain ⟨-, Ag, Bg, Vg, -, -, hg, g1, g2, g3, g4, g5⟩ := shI_refs HU.out.1.2 HO.out.1.2 HO.out.2.2 hs
  obtain ⟨-, Ab, Bb, Vb, -, -, hb, b1, b2, b3, b4, b5⟩ := shI_refs HU.out.2.1 HO.out.2.1 HO.out.2.2 hs
  obtain ⟨Aa, Va, -, ha, a1, a2, a3, a4⟩ := shA_refs HU.out.2.2 HO.out.2.2 hs
  simp only at *
  rw [← hr, ← hg, ← hb, ← ha] at HOF ⊢
  clear hs hr hg hb ha ex
  go_wp2_with fail
  clear u0 u1 u2 u3 o0 o1 o2 o3
  refine (HOF.out _).mono ?_
  rintro e w5 ⟨rfl, hb_⟩
  have HS := H7 (HS.out.below hb_)
  clear hb_
  have k0 := h7c HS 0 0 rfl rfl
  have k1 := h7c HS 0 1 rfl rfl
  have k2 := h7c HS 0 2 rfl rfl
  have k3 := h7c HS 0 3 rfl rfl
  have f0 := f7b (HS.out.blockAt 0 rfl)
  go_wp2_with fail
  refine bodyPost_ret (v := .agg #[.int .u8 Vr, .int .u8 Vg, .int .u8 Vb, .int .u8 (a + Va)]) (by simp [results, Tryz.results71, go_sem, k0, k1, k2, k3]) rfl ⟨rfl, ?_⟩
  have h0 := HS.out.low
  (repeat (first | exact B7 _ _ | assumption | refine Below.alloc ?_ (by first | omega | (simp; done) | (simp; omega)) _ | refine Below.setCell ?_ (by first | omega | (simp; done) | (simp; omega)) _ | refine Below.drew ?_))
end Go.Proofs.YthcdkkmjnglmjaaGreatDoor
/- Layer 7: the document's pixel by pixel, plain. -/
namespace Go.Proofs.YthcdkkmjnglmjaaGreatDoor
open Go.RowKit Go.Shelf
/-- The first k pixels gone through, row by row: those of q turned by f. -/
def pixTo (C : CanT) (q : Nat → Nat → Bool) (f : ColT → ColT) : Nat → CanT
 | 0 => C
 | k + 1 => if q (k % (8 * C.wide)) (k / (8 * C.wide)) = true then dotC (pixTo C q f k) ⟨((k % (8 * C.wide) : Nat) : Int), ((k / (8 * C.wide) : Nat) : Int), f (colC C (k % (8 * C.wide)) (k / (8 * C.wide)))⟩ else pixTo C q f k
theorem pixTo_wide (C : CanT) (q : Nat → Nat → Bool) (f : ColT → ColT) : ∀ k, (pixTo C q f k).wide = C.wide ∧ (pixTo C q f k).high = C.high
 | 0 => ⟨rfl, rfl⟩
 | k + 1 => by
  have h := pixTo_wide C q f k
  unfold pixTo
  split
  · rw [dotC_wide, dotC_high]; exact h
  · exact h
theorem pix_on {C : CanT} (hC : okCan C) {k : Nat} (hk : k < 8 * C.high * (8 * C.wide)) : k % (8 * C.wide) < 8 * C.wide ∧ k / (8 * C.wide) < 8 * C.high := by
 have hw : 0 < 8 * C.wide := by have := hC.wide; omega
 exact ⟨Nat.mod_lt _ hw, Nat.div_lt_of_lt_mul (by rw [Nat.mul_comm]; exact hk)⟩
theorem pixTo_ok {C : CanT} (hC : okCan C) (q : Nat → Nat → Bool) {f : ColT → ColT} (hf : ∀ c, okC c → okC (f c)) : ∀ k, k ≤ 8 * C.high * (8 * C.wide) → okCan (pixTo C q f k)
 | 0, _ => hC
 | k + 1, hk => by
  have h := pixTo_ok hC q hf k (by omega)
  have ho := pix_on hC (k := k) (by omega)
  unfold pixTo
  split
  · exact h.dotC (hf _ ((hC.tile ho.1 ho.2).choose_spec.2.2))
  · exact h
theorem pixTo_col {C : CanT} (hC : okCan C) (q : Nat → Nat → Bool) {f : ColT → ColT} (hf : ∀ c, okC c → okC (f c)) {x y : Nat} (hx : x < 8 * C.wide) (hy : y < 8 * C.high) :
 ∀ k, k ≤ 8 * C.high * (8 * C.wide) → colC (pixTo C q f k) x y = if y * (8 * C.wide) + x < k ∧ q x y = true then f (colC C x y) else colC C x y
 | 0, _ => by rw [if_neg (by omega)]; rfl
 | k + 1, hk => by
  have h := pixTo_col hC q hf hx hy k (by omega)
  have hw := pixTo_wide C q f k
  have ho := pix_on hC (k := k) (by omega)
  have hok := pixTo_ok hC q hf k (by omega)
  have hkd : k / (8 * C.wide) * (8 * C.wide) + k % (8 * C.wide) = k := by rw [Nat.mul_comm]; exact Nat.div_add_mod k (8 * C.wide)
  have huniq : y * (8 * C.wide) + x = k → x = k % (8 * C.wide) ∧ y = k / (8 * C.wide) := fun e => by
   subst e
   refine ⟨?_, ?_⟩
   · rw [Nat.add_comm, Nat.add_mul_mod_self_right, Nat.mod_eq_of_lt hx]
   · rw [Nat.add_comm, Nat.add_mul_div_right _ _ (by omega), Nat.div_eq_of_lt hx, Nat.zero_add]
  unfold pixTo
  by_cases h1 : q (k % (8 * C.wide)) (k / (8 * C.wide)) = true
  · rw [if_pos h1, colC_dotC hok (by rw [hw.1]; exact hx) (by rw [hw.2]; exact hy), h]
    by_cases h2 : y * (8 * C.wide) + x = k
    · obtain ⟨ex, ey⟩ := huniq h2
      rw [if_pos (by simp only; omega), if_pos (by rw [ex, ey]; exact ⟨by rw [hkd]; omega, h1⟩)]
      rw [ex, ey]
    · rw [if_neg (fun e => h2 (by
       have e1 : k % (8 * C.wide) = x := by have := e.1; simp only at this; omega
       have e2 : k / (8 * C.wide) = y := by have := e.2; simp only at this; omega
       rw [← e1, ← e2]; exact hkd))]
      by_cases h3 : y * (8 * C.wide) + x < k ∧ q x y = true
      · rw [if_pos h3, if_pos ⟨by omega, h3.2⟩]
      · rw [if_neg h3, if_neg (fun h4 => h3 ⟨by omega, h4.2⟩)]
  · rw [if_neg h1, h]
    by_cases h3 : y * (8 * C.wide) + x < k ∧ q x y = true
    · rw [if_pos h3, if_pos ⟨by omega, h3.2⟩]
    · rw [if_neg h3, if_neg (fun h4 => h3 ⟨by
       rcases Nat.lt_or_ge (y * (8 * C.wide) + x) k with h5 | h5
       · exact h5
       · obtain ⟨ex, ey⟩ := huniq (by omega)
         exact absurd (by rw [← ex, ← ey]; exact h4.2) h1, h4.2⟩)]
theorem pixTo_shown {C : CanT} (hC : okCan C) {q : Nat → Nat → Bool} {f : ColT → ColT} (hf : ∀ c, okC c → okC (f c)) {Q : PtT → Prop} (hq : ∀ x y : Nat, x < 8 * C.wide → y < 8 * C.high → (q x y = true ↔ Q ⟨(x : Int), (y : Int)⟩)) :
 Shown C Q f (pixTo C q f (8 * C.high * (8 * C.wide))) := by
 have hw := pixTo_wide C q f (8 * C.high * (8 * C.wide))
 have hlt : ∀ x y : Nat, x < 8 * C.wide → y < 8 * C.high → y * (8 * C.wide) + x < 8 * C.high * (8 * C.wide) := fun x y hx hy => by
  have : (y + 1) * (8 * C.wide) ≤ 8 * C.high * (8 * C.wide) := Nat.mul_le_mul_right _ hy
  rw [Nat.add_one_mul] at this
  omega
 refine ⟨pixTo_ok hC q hf _ (Nat.le_refl _), hw.1, hw.2, fun x y hx hy h1 => ?_, fun x y hx hy h1 => ?_⟩
 · rw [pixTo_col hC q hf hx hy _ (Nat.le_refl _), if_pos ⟨hlt x y hx hy, (hq x y hx hy).2 h1⟩]
 · rw [pixTo_col hC q hf hx hy _ (Nat.le_refl _), if_neg (fun h2 => h1 ((hq x y hx hy).1 h2.2))]
/-- One pixel more. -/
theorem pixTo_step {C : CanT} (q : Nat → Nat → Bool) (f : ColT → ColT) {W x y : Nat} (hW : 8 * C.wide = W) (hx : x < W) : pixTo C q f (y * W + (x + 1)) = if q x y = true then dotC (pixTo C q f (y * W + x)) ⟨(x : Int), (y : Int), f (colC C x y)⟩ else pixTo C q f (y * W + x) := by
 subst hW
 have e1 : (y * (8 * C.wide) + x) % (8 * C.wide) = x := by rw [Nat.add_comm, Nat.add_mul_mod_self_right, Nat.mod_eq_of_lt hx]
 have e2 : (y * (8 * C.wide) + x) / (8 * C.wide) = y := by rw [Nat.add_comm, Nat.add_mul_div_right _ _ (by omega), Nat.div_eq_of_lt hx, Nat.zero_add]
 rw [← Nat.add_assoc]
 conv => lhs; unfold pixTo
 rw [e1, e2]
/-- A canvas as a value, in a block of a call's own; the things that are kept. -/
structure PutS (w0 : World) (its : List It) (B : Nat) (D : CanT) (x : World) : Prop where
 st : St w0 its x
 ok : okCan D
 ex : ∃ a cap, x.heap[B]? = some (.cells #[.int .i64 D.wide, .int .i64 D.high, .slice a D.tiles.length cap] 24 (0, 0)) ∧ CanV x D (.agg #[.int .i64 D.wide, .int .i64 D.high, .slice a D.tiles.length cap])
 lo : w0.heap.size ≤ B
 top : ∀ i ∈ its, i.top ≤ B
theorem PutS.below {w0 x y : World} {its : List It} {B : Nat} {D : CanT} (h : PutS w0 its B D x) (hb : Below x.heap.size x y) : PutS w0 its B D y := by
 obtain ⟨a, cap, h1, h2⟩ := h.ex
 exact ⟨h.st.below hb, h.ok, ⟨a, cap, (hb.block B (b7t h1)).trans h1, h2.below hb⟩, h.lo, h.top⟩
/-- A canvas' tiles don't lie in a block of few cells. -/
theorem CanV.other3 {x : World} {D : CanT} (hD : okCan D) {v : Value} (h : CanV x D v) {B : Nat} {c : Array Value} {t : TypeId} {f : Nat × Nat} (hB : x.heap[B]? = some (.cells c t f)) (hc : c.size ≤ 255) (k : Nat) (u : Value) : CanV (x.setCell ⟨B, k, none⟩ u) D v := by
 obtain ⟨a, cap, rfl, h1, h2⟩ := h
 refine ⟨a, cap, rfl, h1, elems_other h2 (fun ad e => ?_) k u⟩
 have hn : 0 < D.tiles.length := by rw [hD.many]; exact Nat.mul_pos hD.wide.1 hD.high.1
 rcases h2 with ⟨e2, h0⟩ | ⟨b, off, cap', e2, -, hcs⟩
 · omega
 · subst e
   cases e2
   intro e3
   have e3 : b = B := e3
   subst e3
   have h5 := hcs 255 (by omega)
   unfold World.cell? at h5
   simp only [hB] at h5
   rw [if_neg (by simp), Array.getElem?_eq_none (by omega)] at h5
   cases h5
/-- The three cells of the block are written. -/
theorem PutS.put {w0 x : World} {its : List It} {B : Nat} {D D' : CanT} {a : Option Addr} {cap : Nat} (h : PutS w0 its B D x) (hok : okCan D') (hv : CanV x D' (.agg #[.int .i64 D'.wide, .int .i64 D'.high, .slice a D'.tiles.length cap])) :
 PutS w0 its B D' (((x.setCell ⟨B, 0, none⟩ (.int .i64 D'.wide)).setCell ⟨B, 1, none⟩ (.int .i64 D'.high)).setCell ⟨B, 2, none⟩ (.slice a D'.tiles.length cap)) := by
 obtain ⟨a0, cap0, h1, -⟩ := h.ex
 have b1 := h7s (k := 0) h1 (.int .i64 D'.wide)
 have b2 := h7s (k := 1) b1 (.int .i64 D'.high)
 have b3 := h7s (k := 2) b2 (.slice a D'.tiles.length cap)
 have v1 := hv.other3 hok h1 (by simp) 0 (.int .i64 D'.wide)
 have v2 := v1.other3 hok b1 (by simp) 1 (.int .i64 D'.high)
 have v3 := v2.other3 hok b2 (by simp) 2 (.slice a D'.tiles.length cap)
 have hg := grownTrans (grownTrans (g7c x B 0 (.int .i64 D'.wide)) (g7c _ B 1 (.int .i64 D'.high))) (g7c _ B 2 (.slice a D'.tiles.length cap))
 exact ⟨h.st.grown (base := B) (row := some B) (fun j e => by cases e; exact Nat.le_refl _) h.lo h.top hg, hok, ⟨a, cap, b3, v3⟩, h.lo, h.top⟩
theorem PutS.start {w0 x : World} {its : List It} {B : Nat} {D : CanT} {a : Option Addr} {cap : Nat} (h : St w0 (.blk B (.cells #[.int .i64 D.wide, .int .i64 D.high, .slice a D.tiles.length cap] 24 (0, 0)) :: its) x) (hD : okCan D) (hv : CanV x D (.agg #[.int .i64 D.wide, .int .i64 D.high, .slice a D.tiles.length cap])) (hlo : w0.heap.size ≤ B) (ht : ∀ i ∈ its, i.top ≤ B) : PutS w0 its B D x :=
 ⟨h.drop1, hD, ⟨a, cap, h.blockAt 0 rfl, hv⟩, hlo, ht⟩
end Go.Proofs.YthcdkkmjnglmjaaGreatDoor
/- The document's layer 7: Spans. -/
namespace Go.Proofs.YthcdkkmjnglmjaaGreatDoor
open Go.RowKit Go.Shelf
attribute [local go_sem] Oper.semAt_some
theorem row_next {j W : Nat} : j * W + W = (j + 1) * W := (Nat.succ_mul j W).symm
theorem pix_le {j k H W : Nat} (hj : j < H) (hk : k < W) : j * W + (k + 1) ≤ H * W := by
 have : (j + 1) * W ≤ H * W := Nat.mul_le_mul_right _ hj
 rw [Nat.add_one_mul] at this
 omega
/- The document's layer 7: Rect. -/
end Go.Proofs.YthcdkkmjnglmjaaGreatDoor
