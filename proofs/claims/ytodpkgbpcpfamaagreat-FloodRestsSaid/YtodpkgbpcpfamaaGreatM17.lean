/- Merged texts: Region. -/
import Derived.Test.YtodpkgbpcpfamaaGreatM16
import Derived.Test.YtodpkgbpcpfamaaGreatM8
import Derived.Test.YtodpkgbpcpfamaaGreatM9
/- Layer 8: Region. -/
namespace Go.Proofs.YtodpkgbpcpfamaaGreat
set_option linter.unusedSimpArgs false
set_option linter.unusedVariables false
open Go.RowKit Go.Shelf
attribute [local go_sem] Oper.semAt_some

/-- What begun says of a pixel and a tolerance. -/
def begE (C : CanT) (p : PtT) (t : Int) : Int := bif tolB t then (bif onC C p then 0 else 4) else 2
def begB (C : CanT) (p : PtT) (t : Int) : Bool := tolB t && onC C p
/-- The places of a region, row by row. -/
def placesL (C : CanT) (p : PtT) (t : Int) : List PtT := gathL (8 * C.wide) (metB (8 * C.wide) (metC C p t)) (8 * C.high * (8 * C.wide))
theorem placesL_len {C : CanT} (hC : okCan C) (p : PtT) (t : Int) : (placesL C p t).length ≤ 1024 := by
 refine Nat.le_trans (gathL_len _ _ _) ?_
 have h1 := hC.wide
 have h2 := hC.high
 calc 8 * C.high * (8 * C.wide) ≤ 32 * 32 := Nat.mul_le_mul (by omega) (by omega)
  _ = 1024 := rfl

theorem gathL_in {W H : Nat} {is : Nat → Bool} {q : PtT} (h : q ∈ gathL W is (H * W)) : (0 ≤ q.x ∧ q.x < W) ∧ (0 ≤ q.y ∧ q.y < H) := by
 unfold gathL at h
 obtain ⟨k, hk, rfl⟩ := List.mem_map.1 h
 have hk := List.mem_range.1 (List.mem_filter.1 hk).1
 have hW : 0 < W := by
  rcases Nat.eq_zero_or_pos W with h0 | h0
  · rw [h0, Nat.mul_zero] at hk; omega
  · exact h0
 unfold ptK
 simp only
 have h1 := Nat.mod_lt k hW
 have h2 := (Nat.div_lt_iff_lt_mul hW).2 hk
 obtain ⟨a, ha⟩ : ∃ a, k % W = a := ⟨_, rfl⟩
 obtain ⟨b, hb⟩ : ∃ b, k / W = b := ⟨_, rfl⟩
 rw [ha] at h1 ⊢
 rw [hb] at h2 ⊢
 omega
theorem placesL_in {C : CanT} (hC : okCan C) {p : PtT} {t : Int} {q : PtT} (h : q ∈ placesL C p t) : (0 ≤ q.x ∧ q.x < 32) ∧ (0 ≤ q.y ∧ q.y < 32) := by
 have h1 := gathL_in h
 have h2 := hC.wide
 have h3 := hC.high
 omega

set_option maxRecDepth 100000 in
set_option maxHeartbeats 1000000 in
theorem region_bad (C : CanT) (c : Nat) (p : PtT) (t : Int) (w : World) (hC : CanAt w c C) (hb : begB C p t = false) : Calls Tryz.prog 6 #[.pointer (some ⟨c, 0, none⟩), p.val, .int .i64 t] w (Gives (.tuple #[.slice none 0 0, .int .i64 (begE C p t)]) w) := by
 have HS := Lib.hid (St.start w)
 have HC := Lib.hid (fun w' (h : Below w.heap.size w w') => show Calls Tryz.prog 23 #[.pointer (some ⟨c, 0, none⟩), p.val, .int .i64 t] w' (Gives (.tuple #[.pointer none, .int .i64 (begE C p t)]) w') by
  unfold begE
  cases ht : tolB t with
  | false => exact begun_arg c p t ht w'
  | true =>
   cases hp : onC C p with
   | false => exact begun_none C c p t ht hp w' (hC.below h)
   | true => unfold begB at hb; rw [ht, hp] at hb; cases hb)
 have hne : begE C p t = 4 ∨ begE C p t = 2 := by
  unfold begE
  cases ht : tolB t with
  | false => exact .inr rfl
  | true =>
   cases hp : onC C p with
   | false => exact .inl rfl
   | true => unfold begB at hb; rw [ht, hp] at hb; cases hb
 obtain ⟨er, her⟩ : ∃ er, begE C p t = er := ⟨_, rfl⟩
 rw [her] at HC hne ⊢
 obtain ⟨x, y⟩ := p
 unfold PtT.val at *
 simp only at HC
 clear hC hb her
 rcases hne with rfl | rfl <;> (
  go_enter Tryz.func6, Tryz.ntmps6
  repeat ((fail_if_success (with_reducible refine stop_at (id := 1) ?_)); (first | go_values | go_skip | go_guarded | go_step | go_upon | go_back | (simp only [Int.not_lt, Int.not_le] at *; go_simp) | (go_values <;> (try go_simp)) | (go_ite <;> go_prune <;> (try go_simp)) | (split <;> (first | (rename_i hx; exact (hx _ rfl).elim) | go_prune))))
  have hs_ := (HS.out.alloc (.cells #[.int .i64 x, .int .i64 y] 33))
  obtain ⟨w1, hw_⟩ : ∃ w1 : World, (w.alloc (.cells #[.int .i64 x, .int .i64 y] 33)) = w1 := ⟨_, rfl⟩
  rw [hw_] at hs_
  try simp only [World.size_alloc] at hs_
  have HS := Lib.hid hs_
  rw [hw_]
  clear hw_ hs_
  have k0 := cell_of_block (k := 0) (HS.out.blockAt 0 rfl) rfl
  have k1 := cell_of_block (k := 1) (HS.out.blockAt 0 rfl) rfl
  go_wp2_with fail
  refine (HC.out _ HS.out.low).mono ?_
  rintro e w2 ⟨rfl, hb_⟩
  have HS := Lib.hid (HS.out.below hb_)
  clear hb_
  go_wp2_with fail
  refine bodyPost_ret (v := .tuple #[.slice none 0 0, .int .i64 _]) (by simp [results, Tryz.results6, go_sem]) rfl ⟨rfl, HS.out.low⟩)

set_option maxRecDepth 100000 in
set_option maxHeartbeats 1000000 in
theorem region_good (C : CanT) (c : Nat) (p : PtT) (t : Int) (w : World) (hC : CanAt w c C) (hb : begB C p t = true) : Calls Tryz.prog 6 #[.pointer (some ⟨c, 0, none⟩), p.val, .int .i64 t] w (GivesRowE 43 3 (regL (placesL C p t)).length ((regL (placesL C p t)).flatMap encS) 0 w) := by
 have HS := Lib.hid (St.start w)
 have HC := Lib.hid (fun w' (h : Below w.heap.size w w') => show Calls _ _ _ _ (GivesSea c (8 * (C.wide : Int)) (8 * (C.high : Int)) (metC C p t) w') from begun_on C c p t (Bool.and_eq_true_iff.1 hb).1 (Bool.and_eq_true_iff.1 hb).2 w' (hC.below h))
 have HP := Lib.hid (fun (S : Nat) (v : Value) (w' : World) h => (points_any S c (8 * C.wide) (8 * C.high) (by have := hC.ok.wide; omega) (by have := hC.ok.high; omega) (metC C p t) v w' h))
 have HLN := Lib.hid (placesL_len hC.ok p t)
 have HIN := Lib.hid (fun q h => placesL_in hC.ok (p := p) (t := t) (q := q) h)
 obtain ⟨Q, hQ⟩ : ∃ Q, placesL C p t = Q := ⟨_, rfl⟩
 have hQ' : gathL (8 * C.wide) (metB (8 * C.wide) (metC C p t)) (8 * C.high * (8 * C.wide)) = Q := hQ
 rw [hQ] at HLN HIN ⊢
 rw [hQ'] at HP
 obtain ⟨M, hM⟩ : ∃ M, metC C p t = M := ⟨_, rfl⟩
 have e1 : ((8 * C.wide : Nat) : Int) = 8 * (C.wide : Int) := by omega
 have e2 : ((8 * C.high : Nat) : Int) = 8 * (C.high : Int) := by omega
 rw [hM, e1, e2] at HP
 rw [hM] at HC
 obtain ⟨W, hW⟩ : ∃ W, 8 * (C.wide : Int) = W := ⟨_, rfl⟩
 obtain ⟨H, hH⟩ : ∃ H, 8 * (C.high : Int) = H := ⟨_, rfl⟩
 rw [hW, hH] at HP HC
 obtain ⟨x, y⟩ := p
 unfold PtT.val at *
 simp only at HC
 clear hC hb hQ hQ' hM e1 e2 hW hH
 go_enter Tryz.func6, Tryz.ntmps6
 repeat ((fail_if_success (with_reducible refine stop_at (id := 1) ?_)); (first | go_values | go_skip | go_guarded | go_step | go_upon | go_back | (simp only [Int.not_lt, Int.not_le] at *; go_simp) | (go_values <;> (try go_simp)) | (go_ite <;> go_prune <;> (try go_simp)) | (split <;> (first | (rename_i hx; exact (hx _ rfl).elim) | go_prune))))
 have hs_ := (HS.out.alloc (.cells #[.int .i64 x, .int .i64 y] 33))
 obtain ⟨w1, hw_⟩ : ∃ w1 : World, (w.alloc (.cells #[.int .i64 x, .int .i64 y] 33)) = w1 := ⟨_, rfl⟩
 rw [hw_] at hs_
 try simp only [World.size_alloc] at hs_
 have HS := Lib.hid hs_
 rw [hw_]
 clear hw_ hs_
 have k0 := cell_of_block (k := 0) (HS.out.blockAt 0 rfl) rfl
 have k1 := cell_of_block (k := 1) (HS.out.blockAt 0 rfl) rfl
 go_wp2_with fail
 clear k0 k1
 refine (HC.out _ HS.out.low).mono ?_
 rintro e w2 ⟨S, v', rfl, hS, hs, hb⟩
 have HS := Lib.hid (HS.out.below hb)
 have HPP := Lib.hid (HP.out S v' w2 hs)
 clear hS hs hb HC
 go_wp2_with fail
 refine HPP.out.mono ?_
 rintro e w3 ⟨u, rfl, hrow, hb⟩
 have hel := ownsRow_rows encP_len hrow
 obtain ⟨a, cap, rfl⟩ : ∃ a cap, u = .slice a Q.length cap := by
  rcases hel with ⟨rfl, h0⟩ | ⟨b, off, cap, rfl, _⟩
  · exact ⟨none, 0, by rw [h0]⟩
  · exact ⟨_, cap, rfl⟩
 have HS := Lib.hid ((HS.out.below hb).addRow hel)
 clear hrow hb HPP HP hel
 obtain ⟨n, hn⟩ : ∃ n, Q.length = n := ⟨_, rfl⟩
 rw [hn] at HS HLN ⊢
 have HN := Lib.hid hn
 clear hn
 have HO := Lib.hid (StO.start HS.out 43 3 encS)
 obtain ⟨N1, hN1⟩ : ∃ N1, w3.heap.size = N1 := ⟨_, rfl⟩
 rw [hN1] at HO
 clear HS hN1
 go_wp2_with fail
 go_loopw [10, 27] (fun v i wr => ∃ k : Nat, k ≤ n ∧ i = .int .i64 (k : Int) ∧ StO w [.row (.slice a n cap) n 2 (rowC encP Q) N1, .blk w.heap.size (.cells #[.int .i64 x, .int .i64 y] 33 (0, 0))] N1 43 3 encS v (regL (Q.take k)) wr) (fun _ i _ => n - (intOf i).toNat)
 case atStart => exact ⟨0, by omega, rfl, HO.out⟩
 case round =>
  obtain ⟨k, hk, rfl, ho⟩ := hrel
  clear HO
  have HO := Lib.hid ho
  clear ho
  by_cases hlt : k < n
  · obtain ⟨q, hq⟩ : ∃ q, Q[k]? = some q := ⟨_, List.getElem?_eq_getElem (by rw [HN.out]; exact hlt)⟩
    have HLT := Lib.hid hlt
    have e3 : wrap64 ((k : Int) + 1) = ((k + 1 : Nat) : Int) := by have := HLN.out; unfold wrap64; omega
    obtain ⟨bb, off, rfl, hbb, c0, c1⟩ := ptCells HN.out (HO.out.st.elems 0 rfl) k q hq
    have HT := Lib.hid (regL_take hq)
    have HL := Lib.hid (show (regL (Q.take k)).length < 100000 by
     have h1 := regL_len (Q.take k)
     rw [List.length_take] at h1
     have := HLN.out
     omega)
    obtain ⟨L, hL⟩ : ∃ L, regL (Q.take k) = L := ⟨_, rfl⟩
    rw [hL] at HO HT HL
    have HQB := Lib.hid (HIN.out q (List.mem_of_getElem? hq))
    obtain ⟨qx, qy⟩ := q
    simp only at c0 c1 HQB
    clear hq hbb hL
    have HS := Lib.hid (St.start wr)
    repeat ((fail_if_success (with_reducible refine stop_at (id := 8) ?_)); (first | go_values | go_skip | go_guarded | go_step | go_upon | go_back | (simp only [Int.not_lt, Int.not_le] at *; go_simp) | (go_values <;> (try go_simp)) | (go_ite <;> go_prune <;> (try go_simp)) | (split <;> (first | (rename_i hx; exact (hx _ rfl).elim) | go_prune))))
    have hs_ := (HS.out.alloc (.cells #[.int .i64 qx, .int .i64 qy] 33))
    obtain ⟨w4, hw_⟩ : ∃ w4 : World, (wr.alloc (.cells #[.int .i64 qx, .int .i64 qy] 33)) = w4 := ⟨_, rfl⟩
    rw [hw_] at hs_
    try simp only [World.size_alloc] at hs_
    have HS := Lib.hid hs_
    rw [hw_]
    clear hw_ hs_
    clear c0 c1
    obtain ⟨ad, cp, rfl, hsh⟩ := HO.out.shape
    obtain ⟨ll, hll⟩ : ∃ ll, L.length = ll := ⟨_, rfl⟩
    rw [hll] at HO HL ⊢
    go_wp2_with fail
    refine (wpIn_wide (n := 0)).1 ?_
    rcases List.eq_nil_or_concat L with hL0 | ⟨L0, s, hL0⟩
    · obtain rfl : ll = 0 := by rw [← hll, hL0]; rfl
      rw [hL0] at HO HT
      rw [regAdd_nil] at HT
      clear hll hL0 hsh
      apply wp_region_vals 25 (Rl := [(eqv _), (eqv _), (eqv _), (fun v_ _ => v_ = (undef : Value)), (fun v_ _ => v_ = (undef : Value)), (fun v_ _ => v_ = (undef : Value)), (fun v_ _ => v_ = (undef : Value)), (fun v_ _ => v_ = (undef : Value)), (fun v_ _ => v_ = (undef : Value)), (fun v_ _ => v_ = (undef : Value)), (fun v_ _ => v_ = (undef : Value)), (fun v_ _ => v_ = (undef : Value)), (eqv _), (eqv _), (fun v_ _ => v_ = (undef : Value)), (fun v_ _ => v_ = (undef : Value)), (fun v_ _ => v_ = (undef : Value)), (fun v_ _ => v_ = (undef : Value)), (fun v_ _ => v_ = (undef : Value)), (fun v_ _ => v_ = (undef : Value)), (fun v_ _ => v_ = (undef : Value)), (fun v_ _ => v_ = (undef : Value)), (fun v_ _ => v_ = (undef : Value)), (fun v_ _ => v_ = (undef : Value)), (eqv _)]) (C := (fun x y => Below x.heap.size x y))
      case hm => kernel_rfl
      case hk => rfl
      case hCr => exact (fun _ => Below.refl _ _)
      case hCt => intro _ _ _; exact (fun h k => grows_trans h k)
      case hst => exact ⟨fun _ _ _ _ h => h, fun _ _ _ _ h => h, fun _ _ _ _ h => h, fun _ _ _ _ h => h, fun _ _ _ _ h => h, fun _ _ _ _ h => h, fun _ _ _ _ h => h, fun _ _ _ _ h => h, fun _ _ _ _ h => h, fun _ _ _ _ h => h, fun _ _ _ _ h => h, fun _ _ _ _ h => h, fun _ _ _ _ h => h, fun _ _ _ _ h => h, fun _ _ _ _ h => h, fun _ _ _ _ h => h, fun _ _ _ _ h => h, fun _ _ _ _ h => h, fun _ _ _ _ h => h, fun _ _ _ _ h => h, fun _ _ _ _ h => h, fun _ _ _ _ h => h, fun _ _ _ _ h => h, fun _ _ _ _ h => h, fun _ _ _ _ h => h, trivial⟩
      case hfo => kernel_rfl
      case ht => kernel_rfl
      case hC0 => exact (grows_drew _)
      case hsteps =>
       refine ⟨?_, ?_, ?_, ?_, ?_, ?_, ?_, ?_, ?_, ?_, ?_, ?_, ?_, ?_, ?_, ?_, ?_, ?_, ?_, ?_, ?_, ?_, ?_, ?_, ?_, trivial⟩
       · intro a' w' hA hC hD; have s13 : a'.tmps[13]? = some _ := (hA.at 13 (by kernel_rfl)).trans rfl; clear hA hD; refine stepOk_plain rfl ?_; intro K hK; gi_wp2; exact hK _ _ rfl ((fun _ => Below.refl _ _) _)
       · intro a' w' hA hC hD; obtain ⟨u33, s33, r33⟩ := hD ⟨0, .data⟩ (by simp) rfl _ rfl; replace r33 : u33 = _ := r33; subst r33; clear hA hD; refine stepOk_plain rfl ?_; intro K hK; gi_wp2; exact hK _ _ rfl ((fun _ => Below.refl _ _) _)
       · intro a' w' hA hC hD; obtain ⟨u34, s34, r34⟩ := hD ⟨1, .data⟩ (by simp) rfl _ rfl; replace r34 : u34 = _ := r34; subst r34; clear hA hD; refine stepOk_plain rfl ?_; intro K hK; gi_wp2; exact hK _ _ rfl ((fun _ => Below.refl _ _) _)
       · intro a' w' hA hC hD; have s10 : a'.tmps[10]? = some _ := (hA.at 10 (by kernel_rfl)).trans rfl; obtain ⟨u35, s35, r35⟩ := hD ⟨2, .guard⟩ (by simp) rfl _ rfl; replace r35 : u35 = _ := r35; subst r35; clear hA hD
         exact stepOk_skip rfl rfl s35 rfl
       · intro a' w' hA hC hD; have s13 : a'.tmps[13]? = some _ := (hA.at 13 (by kernel_rfl)).trans rfl; obtain ⟨u35, s35, r35⟩ := hD ⟨2, .guard⟩ (by simp) rfl _ rfl; replace r35 : u35 = _ := r35; subst r35; clear hA hD
         exact stepOk_skip rfl rfl s35 rfl
       · intro a' w' hA hC hD; obtain ⟨u37, s37, r37⟩ := hD ⟨4, .data⟩ (by simp) rfl _ rfl; replace r37 : u37 = undef := r37; subst r37; obtain ⟨u35, s35, r35⟩ := hD ⟨2, .guard⟩ (by simp) rfl _ rfl; replace r35 : u35 = _ := r35; subst r35; clear hA hD
         exact stepOk_skip rfl rfl s35 rfl
       · intro a' w' hA hC hD; obtain ⟨u36, s36, r36⟩ := hD ⟨3, .data⟩ (by simp) rfl _ rfl; replace r36 : u36 = undef := r36; subst r36; obtain ⟨u38, s38, r38⟩ := hD ⟨5, .data⟩ (by simp) rfl _ rfl; replace r38 : u38 = undef := r38; subst r38; obtain ⟨u35, s35, r35⟩ := hD ⟨2, .guard⟩ (by simp) rfl _ rfl; replace r35 : u35 = _ := r35; subst r35; clear hA hD
         exact stepOk_skip rfl rfl s35 rfl
       · intro a' w' hA hC hD; obtain ⟨u39, s39, r39⟩ := hD ⟨6, .data⟩ (by simp) rfl _ rfl; replace r39 : u39 = undef := r39; subst r39; obtain ⟨u35, s35, r35⟩ := hD ⟨2, .guard⟩ (by simp) rfl _ rfl; replace r35 : u35 = _ := r35; subst r35; clear hA hD
         exact stepOk_skip rfl rfl s35 rfl
       · intro a' w' hA hC hD; obtain ⟨u40, s40, r40⟩ := hD ⟨7, .data⟩ (by simp) rfl _ rfl; replace r40 : u40 = undef := r40; subst r40; obtain ⟨u35, s35, r35⟩ := hD ⟨2, .guard⟩ (by simp) rfl _ rfl; replace r35 : u35 = _ := r35; subst r35; clear hA hD
         exact stepOk_skip rfl rfl s35 rfl
       · intro a' w' hA hC hD; have s12 : a'.tmps[12]? = some _ := (hA.at 12 (by kernel_rfl)).trans rfl; obtain ⟨u35, s35, r35⟩ := hD ⟨2, .guard⟩ (by simp) rfl _ rfl; replace r35 : u35 = _ := r35; subst r35; clear hA hD
         exact stepOk_skip rfl rfl s35 rfl
       · intro a' w' hA hC hD; obtain ⟨u42, s42, r42⟩ := hD ⟨9, .data⟩ (by simp) rfl _ rfl; replace r42 : u42 = undef := r42; subst r42; obtain ⟨u35, s35, r35⟩ := hD ⟨2, .guard⟩ (by simp) rfl _ rfl; replace r35 : u35 = _ := r35; subst r35; clear hA hD
         exact stepOk_skip rfl rfl s35 rfl
       · intro a' w' hA hC hD; obtain ⟨u41, s41, r41⟩ := hD ⟨8, .data⟩ (by simp) rfl _ rfl; replace r41 : u41 = undef := r41; subst r41; obtain ⟨u43, s43, r43⟩ := hD ⟨10, .data⟩ (by simp) rfl _ rfl; replace r43 : u43 = undef := r43; subst r43; obtain ⟨u35, s35, r35⟩ := hD ⟨2, .guard⟩ (by simp) rfl _ rfl; replace r35 : u35 = _ := r35; subst r35; clear hA hD
         exact stepOk_skip rfl rfl s35 rfl
       · intro a' w' hA hC hD; obtain ⟨u35, s35, r35⟩ := hD ⟨2, .data⟩ (by simp) rfl _ rfl; replace r35 : u35 = _ := r35; subst r35; obtain ⟨u44, s44, r44⟩ := hD ⟨11, .data⟩ (by simp) rfl _ rfl; replace r44 : u44 = undef := r44; subst r44; clear hA hD; refine stepOk_plain rfl ?_; intro K hK; gi_wp2; exact hK _ _ rfl ((fun _ => Below.refl _ _) _)
       · intro a' w' hA hC hD; obtain ⟨u45, s45, r45⟩ := hD ⟨12, .data⟩ (by simp) rfl _ rfl; replace r45 : u45 = _ := r45; subst r45; clear hA hD; refine stepOk_plain rfl ?_; intro K hK; gi_wp2; exact hK _ _ rfl ((fun _ => Below.refl _ _) _)
       · intro a' w' hA hC hD; have s10 : a'.tmps[10]? = some _ := (hA.at 10 (by kernel_rfl)).trans rfl; obtain ⟨u46, s46, r46⟩ := hD ⟨13, .guard⟩ (by simp) rfl _ rfl; replace r46 : u46 = _ := r46; subst r46; clear hA hD
         exact stepOk_skip rfl rfl s46 rfl
       · intro a' w' hA hC hD; have s13 : a'.tmps[13]? = some _ := (hA.at 13 (by kernel_rfl)).trans rfl; obtain ⟨u46, s46, r46⟩ := hD ⟨13, .guard⟩ (by simp) rfl _ rfl; replace r46 : u46 = _ := r46; subst r46; clear hA hD
         exact stepOk_skip rfl rfl s46 rfl
       · intro a' w' hA hC hD; obtain ⟨u48, s48, r48⟩ := hD ⟨15, .data⟩ (by simp) rfl _ rfl; replace r48 : u48 = undef := r48; subst r48; obtain ⟨u46, s46, r46⟩ := hD ⟨13, .guard⟩ (by simp) rfl _ rfl; replace r46 : u46 = _ := r46; subst r46; clear hA hD
         exact stepOk_skip rfl rfl s46 rfl
       · intro a' w' hA hC hD; obtain ⟨u47, s47, r47⟩ := hD ⟨14, .data⟩ (by simp) rfl _ rfl; replace r47 : u47 = undef := r47; subst r47; obtain ⟨u49, s49, r49⟩ := hD ⟨16, .data⟩ (by simp) rfl _ rfl; replace r49 : u49 = undef := r49; subst r49; obtain ⟨u46, s46, r46⟩ := hD ⟨13, .guard⟩ (by simp) rfl _ rfl; replace r46 : u46 = _ := r46; subst r46; clear hA hD
         exact stepOk_skip rfl rfl s46 rfl
       · intro a' w' hA hC hD; obtain ⟨u50, s50, r50⟩ := hD ⟨17, .data⟩ (by simp) rfl _ rfl; replace r50 : u50 = undef := r50; subst r50; obtain ⟨u46, s46, r46⟩ := hD ⟨13, .guard⟩ (by simp) rfl _ rfl; replace r46 : u46 = _ := r46; subst r46; clear hA hD
         exact stepOk_skip rfl rfl s46 rfl
       · intro a' w' hA hC hD; obtain ⟨u51, s51, r51⟩ := hD ⟨18, .data⟩ (by simp) rfl _ rfl; replace r51 : u51 = undef := r51; subst r51; obtain ⟨u46, s46, r46⟩ := hD ⟨13, .guard⟩ (by simp) rfl _ rfl; replace r46 : u46 = _ := r46; subst r46; clear hA hD
         exact stepOk_skip rfl rfl s46 rfl
       · intro a' w' hA hC hD; have s12 : a'.tmps[12]? = some _ := (hA.at 12 (by kernel_rfl)).trans rfl; obtain ⟨u46, s46, r46⟩ := hD ⟨13, .guard⟩ (by simp) rfl _ rfl; replace r46 : u46 = _ := r46; subst r46; clear hA hD
         exact stepOk_skip rfl rfl s46 rfl
       · intro a' w' hA hC hD; obtain ⟨u53, s53, r53⟩ := hD ⟨20, .data⟩ (by simp) rfl _ rfl; replace r53 : u53 = undef := r53; subst r53; obtain ⟨u46, s46, r46⟩ := hD ⟨13, .guard⟩ (by simp) rfl _ rfl; replace r46 : u46 = _ := r46; subst r46; clear hA hD
         exact stepOk_skip rfl rfl s46 rfl
       · intro a' w' hA hC hD; obtain ⟨u54, s54, r54⟩ := hD ⟨21, .data⟩ (by simp) rfl _ rfl; replace r54 : u54 = undef := r54; subst r54; obtain ⟨u46, s46, r46⟩ := hD ⟨13, .guard⟩ (by simp) rfl _ rfl; replace r46 : u46 = _ := r46; subst r46; clear hA hD
         exact stepOk_skip rfl rfl s46 rfl
       · intro a' w' hA hC hD; obtain ⟨u52, s52, r52⟩ := hD ⟨19, .data⟩ (by simp) rfl _ rfl; replace r52 : u52 = undef := r52; subst r52; obtain ⟨u55, s55, r55⟩ := hD ⟨22, .data⟩ (by simp) rfl _ rfl; replace r55 : u55 = undef := r55; subst r55; obtain ⟨u46, s46, r46⟩ := hD ⟨13, .guard⟩ (by simp) rfl _ rfl; replace r46 : u46 = _ := r46; subst r46; clear hA hD
         exact stepOk_skip rfl rfl s46 rfl
       · intro a' w' hA hC hD; obtain ⟨u46, s46, r46⟩ := hD ⟨13, .data⟩ (by simp) rfl _ rfl; replace r46 : u46 = _ := r46; subst r46; obtain ⟨u56, s56, r56⟩ := hD ⟨23, .data⟩ (by simp) rfl _ rfl; replace r56 : u56 = undef := r56; subst r56; clear hA hD; refine stepOk_plain rfl ?_; intro K hK; gi_wp2; exact hK _ _ rfl ((fun _ => Below.refl _ _) _)
      case hend =>
       intro w5 hC
       simp only [EndFrom, eqv, forall_eq, Act.put, List.length_cons, List.length_nil, List.drop_succ_cons, List.drop_zero, Nat.reduceAdd, List.setIfInBounds_toArray, List.set_cons_succ, List.set_cons_zero]
       have hb5 := grows_trans HS.out.low hC
       have HS := Lib.hid (HS.out.below hC)
       have HO := Lib.hid (HO.out.below hb5)
       clear hC hb5
       gi_wp2
       have p0 := cell_of_block (k := 0) (HS.out.blockAt 0 rfl) rfl
       have p1 := cell_of_block (k := 1) (HS.out.blockAt 0 rfl) rfl
       go_wp2_with (at_builtin; refine wpList_app1 rowS encS_len encS_one HO.out (Below.refl _ _) ⟨qy, qx, qx⟩ _ rfl (by have := HL.out; simp only [List.length_append, List.length_cons, List.length_nil] at *; omega) (by decide) _ _ rfl rfl rfl _ rfl (by simp) ?_; intro v' w6 ho6 hsh6; have HO6 := Lib.hid ho6; clear ho6 hsh6)
       go_roundw
       case rel => exact ⟨k + 1, HLT.out, congrArg (Value.int .i64) e3, by rw [HT.out]; exact HO6.out⟩
       case measure => rw [e3]; have := HLT.out; simp only [intOf]; omega
    · rw [List.concat_eq_append] at hL0
      obtain rfl : ll = L0.length + 1 := by rw [← hll, hL0]; simp
      obtain ⟨g, rfl⟩ := hsh.resolve_left (by rw [hll]; omega)
      rw [hL0] at HO HT
      obtain ⟨sy, sf, st⟩ := s
      rw [regAdd_snoc] at HT
      simp only at HT
      obtain ⟨m0, hm0⟩ : ∃ m0, L0.length = m0 := ⟨_, rfl⟩
      rw [hm0] at HO HL ⊢
      have HM0 := Lib.hid hm0
      have ECM := Lib.hid (show wrap64 (m0 : Int) = (m0 : Int) by have := HL.out; unfold wrap64; omega)
      have EQ1 := Lib.hid (show wrap64 (qx - 1) = qx - 1 by have := HQB.out; unfold wrap64; omega)
      have HCY := Lib.hid (fun w' (hC : Below wr.heap.size wr w') => show w'.cell? ⟨g, m0 * 3, none⟩ = some (.int .i64 sy) by have h1 := (HO.out.below hC).cell encS_len m0 ⟨sy, sf, st⟩ 0 (.int .i64 sy) (by rw [← HM0.out]; simp) rfl; rwa [Nat.add_zero] at h1)
      have HCT := Lib.hid (fun w' (hC : Below wr.heap.size wr w') => show w'.cell? ⟨g, m0 * 3 + 2, none⟩ = some (.int .i64 st) from (HO.out.below hC).cell encS_len m0 ⟨sy, sf, st⟩ 2 (.int .i64 st) (by rw [← HM0.out]; simp) rfl)
      have hin : m0 < m0 + 1 := Nat.lt_succ_self _
      clear hll hL0 hsh hm0
      by_cases hy : sy = qy
      · subst hy
        by_cases ht : st = qx - 1
        · subst ht
          rw [if_pos ⟨rfl, rfl⟩] at HT
          apply wp_region_vals 25 (Rl := [(eqv _), (eqv _), (eqv _), (eqv _), (eqv _), (eqv _), (eqv _), (eqv _), (eqv _), (eqv _), (eqv _), (eqv _), (eqv _), (eqv _), (eqv _), (eqv _), (eqv _), (eqv _), (eqv _), (eqv _), (eqv _), (eqv _), (eqv _), (eqv _), (eqv _)]) (C := (fun x y => Below x.heap.size x y))
          case hm => kernel_rfl
          case hk => rfl
          case hCr => exact (fun _ => Below.refl _ _)
          case hCt => intro _ _ _; exact (fun h k => grows_trans h k)
          case hst => exact ⟨fun _ _ _ _ h => h, fun _ _ _ _ h => h, fun _ _ _ _ h => h, fun _ _ _ _ h => h, fun _ _ _ _ h => h, fun _ _ _ _ h => h, fun _ _ _ _ h => h, fun _ _ _ _ h => h, fun _ _ _ _ h => h, fun _ _ _ _ h => h, fun _ _ _ _ h => h, fun _ _ _ _ h => h, fun _ _ _ _ h => h, fun _ _ _ _ h => h, fun _ _ _ _ h => h, fun _ _ _ _ h => h, fun _ _ _ _ h => h, fun _ _ _ _ h => h, fun _ _ _ _ h => h, fun _ _ _ _ h => h, fun _ _ _ _ h => h, fun _ _ _ _ h => h, fun _ _ _ _ h => h, fun _ _ _ _ h => h, fun _ _ _ _ h => h, trivial⟩
          case hfo => kernel_rfl
          case ht => kernel_rfl
          case hC0 => exact (grows_drew _)
          case hsteps =>
           refine ⟨?_, ?_, ?_, ?_, ?_, ?_, ?_, ?_, ?_, ?_, ?_, ?_, ?_, ?_, ?_, ?_, ?_, ?_, ?_, ?_, ?_, ?_, ?_, ?_, ?_, trivial⟩
           · intro a' w' hA hC hD; have s13 : a'.tmps[13]? = some _ := (hA.at 13 (by kernel_rfl)).trans rfl; clear hA hD; refine stepOk_plain rfl ?_; intro K hK; gi_wp2; exact hK _ _ rfl ((fun _ => Below.refl _ _) _)
           · intro a' w' hA hC hD; obtain ⟨u33, s33, r33⟩ := hD ⟨0, .data⟩ (by simp) rfl _ rfl; replace r33 : u33 = _ := r33; subst r33; clear hA hD; refine stepOk_plain rfl ?_; intro K hK; gi_wp2; exact hK _ _ rfl ((fun _ => Below.refl _ _) _)
           · intro a' w' hA hC hD; obtain ⟨u34, s34, r34⟩ := hD ⟨1, .data⟩ (by simp) rfl _ rfl; replace r34 : u34 = _ := r34; subst r34; clear hA hD; refine stepOk_plain rfl ?_; intro K hK; gi_wp2; exact hK _ _ rfl ((fun _ => Below.refl _ _) _)
           · intro a' w' hA hC hD; have s10 : a'.tmps[10]? = some _ := (hA.at 10 (by kernel_rfl)).trans rfl; obtain ⟨u35, s35, r35⟩ := hD ⟨2, .guard⟩ (by simp) rfl _ rfl; replace r35 : u35 = _ := r35; subst r35; clear hA hD; refine stepOk_want rfl rfl s35 ?_; intro K hK; gi_wp2; exact hK _ _ rfl ((fun _ => Below.refl _ _) _)
           · intro a' w' hA hC hD; have s13 : a'.tmps[13]? = some _ := (hA.at 13 (by kernel_rfl)).trans rfl; obtain ⟨u35, s35, r35⟩ := hD ⟨2, .guard⟩ (by simp) rfl _ rfl; replace r35 : u35 = _ := r35; subst r35; clear hA hD; refine stepOk_want rfl rfl s35 ?_; intro K hK; gi_wp2; exact hK _ _ rfl ((fun _ => Below.refl _ _) _)
           · intro a' w' hA hC hD; obtain ⟨u37, s37, r37⟩ := hD ⟨4, .data⟩ (by simp) rfl _ rfl; replace r37 : u37 = _ := r37; subst r37; obtain ⟨u35, s35, r35⟩ := hD ⟨2, .guard⟩ (by simp) rfl _ rfl; replace r35 : u35 = _ := r35; subst r35; clear hA hD; refine stepOk_want rfl rfl s35 ?_; intro K hK; gi_wp2; rw [ECM.out]; exact hK _ _ rfl ((fun _ => Below.refl _ _) _)
           · intro a' w' hA hC hD; obtain ⟨u36, s36, r36⟩ := hD ⟨3, .data⟩ (by simp) rfl _ rfl; replace r36 : u36 = _ := r36; subst r36; obtain ⟨u38, s38, r38⟩ := hD ⟨5, .data⟩ (by simp) rfl _ rfl; replace r38 : u38 = _ := r38; subst r38; obtain ⟨u35, s35, r35⟩ := hD ⟨2, .guard⟩ (by simp) rfl _ rfl; replace r35 : u35 = _ := r35; subst r35; clear hA hD; refine stepOk_want rfl rfl s35 ?_; intro K hK; gi_wp2; exact hK _ _ rfl ((fun _ => Below.refl _ _) _)
           · intro a' w' hA hC hD; obtain ⟨u39, s39, r39⟩ := hD ⟨6, .data⟩ (by simp) rfl _ rfl; replace r39 : u39 = _ := r39; subst r39; obtain ⟨u35, s35, r35⟩ := hD ⟨2, .guard⟩ (by simp) rfl _ rfl; replace r35 : u35 = _ := r35; subst r35; clear hA hD; refine stepOk_want rfl rfl s35 ?_; intro K hK; gi_wp2; exact hK _ _ rfl ((fun _ => Below.refl _ _) _)
           · intro a' w' hA hC hD; obtain ⟨u40, s40, r40⟩ := hD ⟨7, .data⟩ (by simp) rfl _ rfl; replace r40 : u40 = _ := r40; subst r40; obtain ⟨u35, s35, r35⟩ := hD ⟨2, .guard⟩ (by simp) rfl _ rfl; replace r35 : u35 = _ := r35; subst r35
             have b1 := HCY.out w' (grows_trans HS.out.low hC)
             clear hA hD; refine stepOk_want rfl rfl s35 ?_; intro K hK; gi_wp2; exact hK _ _ rfl ((fun _ => Below.refl _ _) _)
           · intro a' w' hA hC hD; have s12 : a'.tmps[12]? = some _ := (hA.at 12 (by kernel_rfl)).trans rfl; obtain ⟨u35, s35, r35⟩ := hD ⟨2, .guard⟩ (by simp) rfl _ rfl; replace r35 : u35 = _ := r35; subst r35; clear hA hD; refine stepOk_want rfl rfl s35 ?_; intro K hK; gi_wp2; exact hK _ _ rfl ((fun _ => Below.refl _ _) _)
           · intro a' w' hA hC hD; obtain ⟨u42, s42, r42⟩ := hD ⟨9, .data⟩ (by simp) rfl _ rfl; replace r42 : u42 = _ := r42; subst r42; obtain ⟨u35, s35, r35⟩ := hD ⟨2, .guard⟩ (by simp) rfl _ rfl; replace r35 : u35 = _ := r35; subst r35
             have h1_ := (HS.out.below hC).blockAt 0 rfl; have c1_0 := cell_of_block (k := 0) h1_ rfl; have c1_1 := cell_of_block (k := 1) h1_ rfl; clear h1_
             clear hA hD; refine stepOk_want rfl rfl s35 ?_; intro K hK; gi_wp2; exact hK _ _ rfl ((fun _ => Below.refl _ _) _)
           · intro a' w' hA hC hD; obtain ⟨u41, s41, r41⟩ := hD ⟨8, .data⟩ (by simp) rfl _ rfl; replace r41 : u41 = _ := r41; subst r41; obtain ⟨u43, s43, r43⟩ := hD ⟨10, .data⟩ (by simp) rfl _ rfl; replace r43 : u43 = _ := r43; subst r43; obtain ⟨u35, s35, r35⟩ := hD ⟨2, .guard⟩ (by simp) rfl _ rfl; replace r35 : u35 = _ := r35; subst r35; clear hA hD; refine stepOk_want rfl rfl s35 ?_; intro K hK; gi_wp2; exact hK _ _ rfl ((fun _ => Below.refl _ _) _)
           · intro a' w' hA hC hD; obtain ⟨u35, s35, r35⟩ := hD ⟨2, .data⟩ (by simp) rfl _ rfl; replace r35 : u35 = _ := r35; subst r35; obtain ⟨u44, s44, r44⟩ := hD ⟨11, .data⟩ (by simp) rfl _ rfl; replace r44 : u44 = _ := r44; subst r44; clear hA hD; refine stepOk_plain rfl ?_; intro K hK; gi_wp2; exact hK _ _ rfl ((fun _ => Below.refl _ _) _)
           · intro a' w' hA hC hD; obtain ⟨u45, s45, r45⟩ := hD ⟨12, .data⟩ (by simp) rfl _ rfl; replace r45 : u45 = _ := r45; subst r45; clear hA hD; refine stepOk_plain rfl ?_; intro K hK; gi_wp2; exact hK _ _ rfl ((fun _ => Below.refl _ _) _)
           · intro a' w' hA hC hD; have s10 : a'.tmps[10]? = some _ := (hA.at 10 (by kernel_rfl)).trans rfl; obtain ⟨u46, s46, r46⟩ := hD ⟨13, .guard⟩ (by simp) rfl _ rfl; replace r46 : u46 = _ := r46; subst r46; clear hA hD; refine stepOk_want rfl rfl s46 ?_; intro K hK; gi_wp2; exact hK _ _ rfl ((fun _ => Below.refl _ _) _)
           · intro a' w' hA hC hD; have s13 : a'.tmps[13]? = some _ := (hA.at 13 (by kernel_rfl)).trans rfl; obtain ⟨u46, s46, r46⟩ := hD ⟨13, .guard⟩ (by simp) rfl _ rfl; replace r46 : u46 = _ := r46; subst r46; clear hA hD; refine stepOk_want rfl rfl s46 ?_; intro K hK; gi_wp2; exact hK _ _ rfl ((fun _ => Below.refl _ _) _)
           · intro a' w' hA hC hD; obtain ⟨u48, s48, r48⟩ := hD ⟨15, .data⟩ (by simp) rfl _ rfl; replace r48 : u48 = _ := r48; subst r48; obtain ⟨u46, s46, r46⟩ := hD ⟨13, .guard⟩ (by simp) rfl _ rfl; replace r46 : u46 = _ := r46; subst r46; clear hA hD; refine stepOk_want rfl rfl s46 ?_; intro K hK; gi_wp2; rw [ECM.out]; exact hK _ _ rfl ((fun _ => Below.refl _ _) _)
           · intro a' w' hA hC hD; obtain ⟨u47, s47, r47⟩ := hD ⟨14, .data⟩ (by simp) rfl _ rfl; replace r47 : u47 = _ := r47; subst r47; obtain ⟨u49, s49, r49⟩ := hD ⟨16, .data⟩ (by simp) rfl _ rfl; replace r49 : u49 = _ := r49; subst r49; obtain ⟨u46, s46, r46⟩ := hD ⟨13, .guard⟩ (by simp) rfl _ rfl; replace r46 : u46 = _ := r46; subst r46; clear hA hD; refine stepOk_want rfl rfl s46 ?_; intro K hK; gi_wp2; exact hK _ _ rfl ((fun _ => Below.refl _ _) _)
           · intro a' w' hA hC hD; obtain ⟨u50, s50, r50⟩ := hD ⟨17, .data⟩ (by simp) rfl _ rfl; replace r50 : u50 = _ := r50; subst r50; obtain ⟨u46, s46, r46⟩ := hD ⟨13, .guard⟩ (by simp) rfl _ rfl; replace r46 : u46 = _ := r46; subst r46; clear hA hD; refine stepOk_want rfl rfl s46 ?_; intro K hK; gi_wp2; exact hK _ _ rfl ((fun _ => Below.refl _ _) _)
           · intro a' w' hA hC hD; obtain ⟨u51, s51, r51⟩ := hD ⟨18, .data⟩ (by simp) rfl _ rfl; replace r51 : u51 = _ := r51; subst r51; obtain ⟨u46, s46, r46⟩ := hD ⟨13, .guard⟩ (by simp) rfl _ rfl; replace r46 : u46 = _ := r46; subst r46
             have b1 := HCT.out w' (grows_trans HS.out.low hC)
             clear hA hD; refine stepOk_want rfl rfl s46 ?_; intro K hK; gi_wp2; exact hK _ _ rfl ((fun _ => Below.refl _ _) _)
           · intro a' w' hA hC hD; have s12 : a'.tmps[12]? = some _ := (hA.at 12 (by kernel_rfl)).trans rfl; obtain ⟨u46, s46, r46⟩ := hD ⟨13, .guard⟩ (by simp) rfl _ rfl; replace r46 : u46 = _ := r46; subst r46; clear hA hD; refine stepOk_want rfl rfl s46 ?_; intro K hK; gi_wp2; exact hK _ _ rfl ((fun _ => Below.refl _ _) _)
           · intro a' w' hA hC hD; obtain ⟨u53, s53, r53⟩ := hD ⟨20, .data⟩ (by simp) rfl _ rfl; replace r53 : u53 = _ := r53; subst r53; obtain ⟨u46, s46, r46⟩ := hD ⟨13, .guard⟩ (by simp) rfl _ rfl; replace r46 : u46 = _ := r46; subst r46
             have h1_ := (HS.out.below hC).blockAt 0 rfl; have c1_0 := cell_of_block (k := 0) h1_ rfl; have c1_1 := cell_of_block (k := 1) h1_ rfl; clear h1_
             clear hA hD; refine stepOk_want rfl rfl s46 ?_; intro K hK; gi_wp2; exact hK _ _ rfl ((fun _ => Below.refl _ _) _)
           · intro a' w' hA hC hD; obtain ⟨u54, s54, r54⟩ := hD ⟨21, .data⟩ (by simp) rfl _ rfl; replace r54 : u54 = _ := r54; subst r54; obtain ⟨u46, s46, r46⟩ := hD ⟨13, .guard⟩ (by simp) rfl _ rfl; replace r46 : u46 = _ := r46; subst r46; clear hA hD; refine stepOk_want rfl rfl s46 ?_; intro K hK; gi_wp2; rw [EQ1.out]; exact hK _ _ rfl ((fun _ => Below.refl _ _) _)
           · intro a' w' hA hC hD; obtain ⟨u52, s52, r52⟩ := hD ⟨19, .data⟩ (by simp) rfl _ rfl; replace r52 : u52 = _ := r52; subst r52; obtain ⟨u55, s55, r55⟩ := hD ⟨22, .data⟩ (by simp) rfl _ rfl; replace r55 : u55 = _ := r55; subst r55; obtain ⟨u46, s46, r46⟩ := hD ⟨13, .guard⟩ (by simp) rfl _ rfl; replace r46 : u46 = _ := r46; subst r46; clear hA hD; refine stepOk_want rfl rfl s46 ?_; intro K hK; gi_wp2; exact hK _ _ rfl ((fun _ => Below.refl _ _) _)
           · intro a' w' hA hC hD; obtain ⟨u46, s46, r46⟩ := hD ⟨13, .data⟩ (by simp) rfl _ rfl; replace r46 : u46 = _ := r46; subst r46; obtain ⟨u56, s56, r56⟩ := hD ⟨23, .data⟩ (by simp) rfl _ rfl; replace r56 : u56 = _ := r56; subst r56; clear hA hD; refine stepOk_plain rfl ?_; intro K hK; gi_wp2; exact hK _ _ rfl ((fun _ => Below.refl _ _) _)
          case hend =>
           intro w5 hC
           simp only [EndFrom, eqv, forall_eq, Act.put, List.length_cons, List.length_nil, List.drop_succ_cons, List.drop_zero, Nat.reduceAdd, List.setIfInBounds_toArray, List.set_cons_succ, List.set_cons_zero]
           have hb5 := grows_trans HS.out.low hC
           have HS := Lib.hid (HS.out.below hC)
           have HO := Lib.hid (HO.out.below hb5)
           clear hC hb5
           gi_wp2
           have p0 := cell_of_block (k := 0) (HS.out.blockAt 0 rfl) rfl
           have l1 := HO.out.cell encS_len m0 ⟨sy, sf, qx - 1⟩ 2 (.int .i64 (qx - 1)) (by rw [← HM0.out]; simp) rfl
           have f1 := HO.out.free (m0 * 3 + 2)
           have ho6 := HO.out.setLast encS_len ⟨sy, sf, qx⟩ 2 (.int .i64 qx) (by decide) rfl
           rw [HM0.out] at ho6
           have HO6 := Lib.hid ho6
           have ecm := ECM.out
           clear ho6
           go_wp2_with fail
           go_roundw
           case rel => exact ⟨k + 1, HLT.out, congrArg (Value.int .i64) e3, by rw [HT.out]; exact HO6.out⟩
           case measure => rw [e3]; have := HLT.out; simp only [intOf]; omega
        · rw [if_neg (fun h => ht h.2)] at HT
          have htF := Lib.hid (show ((st == qx - 1) = false) by simp [ht])
          clear ht
          apply wp_region_vals 25 (Rl := [(eqv _), (eqv _), (eqv _), (eqv _), (eqv _), (eqv _), (eqv _), (eqv _), (eqv _), (eqv _), (eqv _), (eqv _), (eqv _), (eqv _), (eqv _), (eqv _), (eqv _), (eqv _), (eqv _), (eqv _), (eqv _), (eqv _), (eqv _), (eqv _), (eqv _)]) (C := (fun x y => Below x.heap.size x y))
          case hm => kernel_rfl
          case hk => rfl
          case hCr => exact (fun _ => Below.refl _ _)
          case hCt => intro _ _ _; exact (fun h k => grows_trans h k)
          case hst => exact ⟨fun _ _ _ _ h => h, fun _ _ _ _ h => h, fun _ _ _ _ h => h, fun _ _ _ _ h => h, fun _ _ _ _ h => h, fun _ _ _ _ h => h, fun _ _ _ _ h => h, fun _ _ _ _ h => h, fun _ _ _ _ h => h, fun _ _ _ _ h => h, fun _ _ _ _ h => h, fun _ _ _ _ h => h, fun _ _ _ _ h => h, fun _ _ _ _ h => h, fun _ _ _ _ h => h, fun _ _ _ _ h => h, fun _ _ _ _ h => h, fun _ _ _ _ h => h, fun _ _ _ _ h => h, fun _ _ _ _ h => h, fun _ _ _ _ h => h, fun _ _ _ _ h => h, fun _ _ _ _ h => h, fun _ _ _ _ h => h, fun _ _ _ _ h => h, trivial⟩
          case hfo => kernel_rfl
          case ht => kernel_rfl
          case hC0 => exact (grows_drew _)
          case hsteps =>
           refine ⟨?_, ?_, ?_, ?_, ?_, ?_, ?_, ?_, ?_, ?_, ?_, ?_, ?_, ?_, ?_, ?_, ?_, ?_, ?_, ?_, ?_, ?_, ?_, ?_, ?_, trivial⟩
           · intro a' w' hA hC hD; have s13 : a'.tmps[13]? = some _ := (hA.at 13 (by kernel_rfl)).trans rfl; clear hA hD; refine stepOk_plain rfl ?_; intro K hK; gi_wp2; exact hK _ _ rfl ((fun _ => Below.refl _ _) _)
           · intro a' w' hA hC hD; obtain ⟨u33, s33, r33⟩ := hD ⟨0, .data⟩ (by simp) rfl _ rfl; replace r33 : u33 = _ := r33; subst r33; clear hA hD; refine stepOk_plain rfl ?_; intro K hK; gi_wp2; exact hK _ _ rfl ((fun _ => Below.refl _ _) _)
           · intro a' w' hA hC hD; obtain ⟨u34, s34, r34⟩ := hD ⟨1, .data⟩ (by simp) rfl _ rfl; replace r34 : u34 = _ := r34; subst r34; clear hA hD; refine stepOk_plain rfl ?_; intro K hK; gi_wp2; exact hK _ _ rfl ((fun _ => Below.refl _ _) _)
           · intro a' w' hA hC hD; have s10 : a'.tmps[10]? = some _ := (hA.at 10 (by kernel_rfl)).trans rfl; obtain ⟨u35, s35, r35⟩ := hD ⟨2, .guard⟩ (by simp) rfl _ rfl; replace r35 : u35 = _ := r35; subst r35; clear hA hD; refine stepOk_want rfl rfl s35 ?_; intro K hK; gi_wp2; exact hK _ _ rfl ((fun _ => Below.refl _ _) _)
           · intro a' w' hA hC hD; have s13 : a'.tmps[13]? = some _ := (hA.at 13 (by kernel_rfl)).trans rfl; obtain ⟨u35, s35, r35⟩ := hD ⟨2, .guard⟩ (by simp) rfl _ rfl; replace r35 : u35 = _ := r35; subst r35; clear hA hD; refine stepOk_want rfl rfl s35 ?_; intro K hK; gi_wp2; exact hK _ _ rfl ((fun _ => Below.refl _ _) _)
           · intro a' w' hA hC hD; obtain ⟨u37, s37, r37⟩ := hD ⟨4, .data⟩ (by simp) rfl _ rfl; replace r37 : u37 = _ := r37; subst r37; obtain ⟨u35, s35, r35⟩ := hD ⟨2, .guard⟩ (by simp) rfl _ rfl; replace r35 : u35 = _ := r35; subst r35; clear hA hD; refine stepOk_want rfl rfl s35 ?_; intro K hK; gi_wp2; rw [ECM.out]; exact hK _ _ rfl ((fun _ => Below.refl _ _) _)
           · intro a' w' hA hC hD; obtain ⟨u36, s36, r36⟩ := hD ⟨3, .data⟩ (by simp) rfl _ rfl; replace r36 : u36 = _ := r36; subst r36; obtain ⟨u38, s38, r38⟩ := hD ⟨5, .data⟩ (by simp) rfl _ rfl; replace r38 : u38 = _ := r38; subst r38; obtain ⟨u35, s35, r35⟩ := hD ⟨2, .guard⟩ (by simp) rfl _ rfl; replace r35 : u35 = _ := r35; subst r35; clear hA hD; refine stepOk_want rfl rfl s35 ?_; intro K hK; gi_wp2; exact hK _ _ rfl ((fun _ => Below.refl _ _) _)
           · intro a' w' hA hC hD; obtain ⟨u39, s39, r39⟩ := hD ⟨6, .data⟩ (by simp) rfl _ rfl; replace r39 : u39 = _ := r39; subst r39; obtain ⟨u35, s35, r35⟩ := hD ⟨2, .guard⟩ (by simp) rfl _ rfl; replace r35 : u35 = _ := r35; subst r35; clear hA hD; refine stepOk_want rfl rfl s35 ?_; intro K hK; gi_wp2; exact hK _ _ rfl ((fun _ => Below.refl _ _) _)
           · intro a' w' hA hC hD; obtain ⟨u40, s40, r40⟩ := hD ⟨7, .data⟩ (by simp) rfl _ rfl; replace r40 : u40 = _ := r40; subst r40; obtain ⟨u35, s35, r35⟩ := hD ⟨2, .guard⟩ (by simp) rfl _ rfl; replace r35 : u35 = _ := r35; subst r35
             have b1 := HCY.out w' (grows_trans HS.out.low hC)
             clear hA hD; refine stepOk_want rfl rfl s35 ?_; intro K hK; gi_wp2; exact hK _ _ rfl ((fun _ => Below.refl _ _) _)
           · intro a' w' hA hC hD; have s12 : a'.tmps[12]? = some _ := (hA.at 12 (by kernel_rfl)).trans rfl; obtain ⟨u35, s35, r35⟩ := hD ⟨2, .guard⟩ (by simp) rfl _ rfl; replace r35 : u35 = _ := r35; subst r35; clear hA hD; refine stepOk_want rfl rfl s35 ?_; intro K hK; gi_wp2; exact hK _ _ rfl ((fun _ => Below.refl _ _) _)
           · intro a' w' hA hC hD; obtain ⟨u42, s42, r42⟩ := hD ⟨9, .data⟩ (by simp) rfl _ rfl; replace r42 : u42 = _ := r42; subst r42; obtain ⟨u35, s35, r35⟩ := hD ⟨2, .guard⟩ (by simp) rfl _ rfl; replace r35 : u35 = _ := r35; subst r35
             have h1_ := (HS.out.below hC).blockAt 0 rfl; have c1_0 := cell_of_block (k := 0) h1_ rfl; have c1_1 := cell_of_block (k := 1) h1_ rfl; clear h1_
             clear hA hD; refine stepOk_want rfl rfl s35 ?_; intro K hK; gi_wp2; exact hK _ _ rfl ((fun _ => Below.refl _ _) _)
           · intro a' w' hA hC hD; obtain ⟨u41, s41, r41⟩ := hD ⟨8, .data⟩ (by simp) rfl _ rfl; replace r41 : u41 = _ := r41; subst r41; obtain ⟨u43, s43, r43⟩ := hD ⟨10, .data⟩ (by simp) rfl _ rfl; replace r43 : u43 = _ := r43; subst r43; obtain ⟨u35, s35, r35⟩ := hD ⟨2, .guard⟩ (by simp) rfl _ rfl; replace r35 : u35 = _ := r35; subst r35; clear hA hD; refine stepOk_want rfl rfl s35 ?_; intro K hK; gi_wp2; exact hK _ _ rfl ((fun _ => Below.refl _ _) _)
           · intro a' w' hA hC hD; obtain ⟨u35, s35, r35⟩ := hD ⟨2, .data⟩ (by simp) rfl _ rfl; replace r35 : u35 = _ := r35; subst r35; obtain ⟨u44, s44, r44⟩ := hD ⟨11, .data⟩ (by simp) rfl _ rfl; replace r44 : u44 = _ := r44; subst r44; clear hA hD; refine stepOk_plain rfl ?_; intro K hK; gi_wp2; exact hK _ _ rfl ((fun _ => Below.refl _ _) _)
           · intro a' w' hA hC hD; obtain ⟨u45, s45, r45⟩ := hD ⟨12, .data⟩ (by simp) rfl _ rfl; replace r45 : u45 = _ := r45; subst r45; clear hA hD; refine stepOk_plain rfl ?_; intro K hK; gi_wp2; exact hK _ _ rfl ((fun _ => Below.refl _ _) _)
           · intro a' w' hA hC hD; have s10 : a'.tmps[10]? = some _ := (hA.at 10 (by kernel_rfl)).trans rfl; obtain ⟨u46, s46, r46⟩ := hD ⟨13, .guard⟩ (by simp) rfl _ rfl; replace r46 : u46 = _ := r46; subst r46; clear hA hD; refine stepOk_want rfl rfl s46 ?_; intro K hK; gi_wp2; exact hK _ _ rfl ((fun _ => Below.refl _ _) _)
           · intro a' w' hA hC hD; have s13 : a'.tmps[13]? = some _ := (hA.at 13 (by kernel_rfl)).trans rfl; obtain ⟨u46, s46, r46⟩ := hD ⟨13, .guard⟩ (by simp) rfl _ rfl; replace r46 : u46 = _ := r46; subst r46; clear hA hD; refine stepOk_want rfl rfl s46 ?_; intro K hK; gi_wp2; exact hK _ _ rfl ((fun _ => Below.refl _ _) _)
           · intro a' w' hA hC hD; obtain ⟨u48, s48, r48⟩ := hD ⟨15, .data⟩ (by simp) rfl _ rfl; replace r48 : u48 = _ := r48; subst r48; obtain ⟨u46, s46, r46⟩ := hD ⟨13, .guard⟩ (by simp) rfl _ rfl; replace r46 : u46 = _ := r46; subst r46; clear hA hD; refine stepOk_want rfl rfl s46 ?_; intro K hK; gi_wp2; rw [ECM.out]; exact hK _ _ rfl ((fun _ => Below.refl _ _) _)
           · intro a' w' hA hC hD; obtain ⟨u47, s47, r47⟩ := hD ⟨14, .data⟩ (by simp) rfl _ rfl; replace r47 : u47 = _ := r47; subst r47; obtain ⟨u49, s49, r49⟩ := hD ⟨16, .data⟩ (by simp) rfl _ rfl; replace r49 : u49 = _ := r49; subst r49; obtain ⟨u46, s46, r46⟩ := hD ⟨13, .guard⟩ (by simp) rfl _ rfl; replace r46 : u46 = _ := r46; subst r46; clear hA hD; refine stepOk_want rfl rfl s46 ?_; intro K hK; gi_wp2; exact hK _ _ rfl ((fun _ => Below.refl _ _) _)
           · intro a' w' hA hC hD; obtain ⟨u50, s50, r50⟩ := hD ⟨17, .data⟩ (by simp) rfl _ rfl; replace r50 : u50 = _ := r50; subst r50; obtain ⟨u46, s46, r46⟩ := hD ⟨13, .guard⟩ (by simp) rfl _ rfl; replace r46 : u46 = _ := r46; subst r46; clear hA hD; refine stepOk_want rfl rfl s46 ?_; intro K hK; gi_wp2; exact hK _ _ rfl ((fun _ => Below.refl _ _) _)
           · intro a' w' hA hC hD; obtain ⟨u51, s51, r51⟩ := hD ⟨18, .data⟩ (by simp) rfl _ rfl; replace r51 : u51 = _ := r51; subst r51; obtain ⟨u46, s46, r46⟩ := hD ⟨13, .guard⟩ (by simp) rfl _ rfl; replace r46 : u46 = _ := r46; subst r46
             have b1 := HCT.out w' (grows_trans HS.out.low hC)
             clear hA hD; refine stepOk_want rfl rfl s46 ?_; intro K hK; gi_wp2; exact hK _ _ rfl ((fun _ => Below.refl _ _) _)
           · intro a' w' hA hC hD; have s12 : a'.tmps[12]? = some _ := (hA.at 12 (by kernel_rfl)).trans rfl; obtain ⟨u46, s46, r46⟩ := hD ⟨13, .guard⟩ (by simp) rfl _ rfl; replace r46 : u46 = _ := r46; subst r46; clear hA hD; refine stepOk_want rfl rfl s46 ?_; intro K hK; gi_wp2; exact hK _ _ rfl ((fun _ => Below.refl _ _) _)
           · intro a' w' hA hC hD; obtain ⟨u53, s53, r53⟩ := hD ⟨20, .data⟩ (by simp) rfl _ rfl; replace r53 : u53 = _ := r53; subst r53; obtain ⟨u46, s46, r46⟩ := hD ⟨13, .guard⟩ (by simp) rfl _ rfl; replace r46 : u46 = _ := r46; subst r46
             have h1_ := (HS.out.below hC).blockAt 0 rfl; have c1_0 := cell_of_block (k := 0) h1_ rfl; have c1_1 := cell_of_block (k := 1) h1_ rfl; clear h1_
             clear hA hD; refine stepOk_want rfl rfl s46 ?_; intro K hK; gi_wp2; exact hK _ _ rfl ((fun _ => Below.refl _ _) _)
           · intro a' w' hA hC hD; obtain ⟨u54, s54, r54⟩ := hD ⟨21, .data⟩ (by simp) rfl _ rfl; replace r54 : u54 = _ := r54; subst r54; obtain ⟨u46, s46, r46⟩ := hD ⟨13, .guard⟩ (by simp) rfl _ rfl; replace r46 : u46 = _ := r46; subst r46; clear hA hD; refine stepOk_want rfl rfl s46 ?_; intro K hK; gi_wp2; rw [EQ1.out]; exact hK _ _ rfl ((fun _ => Below.refl _ _) _)
           · intro a' w' hA hC hD; obtain ⟨u52, s52, r52⟩ := hD ⟨19, .data⟩ (by simp) rfl _ rfl; replace r52 : u52 = _ := r52; subst r52; obtain ⟨u55, s55, r55⟩ := hD ⟨22, .data⟩ (by simp) rfl _ rfl; replace r55 : u55 = _ := r55; subst r55; obtain ⟨u46, s46, r46⟩ := hD ⟨13, .guard⟩ (by simp) rfl _ rfl; replace r46 : u46 = _ := r46; subst r46; clear hA hD; refine stepOk_want rfl rfl s46 ?_; intro K hK; gi_wp2; rw [htF.out]; exact hK _ _ rfl ((fun _ => Below.refl _ _) _)
           · intro a' w' hA hC hD; obtain ⟨u46, s46, r46⟩ := hD ⟨13, .data⟩ (by simp) rfl _ rfl; replace r46 : u46 = _ := r46; subst r46; obtain ⟨u56, s56, r56⟩ := hD ⟨23, .data⟩ (by simp) rfl _ rfl; replace r56 : u56 = _ := r56; subst r56; clear hA hD; refine stepOk_plain rfl ?_; intro K hK; gi_wp2; exact hK _ _ rfl ((fun _ => Below.refl _ _) _)
          case hend =>
           intro w5 hC
           simp only [EndFrom, eqv, forall_eq, Act.put, List.length_cons, List.length_nil, List.drop_succ_cons, List.drop_zero, Nat.reduceAdd, List.setIfInBounds_toArray, List.set_cons_succ, List.set_cons_zero]
           have hb5 := grows_trans HS.out.low hC
           have HS := Lib.hid (HS.out.below hC)
           have HO := Lib.hid (HO.out.below hb5)
           clear hC hb5
           gi_wp2
           have p0 := cell_of_block (k := 0) (HS.out.blockAt 0 rfl) rfl
           have p1 := cell_of_block (k := 1) (HS.out.blockAt 0 rfl) rfl
           go_wp2_with (at_builtin; refine wpList_app1 rowS encS_len encS_one HO.out (Below.refl _ _) ⟨sy, qx, qx⟩ _ rfl (by have := HL.out; have := HM0.out; simp only [List.length_append, List.length_cons, List.length_nil] at *; omega) (by decide) _ _ rfl rfl rfl _ rfl (by simp) ?_; intro v' w6 ho6 hsh6; have HO6 := Lib.hid ho6; clear ho6 hsh6)
           go_roundw
           case rel => exact ⟨k + 1, HLT.out, congrArg (Value.int .i64) e3, by rw [HT.out]; exact HO6.out⟩
           case measure => rw [e3]; have := HLT.out; simp only [intOf]; omega
      · rw [if_neg (fun h => hy h.1)] at HT
        have hyF := Lib.hid (show ((sy == qy) = false) by simp [hy])
        clear hy
        apply wp_region_vals 25 (Rl := [(eqv _), (eqv _), (eqv _), (eqv _), (eqv _), (eqv _), (eqv _), (eqv _), (eqv _), (eqv _), (eqv _), (eqv _), (eqv _), (eqv _), (fun v_ _ => v_ = (undef : Value)), (fun v_ _ => v_ = (undef : Value)), (fun v_ _ => v_ = (undef : Value)), (fun v_ _ => v_ = (undef : Value)), (fun v_ _ => v_ = (undef : Value)), (fun v_ _ => v_ = (undef : Value)), (fun v_ _ => v_ = (undef : Value)), (fun v_ _ => v_ = (undef : Value)), (fun v_ _ => v_ = (undef : Value)), (fun v_ _ => v_ = (undef : Value)), (eqv _)]) (C := (fun x y => Below x.heap.size x y))
        case hm => kernel_rfl
        case hk => rfl
        case hCr => exact (fun _ => Below.refl _ _)
        case hCt => intro _ _ _; exact (fun h k => grows_trans h k)
        case hst => exact ⟨fun _ _ _ _ h => h, fun _ _ _ _ h => h, fun _ _ _ _ h => h, fun _ _ _ _ h => h, fun _ _ _ _ h => h, fun _ _ _ _ h => h, fun _ _ _ _ h => h, fun _ _ _ _ h => h, fun _ _ _ _ h => h, fun _ _ _ _ h => h, fun _ _ _ _ h => h, fun _ _ _ _ h => h, fun _ _ _ _ h => h, fun _ _ _ _ h => h, fun _ _ _ _ h => h, fun _ _ _ _ h => h, fun _ _ _ _ h => h, fun _ _ _ _ h => h, fun _ _ _ _ h => h, fun _ _ _ _ h => h, fun _ _ _ _ h => h, fun _ _ _ _ h => h, fun _ _ _ _ h => h, fun _ _ _ _ h => h, fun _ _ _ _ h => h, trivial⟩
        case hfo => kernel_rfl
        case ht => kernel_rfl
        case hC0 => exact (grows_drew _)
        case hsteps =>
         refine ⟨?_, ?_, ?_, ?_, ?_, ?_, ?_, ?_, ?_, ?_, ?_, ?_, ?_, ?_, ?_, ?_, ?_, ?_, ?_, ?_, ?_, ?_, ?_, ?_, ?_, trivial⟩
         · intro a' w' hA hC hD; have s13 : a'.tmps[13]? = some _ := (hA.at 13 (by kernel_rfl)).trans rfl; clear hA hD; refine stepOk_plain rfl ?_; intro K hK; gi_wp2; exact hK _ _ rfl ((fun _ => Below.refl _ _) _)
         · intro a' w' hA hC hD; obtain ⟨u33, s33, r33⟩ := hD ⟨0, .data⟩ (by simp) rfl _ rfl; replace r33 : u33 = _ := r33; subst r33; clear hA hD; refine stepOk_plain rfl ?_; intro K hK; gi_wp2; exact hK _ _ rfl ((fun _ => Below.refl _ _) _)
         · intro a' w' hA hC hD; obtain ⟨u34, s34, r34⟩ := hD ⟨1, .data⟩ (by simp) rfl _ rfl; replace r34 : u34 = _ := r34; subst r34; clear hA hD; refine stepOk_plain rfl ?_; intro K hK; gi_wp2; exact hK _ _ rfl ((fun _ => Below.refl _ _) _)
         · intro a' w' hA hC hD; have s10 : a'.tmps[10]? = some _ := (hA.at 10 (by kernel_rfl)).trans rfl; obtain ⟨u35, s35, r35⟩ := hD ⟨2, .guard⟩ (by simp) rfl _ rfl; replace r35 : u35 = _ := r35; subst r35; clear hA hD; refine stepOk_want rfl rfl s35 ?_; intro K hK; gi_wp2; exact hK _ _ rfl ((fun _ => Below.refl _ _) _)
         · intro a' w' hA hC hD; have s13 : a'.tmps[13]? = some _ := (hA.at 13 (by kernel_rfl)).trans rfl; obtain ⟨u35, s35, r35⟩ := hD ⟨2, .guard⟩ (by simp) rfl _ rfl; replace r35 : u35 = _ := r35; subst r35; clear hA hD; refine stepOk_want rfl rfl s35 ?_; intro K hK; gi_wp2; exact hK _ _ rfl ((fun _ => Below.refl _ _) _)
         · intro a' w' hA hC hD; obtain ⟨u37, s37, r37⟩ := hD ⟨4, .data⟩ (by simp) rfl _ rfl; replace r37 : u37 = _ := r37; subst r37; obtain ⟨u35, s35, r35⟩ := hD ⟨2, .guard⟩ (by simp) rfl _ rfl; replace r35 : u35 = _ := r35; subst r35; clear hA hD; refine stepOk_want rfl rfl s35 ?_; intro K hK; gi_wp2; rw [ECM.out]; exact hK _ _ rfl ((fun _ => Below.refl _ _) _)
         · intro a' w' hA hC hD; obtain ⟨u36, s36, r36⟩ := hD ⟨3, .data⟩ (by simp) rfl _ rfl; replace r36 : u36 = _ := r36; subst r36; obtain ⟨u38, s38, r38⟩ := hD ⟨5, .data⟩ (by simp) rfl _ rfl; replace r38 : u38 = _ := r38; subst r38; obtain ⟨u35, s35, r35⟩ := hD ⟨2, .guard⟩ (by simp) rfl _ rfl; replace r35 : u35 = _ := r35; subst r35; clear hA hD; refine stepOk_want rfl rfl s35 ?_; intro K hK; gi_wp2; exact hK _ _ rfl ((fun _ => Below.refl _ _) _)
         · intro a' w' hA hC hD; obtain ⟨u39, s39, r39⟩ := hD ⟨6, .data⟩ (by simp) rfl _ rfl; replace r39 : u39 = _ := r39; subst r39; obtain ⟨u35, s35, r35⟩ := hD ⟨2, .guard⟩ (by simp) rfl _ rfl; replace r35 : u35 = _ := r35; subst r35; clear hA hD; refine stepOk_want rfl rfl s35 ?_; intro K hK; gi_wp2; exact hK _ _ rfl ((fun _ => Below.refl _ _) _)
         · intro a' w' hA hC hD; obtain ⟨u40, s40, r40⟩ := hD ⟨7, .data⟩ (by simp) rfl _ rfl; replace r40 : u40 = _ := r40; subst r40; obtain ⟨u35, s35, r35⟩ := hD ⟨2, .guard⟩ (by simp) rfl _ rfl; replace r35 : u35 = _ := r35; subst r35
           have b1 := HCY.out w' (grows_trans HS.out.low hC)
           clear hA hD; refine stepOk_want rfl rfl s35 ?_; intro K hK; gi_wp2; exact hK _ _ rfl ((fun _ => Below.refl _ _) _)
         · intro a' w' hA hC hD; have s12 : a'.tmps[12]? = some _ := (hA.at 12 (by kernel_rfl)).trans rfl; obtain ⟨u35, s35, r35⟩ := hD ⟨2, .guard⟩ (by simp) rfl _ rfl; replace r35 : u35 = _ := r35; subst r35; clear hA hD; refine stepOk_want rfl rfl s35 ?_; intro K hK; gi_wp2; exact hK _ _ rfl ((fun _ => Below.refl _ _) _)
         · intro a' w' hA hC hD; obtain ⟨u42, s42, r42⟩ := hD ⟨9, .data⟩ (by simp) rfl _ rfl; replace r42 : u42 = _ := r42; subst r42; obtain ⟨u35, s35, r35⟩ := hD ⟨2, .guard⟩ (by simp) rfl _ rfl; replace r35 : u35 = _ := r35; subst r35
           have h1_ := (HS.out.below hC).blockAt 0 rfl; have c1_0 := cell_of_block (k := 0) h1_ rfl; have c1_1 := cell_of_block (k := 1) h1_ rfl; clear h1_
           clear hA hD; refine stepOk_want rfl rfl s35 ?_; intro K hK; gi_wp2; exact hK _ _ rfl ((fun _ => Below.refl _ _) _)
         · intro a' w' hA hC hD; obtain ⟨u41, s41, r41⟩ := hD ⟨8, .data⟩ (by simp) rfl _ rfl; replace r41 : u41 = _ := r41; subst r41; obtain ⟨u43, s43, r43⟩ := hD ⟨10, .data⟩ (by simp) rfl _ rfl; replace r43 : u43 = _ := r43; subst r43; obtain ⟨u35, s35, r35⟩ := hD ⟨2, .guard⟩ (by simp) rfl _ rfl; replace r35 : u35 = _ := r35; subst r35; clear hA hD; refine stepOk_want rfl rfl s35 ?_; intro K hK; gi_wp2; rw [hyF.out]; exact hK _ _ rfl ((fun _ => Below.refl _ _) _)
         · intro a' w' hA hC hD; obtain ⟨u35, s35, r35⟩ := hD ⟨2, .data⟩ (by simp) rfl _ rfl; replace r35 : u35 = _ := r35; subst r35; obtain ⟨u44, s44, r44⟩ := hD ⟨11, .data⟩ (by simp) rfl _ rfl; replace r44 : u44 = _ := r44; subst r44; clear hA hD; refine stepOk_plain rfl ?_; intro K hK; gi_wp2; exact hK _ _ rfl ((fun _ => Below.refl _ _) _)
         · intro a' w' hA hC hD; obtain ⟨u45, s45, r45⟩ := hD ⟨12, .data⟩ (by simp) rfl _ rfl; replace r45 : u45 = _ := r45; subst r45; clear hA hD; refine stepOk_plain rfl ?_; intro K hK; gi_wp2; exact hK _ _ rfl ((fun _ => Below.refl _ _) _)
         · intro a' w' hA hC hD; have s10 : a'.tmps[10]? = some _ := (hA.at 10 (by kernel_rfl)).trans rfl; obtain ⟨u46, s46, r46⟩ := hD ⟨13, .guard⟩ (by simp) rfl _ rfl; replace r46 : u46 = _ := r46; subst r46; clear hA hD
           exact stepOk_skip rfl rfl s46 rfl
         · intro a' w' hA hC hD; have s13 : a'.tmps[13]? = some _ := (hA.at 13 (by kernel_rfl)).trans rfl; obtain ⟨u46, s46, r46⟩ := hD ⟨13, .guard⟩ (by simp) rfl _ rfl; replace r46 : u46 = _ := r46; subst r46; clear hA hD
           exact stepOk_skip rfl rfl s46 rfl
         · intro a' w' hA hC hD; obtain ⟨u48, s48, r48⟩ := hD ⟨15, .data⟩ (by simp) rfl _ rfl; replace r48 : u48 = undef := r48; subst r48; obtain ⟨u46, s46, r46⟩ := hD ⟨13, .guard⟩ (by simp) rfl _ rfl; replace r46 : u46 = _ := r46; subst r46; clear hA hD
           exact stepOk_skip rfl rfl s46 rfl
         · intro a' w' hA hC hD; obtain ⟨u47, s47, r47⟩ := hD ⟨14, .data⟩ (by simp) rfl _ rfl; replace r47 : u47 = undef := r47; subst r47; obtain ⟨u49, s49, r49⟩ := hD ⟨16, .data⟩ (by simp) rfl _ rfl; replace r49 : u49 = undef := r49; subst r49; obtain ⟨u46, s46, r46⟩ := hD ⟨13, .guard⟩ (by simp) rfl _ rfl; replace r46 : u46 = _ := r46; subst r46; clear hA hD
           exact stepOk_skip rfl rfl s46 rfl
         · intro a' w' hA hC hD; obtain ⟨u50, s50, r50⟩ := hD ⟨17, .data⟩ (by simp) rfl _ rfl; replace r50 : u50 = undef := r50; subst r50; obtain ⟨u46, s46, r46⟩ := hD ⟨13, .guard⟩ (by simp) rfl _ rfl; replace r46 : u46 = _ := r46; subst r46; clear hA hD
           exact stepOk_skip rfl rfl s46 rfl
         · intro a' w' hA hC hD; obtain ⟨u51, s51, r51⟩ := hD ⟨18, .data⟩ (by simp) rfl _ rfl; replace r51 : u51 = undef := r51; subst r51; obtain ⟨u46, s46, r46⟩ := hD ⟨13, .guard⟩ (by simp) rfl _ rfl; replace r46 : u46 = _ := r46; subst r46; clear hA hD
           exact stepOk_skip rfl rfl s46 rfl
         · intro a' w' hA hC hD; have s12 : a'.tmps[12]? = some _ := (hA.at 12 (by kernel_rfl)).trans rfl; obtain ⟨u46, s46, r46⟩ := hD ⟨13, .guard⟩ (by simp) rfl _ rfl; replace r46 : u46 = _ := r46; subst r46; clear hA hD
           exact stepOk_skip rfl rfl s46 rfl
         · intro a' w' hA hC hD; obtain ⟨u53, s53, r53⟩ := hD ⟨20, .data⟩ (by simp) rfl _ rfl; replace r53 : u53 = undef := r53; subst r53; obtain ⟨u46, s46, r46⟩ := hD ⟨13, .guard⟩ (by simp) rfl _ rfl; replace r46 : u46 = _ := r46; subst r46; clear hA hD
           exact stepOk_skip rfl rfl s46 rfl
         · intro a' w' hA hC hD; obtain ⟨u54, s54, r54⟩ := hD ⟨21, .data⟩ (by simp) rfl _ rfl; replace r54 : u54 = undef := r54; subst r54; obtain ⟨u46, s46, r46⟩ := hD ⟨13, .guard⟩ (by simp) rfl _ rfl; replace r46 : u46 = _ := r46; subst r46; clear hA hD
           exact stepOk_skip rfl rfl s46 rfl
         · intro a' w' hA hC hD; obtain ⟨u52, s52, r52⟩ := hD ⟨19, .data⟩ (by simp) rfl _ rfl; replace r52 : u52 = undef := r52; subst r52; obtain ⟨u55, s55, r55⟩ := hD ⟨22, .data⟩ (by simp) rfl _ rfl; replace r55 : u55 = undef := r55; subst r55; obtain ⟨u46, s46, r46⟩ := hD ⟨13, .guard⟩ (by simp) rfl _ rfl; replace r46 : u46 = _ := r46; subst r46; clear hA hD
           exact stepOk_skip rfl rfl s46 rfl
         · intro a' w' hA hC hD; obtain ⟨u46, s46, r46⟩ := hD ⟨13, .data⟩ (by simp) rfl _ rfl; replace r46 : u46 = _ := r46; subst r46; obtain ⟨u56, s56, r56⟩ := hD ⟨23, .data⟩ (by simp) rfl _ rfl; replace r56 : u56 = undef := r56; subst r56; clear hA hD; refine stepOk_plain rfl ?_; intro K hK; gi_wp2; exact hK _ _ rfl ((fun _ => Below.refl _ _) _)
        case hend =>
         intro w5 hC
         simp only [EndFrom, eqv, forall_eq, Act.put, List.length_cons, List.length_nil, List.drop_succ_cons, List.drop_zero, Nat.reduceAdd, List.setIfInBounds_toArray, List.set_cons_succ, List.set_cons_zero]
         have hb5 := grows_trans HS.out.low hC
         have HS := Lib.hid (HS.out.below hC)
         have HO := Lib.hid (HO.out.below hb5)
         clear hC hb5
         gi_wp2
         have p0 := cell_of_block (k := 0) (HS.out.blockAt 0 rfl) rfl
         have p1 := cell_of_block (k := 1) (HS.out.blockAt 0 rfl) rfl
         go_wp2_with (at_builtin; refine wpList_app1 rowS encS_len encS_one HO.out (Below.refl _ _) ⟨qy, qx, qx⟩ _ rfl (by have := HL.out; have := HM0.out; simp only [List.length_append, List.length_cons, List.length_nil] at *; omega) (by decide) _ _ rfl rfl rfl _ rfl (by simp) ?_; intro v' w6 ho6 hsh6; have HO6 := Lib.hid ho6; clear ho6 hsh6)
         go_roundw
         case rel => exact ⟨k + 1, HLT.out, congrArg (Value.int .i64) e3, by rw [HT.out]; exact HO6.out⟩
         case measure => rw [e3]; have := HLT.out; simp only [intOf]; omega
  · have hkn : k = n := by omega
    subst hkn
    have hq : Q.take k = Q := List.take_of_length_le (by rw [HN.out]; exact Nat.le_refl _)
    rw [hq] at HO
    clear hlt hk hq
    go_wp2
    refine bodyPost_ret (v := .tuple #[_, .int .i64 0]) (by simp [results, Tryz.results6, go_sem]) rfl ⟨_, rfl, ownsRow_mono HO.out.row HO.out.low, HO.out.st.low⟩
end Go.Proofs.YtodpkgbpcpfamaaGreat
