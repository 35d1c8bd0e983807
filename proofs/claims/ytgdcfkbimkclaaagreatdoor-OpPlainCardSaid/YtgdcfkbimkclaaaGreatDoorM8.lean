/- Merged texts: ShB. -/
import Derived.Test.YtgdcfkbimkclaaaGreatDoorM2
set_option linter.unusedSimpArgs false
set_option linter.unusedVariables false
/- Layer 6: Check; the document's Right. -/
namespace Go.Proofs.YtgdcfkbimkclaaaGreatDoor
open Go.RowKit Go.Shelf
def spB (s : SpT) : Bool := reachB s.y && (reachB s.f && (reachB s.t && decide (s.f ≤ s.t)))
def ordB (a b : SpT) : Bool := decide (a.y < b.y ∨ a.y = b.y ∧ a.t + 1 < b.f)
/-- Is it a row of spans? -/
structure RightP (l : List SpT) : Prop where
 sp : ∀ k (h : k < l.length), spB l[k] = true
 ord : ∀ k (h : k + 1 < l.length), ordB l[k] l[k + 1] = true
open Classical in
noncomputable def rightB (l : List SpT) : Bool := decide (RightP l)
theorem rightB_iff (l : List SpT) : rightB l = true ↔ RightP l := by simp [rightB]
theorem rightB_sp {l : List SpT} {k : Nat} (h : k < l.length) (hs : spB l[k] = false) : rightB l = false := by
 rw [← Bool.not_eq_true, rightB_iff]
 intro H
 rw [H.sp k h] at hs
 cases hs
theorem rightB_ord {l : List SpT} {k : Nat} (h : k + 1 < l.length) (hs : ordB l[k] l[k + 1] = false) : rightB l = false := by
 rw [← Bool.not_eq_true, rightB_iff]
 intro H
 rw [H.ord k h] at hs
 cases hs
/-- A span's cells. -/
theorem spCells {w : World} {a : Option Addr} {n cap : Nat} {l : List SpT} (hn : l.length = n) (h : Elems w (.slice a n cap) n 3 (rowC encS l)) (k : Nat) (x : SpT) (hx : l[k]? = some x) :
 ∃ b off, a = some ⟨b, off, none⟩ ∧ b < w.heap.size ∧ w.cell? ⟨b, off + k * 3, none⟩ = some (.int .i64 x.y) ∧ w.cell? ⟨b, off + k * 3 + 1, none⟩ = some (.int .i64 x.f) ∧ w.cell? ⟨b, off + k * 3 + 2, none⟩ = some (.int .i64 x.t) := by
 subst hn
 have hk := (List.getElem?_eq_some_iff.1 hx).1
 obtain ⟨e, h0⟩ | ⟨b, off, cap', e, hlt, hc⟩ := h
 · omega
 · cases e
   have g := rowElem encS_len hc hx
   exact ⟨b, off, rfl, hlt, by simpa using g 0 _ rfl, g 1 _ rfl, g 2 _ rfl⟩
set_option maxRecDepth 100000 in
set_option maxHeartbeats 4000000 in
theorem check_any (a : Option Addr) (n cap : Nat) (l : List SpT) (hl : l.length = n) (hn : n ≤ 1000000000) (w : World) (h : Elems w (.slice a n cap) n 3 (rowC encS l)) :
 Calls Tryz.prog 34 #[.slice a n cap] w (Gives (.int .i64 (errOf (rightB l) 160)) w) := by
 have HS := H7 ((St.start w).addRow h)
 have HL := H7 hl
 clear h hl
 go_enter Tryz.func34, Tryz.ntmps34
 go_wp2_with fail
 go_loopw [7] (fun i wr => ∃ k : Nat, k ≤ n ∧ i = .int .i64 (k : Int) ∧ St w [.row (.slice a n cap) n 3 (rowC encS l) w.heap.size] wr ∧ (∀ j (hj : j < l.length), j < k → spB l[j] = true) ∧ ∀ j (hj : j + 1 < l.length), j + 1 < k → ordB l[j] l[j + 1] = true) (fun i _ => n - (intOf i).toNat)
 case atStart => exact ⟨0, by omega, rfl, HS.out, fun j _ h => by omega, fun j _ h => by omega⟩
 case round =>
  obtain ⟨k, hk, rfl, hs, hall, hord⟩ := hrel
  clear HS
  have HS := H7 hs
  have HA := H7 hall
  have HO := H7 hord
  clear hs hall hord
  by_cases hlt : k < n
  · have HLT := H7 (show k < l.length by rw [HL.out]; exact hlt)
    have wk : wrap64 ((k : Int) + 1) = ((k + 1 : Nat) : Int) := by unfold wrap64; omega
    obtain ⟨x, hx⟩ : ∃ x, l[k]? = some x := ⟨_, List.getElem?_eq_getElem HLT.out⟩
    obtain ⟨bb, off, rfl, hbb, c0, c1, c2⟩ := spCells HL.out (HS.out.elems 0 rfl) k x hx
    have HX := H7 (show l[k]'HLT.out = x from (List.getElem?_eq_some_iff.1 hx).2)
    obtain ⟨xy, xf, xt⟩ := x
    simp only at c0 c1 c2
    clear hx hbb
    repeat ((fail_if_success (with_reducible refine stop_at (id := 4) ?_)); (first | go_values | go_skip | go_guarded | go_step | go_upon | go_back | (simp only [Int.not_lt, Int.not_le] at *; go_simp) | (go_values <;> (try go_simp)) | (go_ite <;> go_prune <;> (try go_simp)) | (split <;> (first | (rename_i hx; exact (hx _ rfl).elim) | go_prune))))
    clear c0 c1 c2
    have hs_ := (HS.out.alloc (.cells #[.int .i64 xy, .int .i64 xf, .int .i64 xt] 47))
    obtain ⟨w3, hw_⟩ : ∃ w3 : World, (wr.alloc (.cells #[.int .i64 xy, .int .i64 xf, .int .i64 xt] 47)) = w3 := ⟨_, rfl⟩
    rw [hw_] at hs_
    try simp only [World.size_alloc] at hs_
    have HS := H7 hs_
    rw [hw_]
    clear hw_ hs_
    have k0 := h7c HS 0 0 rfl rfl
    have k1 := h7c HS 0 1 rfl rfl
    have k2 := h7c HS 0 2 rfl rfl
    by_cases h1 : min xy xf < -256
    · have HB := H7 (show spB ⟨xy, xf, xt⟩ = false by simp [spB, reachB]; omega)
      go_wp2_with fail
      go_ret
      exact ⟨by rw [rightB_sp HLT.out (HX.out ▸ HB.out)]; rfl, HS.out.low⟩
    by_cases h2 : 255 < max xy xt
    · have HB := H7 (show spB ⟨xy, xf, xt⟩ = false by simp [spB, reachB]; omega)
      go_wp2_with fail
      go_ret
      exact ⟨by rw [rightB_sp HLT.out (HX.out ▸ HB.out)]; rfl, HS.out.low⟩
    by_cases h3 : xt < xf
    · have HB := H7 (show spB ⟨xy, xf, xt⟩ = false by simp [spB, reachB]; omega)
      go_wp2_with fail
      go_ret
      exact ⟨by rw [rightB_sp HLT.out (HX.out ▸ HB.out)]; rfl, HS.out.low⟩
    have HB := H7 (show spB ⟨xy, xf, xt⟩ = true by simp [spB, reachB]; omega)
    go_wp2_with fail
    clear k0 k1 k2 h1 h2 h3
    cases k with
    | zero =>
     refine (wpIn_wide (n := 0)).1 ?_
     apply w7v 36 (Rl := [(eqv _), (eqv _), (eqv _), (fun v_ _ => v_ = (undef : Value)), (fun v_ _ => v_ = (undef : Value)), (fun v_ _ => v_ = (undef : Value)), (fun v_ _ => v_ = (undef : Value)), (fun v_ _ => v_ = (undef : Value)), (fun v_ _ => v_ = (undef : Value)), (fun v_ _ => v_ = (undef : Value)), (fun v_ _ => v_ = (undef : Value)), (fun v_ _ => v_ = (undef : Value)), (fun v_ _ => v_ = (undef : Value)), (fun v_ _ => v_ = (undef : Value)), (fun v_ _ => v_ = (undef : Value)), (fun v_ _ => v_ = (undef : Value)), (fun v_ _ => v_ = (undef : Value)), (fun v_ _ => v_ = (undef : Value)), (fun v_ _ => v_ = (undef : Value)), (fun v_ _ => v_ = (undef : Value)), (fun v_ _ => v_ = (undef : Value)), (fun v_ _ => v_ = (undef : Value)), (fun v_ _ => v_ = (undef : Value)), (fun v_ _ => v_ = (undef : Value)), (fun v_ _ => v_ = (undef : Value)), (fun v_ _ => v_ = (undef : Value)), (fun v_ _ => v_ = (undef : Value)), (fun v_ _ => v_ = (undef : Value)), (fun v_ _ => v_ = (undef : Value)), (fun v_ _ => v_ = (undef : Value)), (fun v_ _ => v_ = (undef : Value)), (fun v_ _ => v_ = (undef : Value)), (fun v_ _ => v_ = (undef : Value)), (fun v_ _ => v_ = (undef : Value)), (fun v_ _ => v_ = (undef : Value)), (eqv _)]) (C := (fun x y => Below x.heap.size x y))
     case hm => kernel_rfl
     case hk => rfl
     case hCr => exact (fun _ => B7 _ _)
     case hCt => intro _ _ _; exact (fun h k => g7t h k)
     case hst => repeat (first | exact trivial | refine ⟨fun _ _ _ _ h => h, ?_⟩)
     case hfo => kernel_rfl
     case ht => kernel_rfl
     case hC0 => exact (g7d _)
     case hsteps =>
      refine ⟨?_, ?_, ?_, ?_, ?_, ?_, ?_, ?_, ?_, ?_, ?_, ?_, ?_, ?_, ?_, ?_, ?_, ?_, ?_, ?_, ?_, ?_, ?_, ?_, ?_, ?_, ?_, ?_, ?_, ?_, ?_, ?_, ?_, ?_, ?_, ?_, trivial⟩
      · intro a' w' hA hC hD; have s3 := hA.to 3 (by kernel_rfl) rfl; clear hA hD; refine o7p rfl ?_; intro K hK; gi_wp2; exact hK _ _ rfl (B7 _ _)
      · intro a' w' hA hC hD; obtain ⟨u33, s33, rfl⟩ := hD ⟨0, .data⟩ (by simp) rfl _ rfl; clear hA hD; refine o7p rfl ?_; intro K hK; gi_wp2; exact hK _ _ rfl (B7 _ _)
      · intro a' w' hA hC hD; obtain ⟨u34, s34, rfl⟩ := hD ⟨1, .data⟩ (by simp) rfl _ rfl; clear hA hD; refine o7p rfl ?_; intro K hK; gi_wp2; exact hK _ _ rfl (B7 _ _)
      · intro a' w' hA hC hD; have s4 := hA.to 4 (by kernel_rfl) rfl; obtain ⟨u35, s35, rfl⟩ := hD ⟨2, .guard⟩ (by simp) rfl _ rfl; clear hA hD
        exact o7s rfl rfl s35 rfl
      · intro a' w' hA hC hD; obtain ⟨u36, s36, r36⟩ := hD ⟨3, .data⟩ (by simp) rfl _ rfl; replace r36 : u36 = undef := r36; subst r36; obtain ⟨u35, s35, rfl⟩ := hD ⟨2, .guard⟩ (by simp) rfl _ rfl; clear hA hD
        exact o7s rfl rfl s35 rfl
      · intro a' w' hA hC hD; have s0 := hA.to 0 (by kernel_rfl) rfl; obtain ⟨u35, s35, rfl⟩ := hD ⟨2, .guard⟩ (by simp) rfl _ rfl; clear hA hD
        exact o7s rfl rfl s35 rfl
      · intro a' w' hA hC hD; have s3 := hA.to 3 (by kernel_rfl) rfl; obtain ⟨u35, s35, rfl⟩ := hD ⟨2, .guard⟩ (by simp) rfl _ rfl; clear hA hD
        exact o7s rfl rfl s35 rfl
      · intro a' w' hA hC hD; obtain ⟨u39, s39, r39⟩ := hD ⟨6, .data⟩ (by simp) rfl _ rfl; replace r39 : u39 = undef := r39; subst r39; obtain ⟨u35, s35, rfl⟩ := hD ⟨2, .guard⟩ (by simp) rfl _ rfl; clear hA hD
        exact o7s rfl rfl s35 rfl
      · intro a' w' hA hC hD; obtain ⟨u38, s38, r38⟩ := hD ⟨5, .data⟩ (by simp) rfl _ rfl; replace r38 : u38 = undef := r38; subst r38; obtain ⟨u40, s40, r40⟩ := hD ⟨7, .data⟩ (by simp) rfl _ rfl; replace r40 : u40 = undef := r40; subst r40; obtain ⟨u35, s35, rfl⟩ := hD ⟨2, .guard⟩ (by simp) rfl _ rfl; clear hA hD
        exact o7s rfl rfl s35 rfl
      · intro a' w' hA hC hD; obtain ⟨u41, s41, r41⟩ := hD ⟨8, .data⟩ (by simp) rfl _ rfl; replace r41 : u41 = undef := r41; subst r41; obtain ⟨u35, s35, rfl⟩ := hD ⟨2, .guard⟩ (by simp) rfl _ rfl; clear hA hD
        exact o7s rfl rfl s35 rfl
      · intro a' w' hA hC hD; obtain ⟨u42, s42, r42⟩ := hD ⟨9, .data⟩ (by simp) rfl _ rfl; replace r42 : u42 = undef := r42; subst r42; obtain ⟨u35, s35, rfl⟩ := hD ⟨2, .guard⟩ (by simp) rfl _ rfl; clear hA hD
        exact o7s rfl rfl s35 rfl
      · intro a' w' hA hC hD; obtain ⟨u37, s37, r37⟩ := hD ⟨4, .data⟩ (by simp) rfl _ rfl; replace r37 : u37 = undef := r37; subst r37; obtain ⟨u43, s43, r43⟩ := hD ⟨10, .data⟩ (by simp) rfl _ rfl; replace r43 : u43 = undef := r43; subst r43; obtain ⟨u35, s35, rfl⟩ := hD ⟨2, .guard⟩ (by simp) rfl _ rfl; clear hA hD
        exact o7s rfl rfl s35 rfl
      · intro a' w' hA hC hD; obtain ⟨u44, s44, r44⟩ := hD ⟨11, .data⟩ (by simp) rfl _ rfl; replace r44 : u44 = undef := r44; subst r44; obtain ⟨u35, s35, rfl⟩ := hD ⟨2, .chain⟩ (by simp) rfl _ rfl; clear hA hD
        exact o7s rfl rfl s35 rfl
      · intro a' w' hA hC hD; have s4 := hA.to 4 (by kernel_rfl) rfl; obtain ⟨u45, s45, r45⟩ := hD ⟨12, .guard⟩ (by simp) rfl _ rfl; replace r45 : u45 = undef := r45; subst r45; clear hA hD
        exact stepOk_skip' rfl rfl s45 rfl
      · intro a' w' hA hC hD; obtain ⟨u46, s46, r46⟩ := hD ⟨13, .data⟩ (by simp) rfl _ rfl; replace r46 : u46 = undef := r46; subst r46; obtain ⟨u45, s45, r45⟩ := hD ⟨12, .guard⟩ (by simp) rfl _ rfl; replace r45 : u45 = undef := r45; subst r45; clear hA hD
        exact stepOk_skip' rfl rfl s45 rfl
      · intro a' w' hA hC hD; have s0 := hA.to 0 (by kernel_rfl) rfl; obtain ⟨u45, s45, r45⟩ := hD ⟨12, .guard⟩ (by simp) rfl _ rfl; replace r45 : u45 = undef := r45; subst r45; clear hA hD
        exact stepOk_skip' rfl rfl s45 rfl
      · intro a' w' hA hC hD; have s3 := hA.to 3 (by kernel_rfl) rfl; obtain ⟨u45, s45, r45⟩ := hD ⟨12, .guard⟩ (by simp) rfl _ rfl; replace r45 : u45 = undef := r45; subst r45; clear hA hD
        exact stepOk_skip' rfl rfl s45 rfl
      · intro a' w' hA hC hD; obtain ⟨u49, s49, r49⟩ := hD ⟨16, .data⟩ (by simp) rfl _ rfl; replace r49 : u49 = undef := r49; subst r49; obtain ⟨u45, s45, r45⟩ := hD ⟨12, .guard⟩ (by simp) rfl _ rfl; replace r45 : u45 = undef := r45; subst r45; clear hA hD
        exact stepOk_skip' rfl rfl s45 rfl
      · intro a' w' hA hC hD; obtain ⟨u48, s48, r48⟩ := hD ⟨15, .data⟩ (by simp) rfl _ rfl; replace r48 : u48 = undef := r48; subst r48; obtain ⟨u50, s50, r50⟩ := hD ⟨17, .data⟩ (by simp) rfl _ rfl; replace r50 : u50 = undef := r50; subst r50; obtain ⟨u45, s45, r45⟩ := hD ⟨12, .guard⟩ (by simp) rfl _ rfl; replace r45 : u45 = undef := r45; subst r45; clear hA hD
        exact stepOk_skip' rfl rfl s45 rfl
      · intro a' w' hA hC hD; obtain ⟨u51, s51, r51⟩ := hD ⟨18, .data⟩ (by simp) rfl _ rfl; replace r51 : u51 = undef := r51; subst r51; obtain ⟨u45, s45, r45⟩ := hD ⟨12, .guard⟩ (by simp) rfl _ rfl; replace r45 : u45 = undef := r45; subst r45; clear hA hD
        exact stepOk_skip' rfl rfl s45 rfl
      · intro a' w' hA hC hD; obtain ⟨u52, s52, r52⟩ := hD ⟨19, .data⟩ (by simp) rfl _ rfl; replace r52 : u52 = undef := r52; subst r52; obtain ⟨u45, s45, r45⟩ := hD ⟨12, .guard⟩ (by simp) rfl _ rfl; replace r45 : u45 = undef := r45; subst r45; clear hA hD
        exact stepOk_skip' rfl rfl s45 rfl
      · intro a' w' hA hC hD; obtain ⟨u47, s47, r47⟩ := hD ⟨14, .data⟩ (by simp) rfl _ rfl; replace r47 : u47 = undef := r47; subst r47; obtain ⟨u53, s53, r53⟩ := hD ⟨20, .data⟩ (by simp) rfl _ rfl; replace r53 : u53 = undef := r53; subst r53; obtain ⟨u45, s45, r45⟩ := hD ⟨12, .guard⟩ (by simp) rfl _ rfl; replace r45 : u45 = undef := r45; subst r45; clear hA hD
        exact stepOk_skip' rfl rfl s45 rfl
      · intro a' w' hA hC hD; obtain ⟨u54, s54, r54⟩ := hD ⟨21, .data⟩ (by simp) rfl _ rfl; replace r54 : u54 = undef := r54; subst r54; obtain ⟨u45, s45, r45⟩ := hD ⟨12, .chain⟩ (by simp) rfl _ rfl; replace r45 : u45 = undef := r45; subst r45; clear hA hD
        exact stepOk_skip' rfl rfl s45 rfl
      · intro a' w' hA hC hD; have s4 := hA.to 4 (by kernel_rfl) rfl; obtain ⟨u55, s55, r55⟩ := hD ⟨22, .guard⟩ (by simp) rfl _ rfl; replace r55 : u55 = undef := r55; subst r55; clear hA hD
        exact stepOk_skip' rfl rfl s55 rfl
      · intro a' w' hA hC hD; obtain ⟨u56, s56, r56⟩ := hD ⟨23, .data⟩ (by simp) rfl _ rfl; replace r56 : u56 = undef := r56; subst r56; obtain ⟨u55, s55, r55⟩ := hD ⟨22, .guard⟩ (by simp) rfl _ rfl; replace r55 : u55 = undef := r55; subst r55; clear hA hD
        exact stepOk_skip' rfl rfl s55 rfl
      · intro a' w' hA hC hD; have s0 := hA.to 0 (by kernel_rfl) rfl; obtain ⟨u55, s55, r55⟩ := hD ⟨22, .guard⟩ (by simp) rfl _ rfl; replace r55 : u55 = undef := r55; subst r55; clear hA hD
        exact stepOk_skip' rfl rfl s55 rfl
      · intro a' w' hA hC hD; have s3 := hA.to 3 (by kernel_rfl) rfl; obtain ⟨u55, s55, r55⟩ := hD ⟨22, .guard⟩ (by simp) rfl _ rfl; replace r55 : u55 = undef := r55; subst r55; clear hA hD
        exact stepOk_skip' rfl rfl s55 rfl
      · intro a' w' hA hC hD; obtain ⟨u59, s59, r59⟩ := hD ⟨26, .data⟩ (by simp) rfl _ rfl; replace r59 : u59 = undef := r59; subst r59; obtain ⟨u55, s55, r55⟩ := hD ⟨22, .guard⟩ (by simp) rfl _ rfl; replace r55 : u55 = undef := r55; subst r55; clear hA hD
        exact stepOk_skip' rfl rfl s55 rfl
      · intro a' w' hA hC hD; obtain ⟨u58, s58, r58⟩ := hD ⟨25, .data⟩ (by simp) rfl _ rfl; replace r58 : u58 = undef := r58; subst r58; obtain ⟨u60, s60, r60⟩ := hD ⟨27, .data⟩ (by simp) rfl _ rfl; replace r60 : u60 = undef := r60; subst r60; obtain ⟨u55, s55, r55⟩ := hD ⟨22, .guard⟩ (by simp) rfl _ rfl; replace r55 : u55 = undef := r55; subst r55; clear hA hD
        exact stepOk_skip' rfl rfl s55 rfl
      · intro a' w' hA hC hD; obtain ⟨u61, s61, r61⟩ := hD ⟨28, .data⟩ (by simp) rfl _ rfl; replace r61 : u61 = undef := r61; subst r61; obtain ⟨u55, s55, r55⟩ := hD ⟨22, .guard⟩ (by simp) rfl _ rfl; replace r55 : u55 = undef := r55; subst r55; clear hA hD
        exact stepOk_skip' rfl rfl s55 rfl
      · intro a' w' hA hC hD; obtain ⟨u62, s62, r62⟩ := hD ⟨29, .data⟩ (by simp) rfl _ rfl; replace r62 : u62 = undef := r62; subst r62; obtain ⟨u55, s55, r55⟩ := hD ⟨22, .guard⟩ (by simp) rfl _ rfl; replace r55 : u55 = undef := r55; subst r55; clear hA hD
        exact stepOk_skip' rfl rfl s55 rfl
      · intro a' w' hA hC hD; obtain ⟨u63, s63, r63⟩ := hD ⟨30, .data⟩ (by simp) rfl _ rfl; replace r63 : u63 = undef := r63; subst r63; obtain ⟨u55, s55, r55⟩ := hD ⟨22, .guard⟩ (by simp) rfl _ rfl; replace r55 : u55 = undef := r55; subst r55; clear hA hD
        exact stepOk_skip' rfl rfl s55 rfl
      · intro a' w' hA hC hD; obtain ⟨u57, s57, r57⟩ := hD ⟨24, .data⟩ (by simp) rfl _ rfl; replace r57 : u57 = undef := r57; subst r57; obtain ⟨u64, s64, r64⟩ := hD ⟨31, .data⟩ (by simp) rfl _ rfl; replace r64 : u64 = undef := r64; subst r64; obtain ⟨u55, s55, r55⟩ := hD ⟨22, .guard⟩ (by simp) rfl _ rfl; replace r55 : u55 = undef := r55; subst r55; clear hA hD
        exact stepOk_skip' rfl rfl s55 rfl
      · intro a' w' hA hC hD; obtain ⟨u55, s55, r55⟩ := hD ⟨22, .data⟩ (by simp) rfl _ rfl; replace r55 : u55 = undef := r55; subst r55; obtain ⟨u65, s65, r65⟩ := hD ⟨32, .data⟩ (by simp) rfl _ rfl; replace r65 : u65 = undef := r65; subst r65; obtain ⟨u45, s45, r45⟩ := hD ⟨12, .guard⟩ (by simp) rfl _ rfl; replace r45 : u45 = undef := r45; subst r45; clear hA hD
        exact stepOk_skip' rfl rfl s45 rfl
      · intro a' w' hA hC hD; obtain ⟨u45, s45, r45⟩ := hD ⟨12, .data⟩ (by simp) rfl _ rfl; replace r45 : u45 = undef := r45; subst r45; obtain ⟨u66, s66, r66⟩ := hD ⟨33, .data⟩ (by simp) rfl _ rfl; replace r66 : u66 = undef := r66; subst r66; obtain ⟨u35, s35, rfl⟩ := hD ⟨2, .guard⟩ (by simp) rfl _ rfl; clear hA hD
        exact o7s rfl rfl s35 rfl
      · intro a' w' hA hC hD; obtain ⟨u35, s35, rfl⟩ := hD ⟨2, .data⟩ (by simp) rfl _ rfl; obtain ⟨u67, s67, r67⟩ := hD ⟨34, .data⟩ (by simp) rfl _ rfl; replace r67 : u67 = undef := r67; subst r67; clear hA hD; refine o7p rfl ?_; intro K hK; gi_wp2; exact hK _ _ rfl (B7 _ _)
     case hend =>
      intro w3 hC
      simp only [EndFrom, eqv, forall_eq, Act.put, List.length_cons, List.length_nil, List.drop_succ_cons, List.drop_zero, Nat.reduceAdd, List.setIfInBounds_toArray, List.set_cons_succ, List.set_cons_zero]
      have HS := H7 (HS.out.below hC)
      clear hC
      gi_wp2
      go_wp2_with fail
      go_roundw
      case rel =>
       refine ⟨1, by omega, by simp, HS.out.drop1, fun j hj h => ?_, fun j _ h => by omega⟩
       obtain rfl : j = 0 := by omega
       rw [HX.out]; exact HB.out
      case measure => simp [intOf]; omega
    | succ j =>
     have e15 : wrap64 (j : Int) = (j : Int) := by unfold wrap64; omega
     obtain ⟨p, hp⟩ : ∃ p, l[j]? = some p := ⟨_, List.getElem?_eq_getElem (Nat.lt_of_succ_lt HLT.out)⟩
     have HPB := H7 (show spB p = true by rw [← (List.getElem?_eq_some_iff.1 hp).2]; exact HA.out j _ (by omega))
     obtain ⟨bb2, off2, e2, hbb, d0, d1, d2⟩ := spCells HL.out (HS.out.elems 1 rfl) j p hp
     cases e2
     have D := H7 (And.intro d0 (And.intro d1 d2))
     have HP := H7 (show l[j]'(Nat.lt_of_succ_lt HLT.out) = p from (List.getElem?_eq_some_iff.1 hp).2)
     obtain ⟨py, pf, pt⟩ := p
     simp only at D
     clear hp d0 d1 d2
     have HW := H7 (show wrap64 (pt + 1) = pt + 1 by have := HPB.out; simp [spB, reachB] at this; unfold wrap64; omega)
     by_cases g1 : xy < py
     · have HOB := H7 (show ordB (l[j]'(Nat.lt_of_succ_lt HLT.out)) (l[j + 1]'HLT.out) = false by rw [HX.out, HP.out]; simp [ordB]; omega)
       have G1 := H7 (show decide (xy < py) = true by simpa using g1)
       clear g1
       refine (wpIn_wide (n := 0)).1 ?_
       apply w7v 36 (Rl := [(eqv _), (eqv _), (eqv _), (eqv _), (eqv _), (eqv _), (eqv _), (eqv _), (eqv _), (eqv _), (eqv _), (eqv _), (eqv _), (fun v_ _ => v_ = (undef : Value)), (fun v_ _ => v_ = (undef : Value)), (fun v_ _ => v_ = (undef : Value)), (fun v_ _ => v_ = (undef : Value)), (fun v_ _ => v_ = (undef : Value)), (fun v_ _ => v_ = (undef : Value)), (fun v_ _ => v_ = (undef : Value)), (fun v_ _ => v_ = (undef : Value)), (fun v_ _ => v_ = (undef : Value)), (fun v_ _ => v_ = (undef : Value)), (fun v_ _ => v_ = (undef : Value)), (fun v_ _ => v_ = (undef : Value)), (fun v_ _ => v_ = (undef : Value)), (fun v_ _ => v_ = (undef : Value)), (fun v_ _ => v_ = (undef : Value)), (fun v_ _ => v_ = (undef : Value)), (fun v_ _ => v_ = (undef : Value)), (fun v_ _ => v_ = (undef : Value)), (fun v_ _ => v_ = (undef : Value)), (fun v_ _ => v_ = (undef : Value)), (fun v_ _ => v_ = (undef : Value)), (eqv _), (eqv _)]) (C := (fun x y => Below x.heap.size x y))
       case hm => kernel_rfl
       case hk => rfl
       case hCr => exact (fun _ => B7 _ _)
       case hCt => intro _ _ _; exact (fun h k => g7t h k)
       case hst => repeat (first | exact trivial | refine ⟨fun _ _ _ _ h => h, ?_⟩)
       case hfo => kernel_rfl
       case ht => kernel_rfl
       case hC0 => exact (g7d _)
       case hsteps =>
        refine ⟨?_, ?_, ?_, ?_, ?_, ?_, ?_, ?_, ?_, ?_, ?_, ?_, ?_, ?_, ?_, ?_, ?_, ?_, ?_, ?_, ?_, ?_, ?_, ?_, ?_, ?_, ?_, ?_, ?_, ?_, ?_, ?_, ?_, ?_, ?_, ?_, trivial⟩
        · intro a' w' hA hC hD; have s3 := hA.to 3 (by kernel_rfl) rfl; clear hA hD; refine o7p rfl ?_; intro K hK; gi_wp2; exact hK _ _ rfl (B7 _ _)
        · intro a' w' hA hC hD; obtain ⟨u33, s33, rfl⟩ := hD ⟨0, .data⟩ (by simp) rfl _ rfl; clear hA hD; refine o7p rfl ?_; intro K hK; gi_wp2; exact hK _ _ rfl (B7 _ _)
        · intro a' w' hA hC hD; obtain ⟨u34, s34, rfl⟩ := hD ⟨1, .data⟩ (by simp) rfl _ rfl; clear hA hD; refine o7p rfl ?_; intro K hK; gi_wp2; exact hK _ _ rfl (B7 _ _)
        · intro a' w' hA hC hD; have s4 := hA.to 4 (by kernel_rfl) rfl; obtain ⟨u35, s35, rfl⟩ := hD ⟨2, .guard⟩ (by simp) rfl _ rfl; clear hA hD; refine o7w rfl rfl s35 ?_; intro K hK; gi_wp2; exact hK _ _ rfl (B7 _ _)
        · intro a' w' hA hC hD; obtain ⟨u36, s36, rfl⟩ := hD ⟨3, .data⟩ (by simp) rfl _ rfl; obtain ⟨u35, s35, rfl⟩ := hD ⟨2, .guard⟩ (by simp) rfl _ rfl
          have k0 := c7b (k := 0) ((HS.out.below hC).blockAt 0 rfl) rfl
          clear hA hD; refine o7w rfl rfl s35 ?_; intro K hK; gi_wp2; exact hK _ _ rfl (B7 _ _)
        · intro a' w' hA hC hD; have s0 := hA.to 0 (by kernel_rfl) rfl; obtain ⟨u35, s35, rfl⟩ := hD ⟨2, .guard⟩ (by simp) rfl _ rfl; clear hA hD; refine o7w rfl rfl s35 ?_; intro K hK; gi_wp2; exact hK _ _ rfl (B7 _ _)
        · intro a' w' hA hC hD; have s3 := hA.to 3 (by kernel_rfl) rfl; obtain ⟨u35, s35, rfl⟩ := hD ⟨2, .guard⟩ (by simp) rfl _ rfl; clear hA hD; refine o7w rfl rfl s35 ?_; intro K hK; gi_wp2; exact hK _ _ rfl (B7 _ _)
        · intro a' w' hA hC hD; obtain ⟨u39, s39, rfl⟩ := hD ⟨6, .data⟩ (by simp) rfl _ rfl; obtain ⟨u35, s35, rfl⟩ := hD ⟨2, .guard⟩ (by simp) rfl _ rfl; clear hA hD; refine o7w rfl rfl s35 ?_; intro K hK; gi_wp2; exact hK _ _ rfl (B7 _ _)
        · intro a' w' hA hC hD; obtain ⟨u38, s38, rfl⟩ := hD ⟨5, .data⟩ (by simp) rfl _ rfl; obtain ⟨u40, s40, rfl⟩ := hD ⟨7, .data⟩ (by simp) rfl _ rfl; obtain ⟨u35, s35, rfl⟩ := hD ⟨2, .guard⟩ (by simp) rfl _ rfl; clear hA hD; refine o7w rfl rfl s35 ?_; intro K hK; gi_wp2; exact hK _ _ rfl (B7 _ _)
        · intro a' w' hA hC hD; obtain ⟨u41, s41, rfl⟩ := hD ⟨8, .data⟩ (by simp) rfl _ rfl; obtain ⟨u35, s35, rfl⟩ := hD ⟨2, .guard⟩ (by simp) rfl _ rfl; clear hA hD; refine o7w rfl rfl s35 ?_; intro K hK; gi_wp2; exact hK _ _ rfl (B7 _ _)
        · intro a' w' hA hC hD; obtain ⟨u42, s42, rfl⟩ := hD ⟨9, .data⟩ (by simp) rfl _ rfl; obtain ⟨u35, s35, rfl⟩ := hD ⟨2, .guard⟩ (by simp) rfl _ rfl
          have c0 := (hC.cell (p := ⟨bb, off + j * 3, none⟩) hbb).trans D.out.1; have c1 := (hC.cell (p := ⟨bb, off + j * 3 + 1, none⟩) hbb).trans D.out.2.1; have c2 := (hC.cell (p := ⟨bb, off + j * 3 + 2, none⟩) hbb).trans D.out.2.2
          clear hA hD; refine o7w rfl rfl s35 ?_; intro K hK; gi_wp2; exact hK _ _ rfl (B7 _ _)
        · intro a' w' hA hC hD; obtain ⟨u37, s37, rfl⟩ := hD ⟨4, .data⟩ (by simp) rfl _ rfl; obtain ⟨u43, s43, rfl⟩ := hD ⟨10, .data⟩ (by simp) rfl _ rfl; obtain ⟨u35, s35, rfl⟩ := hD ⟨2, .guard⟩ (by simp) rfl _ rfl; clear hA hD; refine o7w rfl rfl s35 ?_; intro K hK; gi_wp2; rw [G1.out]; exact hK _ _ rfl (B7 _ _)
        · intro a' w' hA hC hD; obtain ⟨u44, s44, rfl⟩ := hD ⟨11, .data⟩ (by simp) rfl _ rfl; obtain ⟨u35, s35, rfl⟩ := hD ⟨2, .chain⟩ (by simp) rfl _ rfl; clear hA hD; refine o7w rfl rfl s35 ?_; intro K hK; gi_wp2; exact hK _ _ rfl (B7 _ _)
        · intro a' w' hA hC hD; have s4 := hA.to 4 (by kernel_rfl) rfl; obtain ⟨u45, s45, rfl⟩ := hD ⟨12, .guard⟩ (by simp) rfl _ rfl; clear hA hD
          exact o7s rfl rfl s45 rfl
        · intro a' w' hA hC hD; obtain ⟨u46, s46, r46⟩ := hD ⟨13, .data⟩ (by simp) rfl _ rfl; replace r46 : u46 = undef := r46; subst r46; obtain ⟨u45, s45, rfl⟩ := hD ⟨12, .guard⟩ (by simp) rfl _ rfl; clear hA hD
          exact o7s rfl rfl s45 rfl
        · intro a' w' hA hC hD; have s0 := hA.to 0 (by kernel_rfl) rfl; obtain ⟨u45, s45, rfl⟩ := hD ⟨12, .guard⟩ (by simp) rfl _ rfl; clear hA hD
          exact o7s rfl rfl s45 rfl
        · intro a' w' hA hC hD; have s3 := hA.to 3 (by kernel_rfl) rfl; obtain ⟨u45, s45, rfl⟩ := hD ⟨12, .guard⟩ (by simp) rfl _ rfl; clear hA hD
          exact o7s rfl rfl s45 rfl
        · intro a' w' hA hC hD; obtain ⟨u49, s49, r49⟩ := hD ⟨16, .data⟩ (by simp) rfl _ rfl; replace r49 : u49 = undef := r49; subst r49; obtain ⟨u45, s45, rfl⟩ := hD ⟨12, .guard⟩ (by simp) rfl _ rfl; clear hA hD
          exact o7s rfl rfl s45 rfl
        · intro a' w' hA hC hD; obtain ⟨u48, s48, r48⟩ := hD ⟨15, .data⟩ (by simp) rfl _ rfl; replace r48 : u48 = undef := r48; subst r48; obtain ⟨u50, s50, r50⟩ := hD ⟨17, .data⟩ (by simp) rfl _ rfl; replace r50 : u50 = undef := r50; subst r50; obtain ⟨u45, s45, rfl⟩ := hD ⟨12, .guard⟩ (by simp) rfl _ rfl; clear hA hD
          exact o7s rfl rfl s45 rfl
        · intro a' w' hA hC hD; obtain ⟨u51, s51, r51⟩ := hD ⟨18, .data⟩ (by simp) rfl _ rfl; replace r51 : u51 = undef := r51; subst r51; obtain ⟨u45, s45, rfl⟩ := hD ⟨12, .guard⟩ (by simp) rfl _ rfl; clear hA hD
          exact o7s rfl rfl s45 rfl
        · intro a' w' hA hC hD; obtain ⟨u52, s52, r52⟩ := hD ⟨19, .data⟩ (by simp) rfl _ rfl; replace r52 : u52 = undef := r52; subst r52; obtain ⟨u45, s45, rfl⟩ := hD ⟨12, .guard⟩ (by simp) rfl _ rfl; clear hA hD
          exact o7s rfl rfl s45 rfl
        · intro a' w' hA hC hD; obtain ⟨u47, s47, r47⟩ := hD ⟨14, .data⟩ (by simp) rfl _ rfl; replace r47 : u47 = undef := r47; subst r47; obtain ⟨u53, s53, r53⟩ := hD ⟨20, .data⟩ (by simp) rfl _ rfl; replace r53 : u53 = undef := r53; subst r53; obtain ⟨u45, s45, rfl⟩ := hD ⟨12, .guard⟩ (by simp) rfl _ rfl; clear hA hD
          exact o7s rfl rfl s45 rfl
        · intro a' w' hA hC hD; obtain ⟨u54, s54, r54⟩ := hD ⟨21, .data⟩ (by simp) rfl _ rfl; replace r54 : u54 = undef := r54; subst r54; obtain ⟨u45, s45, rfl⟩ := hD ⟨12, .chain⟩ (by simp) rfl _ rfl; clear hA hD
          exact o7s rfl rfl s45 rfl
        · intro a' w' hA hC hD; have s4 := hA.to 4 (by kernel_rfl) rfl; obtain ⟨u55, s55, r55⟩ := hD ⟨22, .guard⟩ (by simp) rfl _ rfl; replace r55 : u55 = undef := r55; subst r55; clear hA hD
          exact stepOk_skip' rfl rfl s55 rfl
        · intro a' w' hA hC hD; obtain ⟨u56, s56, r56⟩ := hD ⟨23, .data⟩ (by simp) rfl _ rfl; replace r56 : u56 = undef := r56; subst r56; obtain ⟨u55, s55, r55⟩ := hD ⟨22, .guard⟩ (by simp) rfl _ rfl; replace r55 : u55 = undef := r55; subst r55; clear hA hD
          exact stepOk_skip' rfl rfl s55 rfl
        · intro a' w' hA hC hD; have s0 := hA.to 0 (by kernel_rfl) rfl; obtain ⟨u55, s55, r55⟩ := hD ⟨22, .guard⟩ (by simp) rfl _ rfl; replace r55 : u55 = undef := r55; subst r55; clear hA hD
          exact stepOk_skip' rfl rfl s55 rfl
        · intro a' w' hA hC hD; have s3 := hA.to 3 (by kernel_rfl) rfl; obtain ⟨u55, s55, r55⟩ := hD ⟨22, .guard⟩ (by simp) rfl _ rfl; replace r55 : u55 = undef := r55; subst r55; clear hA hD
          exact stepOk_skip' rfl rfl s55 rfl
        · intro a' w' hA hC hD; obtain ⟨u59, s59, r59⟩ := hD ⟨26, .data⟩ (by simp) rfl _ rfl; replace r59 : u59 = undef := r59; subst r59; obtain ⟨u55, s55, r55⟩ := hD ⟨22, .guard⟩ (by simp) rfl _ rfl; replace r55 : u55 = undef := r55; subst r55; clear hA hD
          exact stepOk_skip' rfl rfl s55 rfl
        · intro a' w' hA hC hD; obtain ⟨u58, s58, r58⟩ := hD ⟨25, .data⟩ (by simp) rfl _ rfl; replace r58 : u58 = undef := r58; subst r58; obtain ⟨u60, s60, r60⟩ := hD ⟨27, .data⟩ (by simp) rfl _ rfl; replace r60 : u60 = undef := r60; subst r60; obtain ⟨u55, s55, r55⟩ := hD ⟨22, .guard⟩ (by simp) rfl _ rfl; replace r55 : u55 = undef := r55; subst r55; clear hA hD
          exact stepOk_skip' rfl rfl s55 rfl
        · intro a' w' hA hC hD; obtain ⟨u61, s61, r61⟩ := hD ⟨28, .data⟩ (by simp) rfl _ rfl; replace r61 : u61 = undef := r61; subst r61; obtain ⟨u55, s55, r55⟩ := hD ⟨22, .guard⟩ (by simp) rfl _ rfl; replace r55 : u55 = undef := r55; subst r55; clear hA hD
          exact stepOk_skip' rfl rfl s55 rfl
        · intro a' w' hA hC hD; obtain ⟨u62, s62, r62⟩ := hD ⟨29, .data⟩ (by simp) rfl _ rfl; replace r62 : u62 = undef := r62; subst r62; obtain ⟨u55, s55, r55⟩ := hD ⟨22, .guard⟩ (by simp) rfl _ rfl; replace r55 : u55 = undef := r55; subst r55; clear hA hD
          exact stepOk_skip' rfl rfl s55 rfl
        · intro a' w' hA hC hD; obtain ⟨u63, s63, r63⟩ := hD ⟨30, .data⟩ (by simp) rfl _ rfl; replace r63 : u63 = undef := r63; subst r63; obtain ⟨u55, s55, r55⟩ := hD ⟨22, .guard⟩ (by simp) rfl _ rfl; replace r55 : u55 = undef := r55; subst r55; clear hA hD
          exact stepOk_skip' rfl rfl s55 rfl
        · intro a' w' hA hC hD; obtain ⟨u57, s57, r57⟩ := hD ⟨24, .data⟩ (by simp) rfl _ rfl; replace r57 : u57 = undef := r57; subst r57; obtain ⟨u64, s64, r64⟩ := hD ⟨31, .data⟩ (by simp) rfl _ rfl; replace r64 : u64 = undef := r64; subst r64; obtain ⟨u55, s55, r55⟩ := hD ⟨22, .guard⟩ (by simp) rfl _ rfl; replace r55 : u55 = undef := r55; subst r55; clear hA hD
          exact stepOk_skip' rfl rfl s55 rfl
        · intro a' w' hA hC hD; obtain ⟨u55, s55, r55⟩ := hD ⟨22, .data⟩ (by simp) rfl _ rfl; replace r55 : u55 = undef := r55; subst r55; obtain ⟨u65, s65, r65⟩ := hD ⟨32, .data⟩ (by simp) rfl _ rfl; replace r65 : u65 = undef := r65; subst r65; obtain ⟨u45, s45, rfl⟩ := hD ⟨12, .guard⟩ (by simp) rfl _ rfl; clear hA hD
          exact o7s rfl rfl s45 rfl
        · intro a' w' hA hC hD; obtain ⟨u45, s45, rfl⟩ := hD ⟨12, .data⟩ (by simp) rfl _ rfl; obtain ⟨u66, s66, r66⟩ := hD ⟨33, .data⟩ (by simp) rfl _ rfl; replace r66 : u66 = undef := r66; subst r66; obtain ⟨u35, s35, rfl⟩ := hD ⟨2, .guard⟩ (by simp) rfl _ rfl; clear hA hD; refine o7w rfl rfl s35 ?_; intro K hK; gi_wp2; exact hK _ _ rfl (B7 _ _)
        · intro a' w' hA hC hD; obtain ⟨u35, s35, rfl⟩ := hD ⟨2, .data⟩ (by simp) rfl _ rfl; obtain ⟨u67, s67, rfl⟩ := hD ⟨34, .data⟩ (by simp) rfl _ rfl; clear hA hD; refine o7p rfl ?_; intro K hK; gi_wp2; exact hK _ _ rfl (B7 _ _)
       case hend =>
        intro w3 hC
        simp only [EndFrom, eqv, forall_eq, Act.put, List.length_cons, List.length_nil, List.drop_succ_cons, List.drop_zero, Nat.reduceAdd, List.setIfInBounds_toArray, List.set_cons_succ, List.set_cons_zero]
        have HS := H7 (HS.out.below hC)
        clear hC
        gi_wp2
        go_wp2_with fail
        go_ret
        exact ⟨by rw [rightB_ord HLT.out HOB.out]; rfl, HS.out.low⟩
     by_cases g2 : xy = py
     · have G1 := H7 (show decide (xy < py) = false by simpa using g1)
       have G2 := H7 (show (xy == py) = true by simpa using g2)
       by_cases g3 : xf ≤ pt + 1
       · have HOB := H7 (show ordB (l[j]'(Nat.lt_of_succ_lt HLT.out)) (l[j + 1]'HLT.out) = false by rw [HX.out, HP.out]; simp [ordB]; omega)
         have G3 := H7 (show decide (xf ≤ pt + 1) = true by simpa using g3)
         clear g1 g2 g3
         refine (wpIn_wide (n := 0)).1 ?_
         apply w7v 36 (Rl := [(eqv _), (eqv _), (eqv _), (eqv _), (eqv _), (eqv _), (eqv _), (eqv _), (eqv _), (eqv _), (eqv _), (eqv _), (eqv _), (eqv _), (eqv _), (eqv _), (eqv _), (eqv _), (eqv _), (eqv _), (eqv _), (eqv _), (eqv _), (eqv _), (eqv _), (eqv _), (eqv _), (eqv _), (eqv _), (eqv _), (eqv _), (eqv _), (eqv _), (eqv _), (eqv _), (eqv _)]) (C := (fun x y => Below x.heap.size x y))
         case hm => kernel_rfl
         case hk => rfl
         case hCr => exact (fun _ => B7 _ _)
         case hCt => intro _ _ _; exact (fun h k => g7t h k)
         case hst => repeat (first | exact trivial | refine ⟨fun _ _ _ _ h => h, ?_⟩)
         case hfo => kernel_rfl
         case ht => kernel_rfl
         case hC0 => exact (g7d _)
         case hsteps =>
          refine ⟨?_, ?_, ?_, ?_, ?_, ?_, ?_, ?_, ?_, ?_, ?_, ?_, ?_, ?_, ?_, ?_, ?_, ?_, ?_, ?_, ?_, ?_, ?_, ?_, ?_, ?_, ?_, ?_, ?_, ?_, ?_, ?_, ?_, ?_, ?_, ?_, trivial⟩
          · intro a' w' hA hC hD; have s3 := hA.to 3 (by kernel_rfl) rfl; clear hA hD; refine o7p rfl ?_; intro K hK; gi_wp2; exact hK _ _ rfl (B7 _ _)
          · intro a' w' hA hC hD; obtain ⟨u33, s33, rfl⟩ := hD ⟨0, .data⟩ (by simp) rfl _ rfl; clear hA hD; refine o7p rfl ?_; intro K hK; gi_wp2; exact hK _ _ rfl (B7 _ _)
          · intro a' w' hA hC hD; obtain ⟨u34, s34, rfl⟩ := hD ⟨1, .data⟩ (by simp) rfl _ rfl; clear hA hD; refine o7p rfl ?_; intro K hK; gi_wp2; exact hK _ _ rfl (B7 _ _)
          · intro a' w' hA hC hD; have s4 := hA.to 4 (by kernel_rfl) rfl; obtain ⟨u35, s35, rfl⟩ := hD ⟨2, .guard⟩ (by simp) rfl _ rfl; clear hA hD; refine o7w rfl rfl s35 ?_; intro K hK; gi_wp2; exact hK _ _ rfl (B7 _ _)
          · intro a' w' hA hC hD; obtain ⟨u36, s36, rfl⟩ := hD ⟨3, .data⟩ (by simp) rfl _ rfl; obtain ⟨u35, s35, rfl⟩ := hD ⟨2, .guard⟩ (by simp) rfl _ rfl
            have k0 := c7b (k := 0) ((HS.out.below hC).blockAt 0 rfl) rfl
            clear hA hD; refine o7w rfl rfl s35 ?_; intro K hK; gi_wp2; exact hK _ _ rfl (B7 _ _)
          · intro a' w' hA hC hD; have s0 := hA.to 0 (by kernel_rfl) rfl; obtain ⟨u35, s35, rfl⟩ := hD ⟨2, .guard⟩ (by simp) rfl _ rfl; clear hA hD; refine o7w rfl rfl s35 ?_; intro K hK; gi_wp2; exact hK _ _ rfl (B7 _ _)
          · intro a' w' hA hC hD; have s3 := hA.to 3 (by kernel_rfl) rfl; obtain ⟨u35, s35, rfl⟩ := hD ⟨2, .guard⟩ (by simp) rfl _ rfl; clear hA hD; refine o7w rfl rfl s35 ?_; intro K hK; gi_wp2; exact hK _ _ rfl (B7 _ _)
          · intro a' w' hA hC hD; obtain ⟨u39, s39, rfl⟩ := hD ⟨6, .data⟩ (by simp) rfl _ rfl; obtain ⟨u35, s35, rfl⟩ := hD ⟨2, .guard⟩ (by simp) rfl _ rfl; clear hA hD; refine o7w rfl rfl s35 ?_; intro K hK; gi_wp2; exact hK _ _ rfl (B7 _ _)
          · intro a' w' hA hC hD; obtain ⟨u38, s38, rfl⟩ := hD ⟨5, .data⟩ (by simp) rfl _ rfl; obtain ⟨u40, s40, rfl⟩ := hD ⟨7, .data⟩ (by simp) rfl _ rfl; obtain ⟨u35, s35, rfl⟩ := hD ⟨2, .guard⟩ (by simp) rfl _ rfl; clear hA hD; refine o7w rfl rfl s35 ?_; intro K hK; gi_wp2; exact hK _ _ rfl (B7 _ _)
          · intro a' w' hA hC hD; obtain ⟨u41, s41, rfl⟩ := hD ⟨8, .data⟩ (by simp) rfl _ rfl; obtain ⟨u35, s35, rfl⟩ := hD ⟨2, .guard⟩ (by simp) rfl _ rfl; clear hA hD; refine o7w rfl rfl s35 ?_; intro K hK; gi_wp2; exact hK _ _ rfl (B7 _ _)
          · intro a' w' hA hC hD; obtain ⟨u42, s42, rfl⟩ := hD ⟨9, .data⟩ (by simp) rfl _ rfl; obtain ⟨u35, s35, rfl⟩ := hD ⟨2, .guard⟩ (by simp) rfl _ rfl
            have c0 := (hC.cell (p := ⟨bb, off + j * 3, none⟩) hbb).trans D.out.1; have c1 := (hC.cell (p := ⟨bb, off + j * 3 + 1, none⟩) hbb).trans D.out.2.1; have c2 := (hC.cell (p := ⟨bb, off + j * 3 + 2, none⟩) hbb).trans D.out.2.2
            clear hA hD; refine o7w rfl rfl s35 ?_; intro K hK; gi_wp2; exact hK _ _ rfl (B7 _ _)
          · intro a' w' hA hC hD; obtain ⟨u37, s37, rfl⟩ := hD ⟨4, .data⟩ (by simp) rfl _ rfl; obtain ⟨u43, s43, rfl⟩ := hD ⟨10, .data⟩ (by simp) rfl _ rfl; obtain ⟨u35, s35, rfl⟩ := hD ⟨2, .guard⟩ (by simp) rfl _ rfl; clear hA hD; refine o7w rfl rfl s35 ?_; intro K hK; gi_wp2; rw [G1.out]; exact hK _ _ rfl (B7 _ _)
          · intro a' w' hA hC hD; obtain ⟨u44, s44, rfl⟩ := hD ⟨11, .data⟩ (by simp) rfl _ rfl; obtain ⟨u35, s35, rfl⟩ := hD ⟨2, .chain⟩ (by simp) rfl _ rfl; clear hA hD; refine o7w rfl rfl s35 ?_; intro K hK; gi_wp2; exact hK _ _ rfl (B7 _ _)
          · intro a' w' hA hC hD; have s4 := hA.to 4 (by kernel_rfl) rfl; obtain ⟨u45, s45, rfl⟩ := hD ⟨12, .guard⟩ (by simp) rfl _ rfl; clear hA hD; refine o7w rfl rfl s45 ?_; intro K hK; gi_wp2; exact hK _ _ rfl (B7 _ _)
          · intro a' w' hA hC hD; obtain ⟨u46, s46, rfl⟩ := hD ⟨13, .data⟩ (by simp) rfl _ rfl; obtain ⟨u45, s45, rfl⟩ := hD ⟨12, .guard⟩ (by simp) rfl _ rfl
            have k0 := c7b (k := 0) ((HS.out.below hC).blockAt 0 rfl) rfl
            clear hA hD; refine o7w rfl rfl s45 ?_; intro K hK; gi_wp2; exact hK _ _ rfl (B7 _ _)
          · intro a' w' hA hC hD; have s0 := hA.to 0 (by kernel_rfl) rfl; obtain ⟨u45, s45, rfl⟩ := hD ⟨12, .guard⟩ (by simp) rfl _ rfl; clear hA hD; refine o7w rfl rfl s45 ?_; intro K hK; gi_wp2; exact hK _ _ rfl (B7 _ _)
          · intro a' w' hA hC hD; have s3 := hA.to 3 (by kernel_rfl) rfl; obtain ⟨u45, s45, rfl⟩ := hD ⟨12, .guard⟩ (by simp) rfl _ rfl; clear hA hD; refine o7w rfl rfl s45 ?_; intro K hK; gi_wp2; exact hK _ _ rfl (B7 _ _)
          · intro a' w' hA hC hD; obtain ⟨u49, s49, rfl⟩ := hD ⟨16, .data⟩ (by simp) rfl _ rfl; obtain ⟨u45, s45, rfl⟩ := hD ⟨12, .guard⟩ (by simp) rfl _ rfl; clear hA hD; refine o7w rfl rfl s45 ?_; intro K hK; gi_wp2; exact hK _ _ rfl (B7 _ _)
          · intro a' w' hA hC hD; obtain ⟨u48, s48, rfl⟩ := hD ⟨15, .data⟩ (by simp) rfl _ rfl; obtain ⟨u50, s50, rfl⟩ := hD ⟨17, .data⟩ (by simp) rfl _ rfl; obtain ⟨u45, s45, rfl⟩ := hD ⟨12, .guard⟩ (by simp) rfl _ rfl; clear hA hD; refine o7w rfl rfl s45 ?_; intro K hK; gi_wp2; exact hK _ _ rfl (B7 _ _)
          · intro a' w' hA hC hD; obtain ⟨u51, s51, rfl⟩ := hD ⟨18, .data⟩ (by simp) rfl _ rfl; obtain ⟨u45, s45, rfl⟩ := hD ⟨12, .guard⟩ (by simp) rfl _ rfl; clear hA hD; refine o7w rfl rfl s45 ?_; intro K hK; gi_wp2; exact hK _ _ rfl (B7 _ _)
          · intro a' w' hA hC hD; obtain ⟨u52, s52, rfl⟩ := hD ⟨19, .data⟩ (by simp) rfl _ rfl; obtain ⟨u45, s45, rfl⟩ := hD ⟨12, .guard⟩ (by simp) rfl _ rfl
            have c0 := (hC.cell (p := ⟨bb, off + j * 3, none⟩) hbb).trans D.out.1; have c1 := (hC.cell (p := ⟨bb, off + j * 3 + 1, none⟩) hbb).trans D.out.2.1; have c2 := (hC.cell (p := ⟨bb, off + j * 3 + 2, none⟩) hbb).trans D.out.2.2
            clear hA hD; refine o7w rfl rfl s45 ?_; intro K hK; gi_wp2; exact hK _ _ rfl (B7 _ _)
          · intro a' w' hA hC hD; obtain ⟨u47, s47, rfl⟩ := hD ⟨14, .data⟩ (by simp) rfl _ rfl; obtain ⟨u53, s53, rfl⟩ := hD ⟨20, .data⟩ (by simp) rfl _ rfl; obtain ⟨u45, s45, rfl⟩ := hD ⟨12, .guard⟩ (by simp) rfl _ rfl; clear hA hD; refine o7w rfl rfl s45 ?_; intro K hK; gi_wp2; rw [G2.out]; exact hK _ _ rfl (B7 _ _)
          · intro a' w' hA hC hD; obtain ⟨u54, s54, rfl⟩ := hD ⟨21, .data⟩ (by simp) rfl _ rfl; obtain ⟨u45, s45, rfl⟩ := hD ⟨12, .chain⟩ (by simp) rfl _ rfl; clear hA hD; refine o7w rfl rfl s45 ?_; intro K hK; gi_wp2; exact hK _ _ rfl (B7 _ _)
          · intro a' w' hA hC hD; have s4 := hA.to 4 (by kernel_rfl) rfl; obtain ⟨u55, s55, rfl⟩ := hD ⟨22, .guard⟩ (by simp) rfl _ rfl; clear hA hD; refine o7w rfl rfl s55 ?_; intro K hK; gi_wp2; exact hK _ _ rfl (B7 _ _)
          · intro a' w' hA hC hD; obtain ⟨u56, s56, rfl⟩ := hD ⟨23, .data⟩ (by simp) rfl _ rfl; obtain ⟨u55, s55, rfl⟩ := hD ⟨22, .guard⟩ (by simp) rfl _ rfl
            have k1 := c7b (k := 1) ((HS.out.below hC).blockAt 0 rfl) rfl
            clear hA hD; refine o7w rfl rfl s55 ?_; intro K hK; gi_wp2; exact hK _ _ rfl (B7 _ _)
          · intro a' w' hA hC hD; have s0 := hA.to 0 (by kernel_rfl) rfl; obtain ⟨u55, s55, rfl⟩ := hD ⟨22, .guard⟩ (by simp) rfl _ rfl; clear hA hD; refine o7w rfl rfl s55 ?_; intro K hK; gi_wp2; exact hK _ _ rfl (B7 _ _)
          · intro a' w' hA hC hD; have s3 := hA.to 3 (by kernel_rfl) rfl; obtain ⟨u55, s55, rfl⟩ := hD ⟨22, .guard⟩ (by simp) rfl _ rfl; clear hA hD; refine o7w rfl rfl s55 ?_; intro K hK; gi_wp2; exact hK _ _ rfl (B7 _ _)
          · intro a' w' hA hC hD; obtain ⟨u59, s59, rfl⟩ := hD ⟨26, .data⟩ (by simp) rfl _ rfl; obtain ⟨u55, s55, rfl⟩ := hD ⟨22, .guard⟩ (by simp) rfl _ rfl; clear hA hD; refine o7w rfl rfl s55 ?_; intro K hK; gi_wp2; exact hK _ _ rfl (B7 _ _)
          · intro a' w' hA hC hD; obtain ⟨u58, s58, rfl⟩ := hD ⟨25, .data⟩ (by simp) rfl _ rfl; obtain ⟨u60, s60, rfl⟩ := hD ⟨27, .data⟩ (by simp) rfl _ rfl; obtain ⟨u55, s55, rfl⟩ := hD ⟨22, .guard⟩ (by simp) rfl _ rfl; clear hA hD; refine o7w rfl rfl s55 ?_; intro K hK; gi_wp2; exact hK _ _ rfl (B7 _ _)
          · intro a' w' hA hC hD; obtain ⟨u61, s61, rfl⟩ := hD ⟨28, .data⟩ (by simp) rfl _ rfl; obtain ⟨u55, s55, rfl⟩ := hD ⟨22, .guard⟩ (by simp) rfl _ rfl; clear hA hD; refine o7w rfl rfl s55 ?_; intro K hK; gi_wp2; exact hK _ _ rfl (B7 _ _)
          · intro a' w' hA hC hD; obtain ⟨u62, s62, rfl⟩ := hD ⟨29, .data⟩ (by simp) rfl _ rfl; obtain ⟨u55, s55, rfl⟩ := hD ⟨22, .guard⟩ (by simp) rfl _ rfl
            have c0 := (hC.cell (p := ⟨bb, off + j * 3, none⟩) hbb).trans D.out.1; have c1 := (hC.cell (p := ⟨bb, off + j * 3 + 1, none⟩) hbb).trans D.out.2.1; have c2 := (hC.cell (p := ⟨bb, off + j * 3 + 2, none⟩) hbb).trans D.out.2.2
            clear hA hD; refine o7w rfl rfl s55 ?_; intro K hK; gi_wp2; exact hK _ _ rfl (B7 _ _)
          · intro a' w' hA hC hD; obtain ⟨u63, s63, rfl⟩ := hD ⟨30, .data⟩ (by simp) rfl _ rfl; obtain ⟨u55, s55, rfl⟩ := hD ⟨22, .guard⟩ (by simp) rfl _ rfl; clear hA hD; refine o7w rfl rfl s55 ?_; intro K hK; gi_wp2; rw [HW.out]; exact hK _ _ rfl (B7 _ _)
          · intro a' w' hA hC hD; obtain ⟨u57, s57, rfl⟩ := hD ⟨24, .data⟩ (by simp) rfl _ rfl; obtain ⟨u64, s64, rfl⟩ := hD ⟨31, .data⟩ (by simp) rfl _ rfl; obtain ⟨u55, s55, rfl⟩ := hD ⟨22, .guard⟩ (by simp) rfl _ rfl; clear hA hD; refine o7w rfl rfl s55 ?_; intro K hK; gi_wp2; rw [G3.out]; exact hK _ _ rfl (B7 _ _)
          · intro a' w' hA hC hD; obtain ⟨u55, s55, rfl⟩ := hD ⟨22, .data⟩ (by simp) rfl _ rfl; obtain ⟨u65, s65, rfl⟩ := hD ⟨32, .data⟩ (by simp) rfl _ rfl; obtain ⟨u45, s45, rfl⟩ := hD ⟨12, .guard⟩ (by simp) rfl _ rfl; clear hA hD; refine o7w rfl rfl s45 ?_; intro K hK; gi_wp2; exact hK _ _ rfl (B7 _ _)
          · intro a' w' hA hC hD; obtain ⟨u45, s45, rfl⟩ := hD ⟨12, .data⟩ (by simp) rfl _ rfl; obtain ⟨u66, s66, rfl⟩ := hD ⟨33, .data⟩ (by simp) rfl _ rfl; obtain ⟨u35, s35, rfl⟩ := hD ⟨2, .guard⟩ (by simp) rfl _ rfl; clear hA hD; refine o7w rfl rfl s35 ?_; intro K hK; gi_wp2; exact hK _ _ rfl (B7 _ _)
          · intro a' w' hA hC hD; obtain ⟨u35, s35, rfl⟩ := hD ⟨2, .data⟩ (by simp) rfl _ rfl; obtain ⟨u67, s67, rfl⟩ := hD ⟨34, .data⟩ (by simp) rfl _ rfl; clear hA hD; refine o7p rfl ?_; intro K hK; gi_wp2; exact hK _ _ rfl (B7 _ _)
         case hend =>
          intro w3 hC
          simp only [EndFrom, eqv, forall_eq, Act.put, List.length_cons, List.length_nil, List.drop_succ_cons, List.drop_zero, Nat.reduceAdd, List.setIfInBounds_toArray, List.set_cons_succ, List.set_cons_zero]
          have HS := H7 (HS.out.below hC)
          clear hC
          gi_wp2
          go_wp2_with fail
          go_ret
          exact ⟨by rw [rightB_ord HLT.out HOB.out]; rfl, HS.out.low⟩
       · have HOB := H7 (show ordB (l[j]'(Nat.lt_of_succ_lt HLT.out)) (l[j + 1]'HLT.out) = true by rw [HX.out, HP.out]; simp [ordB]; omega)
         have G3 := H7 (show decide (xf ≤ pt + 1) = false by simpa using g3)
         clear g1 g2 g3
         refine (wpIn_wide (n := 0)).1 ?_
         apply w7v 36 (Rl := [(eqv _), (eqv _), (eqv _), (eqv _), (eqv _), (eqv _), (eqv _), (eqv _), (eqv _), (eqv _), (eqv _), (eqv _), (eqv _), (eqv _), (eqv _), (eqv _), (eqv _), (eqv _), (eqv _), (eqv _), (eqv _), (eqv _), (eqv _), (eqv _), (eqv _), (eqv _), (eqv _), (eqv _), (eqv _), (eqv _), (eqv _), (eqv _), (eqv _), (eqv _), (eqv _), (eqv _)]) (C := (fun x y => Below x.heap.size x y))
         case hm => kernel_rfl
         case hk => rfl
         case hCr => exact (fun _ => B7 _ _)
         case hCt => intro _ _ _; exact (fun h k => g7t h k)
         case hst => repeat (first | exact trivial | refine ⟨fun _ _ _ _ h => h, ?_⟩)
         case hfo => kernel_rfl
         case ht => kernel_rfl
         case hC0 => exact (g7d _)
         case hsteps =>
          refine ⟨?_, ?_, ?_, ?_, ?_, ?_, ?_, ?_, ?_, ?_, ?_, ?_, ?_, ?_, ?_, ?_, ?_, ?_, ?_, ?_, ?_, ?_, ?_, ?_, ?_, ?_, ?_, ?_, ?_, ?_, ?_, ?_, ?_, ?_, ?_, ?_, trivial⟩
          · intro a' w' hA hC hD; have s3 := hA.to 3 (by kernel_rfl) rfl; clear hA hD; refine o7p rfl ?_; intro K hK; gi_wp2; exact hK _ _ rfl (B7 _ _)
          · intro a' w' hA hC hD; obtain ⟨u33, s33, rfl⟩ := hD ⟨0, .data⟩ (by simp) rfl _ rfl; clear hA hD; refine o7p rfl ?_; intro K hK; gi_wp2; exact hK _ _ rfl (B7 _ _)
          · intro a' w' hA hC hD; obtain ⟨u34, s34, rfl⟩ := hD ⟨1, .data⟩ (by simp) rfl _ rfl; clear hA hD; refine o7p rfl ?_; intro K hK; gi_wp2; exact hK _ _ rfl (B7 _ _)
          · intro a' w' hA hC hD; have s4 := hA.to 4 (by kernel_rfl) rfl; obtain ⟨u35, s35, rfl⟩ := hD ⟨2, .guard⟩ (by simp) rfl _ rfl; clear hA hD; refine o7w rfl rfl s35 ?_; intro K hK; gi_wp2; exact hK _ _ rfl (B7 _ _)
          · intro a' w' hA hC hD; obtain ⟨u36, s36, rfl⟩ := hD ⟨3, .data⟩ (by simp) rfl _ rfl; obtain ⟨u35, s35, rfl⟩ := hD ⟨2, .guard⟩ (by simp) rfl _ rfl
            have k0 := c7b (k := 0) ((HS.out.below hC).blockAt 0 rfl) rfl
            clear hA hD; refine o7w rfl rfl s35 ?_; intro K hK; gi_wp2; exact hK _ _ rfl (B7 _ _)
          · intro a' w' hA hC hD; have s0 := hA.to 0 (by kernel_rfl) rfl; obtain ⟨u35, s35, rfl⟩ := hD ⟨2, .guard⟩ (by simp) rfl _ rfl; clear hA hD; refine o7w rfl rfl s35 ?_; intro K hK; gi_wp2; exact hK _ _ rfl (B7 _ _)
          · intro a' w' hA hC hD; have s3 := hA.to 3 (by kernel_rfl) rfl; obtain ⟨u35, s35, rfl⟩ := hD ⟨2, .guard⟩ (by simp) rfl _ rfl; clear hA hD; refine o7w rfl rfl s35 ?_; intro K hK; gi_wp2; exact hK _ _ rfl (B7 _ _)
          · intro a' w' hA hC hD; obtain ⟨u39, s39, rfl⟩ := hD ⟨6, .data⟩ (by simp) rfl _ rfl; obtain ⟨u35, s35, rfl⟩ := hD ⟨2, .guard⟩ (by simp) rfl _ rfl; clear hA hD; refine o7w rfl rfl s35 ?_; intro K hK; gi_wp2; exact hK _ _ rfl (B7 _ _)
          · intro a' w' hA hC hD; obtain ⟨u38, s38, rfl⟩ := hD ⟨5, .data⟩ (by simp) rfl _ rfl; obtain ⟨u40, s40, rfl⟩ := hD ⟨7, .data⟩ (by simp) rfl _ rfl; obtain ⟨u35, s35, rfl⟩ := hD ⟨2, .guard⟩ (by simp) rfl _ rfl; clear hA hD; refine o7w rfl rfl s35 ?_; intro K hK; gi_wp2; exact hK _ _ rfl (B7 _ _)
          · intro a' w' hA hC hD; obtain ⟨u41, s41, rfl⟩ := hD ⟨8, .data⟩ (by simp) rfl _ rfl; obtain ⟨u35, s35, rfl⟩ := hD ⟨2, .guard⟩ (by simp) rfl _ rfl; clear hA hD; refine o7w rfl rfl s35 ?_; intro K hK; gi_wp2; exact hK _ _ rfl (B7 _ _)
          · intro a' w' hA hC hD; obtain ⟨u42, s42, rfl⟩ := hD ⟨9, .data⟩ (by simp) rfl _ rfl; obtain ⟨u35, s35, rfl⟩ := hD ⟨2, .guard⟩ (by simp) rfl _ rfl
            have c0 := (hC.cell (p := ⟨bb, off + j * 3, none⟩) hbb).trans D.out.1; have c1 := (hC.cell (p := ⟨bb, off + j * 3 + 1, none⟩) hbb).trans D.out.2.1; have c2 := (hC.cell (p := ⟨bb, off + j * 3 + 2, none⟩) hbb).trans D.out.2.2
            clear hA hD; refine o7w rfl rfl s35 ?_; intro K hK; gi_wp2; exact hK _ _ rfl (B7 _ _)
          · intro a' w' hA hC hD; obtain ⟨u37, s37, rfl⟩ := hD ⟨4, .data⟩ (by simp) rfl _ rfl; obtain ⟨u43, s43, rfl⟩ := hD ⟨10, .data⟩ (by simp) rfl _ rfl; obtain ⟨u35, s35, rfl⟩ := hD ⟨2, .guard⟩ (by simp) rfl _ rfl; clear hA hD; refine o7w rfl rfl s35 ?_; intro K hK; gi_wp2; rw [G1.out]; exact hK _ _ rfl (B7 _ _)
          · intro a' w' hA hC hD; obtain ⟨u44, s44, rfl⟩ := hD ⟨11, .data⟩ (by simp) rfl _ rfl; obtain ⟨u35, s35, rfl⟩ := hD ⟨2, .chain⟩ (by simp) rfl _ rfl; clear hA hD; refine o7w rfl rfl s35 ?_; intro K hK; gi_wp2; exact hK _ _ rfl (B7 _ _)
          · intro a' w' hA hC hD; have s4 := hA.to 4 (by kernel_rfl) rfl; obtain ⟨u45, s45, rfl⟩ := hD ⟨12, .guard⟩ (by simp) rfl _ rfl; clear hA hD; refine o7w rfl rfl s45 ?_; intro K hK; gi_wp2; exact hK _ _ rfl (B7 _ _)
          · intro a' w' hA hC hD; obtain ⟨u46, s46, rfl⟩ := hD ⟨13, .data⟩ (by simp) rfl _ rfl; obtain ⟨u45, s45, rfl⟩ := hD ⟨12, .guard⟩ (by simp) rfl _ rfl
            have k0 := c7b (k := 0) ((HS.out.below hC).blockAt 0 rfl) rfl
            clear hA hD; refine o7w rfl rfl s45 ?_; intro K hK; gi_wp2; exact hK _ _ rfl (B7 _ _)
          · intro a' w' hA hC hD; have s0 := hA.to 0 (by kernel_rfl) rfl; obtain ⟨u45, s45, rfl⟩ := hD ⟨12, .guard⟩ (by simp) rfl _ rfl; clear hA hD; refine o7w rfl rfl s45 ?_; intro K hK; gi_wp2; exact hK _ _ rfl (B7 _ _)
          · intro a' w' hA hC hD; have s3 := hA.to 3 (by kernel_rfl) rfl; obtain ⟨u45, s45, rfl⟩ := hD ⟨12, .guard⟩ (by simp) rfl _ rfl; clear hA hD; refine o7w rfl rfl s45 ?_; intro K hK; gi_wp2; exact hK _ _ rfl (B7 _ _)
          · intro a' w' hA hC hD; obtain ⟨u49, s49, rfl⟩ := hD ⟨16, .data⟩ (by simp) rfl _ rfl; obtain ⟨u45, s45, rfl⟩ := hD ⟨12, .guard⟩ (by simp) rfl _ rfl; clear hA hD; refine o7w rfl rfl s45 ?_; intro K hK; gi_wp2; exact hK _ _ rfl (B7 _ _)
          · intro a' w' hA hC hD; obtain ⟨u48, s48, rfl⟩ := hD ⟨15, .data⟩ (by simp) rfl _ rfl; obtain ⟨u50, s50, rfl⟩ := hD ⟨17, .data⟩ (by simp) rfl _ rfl; obtain ⟨u45, s45, rfl⟩ := hD ⟨12, .guard⟩ (by simp) rfl _ rfl; clear hA hD; refine o7w rfl rfl s45 ?_; intro K hK; gi_wp2; exact hK _ _ rfl (B7 _ _)
          · intro a' w' hA hC hD; obtain ⟨u51, s51, rfl⟩ := hD ⟨18, .data⟩ (by simp) rfl _ rfl; obtain ⟨u45, s45, rfl⟩ := hD ⟨12, .guard⟩ (by simp) rfl _ rfl; clear hA hD; refine o7w rfl rfl s45 ?_; intro K hK; gi_wp2; exact hK _ _ rfl (B7 _ _)
          · intro a' w' hA hC hD; obtain ⟨u52, s52, rfl⟩ := hD ⟨19, .data⟩ (by simp) rfl _ rfl; obtain ⟨u45, s45, rfl⟩ := hD ⟨12, .guard⟩ (by simp) rfl _ rfl
            have c0 := (hC.cell (p := ⟨bb, off + j * 3, none⟩) hbb).trans D.out.1; have c1 := (hC.cell (p := ⟨bb, off + j * 3 + 1, none⟩) hbb).trans D.out.2.1; have c2 := (hC.cell (p := ⟨bb, off + j * 3 + 2, none⟩) hbb).trans D.out.2.2
            clear hA hD; refine o7w rfl rfl s45 ?_; intro K hK; gi_wp2; exact hK _ _ rfl (B7 _ _)
          · intro a' w' hA hC hD; obtain ⟨u47, s47, rfl⟩ := hD ⟨14, .data⟩ (by simp) rfl _ rfl; obtain ⟨u53, s53, rfl⟩ := hD ⟨20, .data⟩ (by simp) rfl _ rfl; obtain ⟨u45, s45, rfl⟩ := hD ⟨12, .guard⟩ (by simp) rfl _ rfl; clear hA hD; refine o7w rfl rfl s45 ?_; intro K hK; gi_wp2; rw [G2.out]; exact hK _ _ rfl (B7 _ _)
          · intro a' w' hA hC hD; obtain ⟨u54, s54, rfl⟩ := hD ⟨21, .data⟩ (by simp) rfl _ rfl; obtain ⟨u45, s45, rfl⟩ := hD ⟨12, .chain⟩ (by simp) rfl _ rfl; clear hA hD; refine o7w rfl rfl s45 ?_; intro K hK; gi_wp2; exact hK _ _ rfl (B7 _ _)
          · intro a' w' hA hC hD; have s4 := hA.to 4 (by kernel_rfl) rfl; obtain ⟨u55, s55, rfl⟩ := hD ⟨22, .guard⟩ (by simp) rfl _ rfl; clear hA hD; refine o7w rfl rfl s55 ?_; intro K hK; gi_wp2; exact hK _ _ rfl (B7 _ _)
          · intro a' w' hA hC hD; obtain ⟨u56, s56, rfl⟩ := hD ⟨23, .data⟩ (by simp) rfl _ rfl; obtain ⟨u55, s55, rfl⟩ := hD ⟨22, .guard⟩ (by simp) rfl _ rfl
            have k1 := c7b (k := 1) ((HS.out.below hC).blockAt 0 rfl) rfl
            clear hA hD; refine o7w rfl rfl s55 ?_; intro K hK; gi_wp2; exact hK _ _ rfl (B7 _ _)
          · intro a' w' hA hC hD; have s0 := hA.to 0 (by kernel_rfl) rfl; obtain ⟨u55, s55, rfl⟩ := hD ⟨22, .guard⟩ (by simp) rfl _ rfl; clear hA hD; refine o7w rfl rfl s55 ?_; intro K hK; gi_wp2; exact hK _ _ rfl (B7 _ _)
          · intro a' w' hA hC hD; have s3 := hA.to 3 (by kernel_rfl) rfl; obtain ⟨u55, s55, rfl⟩ := hD ⟨22, .guard⟩ (by simp) rfl _ rfl; clear hA hD; refine o7w rfl rfl s55 ?_; intro K hK; gi_wp2; exact hK _ _ rfl (B7 _ _)
          · intro a' w' hA hC hD; obtain ⟨u59, s59, rfl⟩ := hD ⟨26, .data⟩ (by simp) rfl _ rfl; obtain ⟨u55, s55, rfl⟩ := hD ⟨22, .guard⟩ (by simp) rfl _ rfl; clear hA hD; refine o7w rfl rfl s55 ?_; intro K hK; gi_wp2; exact hK _ _ rfl (B7 _ _)
          · intro a' w' hA hC hD; obtain ⟨u58, s58, rfl⟩ := hD ⟨25, .data⟩ (by simp) rfl _ rfl; obtain ⟨u60, s60, rfl⟩ := hD ⟨27, .data⟩ (by simp) rfl _ rfl; obtain ⟨u55, s55, rfl⟩ := hD ⟨22, .guard⟩ (by simp) rfl _ rfl; clear hA hD; refine o7w rfl rfl s55 ?_; intro K hK; gi_wp2; exact hK _ _ rfl (B7 _ _)
          · intro a' w' hA hC hD; obtain ⟨u61, s61, rfl⟩ := hD ⟨28, .data⟩ (by simp) rfl _ rfl; obtain ⟨u55, s55, rfl⟩ := hD ⟨22, .guard⟩ (by simp) rfl _ rfl; clear hA hD; refine o7w rfl rfl s55 ?_; intro K hK; gi_wp2; exact hK _ _ rfl (B7 _ _)
          · intro a' w' hA hC hD; obtain ⟨u62, s62, rfl⟩ := hD ⟨29, .data⟩ (by simp) rfl _ rfl; obtain ⟨u55, s55, rfl⟩ := hD ⟨22, .guard⟩ (by simp) rfl _ rfl
            have c0 := (hC.cell (p := ⟨bb, off + j * 3, none⟩) hbb).trans D.out.1; have c1 := (hC.cell (p := ⟨bb, off + j * 3 + 1, none⟩) hbb).trans D.out.2.1; have c2 := (hC.cell (p := ⟨bb, off + j * 3 + 2, none⟩) hbb).trans D.out.2.2
            clear hA hD; refine o7w rfl rfl s55 ?_; intro K hK; gi_wp2; exact hK _ _ rfl (B7 _ _)
          · intro a' w' hA hC hD; obtain ⟨u63, s63, rfl⟩ := hD ⟨30, .data⟩ (by simp) rfl _ rfl; obtain ⟨u55, s55, rfl⟩ := hD ⟨22, .guard⟩ (by simp) rfl _ rfl; clear hA hD; refine o7w rfl rfl s55 ?_; intro K hK; gi_wp2; rw [HW.out]; exact hK _ _ rfl (B7 _ _)
          · intro a' w' hA hC hD; obtain ⟨u57, s57, rfl⟩ := hD ⟨24, .data⟩ (by simp) rfl _ rfl; obtain ⟨u64, s64, rfl⟩ := hD ⟨31, .data⟩ (by simp) rfl _ rfl; obtain ⟨u55, s55, rfl⟩ := hD ⟨22, .guard⟩ (by simp) rfl _ rfl; clear hA hD; refine o7w rfl rfl s55 ?_; intro K hK; gi_wp2; rw [G3.out]; exact hK _ _ rfl (B7 _ _)
          · intro a' w' hA hC hD; obtain ⟨u55, s55, rfl⟩ := hD ⟨22, .data⟩ (by simp) rfl _ rfl; obtain ⟨u65, s65, rfl⟩ := hD ⟨32, .data⟩ (by simp) rfl _ rfl; obtain ⟨u45, s45, rfl⟩ := hD ⟨12, .guard⟩ (by simp) rfl _ rfl; clear hA hD; refine o7w rfl rfl s45 ?_; intro K hK; gi_wp2; exact hK _ _ rfl (B7 _ _)
          · intro a' w' hA hC hD; obtain ⟨u45, s45, rfl⟩ := hD ⟨12, .data⟩ (by simp) rfl _ rfl; obtain ⟨u66, s66, rfl⟩ := hD ⟨33, .data⟩ (by simp) rfl _ rfl; obtain ⟨u35, s35, rfl⟩ := hD ⟨2, .guard⟩ (by simp) rfl _ rfl; clear hA hD; refine o7w rfl rfl s35 ?_; intro K hK; gi_wp2; exact hK _ _ rfl (B7 _ _)
          · intro a' w' hA hC hD; obtain ⟨u35, s35, rfl⟩ := hD ⟨2, .data⟩ (by simp) rfl _ rfl; obtain ⟨u67, s67, rfl⟩ := hD ⟨34, .data⟩ (by simp) rfl _ rfl; clear hA hD; refine o7p rfl ?_; intro K hK; gi_wp2; exact hK _ _ rfl (B7 _ _)
         case hend =>
          intro w3 hC
          simp only [EndFrom, eqv, forall_eq, Act.put, List.length_cons, List.length_nil, List.drop_succ_cons, List.drop_zero, Nat.reduceAdd, List.setIfInBounds_toArray, List.set_cons_succ, List.set_cons_zero]
          have HS := H7 (HS.out.below hC)
          clear hC
          gi_wp2
          go_wp2_with fail
          go_roundw
          case rel =>
           refine ⟨j + 1 + 1, hlt, by simp, HS.out.drop1, fun i hi h => ?_, fun i hi h => ?_⟩
           · rcases Nat.lt_or_ge i (j + 1) with h1 | h1
             · exact HA.out i hi h1
             · obtain rfl : i = j + 1 := by omega
               rw [HX.out]; exact HB.out
           · rcases Nat.lt_or_ge (i + 1) (j + 1) with h1 | h1
             · exact HO.out i hi h1
             · obtain rfl : i = j := by omega
               exact HOB.out
          case measure => simp [intOf]; omega
     · have HOB := H7 (show ordB (l[j]'(Nat.lt_of_succ_lt HLT.out)) (l[j + 1]'HLT.out) = true by rw [HX.out, HP.out]; simp [ordB]; omega)
       have G1 := H7 (show decide (xy < py) = false by simpa using g1)
       have G2 := H7 (show (xy == py) = false by simpa using g2)
       clear g1 g2
       refine (wpIn_wide (n := 0)).1 ?_
       apply w7v 36 (Rl := [(eqv _), (eqv _), (eqv _), (eqv _), (eqv _), (eqv _), (eqv _), (eqv _), (eqv _), (eqv _), (eqv _), (eqv _), (eqv _), (eqv _), (eqv _), (eqv _), (eqv _), (eqv _), (eqv _), (eqv _), (eqv _), (eqv _), (eqv _), (fun v_ _ => v_ = (undef : Value)), (fun v_ _ => v_ = (undef : Value)), (fun v_ _ => v_ = (undef : Value)), (fun v_ _ => v_ = (undef : Value)), (fun v_ _ => v_ = (undef : Value)), (fun v_ _ => v_ = (undef : Value)), (fun v_ _ => v_ = (undef : Value)), (fun v_ _ => v_ = (undef : Value)), (fun v_ _ => v_ = (undef : Value)), (fun v_ _ => v_ = (undef : Value)), (eqv _), (eqv _), (eqv _)]) (C := (fun x y => Below x.heap.size x y))
       case hm => kernel_rfl
       case hk => rfl
       case hCr => exact (fun _ => B7 _ _)
       case hCt => intro _ _ _; exact (fun h k => g7t h k)
       case hst => repeat (first | exact trivial | refine ⟨fun _ _ _ _ h => h, ?_⟩)
       case hfo => kernel_rfl
       case ht => kernel_rfl
       case hC0 => exact (g7d _)
       case hsteps =>
        refine ⟨?_, ?_, ?_, ?_, ?_, ?_, ?_, ?_, ?_, ?_, ?_, ?_, ?_, ?_, ?_, ?_, ?_, ?_, ?_, ?_, ?_, ?_, ?_, ?_, ?_, ?_, ?_, ?_, ?_, ?_, ?_, ?_, ?_, ?_, ?_, ?_, trivial⟩
        · intro a' w' hA hC hD; have s3 := hA.to 3 (by kernel_rfl) rfl; clear hA hD; refine o7p rfl ?_; intro K hK; gi_wp2; exact hK _ _ rfl (B7 _ _)
        · intro a' w' hA hC hD; obtain ⟨u33, s33, rfl⟩ := hD ⟨0, .data⟩ (by simp) rfl _ rfl; clear hA hD; refine o7p rfl ?_; intro K hK; gi_wp2; exact hK _ _ rfl (B7 _ _)
        · intro a' w' hA hC hD; obtain ⟨u34, s34, rfl⟩ := hD ⟨1, .data⟩ (by simp) rfl _ rfl; clear hA hD; refine o7p rfl ?_; intro K hK; gi_wp2; exact hK _ _ rfl (B7 _ _)
        · intro a' w' hA hC hD; have s4 := hA.to 4 (by kernel_rfl) rfl; obtain ⟨u35, s35, rfl⟩ := hD ⟨2, .guard⟩ (by simp) rfl _ rfl; clear hA hD; refine o7w rfl rfl s35 ?_; intro K hK; gi_wp2; exact hK _ _ rfl (B7 _ _)
        · intro a' w' hA hC hD; obtain ⟨u36, s36, rfl⟩ := hD ⟨3, .data⟩ (by simp) rfl _ rfl; obtain ⟨u35, s35, rfl⟩ := hD ⟨2, .guard⟩ (by simp) rfl _ rfl
          have k0 := c7b (k := 0) ((HS.out.below hC).blockAt 0 rfl) rfl
          clear hA hD; refine o7w rfl rfl s35 ?_; intro K hK; gi_wp2; exact hK _ _ rfl (B7 _ _)
        · intro a' w' hA hC hD; have s0 := hA.to 0 (by kernel_rfl) rfl; obtain ⟨u35, s35, rfl⟩ := hD ⟨2, .guard⟩ (by simp) rfl _ rfl; clear hA hD; refine o7w rfl rfl s35 ?_; intro K hK; gi_wp2; exact hK _ _ rfl (B7 _ _)
        · intro a' w' hA hC hD; have s3 := hA.to 3 (by kernel_rfl) rfl; obtain ⟨u35, s35, rfl⟩ := hD ⟨2, .guard⟩ (by simp) rfl _ rfl; clear hA hD; refine o7w rfl rfl s35 ?_; intro K hK; gi_wp2; exact hK _ _ rfl (B7 _ _)
        · intro a' w' hA hC hD; obtain ⟨u39, s39, rfl⟩ := hD ⟨6, .data⟩ (by simp) rfl _ rfl; obtain ⟨u35, s35, rfl⟩ := hD ⟨2, .guard⟩ (by simp) rfl _ rfl; clear hA hD; refine o7w rfl rfl s35 ?_; intro K hK; gi_wp2; exact hK _ _ rfl (B7 _ _)
        · intro a' w' hA hC hD; obtain ⟨u38, s38, rfl⟩ := hD ⟨5, .data⟩ (by simp) rfl _ rfl; obtain ⟨u40, s40, rfl⟩ := hD ⟨7, .data⟩ (by simp) rfl _ rfl; obtain ⟨u35, s35, rfl⟩ := hD ⟨2, .guard⟩ (by simp) rfl _ rfl; clear hA hD; refine o7w rfl rfl s35 ?_; intro K hK; gi_wp2; exact hK _ _ rfl (B7 _ _)
        · intro a' w' hA hC hD; obtain ⟨u41, s41, rfl⟩ := hD ⟨8, .data⟩ (by simp) rfl _ rfl; obtain ⟨u35, s35, rfl⟩ := hD ⟨2, .guard⟩ (by simp) rfl _ rfl; clear hA hD; refine o7w rfl rfl s35 ?_; intro K hK; gi_wp2; exact hK _ _ rfl (B7 _ _)
        · intro a' w' hA hC hD; obtain ⟨u42, s42, rfl⟩ := hD ⟨9, .data⟩ (by simp) rfl _ rfl; obtain ⟨u35, s35, rfl⟩ := hD ⟨2, .guard⟩ (by simp) rfl _ rfl
          have c0 := (hC.cell (p := ⟨bb, off + j * 3, none⟩) hbb).trans D.out.1; have c1 := (hC.cell (p := ⟨bb, off + j * 3 + 1, none⟩) hbb).trans D.out.2.1; have c2 := (hC.cell (p := ⟨bb, off + j * 3 + 2, none⟩) hbb).trans D.out.2.2
          clear hA hD; refine o7w rfl rfl s35 ?_; intro K hK; gi_wp2; exact hK _ _ rfl (B7 _ _)
        · intro a' w' hA hC hD; obtain ⟨u37, s37, rfl⟩ := hD ⟨4, .data⟩ (by simp) rfl _ rfl; obtain ⟨u43, s43, rfl⟩ := hD ⟨10, .data⟩ (by simp) rfl _ rfl; obtain ⟨u35, s35, rfl⟩ := hD ⟨2, .guard⟩ (by simp) rfl _ rfl; clear hA hD; refine o7w rfl rfl s35 ?_; intro K hK; gi_wp2; rw [G1.out]; exact hK _ _ rfl (B7 _ _)
        · intro a' w' hA hC hD; obtain ⟨u44, s44, rfl⟩ := hD ⟨11, .data⟩ (by simp) rfl _ rfl; obtain ⟨u35, s35, rfl⟩ := hD ⟨2, .chain⟩ (by simp) rfl _ rfl; clear hA hD; refine o7w rfl rfl s35 ?_; intro K hK; gi_wp2; exact hK _ _ rfl (B7 _ _)
        · intro a' w' hA hC hD; have s4 := hA.to 4 (by kernel_rfl) rfl; obtain ⟨u45, s45, rfl⟩ := hD ⟨12, .guard⟩ (by simp) rfl _ rfl; clear hA hD; refine o7w rfl rfl s45 ?_; intro K hK; gi_wp2; exact hK _ _ rfl (B7 _ _)
        · intro a' w' hA hC hD; obtain ⟨u46, s46, rfl⟩ := hD ⟨13, .data⟩ (by simp) rfl _ rfl; obtain ⟨u45, s45, rfl⟩ := hD ⟨12, .guard⟩ (by simp) rfl _ rfl
          have k0 := c7b (k := 0) ((HS.out.below hC).blockAt 0 rfl) rfl
          clear hA hD; refine o7w rfl rfl s45 ?_; intro K hK; gi_wp2; exact hK _ _ rfl (B7 _ _)
        · intro a' w' hA hC hD; have s0 := hA.to 0 (by kernel_rfl) rfl; obtain ⟨u45, s45, rfl⟩ := hD ⟨12, .guard⟩ (by simp) rfl _ rfl; clear hA hD; refine o7w rfl rfl s45 ?_; intro K hK; gi_wp2; exact hK _ _ rfl (B7 _ _)
        · intro a' w' hA hC hD; have s3 := hA.to 3 (by kernel_rfl) rfl; obtain ⟨u45, s45, rfl⟩ := hD ⟨12, .guard⟩ (by simp) rfl _ rfl; clear hA hD; refine o7w rfl rfl s45 ?_; intro K hK; gi_wp2; exact hK _ _ rfl (B7 _ _)
        · intro a' w' hA hC hD; obtain ⟨u49, s49, rfl⟩ := hD ⟨16, .data⟩ (by simp) rfl _ rfl; obtain ⟨u45, s45, rfl⟩ := hD ⟨12, .guard⟩ (by simp) rfl _ rfl; clear hA hD; refine o7w rfl rfl s45 ?_; intro K hK; gi_wp2; exact hK _ _ rfl (B7 _ _)
        · intro a' w' hA hC hD; obtain ⟨u48, s48, rfl⟩ := hD ⟨15, .data⟩ (by simp) rfl _ rfl; obtain ⟨u50, s50, rfl⟩ := hD ⟨17, .data⟩ (by simp) rfl _ rfl; obtain ⟨u45, s45, rfl⟩ := hD ⟨12, .guard⟩ (by simp) rfl _ rfl; clear hA hD; refine o7w rfl rfl s45 ?_; intro K hK; gi_wp2; exact hK _ _ rfl (B7 _ _)
        · intro a' w' hA hC hD; obtain ⟨u51, s51, rfl⟩ := hD ⟨18, .data⟩ (by simp) rfl _ rfl; obtain ⟨u45, s45, rfl⟩ := hD ⟨12, .guard⟩ (by simp) rfl _ rfl; clear hA hD; refine o7w rfl rfl s45 ?_; intro K hK; gi_wp2; exact hK _ _ rfl (B7 _ _)
        · intro a' w' hA hC hD; obtain ⟨u52, s52, rfl⟩ := hD ⟨19, .data⟩ (by simp) rfl _ rfl; obtain ⟨u45, s45, rfl⟩ := hD ⟨12, .guard⟩ (by simp) rfl _ rfl
          have c0 := (hC.cell (p := ⟨bb, off + j * 3, none⟩) hbb).trans D.out.1; have c1 := (hC.cell (p := ⟨bb, off + j * 3 + 1, none⟩) hbb).trans D.out.2.1; have c2 := (hC.cell (p := ⟨bb, off + j * 3 + 2, none⟩) hbb).trans D.out.2.2
          clear hA hD; refine o7w rfl rfl s45 ?_; intro K hK; gi_wp2; exact hK _ _ rfl (B7 _ _)
        · intro a' w' hA hC hD; obtain ⟨u47, s47, rfl⟩ := hD ⟨14, .data⟩ (by simp) rfl _ rfl; obtain ⟨u53, s53, rfl⟩ := hD ⟨20, .data⟩ (by simp) rfl _ rfl; obtain ⟨u45, s45, rfl⟩ := hD ⟨12, .guard⟩ (by simp) rfl _ rfl; clear hA hD; refine o7w rfl rfl s45 ?_; intro K hK; gi_wp2; rw [G2.out]; exact hK _ _ rfl (B7 _ _)
        · intro a' w' hA hC hD; obtain ⟨u54, s54, rfl⟩ := hD ⟨21, .data⟩ (by simp) rfl _ rfl; obtain ⟨u45, s45, rfl⟩ := hD ⟨12, .chain⟩ (by simp) rfl _ rfl; clear hA hD; refine o7w rfl rfl s45 ?_; intro K hK; gi_wp2; exact hK _ _ rfl (B7 _ _)
        · intro a' w' hA hC hD; have s4 := hA.to 4 (by kernel_rfl) rfl; obtain ⟨u55, s55, rfl⟩ := hD ⟨22, .guard⟩ (by simp) rfl _ rfl; clear hA hD
          exact o7s rfl rfl s55 rfl
        · intro a' w' hA hC hD; obtain ⟨u56, s56, r56⟩ := hD ⟨23, .data⟩ (by simp) rfl _ rfl; replace r56 : u56 = undef := r56; subst r56; obtain ⟨u55, s55, rfl⟩ := hD ⟨22, .guard⟩ (by simp) rfl _ rfl; clear hA hD
          exact o7s rfl rfl s55 rfl
        · intro a' w' hA hC hD; have s0 := hA.to 0 (by kernel_rfl) rfl; obtain ⟨u55, s55, rfl⟩ := hD ⟨22, .guard⟩ (by simp) rfl _ rfl; clear hA hD
          exact o7s rfl rfl s55 rfl
        · intro a' w' hA hC hD; have s3 := hA.to 3 (by kernel_rfl) rfl; obtain ⟨u55, s55, rfl⟩ := hD ⟨22, .guard⟩ (by simp) rfl _ rfl; clear hA hD
          exact o7s rfl rfl s55 rfl
        · intro a' w' hA hC hD; obtain ⟨u59, s59, r59⟩ := hD ⟨26, .data⟩ (by simp) rfl _ rfl; replace r59 : u59 = undef := r59; subst r59; obtain ⟨u55, s55, rfl⟩ := hD ⟨22, .guard⟩ (by simp) rfl _ rfl; clear hA hD
          exact o7s rfl rfl s55 rfl
        · intro a' w' hA hC hD; obtain ⟨u58, s58, r58⟩ := hD ⟨25, .data⟩ (by simp) rfl _ rfl; replace r58 : u58 = undef := r58; subst r58; obtain ⟨u60, s60, r60⟩ := hD ⟨27, .data⟩ (by simp) rfl _ rfl; replace r60 : u60 = undef := r60; subst r60; obtain ⟨u55, s55, rfl⟩ := hD ⟨22, .guard⟩ (by simp) rfl _ rfl; clear hA hD
          exact o7s rfl rfl s55 rfl
        · intro a' w' hA hC hD; obtain ⟨u61, s61, r61⟩ := hD ⟨28, .data⟩ (by simp) rfl _ rfl; replace r61 : u61 = undef := r61; subst r61; obtain ⟨u55, s55, rfl⟩ := hD ⟨22, .guard⟩ (by simp) rfl _ rfl; clear hA hD
          exact o7s rfl rfl s55 rfl
        · intro a' w' hA hC hD; obtain ⟨u62, s62, r62⟩ := hD ⟨29, .data⟩ (by simp) rfl _ rfl; replace r62 : u62 = undef := r62; subst r62; obtain ⟨u55, s55, rfl⟩ := hD ⟨22, .guard⟩ (by simp) rfl _ rfl; clear hA hD
          exact o7s rfl rfl s55 rfl
        · intro a' w' hA hC hD; obtain ⟨u63, s63, r63⟩ := hD ⟨30, .data⟩ (by simp) rfl _ rfl; replace r63 : u63 = undef := r63; subst r63; obtain ⟨u55, s55, rfl⟩ := hD ⟨22, .guard⟩ (by simp) rfl _ rfl; clear hA hD
          exact o7s rfl rfl s55 rfl
        · intro a' w' hA hC hD; obtain ⟨u57, s57, r57⟩ := hD ⟨24, .data⟩ (by simp) rfl _ rfl; replace r57 : u57 = undef := r57; subst r57; obtain ⟨u64, s64, r64⟩ := hD ⟨31, .data⟩ (by simp) rfl _ rfl; replace r64 : u64 = undef := r64; subst r64; obtain ⟨u55, s55, rfl⟩ := hD ⟨22, .guard⟩ (by simp) rfl _ rfl; clear hA hD
          exact o7s rfl rfl s55 rfl
        · intro a' w' hA hC hD; obtain ⟨u55, s55, rfl⟩ := hD ⟨22, .data⟩ (by simp) rfl _ rfl; obtain ⟨u65, s65, r65⟩ := hD ⟨32, .data⟩ (by simp) rfl _ rfl; replace r65 : u65 = undef := r65; subst r65; obtain ⟨u45, s45, rfl⟩ := hD ⟨12, .guard⟩ (by simp) rfl _ rfl; clear hA hD; refine o7w rfl rfl s45 ?_; intro K hK; gi_wp2; exact hK _ _ rfl (B7 _ _)
        · intro a' w' hA hC hD; obtain ⟨u45, s45, rfl⟩ := hD ⟨12, .data⟩ (by simp) rfl _ rfl; obtain ⟨u66, s66, rfl⟩ := hD ⟨33, .data⟩ (by simp) rfl _ rfl; obtain ⟨u35, s35, rfl⟩ := hD ⟨2, .guard⟩ (by simp) rfl _ rfl; clear hA hD; refine o7w rfl rfl s35 ?_; intro K hK; gi_wp2; exact hK _ _ rfl (B7 _ _)
        · intro a' w' hA hC hD; obtain ⟨u35, s35, rfl⟩ := hD ⟨2, .data⟩ (by simp) rfl _ rfl; obtain ⟨u67, s67, rfl⟩ := hD ⟨34, .data⟩ (by simp) rfl _ rfl; clear hA hD; refine o7p rfl ?_; intro K hK; gi_wp2; exact hK _ _ rfl (B7 _ _)
       case hend =>
        intro w3 hC
        simp only [EndFrom, eqv, forall_eq, Act.put, List.length_cons, List.length_nil, List.drop_succ_cons, List.drop_zero, Nat.reduceAdd, List.setIfInBounds_toArray, List.set_cons_succ, List.set_cons_zero]
        have HS := H7 (HS.out.below hC)
        clear hC
        gi_wp2
        go_wp2_with fail
        go_roundw
        case rel =>
         refine ⟨j + 1 + 1, hlt, by simp, HS.out.drop1, fun i hi h => ?_, fun i hi h => ?_⟩
         · rcases Nat.lt_or_ge i (j + 1) with h1 | h1
           · exact HA.out i hi h1
           · obtain rfl : i = j + 1 := by omega
             rw [HX.out]; exact HB.out
         · rcases Nat.lt_or_ge (i + 1) (j + 1) with h1 | h1
           · exact HO.out i hi h1
           · obtain rfl : i = j := by omega
             exact HOB.out
        case measure => simp [intOf]; omega
  · obtain rfl : k = n := by omega
    clear hk hlt
    go_wp2_with fail
    go_ret
    exact ⟨by rw [(rightB_iff l).2 ⟨fun j hj => HA.out j hj (by rw [← HL.out]; exact hj), fun j hj => HO.out j hj (by rw [← HL.out]; exact hj)⟩]; rfl, HS.out.low⟩
end Go.Proofs.YtgdcfkbimkclaaaGreatDoor
