/- Merged texts: FlW FlSt. -/
import Derived.Test.YtlnjgdnnpkloeaaM19
import Derived.Test.YtlnjgdnnpkloeaaM21
/- Layer 8: the chapter's canvas; wakes. -/
namespace Go.Proofs.Ytlnjgdnnpkloeaa
set_option linter.unusedSimpArgs false
set_option linter.unusedVariables false
open Go.RowKit Go.Shelf
attribute [local go_sem] Oper.semAt_some

def redC : ColT := ⟨255, 0, 0, 255⟩
theorem redC_ok : okC redC := by unfold okC redC; decide
/-- The chapter's canvas. -/
def corT : CanT := ⟨1, 1, [⟨[zeroC, redC, zeroC, zeroC, zeroC, zeroC, zeroC, zeroC, redC, redC] ++ List.replicate 54 zeroC, by simp⟩]⟩
/-- Its pixel 0, 0 filled. -/
def corF : CanT := ⟨1, 1, [⟨[redC, redC, zeroC, zeroC, zeroC, zeroC, zeroC, zeroC, redC, redC] ++ List.replicate 54 zeroC, by simp⟩]⟩
set_option maxRecDepth 100000 in
theorem corT_is : setC canE redC [⟨0, 1⟩, ⟨1, 1⟩, ⟨1, 0⟩] = corT := by decide +kernel
set_option maxRecDepth 100000 in
theorem corF_is : fillC corT ⟨0, 0⟩ 0 redC = corF := by decide +kernel
set_option maxRecDepth 100000 in
theorem cor_reg : regL (placesL corT ⟨1, 0⟩ 0) = [⟨0, 1, 1⟩, ⟨1, 0, 1⟩] := by decide +kernel
set_option maxRecDepth 100000 in
theorem cor_parts : partsR corT [0, 1020] = [3, 1] := by decide +kernel
set_option maxRecDepth 100000 in
theorem cor_parts2 : partsR corF [0] = [2] := by decide +kernel
set_option maxRecDepth 100000 in
theorem cor_steps : stepsR corT ⟨1, 0⟩ ⟨0, 1⟩ 0 = (2, 0) := by decide +kernel
set_option maxRecDepth 100000 in
theorem cor_steps2 : stepsR corT ⟨0, 0⟩ ⟨1, 0⟩ 0 = (0, 4) := by decide +kernel
theorem rim_right : rightB [(⟨0, 0, 0⟩ : SpT)] = true := right_one (by decide)
set_option maxRecDepth 100000 in
theorem cor_rim : rimR corT [⟨0, 0, 0⟩] = [⟨0, 0⟩] := by
  unfold rimR rimOk
  rw [rim_right]
  decide +kernel
theorem cor_rimE : rimE corT [⟨0, 0, 0⟩] = 0 := by
  unfold rimE
  rw [rim_right]
  decide +kernel

set_option maxRecDepth 100000 in
set_option maxHeartbeats 1000000 in
theorem corner_any (w : World) : Calls Try.prog 36 #[] w (GivesC corT w) := by
  have HS := Lib.hid (St.start w)
  have HSET := Lib.hid (fun (p : Nat) (a : Option Addr) (w' : World) h he => set_any canE p redC redC_ok a 3 3 [⟨0, 1⟩, ⟨1, 1⟩, ⟨1, 0⟩] rfl (by decide) w' h he)
  rw [corT_is] at HSET
  unfold ColT.val redC at HSET
  simp only at HSET
  go_enter Try.func36, Try.ntmps36
  go_wp2_with fail
  refine (new_any w).mono ?_
  rintro e w1 ⟨p, rfl, hc, hp, hb⟩
  have HS := Lib.hid (HS.out.below hb)
  have HC := Lib.hid hc
  clear hc hp hb
  go_wp2_with fail
  have hs_ := HS.out.alloc (.cells #[.int .i64 0, .int .i64 1, .int .i64 1, .int .i64 1, .int .i64 1, .int .i64 0] 49)
  have hk_HC := HC.out.below ((Below.refl _ _).alloc (Nat.le_refl _) (.cells #[.int .i64 0, .int .i64 1, .int .i64 1, .int .i64 1, .int .i64 1, .int .i64 0] 49))
  obtain ⟨w2, hw_⟩ : ∃ w2 : World, w1.alloc (.cells #[.int .i64 0, .int .i64 1, .int .i64 1, .int .i64 1, .int .i64 1, .int .i64 0] 49) = w2 := ⟨_, rfl⟩
  rw [hw_] at hs_ hk_HC
  have HS := Lib.hid hs_
  have HC := Lib.hid hk_HC
  rw [hw_]
  clear hw_ hs_ hk_HC
  refine (HSET.out p _ _ HC.out (Elems.ofBlock (HS.out.blockAt 0 rfl) _ _ _ rfl rfl)).mono ?_
  rintro e w3 ⟨p', rfl, hc3, hp3, hb3⟩
  have HR := Lib.hid (And.intro hc3 (And.intro (Nat.le_trans HS.out.size hp3) (HS.out.low.trans (hb3.mono HS.out.size))))
  clear hc3 hp3 hb3
  go_wp2_with fail
  go_ret
  exact ⟨p', rfl, HR.out⟩

theorem wk_reg (p : Nat) (w : World) (h : CanAt w p corT) : Calls Try.prog 23 #[.pointer (some ⟨p, 0, none⟩), .agg #[.int .i64 1, .int .i64 0], .int .i64 0] w (Got 3 encS [⟨0, 1, 1⟩, ⟨1, 0, 1⟩] 2 0 w) :=
  (region_good corT p ⟨1, 0⟩ 0 w h (by decide)).mono fun _ _ h => (h.got encS_len).is cor_reg rfl rfl
theorem wk_reg2 (p : Nat) (w : World) (h : CanAt w p corT) : Calls Try.prog 23 #[.pointer (some ⟨p, 0, none⟩), .agg #[.int .i64 1, .int .i64 0], .int .i64 (-1)] w (Gives (.tuple #[.slice none 0 0, .int .i64 2]) w) :=
  region_bad corT p ⟨1, 0⟩ (-1) w h (by decide)
theorem wk_parts (p : Nat) (a : Option Addr) (cap : Nat) (w : World) (h : CanAt w p corT) (he : Elems w (.slice a 2 cap) 2 1 (rowC encI [0, 1020])) : Calls Try.prog 11 #[.pointer (some ⟨p, 0, none⟩), .slice a 2 cap] w (Got 1 encI [3, 1] 2 0 w) :=
  (flParts_any corT p a 2 cap [0, 1020] rfl (by decide) w h he).mono fun _ _ h => (h.got encI_len).is cor_parts rfl rfl
theorem wk_parts2 (p : Nat) (a : Option Addr) (cap : Nat) (w : World) (h : CanAt w p corF) (he : Elems w (.slice a 1 cap) 1 1 (rowC encI [0])) : Calls Try.prog 11 #[.pointer (some ⟨p, 0, none⟩), .slice a 1 cap] w (Got 1 encI [2] 1 0 w) :=
  (flParts_any corF p a 1 cap [0] rfl (by decide) w h he).mono fun _ _ h => (h.got encI_len).is cor_parts2 rfl rfl
theorem wk_steps (p : Nat) (w : World) (h : CanAt w p corT) : Calls Try.prog 21 #[.pointer (some ⟨p, 0, none⟩), .agg #[.int .i64 1, .int .i64 0], .agg #[.int .i64 0, .int .i64 1], .int .i64 0] w (Gives (.tuple #[.int .i64 2, .int .i64 0]) w) := by
  have := steps_any corT p ⟨1, 0⟩ ⟨0, 1⟩ 0 w h
  rw [cor_steps] at this
  exact this
theorem wk_steps2 (p : Nat) (w : World) (h : CanAt w p corT) : Calls Try.prog 21 #[.pointer (some ⟨p, 0, none⟩), .agg #[.int .i64 0, .int .i64 0], .agg #[.int .i64 1, .int .i64 0], .int .i64 0] w (Gives (.tuple #[.int .i64 0, .int .i64 4]) w) := by
  have := steps_any corT p ⟨0, 0⟩ ⟨1, 0⟩ 0 w h
  rw [cor_steps2] at this
  exact this
theorem wk_rim (p : Nat) (a : Option Addr) (cap : Nat) (w : World) (h : CanAt w p corT) (he : Elems w (.slice a 1 cap) 1 3 (rowC encS [⟨0, 0, 0⟩])) : Calls Try.prog 16 #[.pointer (some ⟨p, 0, none⟩), .slice a 1 cap] w (Got 2 encP [⟨0, 0⟩] 1 0 w) :=
  (rim_any corT p a 1 cap [⟨0, 0, 0⟩] rfl (by decide) (by decide) w h he).mono fun _ _ h => (h.got encP_len).is cor_rim rfl cor_rimE
theorem wk_fill (p : Nat) (w : World) (h : CanAt w p corT) : Calls Try.prog 24 #[.pointer (some ⟨p, 0, none⟩), .agg #[.int .i64 0, .int .i64 0], .int .i64 0, .agg #[.int .u8 255, .int .u8 0, .int .u8 0, .int .u8 255]] w (GivesCan corF w) := by
  have := fill_good corT p ⟨0, 0⟩ 0 redC redC_ok w h (by decide)
  rw [corF_is] at this
  exact this
theorem eqI_same (a1 a2 : Option Addr) (n c d : Nat) (L : List Int) (hL : L.length = n) (w : World) (h1 : Elems w (.slice a1 n c) n 1 (rowC encI L)) (h2 : Elems w (.slice a2 n d) n 1 (rowC encI L)) (hn : n ≤ 1000000 := by decide) :
    Calls Try.prog 14 #[.slice a1 n c, .slice a2 n d] w (Gives (.bool true) w) := by
  have := eqI_any a1 a2 n n c d L L hL hL hn w h1 h2
  rwa [decide_eq_true rfl] at this

set_option maxRecDepth 100000 in
set_option maxHeartbeats 4000000 in
theorem flWakes_any (w : World) : Calls Try.prog 8 #[] w (Gives (.bool true) w) := by
  have HS := Lib.hid (St.start w)
  go_enter Try.func8, Try.ntmps8
  go_wp2_with fail
  refine (corner_any w).mono ?_
  rintro e w1 ⟨p, rfl, hc, -, hb⟩
  have HS := Lib.hid (HS.out.below hb)
  have HC := Lib.hid hc
  clear hc hb
  repeat ((fail_if_success (with_reducible refine stop_at (id := 3) ?_)); (first | go_values | go_skip | go_guarded | go_step | go_upon | go_back | (simp only [Int.not_lt, Int.not_le] at *; go_simp) | (go_values <;> (try go_simp)) | (go_ite <;> go_prune <;> (try go_simp)) | (split <;> (first | (rename_i hx; exact (hx _ rfl).elim) | go_prune))))
  have hs_ := HS.out.alloc (.cells #[.int .i64 1, .int .i64 0] 49)
  have hk_HC := HC.out.below ((Below.refl _ _).alloc (Nat.le_refl _) (.cells #[.int .i64 1, .int .i64 0] 49))
  obtain ⟨w2, hw_⟩ : ∃ w2 : World, w1.alloc (.cells #[.int .i64 1, .int .i64 0] 49) = w2 := ⟨_, rfl⟩
  rw [hw_] at hs_ hk_HC
  have HS := Lib.hid hs_
  have HC := Lib.hid hk_HC
  rw [hw_]
  clear hw_ hs_ hk_HC
  have k0 := cell_of_block (k := 0) (HS.out.blockAt 0 rfl) rfl
  have k1 := cell_of_block (k := 1) (HS.out.blockAt 0 rfl) rfl
  go_wp2_with fail
  clear k0 k1
  refine (wk_reg p _ HC.out).mono ?_
  rintro e w3 ⟨-, a3, c3, rfl, he_, hb_⟩
  have HS := Lib.hid ((HS.out.below hb_).addRow he_)
  have HC := Lib.hid (HC.out.below hb_)
  clear hb_ he_
  go_wp2_with fail
  have hs_ := HS.out.alloc (.cells #[.int .i64 0, .int .i64 1020] 3)
  have hk_HC := HC.out.below ((Below.refl _ _).alloc (Nat.le_refl _) (.cells #[.int .i64 0, .int .i64 1020] 3))
  obtain ⟨w4, hw_⟩ : ∃ w4 : World, w3.alloc (.cells #[.int .i64 0, .int .i64 1020] 3) = w4 := ⟨_, rfl⟩
  rw [hw_] at hs_ hk_HC
  have HS := Lib.hid hs_
  have HC := Lib.hid hk_HC
  rw [hw_]
  clear hw_ hs_ hk_HC
  refine (wk_parts p _ _ _ HC.out (Elems.ofBlock (HS.out.blockAt 0 rfl) _ _ _ rfl rfl)).mono ?_
  rintro e w5 ⟨-, a5, c5, rfl, he_, hb_⟩
  have HS := Lib.hid ((HS.out.below hb_).addRow he_)
  have HC := Lib.hid (HC.out.below hb_)
  clear hb_ he_
  have k0 := cell_of_block (k := 0) (HS.out.blockAt 3 rfl) rfl
  have k1 := cell_of_block (k := 1) (HS.out.blockAt 3 rfl) rfl
  go_wp2_with fail
  clear k0 k1
  refine (wk_steps p _ HC.out).mono ?_
  rintro e w6 ⟨rfl, hb_⟩
  have HS := Lib.hid (HS.out.below hb_)
  have HC := Lib.hid (HC.out.below hb_)
  clear hb_
  have k0 := cell_of_block (k := 0) (HS.out.blockAt 3 rfl) rfl
  have k1 := cell_of_block (k := 1) (HS.out.blockAt 3 rfl) rfl
  go_wp2_with fail
  clear k0 k1
  refine (wk_steps2 p _ HC.out).mono ?_
  rintro e w7 ⟨rfl, hb_⟩
  have HS := Lib.hid (HS.out.below hb_)
  have HC := Lib.hid (HC.out.below hb_)
  clear hb_
  go_wp2_with fail
  have hs_ := HS.out.alloc (.cells #[.int .i64 0, .int .i64 0, .int .i64 0] 42)
  have hk_HC := HC.out.below ((Below.refl _ _).alloc (Nat.le_refl _) (.cells #[.int .i64 0, .int .i64 0, .int .i64 0] 42))
  obtain ⟨w8, hw_⟩ : ∃ w8 : World, w7.alloc (.cells #[.int .i64 0, .int .i64 0, .int .i64 0] 42) = w8 := ⟨_, rfl⟩
  rw [hw_] at hs_ hk_HC
  have HS := Lib.hid hs_
  have HC := Lib.hid hk_HC
  rw [hw_]
  clear hw_ hs_ hk_HC
  refine (wk_rim p _ _ _ HC.out (Elems.ofBlock (HS.out.blockAt 0 rfl) _ _ _ rfl rfl)).mono ?_
  rintro e w9 ⟨-, a9, c9, rfl, he_, hb_⟩
  have HS := Lib.hid ((HS.out.below hb_).addRow he_)
  have HC := Lib.hid (HC.out.below hb_)
  clear hb_ he_
  have k0 := cell_of_block (k := 0) (HS.out.blockAt 5 rfl) rfl
  have k1 := cell_of_block (k := 1) (HS.out.blockAt 5 rfl) rfl
  go_wp2_with fail
  clear k0 k1
  refine (wk_reg2 p _ HC.out).mono ?_
  rintro e w10 ⟨rfl, hb_⟩
  have HS := Lib.hid (HS.out.below hb_)
  have HC := Lib.hid (HC.out.below hb_)
  clear hb_
  go_wp2_with fail
  refine (wk_fill p _ HC.out).mono ?_
  rintro e w11 ⟨p2, rfl, hc2, -, hb2⟩
  have HS := Lib.hid (HS.out.below hb2)
  have HC := Lib.hid hc2
  clear hc2 hb2
  go_wp2_with fail
  have hs_ := HS.out.alloc (.cells #[.int .i64 0] 3)
  have hk_HC := HC.out.below ((Below.refl _ _).alloc (Nat.le_refl _) (.cells #[.int .i64 0] 3))
  obtain ⟨w12, hw_⟩ : ∃ w12 : World, w11.alloc (.cells #[.int .i64 0] 3) = w12 := ⟨_, rfl⟩
  rw [hw_] at hs_ hk_HC
  have HS := Lib.hid hs_
  have HC := Lib.hid hk_HC
  rw [hw_]
  clear hw_ hs_ hk_HC
  refine (wk_parts2 p2 _ _ _ HC.out (Elems.ofBlock (HS.out.blockAt 0 rfl) _ _ _ rfl rfl)).mono ?_
  rintro e w13 ⟨-, a13, c13, rfl, he_, hb_⟩
  have HS := Lib.hid ((HS.out.below hb_).addRow he_)
  have HC := Lib.hid (HC.out.below hb_)
  clear hb_ he_
  go_wp2_with fail
  have hs_ := (HS.out.alloc (.cells #[.int .i64 0, .int .i64 1, .int .i64 1, .int .i64 1, .int .i64 0, .int .i64 1] 42))
  obtain ⟨w14, hw_⟩ : ∃ w14 : World, (w13.alloc (.cells #[.int .i64 0, .int .i64 1, .int .i64 1, .int .i64 1, .int .i64 0, .int .i64 1] 42)) = w14 := ⟨_, rfl⟩
  rw [hw_] at hs_
  try simp only [World.size_alloc] at hs_
  have HS := Lib.hid hs_
  rw [hw_]
  clear hw_ hs_
  refine (eqS_same _ _ [⟨0, 1, 1⟩, ⟨1, 0, 1⟩] 2 rfl _ (HS.out.elems 7 rfl) (Elems.ofBlock (HS.out.blockAt 0 rfl) _ _ _ rfl rfl)).mono ?_
  rintro e w15 ⟨rfl, hb_⟩
  have HS := Lib.hid (HS.out.below hb_)
  clear hb_
  go_wp2_with fail
  have hs_ := (HS.out.alloc (.cells #[.int .i64 3, .int .i64 1] 3))
  obtain ⟨w16, hw_⟩ : ∃ w16 : World, (w15.alloc (.cells #[.int .i64 3, .int .i64 1] 3)) = w16 := ⟨_, rfl⟩
  rw [hw_] at hs_
  try simp only [World.size_alloc] at hs_
  have HS := Lib.hid hs_
  rw [hw_]
  clear hw_ hs_
  refine (eqI_same _ _ 2 _ _ [3, 1] rfl _ (HS.out.elems 6 rfl) (Elems.ofBlock (HS.out.blockAt 0 rfl) _ _ _ rfl rfl)).mono ?_
  rintro e w17 ⟨rfl, hb_⟩
  have HS := Lib.hid (HS.out.below hb_)
  clear hb_
  go_wp2_with fail
  have hs_ := (HS.out.alloc (.cells #[.int .i64 0, .int .i64 0] 49))
  obtain ⟨w18, hw_⟩ : ∃ w18 : World, (w17.alloc (.cells #[.int .i64 0, .int .i64 0] 49)) = w18 := ⟨_, rfl⟩
  rw [hw_] at hs_
  try simp only [World.size_alloc] at hs_
  have HS := Lib.hid hs_
  rw [hw_]
  clear hw_ hs_
  refine (eqP_same _ _ [⟨0, 0⟩] 1 rfl _ (HS.out.elems 5 rfl) (Elems.ofBlock (HS.out.blockAt 0 rfl) _ _ _ rfl rfl)).mono ?_
  rintro e w19 ⟨rfl, hb_⟩
  have HS := Lib.hid (HS.out.below hb_)
  clear hb_
  go_wp2_with fail
  have hs_ := (HS.out.alloc (.cells #[.int .i64 2] 3))
  obtain ⟨w20, hw_⟩ : ∃ w20 : World, (w19.alloc (.cells #[.int .i64 2] 3)) = w20 := ⟨_, rfl⟩
  rw [hw_] at hs_
  try simp only [World.size_alloc] at hs_
  have HS := Lib.hid hs_
  rw [hw_]
  clear hw_ hs_
  refine (eqI_same _ _ 1 _ _ [2] rfl _ (HS.out.elems 4 rfl) (Elems.ofBlock (HS.out.blockAt 0 rfl) _ _ _ rfl rfl)).mono ?_
  rintro e w21 ⟨rfl, hb_⟩
  have HS := Lib.hid (HS.out.below hb_)
  clear hb_
  go_wp2_with fail
  go_ret
  exact ⟨rfl, HS.out.low⟩
end Go.Proofs.Ytlnjgdnnpkloeaa

/- Layer 8: FloodSteps. -/
namespace Go.Proofs.Ytlnjgdnnpkloeaa
set_option linter.unusedSimpArgs false
set_option linter.unusedVariables false
open Go.RowKit Go.Shelf
attribute [local go_sem] Oper.semAt_some

/-- A canvas, or none. -/
def OfV (ok : Bool) (C : CanT) (v : Value) (w : World) : Prop := (ok = true → ∃ p, v = .pointer (some ⟨p, 0, none⟩) ∧ CanAt w p C) ∧ (ok = false → v = .pointer none)
theorem OfV.below {ok : Bool} {C : CanT} {v : Value} {w w' : World} (h : OfV ok C v w) (hb : Below w.heap.size w w') : OfV ok C v w' :=
  ⟨fun e => by
    obtain ⟨p, h1, h2⟩ := h.1 e
    exact ⟨p, h1, h2.below hb⟩, h.2⟩
theorem flHas_any (C : CanT) (p : PtT) (t : Int) (a : Option Addr) (n cap : Nat) (hn : n ≤ 1000000) (hl : (regL (placesL C p t)).length = n) (q : PtT) (w : World) (h : Elems w (.slice a n cap) n 3 (rowC encS (regL (placesL C p t)))) :
    Calls Try.prog 30 #[.slice a n cap, q.val] w (Gives (.bool (regHas C p t q)) w) := by
  unfold regHas
  exact shHas_any a n cap _ hl (by omega) q w h
theorem flHas_is {C : CanT} {p : PtT} {t : Int} {n : Nat} (hl : (regL (placesL C p t)).length = n) (hn : n ≤ 1000000) {q : PtT} {b : Bool} (hb : regHas C p t q = b) (a : Option Addr) (cap : Nat) (w : World) (h : Elems w (.slice a n cap) n 3 (rowC encS (regL (placesL C p t)))) :
    Calls Try.prog 30 #[.slice a n cap, q.val] w (Gives (.bool b) w) := by
  have := flHas_any C p t a n cap hn hl q w h
  rw [hb] at this
  exact this
def Kp (w0 w1 : World) : Prop := Below w0.heap.size w0 w1
theorem Kp.below {w0 w1 w2 : World} (h : Kp w0 w1) (hb : Below w1.heap.size w1 w2) : Kp w0 w2 := Below.trans h (hb.mono (Below.size h))

end Go.Proofs.Ytlnjgdnnpkloeaa
