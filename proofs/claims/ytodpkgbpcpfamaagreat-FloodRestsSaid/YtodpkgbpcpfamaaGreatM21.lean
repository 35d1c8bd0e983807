/- Merged texts: FlW FlSt FlGr RegJ PointsI BoxS. -/
import Derived.Test.YtodpkgbpcpfamaaGreatM18
import Derived.Test.YtodpkgbpcpfamaaGreatM19
import Derived.Test.YtodpkgbpcpfamaaGreatM20
import Derived.Test.YtodpkgbpcpfamaaGreatM1
import Derived.Test.YtodpkgbpcpfamaaGreatM12
import Derived.Test.YtodpkgbpcpfamaaGreatM15
import Derived.Test.YtodpkgbpcpfamaaGreatM4
/- Layer 8: the chapter's canvas; wakes. -/
namespace Go.Proofs.YtodpkgbpcpfamaaGreat
set_option linter.unusedSimpArgs false
set_option linter.unusedVariables false
open Go.RowKit Go.Shelf
attribute [local go_sem] Oper.semAt_some

def redC : ColT := ⟨255, 0, 0, 255⟩
theorem redC_ok : okC redC := by unfold okC redC; decide
/-- The chapter's canvas. -/
def corT : CanT := ⟨1, 1, [⟨[zeroC, redC, zeroC, zeroC, zeroC, zeroC, zeroC, zeroC, redC, redC] ++ List.replicate 54 zeroC, by simp⟩]⟩
/-- Its pixel 0, 0 filled. -/
def corF : CanT := ⟨1, 1, [⟨[redC, redC, zeroC, zeroC, zeroC, zeroC, zeroC, zeroC, redC, redC] ++ List.replicate 54 zeroC, by simp⟩]⟩
set_option maxRecDepth 100000 in
theorem corT_is : setC canE redC [⟨0, 1⟩, ⟨1, 1⟩, ⟨1, 0⟩] = corT := by decide +kernel
set_option maxRecDepth 100000 in
theorem corF_is : fillC corT ⟨0, 0⟩ 0 redC = corF := by decide +kernel
set_option maxRecDepth 100000 in
theorem cor_reg : regL (placesL corT ⟨1, 0⟩ 0) = [⟨0, 1, 1⟩, ⟨1, 0, 1⟩] := by decide +kernel
set_option maxRecDepth 100000 in
theorem cor_parts : partsR corT [0, 1020] = [3, 1] := by decide +kernel
set_option maxRecDepth 100000 in
theorem cor_parts2 : partsR corF [0] = [2] := by decide +kernel
set_option maxRecDepth 100000 in
theorem cor_steps : stepsR corT ⟨1, 0⟩ ⟨0, 1⟩ 0 = (2, 0) := by decide +kernel
set_option maxRecDepth 100000 in
theorem cor_steps2 : stepsR corT ⟨0, 0⟩ ⟨1, 0⟩ 0 = (0, 4) := by decide +kernel
theorem rim_right : rightB [(⟨0, 0, 0⟩ : SpT)] = true := right_one (by decide)
set_option maxRecDepth 100000 in
theorem cor_rim : rimR corT [⟨0, 0, 0⟩] = [⟨0, 0⟩] := by
 unfold rimR rimOk
 rw [rim_right]
 decide +kernel
theorem cor_rimE : rimE corT [⟨0, 0, 0⟩] = 0 := by
 unfold rimE
 rw [rim_right]
 decide +kernel

set_option maxRecDepth 100000 in
set_option maxHeartbeats 1000000 in
theorem corner_any (w : World) : Calls Tryz.prog 15 #[] w (GivesC corT w) := by
 have HS := Lib.hid (St.start w)
 have HSET := Lib.hid (fun (p : Nat) (a : Option Addr) (w' : World) h he => set_any canE p redC redC_ok a 3 3 [⟨0, 1⟩, ⟨1, 1⟩, ⟨1, 0⟩] rfl (by decide) w' h he)
 rw [corT_is] at HSET
 unfold ColT.val redC at HSET
 simp only at HSET
 go_enter Tryz.func15, Tryz.ntmps15
 go_wp2_with fail
 refine (new_any w).mono ?_
 rintro e w1 ⟨p, rfl, hc, hp, hb⟩
 have HS := Lib.hid (HS.out.below hb)
 have HC := Lib.hid hc
 clear hc hp hb
 go_wp2_with fail
 have hs_ := HS.out.alloc (.cells #[.int .i64 0, .int .i64 1, .int .i64 1, .int .i64 1, .int .i64 1, .int .i64 0] 33)
 have hk_HC := HC.out.below ((Below.refl _ _).alloc (Nat.le_refl _) (.cells #[.int .i64 0, .int .i64 1, .int .i64 1, .int .i64 1, .int .i64 1, .int .i64 0] 33))
 obtain ⟨w2, hw_⟩ : ∃ w2 : World, w1.alloc (.cells #[.int .i64 0, .int .i64 1, .int .i64 1, .int .i64 1, .int .i64 1, .int .i64 0] 33) = w2 := ⟨_, rfl⟩
 rw [hw_] at hs_ hk_HC
 have HS := Lib.hid hs_
 have HC := Lib.hid hk_HC
 rw [hw_]
 clear hw_ hs_ hk_HC
 refine (HSET.out p _ _ HC.out (Elems.ofBlock (HS.out.blockAt 0 rfl) _ _ _ rfl rfl)).mono ?_
 rintro e w3 ⟨p', rfl, hc3, hp3, hb3⟩
 have HR := Lib.hid (And.intro hc3 (And.intro (Nat.le_trans HS.out.size hp3) (HS.out.low.trans (hb3.mono HS.out.size))))
 clear hc3 hp3 hb3
 go_wp2_with fail
 go_ret
 exact ⟨p', rfl, HR.out⟩

theorem wk_reg (p : Nat) (w : World) (h : CanAt w p corT) : Calls Tryz.prog 6 #[.pointer (some ⟨p, 0, none⟩), .agg #[.int .i64 1, .int .i64 0], .int .i64 0] w (Got 3 encS [⟨0, 1, 1⟩, ⟨1, 0, 1⟩] 2 0 w) :=
 (region_good corT p ⟨1, 0⟩ 0 w h (by decide)).mono fun _ _ h => (h.got encS_len).is cor_reg rfl rfl
theorem wk_reg2 (p : Nat) (w : World) (h : CanAt w p corT) : Calls Tryz.prog 6 #[.pointer (some ⟨p, 0, none⟩), .agg #[.int .i64 1, .int .i64 0], .int .i64 (-1)] w (Gives (.tuple #[.slice none 0 0, .int .i64 2]) w) :=
 region_bad corT p ⟨1, 0⟩ (-1) w h (by decide)
theorem wk_parts (p : Nat) (a : Option Addr) (cap : Nat) (w : World) (h : CanAt w p corT) (he : Elems w (.slice a 2 cap) 2 1 (rowC encI [0, 1020])) : Calls Tryz.prog 16 #[.pointer (some ⟨p, 0, none⟩), .slice a 2 cap] w (Got 1 encI [3, 1] 2 0 w) :=
 (flParts_any corT p a 2 cap [0, 1020] rfl (by decide) w h he).mono fun _ _ h => (h.got encI_len).is cor_parts rfl rfl
theorem wk_parts2 (p : Nat) (a : Option Addr) (cap : Nat) (w : World) (h : CanAt w p corF) (he : Elems w (.slice a 1 cap) 1 1 (rowC encI [0])) : Calls Tryz.prog 16 #[.pointer (some ⟨p, 0, none⟩), .slice a 1 cap] w (Got 1 encI [2] 1 0 w) :=
 (flParts_any corF p a 1 cap [0] rfl (by decide) w h he).mono fun _ _ h => (h.got encI_len).is cor_parts2 rfl rfl
theorem wk_steps (p : Nat) (w : World) (h : CanAt w p corT) : Calls Tryz.prog 17 #[.pointer (some ⟨p, 0, none⟩), .agg #[.int .i64 1, .int .i64 0], .agg #[.int .i64 0, .int .i64 1], .int .i64 0] w (Gives (.tuple #[.int .i64 2, .int .i64 0]) w) := by
 have := steps_any corT p ⟨1, 0⟩ ⟨0, 1⟩ 0 w h
 rw [cor_steps] at this
 exact this
theorem wk_steps2 (p : Nat) (w : World) (h : CanAt w p corT) : Calls Tryz.prog 17 #[.pointer (some ⟨p, 0, none⟩), .agg #[.int .i64 0, .int .i64 0], .agg #[.int .i64 1, .int .i64 0], .int .i64 0] w (Gives (.tuple #[.int .i64 0, .int .i64 4]) w) := by
 have := steps_any corT p ⟨0, 0⟩ ⟨1, 0⟩ 0 w h
 rw [cor_steps2] at this
 exact this
theorem wk_rim (p : Nat) (a : Option Addr) (cap : Nat) (w : World) (h : CanAt w p corT) (he : Elems w (.slice a 1 cap) 1 3 (rowC encS [⟨0, 0, 0⟩])) : Calls Tryz.prog 18 #[.pointer (some ⟨p, 0, none⟩), .slice a 1 cap] w (Got 2 encP [⟨0, 0⟩] 1 0 w) :=
 (rim_any corT p a 1 cap [⟨0, 0, 0⟩] rfl (by decide) (by decide) w h he).mono fun _ _ h => (h.got encP_len).is cor_rim rfl cor_rimE
theorem wk_fill (p : Nat) (w : World) (h : CanAt w p corT) : Calls Tryz.prog 7 #[.pointer (some ⟨p, 0, none⟩), .agg #[.int .i64 0, .int .i64 0], .int .i64 0, .agg #[.int .u8 255, .int .u8 0, .int .u8 0, .int .u8 255]] w (GivesCan corF w) := by
 have := fill_good corT p ⟨0, 0⟩ 0 redC redC_ok w h (by decide)
 rw [corF_is] at this
 exact this
theorem eqI_same (a1 a2 : Option Addr) (n c d : Nat) (L : List Int) (hL : L.length = n) (w : World) (h1 : Elems w (.slice a1 n c) n 1 (rowC encI L)) (h2 : Elems w (.slice a2 n d) n 1 (rowC encI L)) (hn : n ≤ 1000000 := by decide) :
 Calls Tryz.prog 19 #[.slice a1 n c, .slice a2 n d] w (Gives (.bool true) w) := by
 have := eqI_any a1 a2 n n c d L L hL hL hn w h1 h2
 rwa [decide_eq_true rfl] at this

set_option maxRecDepth 100000 in
set_option maxHeartbeats 4000000 in
theorem flWakes_any (w : World) : Calls Tryz.prog 4 #[] w (Gives (.bool true) w) := by
 have HS := Lib.hid (St.start w)
 go_enter Tryz.func4, Tryz.ntmps4
 go_wp2_with fail
 refine (corner_any w).mono ?_
 rintro e w1 ⟨p, rfl, hc, -, hb⟩
 have HS := Lib.hid (HS.out.below hb)
 have HC := Lib.hid hc
 clear hc hb
 repeat ((fail_if_success (with_reducible refine stop_at (id := 3) ?_)); (first | go_values | go_skip | go_guarded | go_step | go_upon | go_back | (simp only [Int.not_lt, Int.not_le] at *; go_simp) | (go_values <;> (try go_simp)) | (go_ite <;> go_prune <;> (try go_simp)) | (split <;> (first | (rename_i hx; exact (hx _ rfl).elim) | go_prune))))
 have hs_ := HS.out.alloc (.cells #[.int .i64 1, .int .i64 0] 33)
 have hk_HC := HC.out.below ((Below.refl _ _).alloc (Nat.le_refl _) (.cells #[.int .i64 1, .int .i64 0] 33))
 obtain ⟨w2, hw_⟩ : ∃ w2 : World, w1.alloc (.cells #[.int .i64 1, .int .i64 0] 33) = w2 := ⟨_, rfl⟩
 rw [hw_] at hs_ hk_HC
 have HS := Lib.hid hs_
 have HC := Lib.hid hk_HC
 rw [hw_]
 clear hw_ hs_ hk_HC
 have k0 := cell_of_block (k := 0) (HS.out.blockAt 0 rfl) rfl
 have k1 := cell_of_block (k := 1) (HS.out.blockAt 0 rfl) rfl
 go_wp2_with fail
 clear k0 k1
 refine (wk_reg p _ HC.out).mono ?_
 rintro e w3 ⟨-, a3, c3, rfl, he_, hb_⟩
 have HS := Lib.hid ((HS.out.below hb_).addRow he_)
 have HC := Lib.hid (HC.out.below hb_)
 clear hb_ he_
 go_wp2_with fail
 have hs_ := HS.out.alloc (.cells #[.int .i64 0, .int .i64 1020] 3)
 have hk_HC := HC.out.below ((Below.refl _ _).alloc (Nat.le_refl _) (.cells #[.int .i64 0, .int .i64 1020] 3))
 obtain ⟨w4, hw_⟩ : ∃ w4 : World, w3.alloc (.cells #[.int .i64 0, .int .i64 1020] 3) = w4 := ⟨_, rfl⟩
 rw [hw_] at hs_ hk_HC
 have HS := Lib.hid hs_
 have HC := Lib.hid hk_HC
 rw [hw_]
 clear hw_ hs_ hk_HC
 refine (wk_parts p _ _ _ HC.out (Elems.ofBlock (HS.out.blockAt 0 rfl) _ _ _ rfl rfl)).mono ?_
 rintro e w5 ⟨-, a5, c5, rfl, he_, hb_⟩
 have HS := Lib.hid ((HS.out.below hb_).addRow he_)
 have HC := Lib.hid (HC.out.below hb_)
 clear hb_ he_
 have k0 := cell_of_block (k := 0) (HS.out.blockAt 3 rfl) rfl
 have k1 := cell_of_block (k := 1) (HS.out.blockAt 3 rfl) rfl
 go_wp2_with fail
 clear k0 k1
 refine (wk_steps p _ HC.out).mono ?_
 rintro e w6 ⟨rfl, hb_⟩
 have HS := Lib.hid (HS.out.below hb_)
 have HC := Lib.hid (HC.out.below hb_)
 clear hb_
 have k0 := cell_of_block (k := 0) (HS.out.blockAt 3 rfl) rfl
 have k1 := cell_of_block (k := 1) (HS.out.blockAt 3 rfl) rfl
 go_wp2_with fail
 clear k0 k1
 refine (wk_steps2 p _ HC.out).mono ?_
 rintro e w7 ⟨rfl, hb_⟩
 have HS := Lib.hid (HS.out.below hb_)
 have HC := Lib.hid (HC.out.below hb_)
 clear hb_
 go_wp2_with fail
 have hs_ := HS.out.alloc (.cells #[.int .i64 0, .int .i64 0, .int .i64 0] 43)
 have hk_HC := HC.out.below ((Below.refl _ _).alloc (Nat.le_refl _) (.cells #[.int .i64 0, .int .i64 0, .int .i64 0] 43))
 obtain ⟨w8, hw_⟩ : ∃ w8 : World, w7.alloc (.cells #[.int .i64 0, .int .i64 0, .int .i64 0] 43) = w8 := ⟨_, rfl⟩
 rw [hw_] at hs_ hk_HC
 have HS := Lib.hid hs_
 have HC := Lib.hid hk_HC
 rw [hw_]
 clear hw_ hs_ hk_HC
 refine (wk_rim p _ _ _ HC.out (Elems.ofBlock (HS.out.blockAt 0 rfl) _ _ _ rfl rfl)).mono ?_
 rintro e w9 ⟨-, a9, c9, rfl, he_, hb_⟩
 have HS := Lib.hid ((HS.out.below hb_).addRow he_)
 have HC := Lib.hid (HC.out.below hb_)
 clear hb_ he_
 have k0 := cell_of_block (k := 0) (HS.out.blockAt 5 rfl) rfl
 have k1 := cell_of_block (k := 1) (HS.out.blockAt 5 rfl) rfl
 go_wp2_with fail
 clear k0 k1
 refine (wk_reg2 p _ HC.out).mono ?_
 rintro e w10 ⟨rfl, hb_⟩
 have HS := Lib.hid (HS.out.below hb_)
 have HC := Lib.hid (HC.out.below hb_)
 clear hb_
 go_wp2_with fail
 refine (wk_fill p _ HC.out).mono ?_
 rintro e w11 ⟨p2, rfl, hc2, -, hb2⟩
 have HS := Lib.hid (HS.out.below hb2)
 have HC := Lib.hid hc2
 clear hc2 hb2
 go_wp2_with fail
 have hs_ := HS.out.alloc (.cells #[.int .i64 0] 3)
 have hk_HC := HC.out.below ((Below.refl _ _).alloc (Nat.le_refl _) (.cells #[.int .i64 0] 3))
 obtain ⟨w12, hw_⟩ : ∃ w12 : World, w11.alloc (.cells #[.int .i64 0] 3) = w12 := ⟨_, rfl⟩
 rw [hw_] at hs_ hk_HC
 have HS := Lib.hid hs_
 have HC := Lib.hid hk_HC
 rw [hw_]
 clear hw_ hs_ hk_HC
 refine (wk_parts2 p2 _ _ _ HC.out (Elems.ofBlock (HS.out.blockAt 0 rfl) _ _ _ rfl rfl)).mono ?_
 rintro e w13 ⟨-, a13, c13, rfl, he_, hb_⟩
 have HS := Lib.hid ((HS.out.below hb_).addRow he_)
 have HC := Lib.hid (HC.out.below hb_)
 clear hb_ he_
 go_wp2_with fail
 have hs_ := (HS.out.alloc (.cells #[.int .i64 0, .int .i64 1, .int .i64 1, .int .i64 1, .int .i64 0, .int .i64 1] 43))
 obtain ⟨w14, hw_⟩ : ∃ w14 : World, (w13.alloc (.cells #[.int .i64 0, .int .i64 1, .int .i64 1, .int .i64 1, .int .i64 0, .int .i64 1] 43)) = w14 := ⟨_, rfl⟩
 rw [hw_] at hs_
 try simp only [World.size_alloc] at hs_
 have HS := Lib.hid hs_
 rw [hw_]
 clear hw_ hs_
 refine (eqS_same _ _ [⟨0, 1, 1⟩, ⟨1, 0, 1⟩] 2 rfl _ (HS.out.elems 7 rfl) (Elems.ofBlock (HS.out.blockAt 0 rfl) _ _ _ rfl rfl)).mono ?_
 rintro e w15 ⟨rfl, hb_⟩
 have HS := Lib.hid (HS.out.below hb_)
 clear hb_
 go_wp2_with fail
 have hs_ := (HS.out.alloc (.cells #[.int .i64 3, .int .i64 1] 3))
 obtain ⟨w16, hw_⟩ : ∃ w16 : World, (w15.alloc (.cells #[.int .i64 3, .int .i64 1] 3)) = w16 := ⟨_, rfl⟩
 rw [hw_] at hs_
 try simp only [World.size_alloc] at hs_
 have HS := Lib.hid hs_
 rw [hw_]
 clear hw_ hs_
 refine (eqI_same _ _ 2 _ _ [3, 1] rfl _ (HS.out.elems 6 rfl) (Elems.ofBlock (HS.out.blockAt 0 rfl) _ _ _ rfl rfl)).mono ?_
 rintro e w17 ⟨rfl, hb_⟩
 have HS := Lib.hid (HS.out.below hb_)
 clear hb_
 go_wp2_with fail
 have hs_ := (HS.out.alloc (.cells #[.int .i64 0, .int .i64 0] 33))
 obtain ⟨w18, hw_⟩ : ∃ w18 : World, (w17.alloc (.cells #[.int .i64 0, .int .i64 0] 33)) = w18 := ⟨_, rfl⟩
 rw [hw_] at hs_
 try simp only [World.size_alloc] at hs_
 have HS := Lib.hid hs_
 rw [hw_]
 clear hw_ hs_
 refine (eqP_same _ _ [⟨0, 0⟩] 1 rfl _ (HS.out.elems 5 rfl) (Elems.ofBlock (HS.out.blockAt 0 rfl) _ _ _ rfl rfl)).mono ?_
 rintro e w19 ⟨rfl, hb_⟩
 have HS := Lib.hid (HS.out.below hb_)
 clear hb_
 go_wp2_with fail
 have hs_ := (HS.out.alloc (.cells #[.int .i64 2] 3))
 obtain ⟨w20, hw_⟩ : ∃ w20 : World, (w19.alloc (.cells #[.int .i64 2] 3)) = w20 := ⟨_, rfl⟩
 rw [hw_] at hs_
 try simp only [World.size_alloc] at hs_
 have HS := Lib.hid hs_
 rw [hw_]
 clear hw_ hs_
 refine (eqI_same _ _ 1 _ _ [2] rfl _ (HS.out.elems 4 rfl) (Elems.ofBlock (HS.out.blockAt 0 rfl) _ _ _ rfl rfl)).mono ?_
 rintro e w21 ⟨rfl, hb_⟩
 have HS := Lib.hid (HS.out.below hb_)
 clear hb_
 go_wp2_with fail
 go_ret
 exact ⟨rfl, HS.out.low⟩
end Go.Proofs.YtodpkgbpcpfamaaGreat

/- Layer 8: FloodSteps. -/
namespace Go.Proofs.YtodpkgbpcpfamaaGreat
set_option linter.unusedSimpArgs false
set_option linter.unusedVariables false
open Go.RowKit Go.Shelf
attribute [local go_sem] Oper.semAt_some

/-- A canvas, or none. -/
def OfV (ok : Bool) (C : CanT) (v : Value) (w : World) : Prop := (ok = true → ∃ p, v = .pointer (some ⟨p, 0, none⟩) ∧ CanAt w p C) ∧ (ok = false → v = .pointer none)
theorem OfV.below {ok : Bool} {C : CanT} {v : Value} {w w' : World} (h : OfV ok C v w) (hb : Below w.heap.size w w') : OfV ok C v w' :=
 ⟨fun e => by
  obtain ⟨p, h1, h2⟩ := h.1 e
  exact ⟨p, h1, h2.below hb⟩, h.2⟩
theorem flHas_any (C : CanT) (p : PtT) (t : Int) (a : Option Addr) (n cap : Nat) (hn : n ≤ 1000000) (hl : (regL (placesL C p t)).length = n) (q : PtT) (w : World) (h : Elems w (.slice a n cap) n 3 (rowC encS (regL (placesL C p t)))) :
 Calls Tryz.prog 12 #[.slice a n cap, q.val] w (Gives (.bool (regHas C p t q)) w) := by
 unfold regHas
 exact shHas_any a n cap _ hl (by omega) q w h
theorem region_is {C : CanT} {c : Nat} {p : PtT} {t e : Int} (h : begE C p t = e) (hb : begB C p t = false) (w : World) (hC : CanAt w c C) : Calls Tryz.prog 6 #[.pointer (some ⟨c, 0, none⟩), p.val, .int .i64 t] w (Gives (.tuple #[.slice none 0 0, .int .i64 e]) w) := by
 have := region_bad C c p t w hC hb
 rw [h] at this
 exact this
theorem region_got (C : CanT) (c : Nat) (p : PtT) (t : Int) (n : Nat) (hn : (regL (placesL C p t)).length = n) (hb : begB C p t = true) (w : World) (hC : CanAt w c C) : Calls Tryz.prog 6 #[.pointer (some ⟨c, 0, none⟩), p.val, .int .i64 t] w (Got 3 encS (regL (placesL C p t)) n 0 w) := by
 subst hn
 exact (region_good C c p t w hC hb).mono fun _ _ h => h.got encS_len
theorem flHas_is {C : CanT} {p : PtT} {t : Int} {n : Nat} (hl : (regL (placesL C p t)).length = n) (hn : n ≤ 1000000) {q : PtT} {b : Bool} (hb : regHas C p t q = b) (a : Option Addr) (cap : Nat) (w : World) (h : Elems w (.slice a n cap) n 3 (rowC encS (regL (placesL C p t)))) :
 Calls Tryz.prog 12 #[.slice a n cap, q.val] w (Gives (.bool b) w) := by
 have := flHas_any C p t a n cap hn hl q w h
 rw [hb] at this
 exact this
def Kp (w0 w1 : World) : Prop := Below w0.heap.size w0 w1
theorem Kp.below {w0 w1 w2 : World} (h : Kp w0 w1) (hb : Below w1.heap.size w1 w2) : Kp w0 w2 := Below.trans h (hb.mono (Below.size h))

end Go.Proofs.YtodpkgbpcpfamaaGreat

/- Layer 8: FloodGrows. -/
namespace Go.Proofs.YtodpkgbpcpfamaaGreat
set_option linter.unusedSimpArgs false
set_option linter.unusedVariables false
open Go.RowKit Go.Shelf
attribute [local go_sem] Oper.semAt_some
theorem at_onP (C : CanT) (c : Nat) (p : PtT) (h : onC C p = true) (w : World) (hC : CanAt w c C) :
 Calls Tryz.prog 10 #[.pointer (some ⟨c, 0, none⟩), .int .i64 p.x, .int .i64 p.y] w (Gives (.tuple #[(colP C p).val, .bool true]) w) := by
 unfold onC at h
 have h1 := onB_iff.1 h
 obtain ⟨px, py⟩ := p
 simp only at h1
 obtain ⟨x, rfl⟩ : ∃ x : Nat, px = x := ⟨px.toNat, by omega⟩
 obtain ⟨y, rfl⟩ : ∃ y : Nat, py = y := ⟨py.toNat, by omega⟩
 exact at_on C c x y (by omega) (by omega) w hC
theorem at_is {C : CanT} {c : Nat} {p : PtT} {r g b a : Int} (h : onC C p = true) (hc : colP C p = ⟨r, g, b, a⟩) (w : World) (hC : CanAt w c C) :
 Calls Tryz.prog 10 #[.pointer (some ⟨c, 0, none⟩), .int .i64 p.x, .int .i64 p.y] w (Gives (.tuple #[.agg #[.int .u8 r, .int .u8 g, .int .u8 b, .int .u8 a], .bool true]) w) := by
 have := at_onP C c p h w hC
 rw [hc] at this
 exact this
/-- The result's cell written, whatever else is held. -/
theorem ret_store {w0 x : World} {its : List It} (h : St w0 its x) {b : Nat} {c0 : Value} {t : TypeId} {f : Nat × Nat} (hb : x.heap[b]? = some (.cells #[c0] t f)) (hl : w0.heap.size ≤ b) (v : Value) :
 (x.setCell ⟨b, 0, none⟩ v).cell? ⟨b, 0, none⟩ = some v ∧ Below w0.heap.size w0 (x.setCell ⟨b, 0, none⟩ v) :=
 ⟨cell_of_block (k := 0) (heap_set_same hb v) rfl, h.low.setCell (p := ⟨b, 0, none⟩) hl v⟩

end Go.Proofs.YtodpkgbpcpfamaaGreat

/- General lemmas: a region by facts beside a ghost automaton that sees which operations are done. -/
namespace Go.Proofs.YtodpkgbpcpfamaaGreat
set_option linter.unusedSimpArgs false
set_option linter.unusedVariables false
open Go.RowKit
section
variable {F : Fence} {n : Nat} {P : Program} {ops : Array Oper} {Q : Exit → Act → World → Prop}
/-- What is owed for one operation, with how the world turns. -/
def StepOkT (F : Fence) (n : Nat) (P : Program) (ops : Array Oper) (R : Nat → Value → (Nat → Value) → World → Prop) (C : World → World → Prop) (T : Nat → Value → (Nat → Value) → World → World → Prop) (Q : Exit → Act → World → Prop) (i : Nat) (o : Oper) (a' : Act) (w' : World) : Prop :=
 if Region.wanted o (yielded ops a'.tmps) then ∀ K : Act → World → Prop, (∀ v w'', R i v (envOf a') w'' → C w' w'' → T i v (envOf a') w' w'' → K (a'.put o.dst v) w'') → o.wpIn F n P a' w' K Q
 else (∀ f, o.about P w' a'.eval = some f → F.fn f) ∧ R i undef (envOf a') w' ∧ T i undef (envOf a') w' w'

theorem wpIn_region_auto {id : Nat} {a : Act} {w : World} (hm : P.follows .mixedOrders = true) (k : Nat) (R : Nat → Value → (Nat → Value) → World → Prop) (C : World → World → Prop) (T : Nat → Value → (Nat → Value) → World → World → Prop) (J : Array Bool → Act → World → Prop)
 (hCr : ∀ x : World, C x x) (hCt : ∀ {x y z : World}, C x y → C y z → C x z) (hst : ∀ i v env x y, i < k → C x y → R i v env x → R i v env y)
 (hloc : ∀ i o v env env' x, i < k → ops[i]? = some o → (∀ e ∈ o.after, Region.binds .any e = true → ∀ o' d, ops[e.on]? = some o' → o'.dst = some d → env d = env' d) → R i v env x → R i v env' x)
 (hfo : factsOk ops a.tmps.size = true) (ht : tailOk ops k = true) (hC0 : C w w.drew) (hJ0 : J (Array.replicate ops.size false) a w.drew)
 (hJs : ∀ (i : Nat) (o : Oper) (listed : Array Bool) (a' : Act) (v : Value) (w' w'' : World), i < k → ops[i]? = some o → listed.size = ops.size → listed.getD i false = false → (∀ e ∈ o.after, Region.binds .any e = true → listed.getD e.on false = true) → Agree ops k a a' → C w w' → J listed a' w' → R i v (envOf a') w'' → T i v (envOf a') w' w'' → J (listed.setIfInBounds i true) (a'.put o.dst v) w'')
 (hstep : ∀ (i : Nat) (o : Oper), i < k → ops[i]? = some o → ∀ (listed : Array Bool) (a' : Act) (w' : World), Agree ops k a a' → C w w' → J listed a' w' → listed.getD i false = false → (∀ e ∈ o.after, Region.binds .any e = true → listed.getD e.on false = true) →
  (∀ e ∈ o.after, Region.binds .any e = true → Known R ops e.on a' w') → StepOkT F n P ops R C T Q i o a' w')
 (hend : ∀ (listed : Array Bool) (a' : Act) (w' : World), Agree ops k a a' → C w w' → J listed a' w' → (∀ i, i < k → i < ops.size → listed.getD i false = true) → (∀ i, i < k → i < ops.size → Known R ops i a' w') → wpListIn F n P ops Q (ops.toList.drop k) a' w') :
 (Code.region id ops true).wpIn F n P Q a w := by
 refine wpIn_region_any hm ?_
 have main : ∀ (fuel : Nat) (listed : Array Bool) (a' : Act) (w' : World), listed.size = ops.size → fuel + (List.range ops.size).countP (fun i => listed.getD i false) = ops.size → Shut ops listed →
  (∀ i, k ≤ i → i < ops.size → listed.getD i false = false) → Agree ops k a a' → C w w' → J listed a' w' → (∀ i, i < k → i < ops.size → listed.getD i false = true → Known R ops i a' w') →
  wpAnyIn F n P .any ops Q fuel listed a' w' := by
  intro fuel
  induction fuel with
  | zero =>
   intro listed a' w' hsz hf hs hlate hA hC hJ hK
   have hall : ∀ i, i < ops.size → listed.getD i false = true := by
    intro i hi
    have h1 : (List.range ops.size).countP (fun i => listed.getD i false) = (List.range ops.size).length := by simp at hf ⊢; omega
    exact List.countP_eq_length.1 h1 i (List.mem_range.2 hi)
   have hk : ops.size ≤ k := by
    rcases Nat.lt_or_ge k ops.size with h | h
    · have := hlate k (Nat.le_refl _) h; rw [hall k h] at this; cases this
    · exact h
   have h := hend listed a' w' hA hC hJ (fun i _ hi => hall i hi) (fun i hik hi => hK i hik hi (hall i hi))
   rw [List.drop_eq_nil_of_le (by simpa using hk)] at h
   refine ⟨?_, h⟩
   apply List.eq_nil_iff_forall_not_mem.2
   intro j hj
   obtain ⟨hlt, hno, _⟩ := ready_mem hj
   rw [getD_lt _ _ (by omega), hall j hlt] at hno
   cases hno
  | succ fuel ih =>
   intro listed a' w' hsz hf hs hlate hA hC hJ hK
   refine ⟨?_, ?_⟩
   · -- nothing is ready: all has been carried out
     intro h0
     exfalso
     have hex : ∃ i, i < ops.size ∧ listed.getD i false = false := by
      rcases Classical.em (∃ i, i < ops.size ∧ listed.getD i false = false) with h | h
      · exact h
      · exfalso
        have hall : ∀ i, i < ops.size → listed.getD i false = true := fun i hi => by
         cases hb : listed.getD i false with
         | true => rfl
         | false => exact absurd ⟨i, hi, hb⟩ h
        have h1 : (List.range ops.size).countP (fun i => listed.getD i false) = (List.range ops.size).length := List.countP_eq_length.2 (fun i hi => hall i (List.mem_range.1 hi))
        simp only [List.length_range] at h1
        rw [h1] at hf
        omega
     have least : ∀ m, (∃ i, i < ops.size ∧ i ≤ m ∧ listed.getD i false = false) → ∃ i, i < ops.size ∧ listed.getD i false = false ∧ ∀ j, j < i → listed.getD j false = true := by
      intro m
      induction m with
      | zero => rintro ⟨i, hi, h0', hb⟩; exact ⟨i, hi, hb, fun j hj => by omega⟩
      | succ m ihm =>
       rintro ⟨i, hi, hle, hb⟩
       rcases Classical.em (∃ i, i < ops.size ∧ i ≤ m ∧ listed.getD i false = false) with h | h
       · exact ihm h
       · refine ⟨i, hi, hb, fun j hj => ?_⟩
         cases hbj : listed.getD j false with
         | true => rfl
         | false => exact absurd ⟨j, by omega, by omega, hbj⟩ h
     obtain ⟨i0, hi0, hb0⟩ := hex
     obtain ⟨i, hi, hb, hbef⟩ := least i0 ⟨i0, hi0, Nat.le_refl _, hb0⟩
     obtain ⟨o, ho⟩ : ∃ o, ops[i]? = some o := ⟨_, Array.getElem?_eq_getElem hi⟩
     have hin : i ∈ Region.ready .any ops listed := by
      simp only [Region.ready, List.mem_filter, List.mem_range, Bool.and_eq_true, Bool.not_eq_true']
      refine ⟨hi, by rw [getD_lt _ _ (by omega)]; exact hb, ?_⟩
      simp only [ho, Option.map_some, Option.getD_some, Array.all_eq_true_iff_forall_mem]
      intro e he
      by_cases hbn : Region.binds .any e = true
      · rw [hbef _ (factsOk_edge hfo ho he hbn)]; simp
      · simp [hbn]
     rw [h0] at hin
     cases hin
   · intro i hi
     obtain ⟨hlt, hno, hdep⟩ := ready_mem hi
     rw [getD_lt _ _ (by omega)] at hno
     obtain ⟨o, ho⟩ : ∃ o, ops[i]? = some o := ⟨_, Array.getElem?_eq_getElem hlt⟩
     rcases Nat.lt_or_ge i k with hik | hik
     · -- one of the free ones
       have hso := hstep i o hik ho listed a' w' hA hC hJ hno (hdep o ho) (fun e he hb => by
        have hl := hdep o ho e he hb
        have hlt' := factsOk_edge hfo ho he hb
        exact hK e.on (by omega) (by omega) hl)
       have henv : ∀ (m : Nat) (om : Oper), ops[m]? = some om → (∀ e ∈ om.after, Region.binds .any e = true → e.on ≠ i) → ∀ (v : Value), ∀ e ∈ om.after, Region.binds .any e = true → ∀ o' d, ops[e.on]? = some o' → o'.dst = some d → envOf a' d = envOf (a'.put o.dst v) d := by
        intro m om hom hne v e he hb o' d ho' hd
        unfold envOf
        rw [put_other _ _ _ _ (fun hd' => factsOk_once hfo ho ho' (fun e1 => hne e he hb e1.symm) hd' hd)]
       have hnext : ∀ v w'', R i v (envOf a') w'' → C w' w'' → T i v (envOf a') w' w'' → wpAnyIn F n P .any ops Q fuel (listed.setIfInBounds i true) (a'.put o.dst v) w'' := by
        intro v w'' hR hC' hT
        refine ih _ _ _ (by simpa using hsz) ?_ ?_ ?_ (hA.put hik ho v) (hCt hC hC') (hJs i o listed a' v w' w'' hik ho hsz hno (hdep o ho) hA hC hJ hR hT) ?_
        · have hc : (List.range ops.size).countP (fun j => (listed.setIfInBounds i true).getD j false) = (List.range ops.size).countP (fun j => listed.getD j false) + 1 := by
           have key : ∀ m, i < m → m ≤ ops.size → (List.range m).countP (fun j => (listed.setIfInBounds i true).getD j false) = (List.range m).countP (fun j => listed.getD j false) + 1 := by
            intro m
            induction m with
            | zero => intro h _; omega
            | succ m ihm =>
             intro h hle
             simp only [List.range_succ, List.countP_append, List.countP_singleton]
             rcases Nat.lt_or_eq_of_le (Nat.lt_succ_iff.1 h) with h' | rfl
             · rw [ihm h' (by omega), getD_set_other _ _ _ _ (by omega)]; omega
             · have same : ∀ m, m ≤ i → (List.range m).countP (fun j => (listed.setIfInBounds i true).getD j false) = (List.range m).countP (fun j => listed.getD j false) := by
                intro m hm
                refine List.countP_congr (fun j hj => ?_)
                rw [getD_set_other _ _ _ _ (by have := List.mem_range.1 hj; omega)]
               rw [same i (Nat.le_refl _), getD_set_same _ _ _ (by omega), hno]
               simp
           exact key ops.size hlt (Nat.le_refl _)
          rw [hc]; omega
        · intro j o' hj hlj e he hb
          by_cases e1 : i = e.on
          · rw [← e1, getD_set_same _ _ _ (by omega)]
          · rw [getD_set_other _ _ _ _ e1]
            by_cases e2 : i = j
            · subst e2
              rw [ho] at hj; cases hj
              exact hdep o ho e he hb
            · rw [getD_set_other _ _ _ _ e2] at hlj
              exact hs j o' hj hlj e he hb
        · intro j hkj hj
          rw [getD_set_other _ _ _ _ (by omega)]
          exact hlate j hkj hj
        · intro j hjk hj hlj
          by_cases e1 : i = j
          · subst e1
            intro o' ho'
            rw [ho] at ho'; cases ho'
            cases hd : o.dst with
            | none => exact ⟨v, hR⟩
            | some d =>
             refine ⟨v, by rw [put_same _ _ _ (by rw [hA.size]; exact factsOk_dst hfo ho hd)], ?_⟩
             rw [← hd]
             exact hloc i o v _ _ _ hik ho (henv i o ho (fun e he hb e1 => by have := factsOk_edge hfo ho he hb; omega) v) hR
          · rw [getD_set_other _ _ _ _ e1] at hlj
            have hk := hK j hjk hj hlj
            intro o' ho'
            have hk' := hk o' ho'
            have hen := henv j o' ho' (fun e he hb e2 => by
             have := hs j o' ho' hlj e he hb
             rw [e2, hno] at this
             cases this) v
            cases hd' : o'.dst with
            | none => rw [hd'] at hk'; obtain ⟨u, hu⟩ := hk'; exact ⟨u, hloc j o' u _ _ _ hjk ho' hen (hst j _ _ _ _ hjk hC' hu)⟩
            | some d =>
             rw [hd'] at hk'
             obtain ⟨u, hu, hRu⟩ := hk'
             exact ⟨u, by rw [put_other _ _ _ _ (fun hd => factsOk_once hfo ho ho' e1 hd hd')]; exact hu, hloc j o' u _ _ _ hjk ho' hen (hst j _ _ _ _ hjk hC' hRu)⟩
       unfold StepOkT at hso
       unfold wpOpIn
       simp only [ho]
       split
       · rename_i hw
         simp only [hw, if_true] at hso
         exact hso _ hnext
       · rename_i hw
         simp only [hw] at hso
         exact ⟨hso.1, hnext _ _ hso.2.1 (hCr _) hso.2.2⟩
     · -- the first of the last ones
       have hbefore := tailOk_before ht hs hik ho (hdep o ho)
       have hik' : i = k := by
        rcases Nat.lt_or_eq_of_le hik with h | h
        · have := hbefore k h; rw [hlate k (Nat.le_refl _) (by omega)] at this; cases this
        · exact h.symm
       subst hik'
       have hl : ∀ j, j < ops.size → listed.getD j false = decide (j < i) := by
        intro j hj
        rcases Nat.lt_or_ge j i with h | h
        · rw [hbefore j h]; simp [h]
        · rw [hlate j h hj]; simp; omega
       have hf' : fuel + 1 + i = ops.size := by
        have : (List.range ops.size).countP (fun j => listed.getD j false) = i := by
         have key : ∀ m, m ≤ ops.size → (List.range m).countP (fun j => listed.getD j false) = min m i := by
          intro m
          induction m with
          | zero => simp
          | succ m ihm =>
           intro hm
           simp only [List.range_succ, List.countP_append, List.countP_singleton]
           rw [ihm (by omega), hl m (by omega)]
           by_cases h : m < i <;> simp [h] <;> omega
         rw [key _ (Nat.le_refl _)]; omega
        omega
       have h := wpAnyIn_tail (F := F) (n := n) (P := P) (Q := Q) hfo ht (fuel + 1) listed i a' w' (Nat.le_refl _) hf' hsz hl (hend listed a' w' hA hC hJ (fun m hm _ => hbefore m hm) (fun j hj hjs => hK j hj hjs (hbefore j hj)))
       exact h.2 i hi
 refine main ops.size _ a w.drew (by simp) ?_ ?_ ?_ (Agree.refl k a) hC0 hJ0 ?_
 · have : (List.range ops.size).countP (fun i => (Array.replicate ops.size false).getD i false) = 0 := by
    rw [List.countP_eq_zero]
    intro i hi
    simp [Array.getD_eq_getD_getElem?, List.mem_range.1 hi]
   omega
 · intro i o hi hl
   exfalso
   have hlt : i < ops.size := (Array.getElem?_eq_some_iff.1 hi).1
   simp [Array.getD_eq_getD_getElem?, hlt] at hl
 · intro i _ hi
   simp [Array.getD_eq_getD_getElem?, hi]
 · intro i _ hi hl
   exfalso
   simp [Array.getD_eq_getD_getElem?, hi] at hl
end

/-- A block that the region allocates (operation ia, into slot d) and fills (operation is). -/
structure SlotA where
 ia : Nat
 is : Nat
 d : Nat
 o0 : Obj
 o1 : Obj
def ptrB (b : Nat) : Value := .pointer (some ⟨b, 0, none⟩)
theorem ptrB_inj {b c : Nat} (h : ptrB b = ptrB c) : b = c := by
 unfold ptrB at h
 simp only [Value.pointer.injEq, Option.some.injEq, Addr.mk.injEq, and_true] at h
 exact h
structure SlJ (ss : List SlotA) (N : Nat) (listed : Array Bool) (a : Act) (w : World) : Prop where
 at_ : ∀ s ∈ ss, listed.getD s.ia false = true → ∃ b, N ≤ b ∧ a.tmps[s.d]? = some (ptrB b) ∧ w.heap[b]? = some (if listed.getD s.is false then s.o1 else s.o0)
 ne : ∀ s ∈ ss, ∀ t ∈ ss, s.ia ≠ t.ia → listed.getD s.ia false = true → listed.getD t.ia false = true → a.tmps[s.d]? ≠ a.tmps[t.d]?
 bef : ∀ s ∈ ss, listed.getD s.is false = true → listed.getD s.ia false = true
structure SlT (ss : List SlotA) (i : Nat) (v : Value) (env : Nat → Value) (x y : World) : Prop where
 al : ∀ s ∈ ss, i = s.ia → v = ptrB x.heap.size ∧ y.heap[x.heap.size]? = some s.o0
 sto : ∀ s ∈ ss, i = s.is → ∀ b, env s.d = ptrB b → x.heap[b]? = some s.o0 → y.heap[b]? = some s.o1
 same : ∀ k, k < x.heap.size → (∀ s ∈ ss, i = s.is → env s.d ≠ ptrB k) → y.heap[k]? = x.heap[k]?
def slotsOk (ops : Array Oper) (l : List (Nat × Nat × Nat)) : Bool :=
 (l.all fun (ia, is, d) => ((ops[ia]?).bind (·.dst) == some d) && decide (is < ops.size) && decide (ia < ops.size) && ((ops[is]?).all fun o => o.after.toList.any fun e => Region.binds .any e && e.on == ia)) &&
 decide ((l.map (·.1)).Nodup) && decide ((l.map (·.2.1)).Nodup) && (l.all fun s => l.all fun t => decide (s.2.1 ≠ t.1))
def SlotA.key (s : SlotA) : Nat × Nat × Nat := (s.ia, s.is, s.d)
theorem nodup_key {β : Type} {f : SlotA → β} : ∀ {ss : List SlotA}, (ss.map f).Nodup → ∀ {s t : SlotA}, s ∈ ss → t ∈ ss → f s = f t → s = t
 | [], _, _, _, h, _, _ => by simp at h
 | x :: ss, h, s, t, hs, ht, e => by
  rw [List.map_cons, List.nodup_cons] at h
  rcases List.mem_cons.1 hs with hs | hs
  · subst hs
    rcases List.mem_cons.1 ht with ht | ht
    · exact ht.symm
    · exact absurd (List.mem_map.2 ⟨t, ht, e.symm⟩) h.1
  · rcases List.mem_cons.1 ht with ht | ht
    · exact absurd (List.mem_map.2 ⟨s, hs, e.trans (by rw [ht])⟩) h.1
    · exact nodup_key h.2 hs ht e
section
variable {ops : Array Oper} {ss : List SlotA} {N k : Nat}
theorem slJ_step {a' : Act} {size : Nat} (hok : slotsOk ops (ss.map (·.key)) = true) (hfo : factsOk ops size = true) {i : Nat} {o : Oper} {listed : Array Bool} {v : Value} {w' w'' : World} (ho : ops[i]? = some o) (hsz : listed.size = ops.size) (hno : listed.getD i false = false) (hdep : ∀ e ∈ o.after, Region.binds .any e = true → listed.getD e.on false = true)
 (has : a'.tmps.size = size) (hN : N ≤ w'.heap.size) (hJ : SlJ ss N listed a' w') (hT : SlT ss i v (envOf a') w' w'') : SlJ ss N (listed.setIfInBounds i true) (a'.put o.dst v) w'' := by
 unfold slotsOk at hok
 simp only [Bool.and_eq_true, List.all_map, decide_eq_true_eq] at hok
 obtain ⟨⟨⟨h1, h2⟩, h3⟩, h4⟩ := hok
 simp only [List.map_map] at h2 h3
 have hi : i < ops.size := (Array.getElem?_eq_some_iff.1 ho).1
 have hdst : ∀ s ∈ ss, (ops[s.ia]?).bind (·.dst) = some s.d := fun s hs => by
  have := List.all_eq_true.1 h1 s hs
  simp only [Function.comp, SlotA.key, Bool.and_eq_true, beq_iff_eq] at this
  exact this.1.1.1
 have hafter : ∀ s ∈ ss, i = s.is → listed.getD s.ia false = true := fun s hs e => by
  have := List.all_eq_true.1 h1 s hs
  simp only [Function.comp, SlotA.key, Bool.and_eq_true, ← e, ho, Option.all_some, List.any_eq_true] at this
  obtain ⟨e, he, hb⟩ := this.2
  simp only [beq_iff_eq] at hb
  rw [← hb.2]
  exact hdep e (by simpa using he) hb.1
 have hia : ∀ s ∈ ss, ∀ t ∈ ss, s.ia = t.ia → s = t := fun s hs t ht e => nodup_key (f := fun s => s.ia) h2 hs ht e
 have his : ∀ s ∈ ss, ∀ t ∈ ss, s.is = t.is → s = t := fun s hs t ht e => nodup_key (f := fun s => s.is) h3 hs ht e
 have hx : ∀ s ∈ ss, ∀ t ∈ ss, s.is ≠ t.ia := fun s hs t ht => by
  have h5 := List.all_eq_true.1 h4 s hs
  simp only [Function.comp] at h5
  have h6 := List.all_eq_true.1 h5 t ht
  exact of_decide_eq_true h6
 have hown : ∀ s ∈ ss, i = s.ia → o.dst = some s.d := fun s hs e => by
  have := hdst s hs
  rw [← e, ho] at this
  exact this
 have hoth : ∀ s ∈ ss, i ≠ s.ia → (a'.put o.dst v).tmps[s.d]? = a'.tmps[s.d]? := fun s hs e => by
  refine put_other _ _ _ _ fun hd => ?_
  have h5 := hdst s hs
  cases h6 : ops[s.ia]? with
  | none => rw [h6] at h5; simp at h5
  | some o' =>
   rw [h6] at h5
   exact factsOk_once hfo ho h6 e hd h5
 have hset : ∀ j, i ≠ j → (listed.setIfInBounds i true).getD j false = listed.getD j false := fun j e => getD_set_other _ _ _ _ e
 have hsame : (listed.setIfInBounds i true).getD i false = true := getD_set_same _ _ _ (by omega)
 have henv : ∀ s b, a'.tmps[s]? = some (ptrB b) → envOf a' s = ptrB b := fun s b h => by unfold envOf; rw [h]; rfl
 refine ⟨fun s hs hl => ?_, fun s hs t ht hne hls hlt => ?_, fun s hs hl => ?_⟩
 · by_cases e : i = s.ia
   · obtain ⟨e1, e2⟩ := hT.al s hs e
     refine ⟨w'.heap.size, hN, ?_, ?_⟩
     · rw [hown s hs e, put_same _ _ _ (by rw [has]; exact factsOk_dst hfo ho (hown s hs e)), e1]
     · have hne : i ≠ s.is := fun h => hx s hs s hs (h.symm.trans e)
       rw [hset _ hne]
       have : listed.getD s.is false = false := by
        cases hl2 : listed.getD s.is false with
        | false => rfl
        | true => have := hJ.bef s hs hl2; rw [← e, hno] at this; cases this
       rw [this]
       exact e2
   · rw [hset _ e] at hl
     obtain ⟨b, hb1, hb2, hb3⟩ := hJ.at_ s hs hl
     refine ⟨b, hb1, (hoth s hs e).trans hb2, ?_⟩
     by_cases e2 : i = s.is
     · rw [← e2, hsame]
       rw [← e2, hno] at hb3
       exact hT.sto s hs e2 b (henv _ _ hb2) hb3
     · rw [hset _ e2, ← hb3]
       refine hT.same b (block_lt hb3) fun t ht e3 he => ?_
       have hst : s.ia ≠ t.ia := fun h => e2 (by rw [hia s hs t ht h]; exact e3)
       have hlt := hafter t ht e3
       obtain ⟨c, hc1, hc2, hc3⟩ := hJ.at_ t ht hlt
       rw [henv _ _ hc2] at he
       exact hJ.ne s hs t ht hst hl hlt (by rw [hb2, hc2, he])
 · by_cases e : i = s.ia
   · have e' : i ≠ t.ia := fun h => hne (e.symm.trans h)
     rw [hset _ e'] at hlt
     obtain ⟨c, hc1, hc2, hc3⟩ := hJ.at_ t ht hlt
     rw [hoth t ht e', hc2, hown s hs e, put_same _ _ _ (by rw [has]; exact factsOk_dst hfo ho (hown s hs e)), (hT.al s hs e).1]
     intro h
     have := ptrB_inj (Option.some.inj h)
     have := block_lt hc3
     omega
   · rw [hset _ e] at hls
     by_cases e2 : i = t.ia
     · obtain ⟨c, hc1, hc2, hc3⟩ := hJ.at_ s hs hls
       rw [hoth s hs e, hc2, hown t ht e2, put_same _ _ _ (by rw [has]; exact factsOk_dst hfo ho (hown t ht e2)), (hT.al t ht e2).1]
       intro h
       have := ptrB_inj (Option.some.inj h)
       have := block_lt hc3
       omega
     · rw [hset _ e2] at hlt
       rw [hoth s hs e, hoth t ht e2]
       exact hJ.ne s hs t ht hne hls hlt
 · by_cases e : i = s.is
   · have h5 := hafter s hs e
     by_cases e2 : i = s.ia
     · rw [← e2, hno] at h5; cases h5
     · rw [hset _ e2]; exact h5
   · rw [hset _ e] at hl
     have h5 := hJ.bef s hs hl
     by_cases e2 : i = s.ia
     · rw [← e2, hno] at h5; cases h5
     · rw [hset _ e2]; exact h5
theorem SlT.plain {i : Nat} {v : Value} {env : Nat → Value} {x y : World} (hi : ∀ s ∈ ss, i ≠ s.ia ∧ i ≠ s.is) (hb : Below x.heap.size x y) : SlT ss i v env x y :=
 ⟨fun s hs e => absurd e (hi s hs).1, fun s hs e => absurd e (hi s hs).2, fun k hk _ => hb.block k hk⟩
theorem slJ_start (w : World) (a : Act) (n : Nat) : SlJ ss N (Array.replicate n false) a w := by
 have h : ∀ j, (Array.replicate n false).getD j false = false := fun j => by
  rw [Array.getD_eq_getD_getElem?]
  by_cases hj : j < n
  · simp [hj]
  · simp [hj]
 refine ⟨fun s _ hl => ?_, fun s _ t _ _ hl => ?_, fun s _ hl => ?_⟩
 · rw [h] at hl; cases hl
 · rw [h] at hl; cases hl
 · rw [h] at hl; cases hl
end
section
variable {F : Fence} {n : Nat} {P : Program} {ops : Array Oper} {Q : Exit → Act → World → Prop}
def StepsFromS (F : Fence) (n : Nat) (P : Program) (ops : Array Oper) (ss : List SlotA) (N : Nat) (Rl : List (Value → World → Prop)) (Q : Exit → Act → World → Prop) (a : Act) (w : World) : Nat → List Oper → Prop
 | _, [] => True
 | i, o :: rest => (∀ (listed : Array Bool) (a' : Act) (w' : World), Agree ops Rl.length a a' → Below N w w' → SlJ ss N listed a' w' → listed.getD i false = false → (∀ e ∈ o.after, Region.binds .any e = true → listed.getD e.on false = true) → (∀ e ∈ o.after, Region.binds .any e = true → Known (fun i v _ w => factsAt Rl i v w) ops e.on a' w') → StepOkT F n P ops (fun i v _ w => factsAt Rl i v w) (fun x y => Below N x y) (SlT ss) Q i o a' w') ∧
  StepsFromS F n P ops ss N Rl Q a w (i + 1) rest
theorem stepsFromS_at {ss : List SlotA} {N : Nat} {Rl : List (Value → World → Prop)} {a : Act} {w : World} : ∀ (l : List Oper) (j : Nat), StepsFromS F n P ops ss N Rl Q a w j l → ∀ (i : Nat) (o : Oper), l[i]? = some o →
 ∀ (listed : Array Bool) (a' : Act) (w' : World), Agree ops Rl.length a a' → Below N w w' → SlJ ss N listed a' w' → listed.getD (j + i) false = false → (∀ e ∈ o.after, Region.binds .any e = true → listed.getD e.on false = true) → (∀ e ∈ o.after, Region.binds .any e = true → Known (fun i v _ w => factsAt Rl i v w) ops e.on a' w') → StepOkT F n P ops (fun i v _ w => factsAt Rl i v w) (fun x y => Below N x y) (SlT ss) Q (j + i) o a' w'
 | [], _, _, _, _, hi => by simp at hi
 | o :: rest, j, h, 0, o', hi => by
  simp only [List.getElem?_cons_zero, Option.some.injEq] at hi
  subst hi
  exact h.1
 | o :: rest, j, h, i + 1, o', hi => by
  have := stepsFromS_at rest (j + 1) h.2 i o' (by simpa using hi)
  rw [Nat.add_assoc, Nat.add_comm 1 i] at this
  exact this
/-- What the region leaves of its blocks. -/
def SlEnd (ss : List SlotA) (N : Nat) (a : Act) (w : World) : Prop :=
 (∀ s ∈ ss, ∃ b, N ≤ b ∧ a.tmps[s.d]? = some (ptrB b) ∧ w.heap[b]? = some s.o1) ∧ ∀ s ∈ ss, ∀ t ∈ ss, s.ia ≠ t.ia → a.tmps[s.d]? ≠ a.tmps[t.d]?
/-- A region that draws its order, allocates blocks and fills them, by facts. -/
theorem wp_region_slots {id : Nat} {a : Act} {w : World} (k : Nat) (ss : List SlotA) (N : Nat) (hm : P.follows .mixedOrders = true) (Rl : List (Value → World → Prop)) (hk : Rl.length = k)
 (hst : AllStable (fun x y => Below N x y) Rl)
 (hfo : factsOk ops a.tmps.size = true) (ht : tailOk ops k = true) (hN : N ≤ w.heap.size) (hok : slotsOk ops (ss.map (·.key)) = true) (hsk : ∀ s ∈ ss, s.ia < k ∧ s.is < k)
 (hsteps : StepsFromS F n P ops ss N Rl Q a w 0 (ops.toList.take k))
 (hend : ∀ w', Below N w w' → EndFrom (fun a' => SlEnd ss N a' w' → wpListIn F n P ops Q (ops.toList.drop k) a' w') w' ops.toList Rl a) :
 (Code.region id ops true).wpIn F n P Q a w := by
 subst hk
 refine wpIn_region_auto hm Rl.length (fun i v _ w => factsAt Rl i v w) (fun x y => Below N x y) (SlT ss) (SlJ ss N) (fun x => Below.refl _ x) (fun h k => h.trans k) (fun i v _ x y _ => hst.at i v x y) (fun _ _ _ _ _ _ _ _ _ h => h) hfo ht (Below.refl _ _).drew (slJ_start _ _ _) ?_ ?_ ?_
 · intro i o listed a' v w' w'' hik ho hsz hno hdep hA hC hJ hR hT
   exact slJ_step hok hfo ho hsz hno hdep hA.size (Nat.le_trans hN hC.size) hJ hT
 · intro i o hik hi listed a' w' hA hC hJ hno hdep hD
   have hi' : (ops.toList.take Rl.length)[i]? = some o := by
    rw [List.getElem?_take_of_lt hik]
    simpa using hi
   have := stepsFromS_at _ 0 hsteps i o hi' listed a' w' hA hC hJ (by rw [Nat.zero_add]; exact hno) hdep hD
   rw [Nat.zero_add] at this
   exact this
 · intro listed a' w' hA hC hJ hall hK
   have hok' := hok
   unfold slotsOk at hok'
   simp only [Bool.and_eq_true, List.all_map, decide_eq_true_eq] at hok'
   have hl : ∀ s ∈ ss, listed.getD s.ia false = true ∧ listed.getD s.is false = true := fun s hs => by
    have h1 := List.all_eq_true.1 hok'.1.1.1 s hs
    simp only [Function.comp, SlotA.key, Bool.and_eq_true, decide_eq_true_eq] at h1
    exact ⟨hall _ (hsk s hs).1 (of_decide_eq_true h1.1.2), hall _ (hsk s hs).2 (of_decide_eq_true h1.1.1.2)⟩
   have hE : SlEnd ss N a' w' := by
    refine ⟨fun s hs => ?_, fun s hs t ht hne => hJ.ne s hs t ht hne (hl s hs).1 (hl t ht).1⟩
    obtain ⟨b, h1, h2, h3⟩ := hJ.at_ s hs (hl s hs).1
    rw [(hl s hs).2] at h3
    exact ⟨b, h1, h2, h3⟩
   exact endFrom_of (K := fun a' => SlEnd ss N a' w' → wpListIn F n P ops Q (ops.toList.drop Rl.length) a' w') hfo hA.size 0 a rfl hA.defers.symm (by simpa using hend w' hC) hK (fun t ht => hA.slot t (fun i o hil hi => ht i o (Nat.zero_le _) hil hi)) hE
theorem stepOkT_plain {R : Nat → Value → (Nat → Value) → World → Prop} {C : World → World → Prop} {T : Nat → Value → (Nat → Value) → World → World → Prop} {i : Nat} {o : Oper} {a' : Act} {w' : World} (hg : o.guard = none)
 (h : ∀ K : Act → World → Prop, (∀ v w'', R i v (envOf a') w'' → C w' w'' → T i v (envOf a') w' w'' → K (a'.put o.dst v) w'') → o.wpIn F n P a' w' K Q) : StepOkT F n P ops R C T Q i o a' w' := by
 unfold StepOkT
 simp only [Region.wanted, hg, if_true]
 exact h
end
section
variable {ss : List SlotA} {i : Nat} {v : Value} {env : Nat → Value} {x y : World}
theorem SlT.plainB (hi : (ss.all fun s => !(Nat.beq i s.ia) && !(Nat.beq i s.is)) = true) (hb : Below x.heap.size x y) : SlT ss i v env x y :=
 SlT.plain (fun s hs => by
  have := List.all_eq_true.1 hi s hs
  simp only [Bool.and_eq_true, Bool.not_eq_true'] at this
  exact ⟨fun e => by rw [e, Nat.beq_refl] at this; exact absurd this.1 (by decide), fun e => by rw [← e, Nat.beq_refl] at this; exact absurd this.2 (by decide)⟩) hb
theorem SlT.alloc {o : Obj} (ha : ∀ t ∈ ss, t.ia = i → t.o0 = o) (hn : ∀ t ∈ ss, t.is ≠ i) : SlT ss i (ptrB x.heap.size) env x (x.alloc o) :=
 ⟨fun s hs e => ⟨rfl, by rw [ha s hs e.symm]; exact newBlock _ _ _ rfl⟩, fun s hs e => absurd e.symm (hn s hs), fun k hk _ => Below.heap_alloc x o k hk⟩
theorem SlT.store (s : SlotA) (hu : ∀ t ∈ ss, t.is = i → t = s) (hna : ∀ t ∈ ss, t.ia ≠ i) (hm : s ∈ ss) (hsi : s.is = i) (b : Nat) (he : env s.d = ptrB b) (hy : y.heap[b]? = some s.o1) (ho : ∀ k, k ≠ b → y.heap[k]? = x.heap[k]?) : SlT ss i v env x y :=
 ⟨fun t ht e => absurd e.symm (hna t ht), fun t ht e c hc _ => by
  obtain rfl := hu t ht e.symm
  rw [he] at hc
  rw [← ptrB_inj hc]
  exact hy, fun k hk hn => ho k fun e => hn s hm hsi.symm (by rw [e]; exact he)⟩
end
/-- A block that lies there. -/
structure BlkAt (b : Nat) (o : Obj) (w : World) : Prop where
 at_ : w.heap[b]? = some o
theorem BlkAt.below {b : Nat} {o : Obj} {w w' : World} (h : BlkAt b o w) (hb : Below w.heap.size w w') : BlkAt b o w' := ⟨(hb.block b (block_lt h.at_)).trans h.at_⟩
end Go.Proofs.YtodpkgbpcpfamaaGreat

/- Layer 5: the points of a canvas, told one by one. -/
namespace Go.Proofs.YtodpkgbpcpfamaaGreat
set_option linter.unusedSimpArgs false
set_option linter.unusedVariables false
open Go.RowKit Go.Shelf
attribute [local go_sem] Oper.semAt_some

set_option maxRecDepth 100000 in
set_option maxHeartbeats 2000000 in
theorem points1_any (n : Nat) (hn : 1 ≤ n) (own : World → Nat → Prop) (N0 : Nat) (ho : OwnSt own N0) (L Bs : Nat) (bs : List Nat) (wi hi Wd Hd : Nat) (hwi : 8 * wi = Wd) (hhi : 8 * hi = Hd) (hw : wi ≤ 4) (hh : hi ≤ 4)
 (J Jx : List (Fin (Hd * Wd)) → World → Prop) (hJd : ∀ pre x y, J pre x → Below x.heap.size x y → J pre y) (hb1 : Bs ∈ bs)
 (hY : ∀ pre x W, J pre W → pre.length < Hd * Wd → YieldAt Fence.wide (n - 1) Tryz.prog L #[(ptK Wd x.1).val] W fun e W' =>
  (e = .returned (.bool true) ∧ J (pre ++ [x]) W' ∧ KO own bs N0 W W') ∨ (e = .returned (.bool false) ∧ Jx (pre ++ [x]) W'))
 (W : World) (hN : N0 ≤ W.heap.size) (hBs : ∀ c ∈ bs, c < W.heap.size) (hwf : ∀ q, own W q → q < W.heap.size) (hc0 : W.cell? ⟨Bs, 0, none⟩ = some (.int .i64 wi)) (hc1 : W.cell? ⟨Bs, 1, none⟩ = some (.int .i64 hi)) (h0 : J [] W) :
 CallsIn Fence.wide n Tryz.prog 59 #[.func (.yield L) #[] #[], .pointer (some ⟨Bs, 0, none⟩)] W fun e W' => (∃ v, e = .returned v) ∧
  ((∃ ys, ys = List.finRange (Hd * Wd) ∧ J ys W') ∨ (∃ pre, pre <+: List.finRange (Hd * Wd) ∧ Jx pre W')) := by
 have HY := Lib.hid hY
 have HD := Lib.hid (fun (p : Nat) (x y : World) (h : AllAt own bs N0 (Hd * Wd) J W p x) (hb : Below x.heap.size x y) => h.below ho hJd hN hBs hb)
 have HC : Hid (∀ wr, KeepsAt bs W wr → wr.cell? ⟨Bs, 0, none⟩ = some (.int .i64 wi) ∧ wr.cell? ⟨Bs, 1, none⟩ = some (.int .i64 hi)) := Lib.hid fun wr hk => ⟨cell_keepsAt hc0 hb1 hk, cell_keepsAt hc1 hb1 hk⟩
 have HA := Lib.hid (show AllAt own bs N0 (Hd * Wd) J W 0 W from ⟨h0, KO.refl _ _ _ _, hwf⟩)
 have HB := Lib.hid (show Wd ≤ 32 ∧ Hd ≤ 32 by omega)
 have HE := Lib.hid (show wrap64 (8 * (wi : Int)) = (Wd : Int) ∧ wrap64 (8 * (hi : Int)) = (Hd : Int) by unfold wrap64; omega)
 have c1 := (HC.out W (KeepsAt.refl _ _)).2
 have e1 := HE.out.2
 clear hY ho hJd hb1 hBs hc0 hc1 h0 hwf hN hwi hhi hw hh
 refine callsIn_of_wp Tryz.func59 rfl trivial ?_ rfl
 simp only [Tryz.ntmps59, List.size_toArray, List.length_cons, List.length_nil, Nat.reduceAdd, Nat.reduceSub, Array.replicate_succ, Array.replicate_zero, List.push_toArray, List.append_toArray, List.nil_append, List.cons_append]
 apply wpIn_scope
 gi_wp2
 apply wpIn_label
 gi_wp2; rw [HE.out.2]
 clear c1 e1
 gi_loopw [8] (fun i wr => ∃ k : Nat, k ≤ Hd ∧ i = .int .i64 k ∧ AllAt own bs N0 (Hd * Wd) J W (k * Wd) wr) (fun i _ => Hd - (intOf i).toNat)
 case atStart => exact ⟨0, by omega, rfl, by rw [Nat.zero_mul]; exact HA.out⟩
 case round =>
  obtain ⟨k, hk, rfl, ha⟩ := hrel
  clear HA
  have HA := Lib.hid ha
  clear ha
  by_cases hlt : k < Hd
  · have HLT := Lib.hid hlt
    have wk : wrap64 ((k : Int) + 1) = ((k + 1 : Nat) : Int) := by have := HB.out; unfold wrap64; omega
    have HWK := Lib.hid wk
    have c0 := (HC.out wr HA.out.ko.at_).1
    have e0 := HE.out.1
    clear wk
    gi_wp2; rw [HE.out.1]
    clear c0 e0 hlt hk
    gi_loopw [14] (fun x wi => ∃ i : Nat, i ≤ Wd ∧ x = .int .i64 (i : Int) ∧ AllAt own bs N0 (Hd * Wd) J W (k * Wd + i) wi) (fun x _ => Wd - (intOf x).toNat)
    case atStart => exact ⟨0, by omega, rfl, HA.out⟩
    case round =>
     obtain ⟨i, hi, rfl, ha⟩ := hrel
     clear HA
     have HA := Lib.hid ha
     clear ha
     by_cases hlt2 : i < Wd
     · have HLT2 := Lib.hid hlt2
       have wi1 : wrap64 ((i : Int) + 1) = ((i + 1 : Nat) : Int) := by have := HB.out; unfold wrap64; omega
       have HWI := Lib.hid wi1
       have hpl : k * Wd + i < Hd * Wd := by
        have h1 : (k + 1) * Wd ≤ Hd * Wd := Nat.mul_le_mul_right _ HLT.out
        rw [Nat.succ_mul] at h1
        omega
       obtain ⟨fn, tmps, assign, body, hy, hR⟩ := HY.out _ (⟨k * Wd + i, hpl⟩ : Fin (Hd * Wd)) wr HA.out.j (by rw [firsts_length (Nat.le_of_lt hpl)]; exact hpl)
       have he : ptK Wd (k * Wd + i) = ⟨(i : Int), (k : Int)⟩ := ptK_at hlt2
       simp only [he, PtT.val] at hy
       have hs := firsts_succ (N := Hd * Wd) (k := k * Wd + i) hpl
       rw [hs] at hR
       clear hs he hpl wi1 hi
       gi_wp2
       refine hR.mono ?_
       rintro e w4 (⟨rfl, hJ4, hk4⟩ | ⟨rfl, hJx⟩)
       · have HA4 := Lib.hid (show AllAt own bs N0 (Hd * Wd) J W (k * Wd + (i + 1)) w4 from ⟨hJ4, HA.out.ko.trans hk4, hk4.wf HA.out.wf⟩)
         clear hJ4 hk4
         gi_wp2
         go_roundw
         case rel => exact ⟨i + 1, HLT2.out, by first | exact congrArg (Value.int .i64) HWI.out | exact congrArg (Value.int .i64) (Int.natCast_succ i).symm, HA4.out⟩
         case measure => (try rw [HWI.out]); have := HLT2.out; simp only [intOf]; omega
       · have HJ3 := Lib.hid hJx
         clear hJx
         gi_wp2; rw [Exit.noGoto_normal]
         go_end0
         exact ⟨⟨_, rfl⟩, .inr ⟨_, firsts_prefix _ _, HJ3.out⟩⟩
     · have HN2 := Lib.hid (show k * Wd + i = (k + 1) * Wd by rw [Nat.succ_mul]; omega)
       clear hi
       gi_wp2
       go_roundw
       case rel => exact ⟨k + 1, HLT.out, by first | exact congrArg (Value.int .i64) HWK.out | exact congrArg (Value.int .i64) (Int.natCast_succ k).symm, by have := HA.out; rwa [HN2.out] at this⟩
       case measure => (try rw [HWK.out]); have := HLT.out; simp only [intOf]; omega
  · obtain rfl : k = Hd := by omega
    have HJ := Lib.hid (show J (List.finRange (k * Wd)) wr by have := HA.out.j; rwa [firsts_all] at this)
    clear hk hlt
    gi_wp2; rw [Exit.noGoto_normal]
    go_end0
    exact ⟨⟨_, rfl⟩, .inl ⟨_, rfl, HJ.out⟩⟩

theorem points_iter (own : World → Nat → Prop) (w : World) (ho : OwnSt own w.heap.size) (hwf : ∀ q, own w q → q < w.heap.size) (Bs : Nat) (bs : List Nat) (wi hi Wd Hd : Nat) (hwi : 8 * wi = Wd) (hhi : 8 * hi = Hd) (hw : wi ≤ 4) (hh : hi ≤ 4)
 (hbs : ∀ c ∈ bs, c < w.heap.size) (hb1 : Bs ∈ bs) (hc0 : w.cell? ⟨Bs, 0, none⟩ = some (.int .i64 wi)) (hc1 : w.cell? ⟨Bs, 1, none⟩ = some (.int .i64 hi)) :
 IterO Tryz.prog 59 #[.pointer (some ⟨Bs, 0, none⟩)] (Hd * Wd) (fun i => #[(ptK Wd i.1).val]) own bs w := by
 intro n hn1 L J Jx W hW hJ _ hY h0
 have e := ho w W (fun k hk => hW.block k hk)
 exact points1_any n hn1 own w.heap.size ho L Bs bs wi hi Wd Hd hwi hhi hw hh J Jx (fun pre x y h hb => hJ pre x y none h (below_grown hb) (by simp)) hb1 hY W hW.size (fun c hc => Nat.lt_of_lt_of_le (hbs c hc) hW.size) (fun q hq => Nat.lt_of_lt_of_le (hwf q ((e q).1 hq)) hW.size)
  ((hW.cell (p := ⟨Bs, 0, none⟩) (hbs Bs hb1)).trans hc0) ((hW.cell (p := ⟨Bs, 1, none⟩) (hbs Bs hb1)).trans hc1) h0

theorem points_cl (wi hi : Int) (w : World) :
 Calls Tryz.prog 32 #[.agg #[.int .i64 wi, .int .i64 hi]] w fun e w' => e = .returned (.func (.func 59) #[] #[.pointer (some ⟨w.heap.size, 0, none⟩)]) ∧ w.alloc (.cells #[.int .i64 wi, .int .i64 hi] 85) = w' := by
 go_enter Tryz.func32, Tryz.ntmps32
 go_wp2
 go_ret
 exact ⟨rfl, rfl⟩
end Go.Proofs.YtodpkgbpcpfamaaGreat

/- A row of the call's own that is held in a box: what rounds of an iterator do with it. -/
namespace Go.Proofs.YtodpkgbpcpfamaaGreat
set_option linter.unusedSimpArgs false
set_option linter.unusedVariables false
open Go.RowKit Go.Shelf
section
variable {α : Type}
structure BoxS (w0 : World) (its : List It) (N B : Nat) (tS e : TypeId) (k : Nat) (enc : α → List Value) (v : Value) (L : List α) (x : World) : Prop where
 o : StO w0 its N e k enc v L x
 at_ : x.heap[B]? = some (.cells #[v] tS (0, 0))
 lo : ∀ i ∈ its, i.top ≤ B
 hb : w0.heap.size ≤ B ∧ B < N
variable {w0 x y z : World} {its : List It} {N B : Nat} {tS e : TypeId} {k : Nat} {enc : α → List Value} {v v' : Value} {L L' : List α}
theorem StO.otherT {base : Nat} {M : List α} (h : StO w0 its base e k enc v M x) {T : Nat} (hT : w0.heap.size ≤ T) (ht : ∀ i ∈ its, i.top ≤ T) (hn : v.ownBlock ≠ some T) (hg : x.grownBy y (some T)) : StO w0 its base e k enc v M y :=
 ⟨h.st.grown (base := T) (row := some T) (fun j e => by cases e; exact Nat.le_refl _) hT ht hg, h.row.kept hg (.inr hn), h.low, h.top, Nat.le_trans h.hi hg.size⟩
theorem BoxS.below (h : BoxS w0 its N B tS e k enc v L x) (hb : Below x.heap.size x y) : BoxS w0 its N B tS e k enc v L y :=
 ⟨h.o.below hb, (hb.block B (block_lt h.at_)).trans h.at_, h.lo, h.hb⟩
theorem BoxS.nb (h : BoxS w0 its N B tS e k enc v L x) : v.ownBlock ≠ some B := fun e => by
 have := (h.o.row.lt B e).1
 have := h.hb.2
 omega
theorem BoxS.push (h : BoxS w0 its N B tS e k enc v L x) (hy : Below x.heap.size x y) (ho : StO w0 its N e k enc v' L' z) (hg : y.grownBy z v.ownBlock) : BoxS w0 its N B tS e k enc v' L' (z.setCell ⟨B, 0, none⟩ v') := by
 have h2 := h.below hy
 have hz := (hg.block B (block_lt h2.at_) (fun e => h.nb e.symm)).trans h2.at_
 refine ⟨ho.otherT h.hb.1 h.lo (fun e => ?_) (grownBy_setCellAt z B 0 v'), heap_set_same hz v', h.lo, h.hb⟩
 have := (ho.row.lt B e).1
 have := h.hb.2
 omega
/-- Which block the box's row lies in. -/
def ownBox (B : Nat) (tS : TypeId) (W : World) (q : Nat) : Prop := ∃ v : Value, W.heap[B]? = some (.cells #[v] tS (0, 0)) ∧ v.ownBlock = some q
theorem ownSt_box {N0 : Nat} (h : B < N0) : OwnSt (ownBox B tS) N0 := fun A C hk q => by
 unfold ownBox
 rw [hk B h]
theorem BoxS.own (h : BoxS w0 its N B tS e k enc v L x) (q : Nat) : ownBox B tS x q ↔ v.ownBlock = some q := by
 constructor
 · rintro ⟨u, hu, hq⟩
   rw [h.at_] at hu
   simp only [Option.some.injEq, Obj.cells.injEq, Array.mk.injEq, List.cons.injEq, and_true] at hu
   rw [hu]; exact hq
 · intro hq; exact ⟨v, h.at_, hq⟩
theorem BoxS.wf (h : BoxS w0 its N B tS e k enc v L x) : ∀ q, ownBox B tS x q → q < x.heap.size := fun q hq => (h.o.row.lt q ((h.own q).1 hq)).2
/-- What a round that appends keeps. -/
theorem BoxS.ko {bs : List Nat} {N0 : Nat} (h : BoxS w0 its N B tS e k enc v L x) (hy : Below x.heap.size x y) (ho : StO w0 its N e k enc v' L' z) (hg : y.grownBy z v.ownBlock) (hl : v'.ownBlock = v.ownBlock ∨ ∃ b, v'.ownBlock = some b ∧ y.heap.size ≤ b) (hB : B < N0) (hN : N0 ≤ N) (hx : N0 ≤ x.heap.size) (hbs : ∀ b ∈ bs, b < N0 ∧ b ≠ B) : KO (ownBox B tS) bs N0 x (z.setCell ⟨B, 0, none⟩ v') := by
 have hp := h.push hy ho hg
 have hne : ∀ q, q < x.heap.size → v.ownBlock ≠ some q → q ≠ B → (z.setCell ⟨B, 0, none⟩ v').heap[q]? = x.heap[q]? := fun q hq hn hqB =>
  (Below.heap_setCell z ⟨B, 0, none⟩ v' q (by simpa using hqB)).trans ((hg.block q (Nat.lt_of_lt_of_le hq hy.size) (fun e => hn e.symm)).trans (hy.block q hq))
 refine ⟨?_, fun b hb => ?_, fun _ => hp.wf, fun q o hq hqo _ hn => ?_⟩
 · rw [World.size_setCell]
   exact Nat.le_trans hy.size hg.size
 · refine hne b (Nat.lt_of_lt_of_le (hbs b hb).1 hx) (fun e => ?_) (hbs b hb).2
   have := (h.o.row.lt b e).1
   have := (hbs b hb).1
   omega
 · rw [h.own q] at hn
   refine ⟨?_, (hne q (block_lt hqo) hn (by omega)).trans hqo⟩
   rw [hp.own q]
   rcases hl with e | ⟨b, e, hb⟩
   · rw [e]; exact hn
   · rw [e]
     intro h2
     cases h2
     have := block_lt hqo
     have := hy.size
     omega
theorem BoxS.keepsFrom {N0 : Nat} (h : BoxS w0 its N B tS e k enc v L x) (hy : Below x.heap.size x y) (hg : y.grownBy z v.ownBlock) : KeepsFrom N0 x (z.setCell ⟨B, 0, none⟩ v') := by
 refine ((KeepsFrom.of_grownBy (row := none) (below_grown hy) (fun _ e => by cases e)).trans ((KeepsOthers.of_grownBy hg fun j o hj ho => ?_).from N0)).trans ((KeepsOthers.setCell z _ _).from N0)
 obtain ⟨cs, f, hc⟩ := ownsRow_typed (ownsRow_below h.o.row hy) j hj
 rw [hc] at ho
 cases ho
 rfl
theorem ownFrom_StO {β : Type} {N0 : Nat} (v : β → Value) (L : β → List α) (hB : w0.heap.size ≤ N0) (hc : ∀ b o, .blk b o ∈ its → o.isCells = true) : OwnFrom N0 (fun s W => StO w0 its N e k enc (v s) (L s) W) := by
 intro s W W' row h hg hr
 refine ⟨ownFrom_St (fun _ : β => its) hB (fun _ => hc) s W W' row h.st hg hr, h.row.kept hg ?_, h.low, h.top, Nat.le_trans h.hi hg.size⟩
 cases hv : (v s).ownBlock with
 | none => exact .inl rfl
 | some b =>
  refine .inr fun e => ?_
  obtain ⟨o, ho, hoc⟩ := (hr b e.symm).2
  obtain ⟨cs, f, hc⟩ := ownsRow_typed h.row b hv
  rw [hc] at ho
  cases ho
  cases hoc
theorem ownFrom_BoxS {β : Type} {N0 : Nat} (L : β → List α) (hB : w0.heap.size ≤ N0) (hc : ∀ b o, .blk b o ∈ its → o.isCells = true) : OwnFrom N0 (fun s W => ∃ v, BoxS w0 its N B tS e k enc v (L s) W) := by
 rintro s W W' row ⟨v, h⟩ hg hr
 refine ⟨v, ownFrom_StO (fun _ : β => v) L hB hc s W W' row h.o hg hr, (grownBy_keeps_cells hg (fun r e => (hr r e).2) h.at_ rfl).trans h.at_, h.lo, h.hb⟩
end
/-- A block that lies there. -/
structure BlkA (b : Nat) (o : Obj) (w : World) : Prop where
 at_ : w.heap[b]? = some o
theorem BlkA.below {b : Nat} {o : Obj} {w w' : World} (h : BlkA b o w) (hb : Below w.heap.size w w') : BlkA b o w' := ⟨(hb.block b (block_lt h.at_)).trans h.at_⟩
end Go.Proofs.YtodpkgbpcpfamaaGreat
