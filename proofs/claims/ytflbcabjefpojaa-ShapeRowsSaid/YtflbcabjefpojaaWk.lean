/- Layer 6: what the statements call, as rows that are read; the rows that 'wakes' looks at. -/
import Derived.Test.YtflbcabjefpojaaLine
import Derived.Test.YtflbcabjefpojaaSwC
import Derived.Test.YtflbcabjefpojaaShL
import Derived.Test.YtflbcabjefpojaaShN
namespace Go.Proofs.Ytflbcabjefpojaa
set_option linter.unusedSimpArgs false
set_option linter.unusedVariables false
open Go.RowKit Go.Shelf

section
variable {α : Type}
/-- A row to be read, and a code. -/
def Got (k : Nat) (enc : α → List Value) (L : List α) (n : Nat) (er : Int) (w : World) (e : Ending) (w' : World) : Prop :=
  L.length = n ∧ ∃ a cap, e = .returned (.tuple #[.slice a n cap, .int .i64 er]) ∧ Elems w' (.slice a n cap) n k (rowC enc L) ∧ Below w.heap.size w w'
theorem GivesRowE.got {k : Nat} {enc : α → List Value} (hk : ∀ q, (enc q).length = k) {E : TypeId} {L : List α} {er : Int} {w : World} {e : Ending} {w' : World} (h : GivesRowE E k L.length (L.flatMap enc) er w e w') : Got k enc L L.length er w e w' := by
  obtain ⟨v, rfl, hr, hb⟩ := h
  have he := ownsRow_rows hk hr
  obtain ⟨a, cap, rfl, -⟩ := he.shape
  exact ⟨rfl, a, cap, rfl, he, hb⟩
theorem Got.is {k : Nat} {enc : α → List Value} {L M : List α} {n : Nat} {er er' : Int} {w : World} {e : Ending} {w' : World} (h : Got k enc L L.length er w e w') (h1 : L = M) (hn : M.length = n) (h2 : er = er') : Got k enc M n er' w e w' := by
  subst h1 h2
  rw [← hn]
  exact h
theorem Elems.ofBlock {k : Nat} {enc : α → List Value} {w : World} {b : Nat} {cs : Array Value} {t : TypeId} {f : Nat × Nat} (h : w.heap[b]? = some (.cells cs t f)) (L : List α) (n cap : Nat) (hL : cs.toList = L.flatMap enc) (hn : (L.flatMap enc).length = n * k) : Elems w (.slice (some ⟨b, 0, none⟩) n cap) n k (rowC enc L) := by
  refine .inr ⟨b, 0, cap, rfl, block_lt h, fun j hj => ?_⟩
  rw [Nat.zero_add]
  refine cell_of_block h ?_
  unfold rowC
  rw [← hL, ← Array.getElem?_toList]
  have : j < cs.toList.length := by rw [hL, hn]; exact hj
  rw [List.getElem?_eq_getElem this]
  rfl
end
theorem GivesSet.got {ok : Bool} {P : PtT → Prop} {er : Int} {w : World} {e : Ending} {w' : World} (h : GivesSet ok P er w e w') : ∃ M, (ok = true → SetRow P M) ∧ (ok = false → M = []) ∧ M.length ≤ 1000000 ∧ Got 3 encS M M.length (errOf ok er) w e w' := by
  obtain ⟨M, h1, h2, h3, h4⟩ := h
  exact ⟨M, h1, h2, h3, h4.got encS_len⟩
/-- A set whose row is known. -/
theorem GivesSet.known {ok : Bool} {P : PtT → Prop} {er : Int} {w : World} {e : Ending} {w' : World} (h : GivesSet ok P er w e w') (hok : ok = true) {L : List SpT} (hL : SetRow P L) (n : Nat) (hn : L.length = n) : Got 3 encS L n 0 w e w' := by
  obtain ⟨M, h1, h2, h3, h4⟩ := h.got
  exact h4.is ((h1 hok).unique hL) hn (by rw [hok]; rfl)

def wkL : List PtT := [⟨0, 0⟩, ⟨1, 1⟩, ⟨2, 1⟩, ⟨3, 2⟩, ⟨4, 2⟩]
def wkD : List SpT := [⟨-1, 0, 0⟩, ⟨0, -1, 1⟩, ⟨1, 0, 0⟩]
def wkS : List SpT := [⟨-1, -1, 4⟩, ⟨0, -1, 4⟩, ⟨1, -1, 4⟩]
def wkU : List SpT := [⟨0, 0, 5⟩]
def wkC : List SpT := [⟨0, 1, 4⟩]
theorem wk_line (w : World) : Calls Try.prog 24 #[.agg #[.int .i64 0, .int .i64 0], .agg #[.int .i64 4, .int .i64 2]] w (Got 2 encP wkL 5 0 w) :=
  (shLine_any ⟨0, 0⟩ ⟨4, 2⟩ w).mono fun _ _ h => (h.got encP_len).is (by decide) rfl (by decide)
theorem wk_no (w : World) : Calls Try.prog 24 #[.agg #[.int .i64 128, .int .i64 0], .agg #[.int .i64 0, .int .i64 0]] w (Got 2 encP [] 0 2 w) :=
  (shLine_any ⟨128, 0⟩ ⟨0, 0⟩ w).mono fun _ _ h => (h.got encP_len).is (by decide) rfl (by decide)
theorem setRow_sweep {size : Int} {round : Bool} {l : List PtT} {L : List SpT} (hs : 0 ≤ size) (hr : RowP L) (h : ∀ p, hasB L p = true ↔ hasB (sweepL size round l) p = true) : SetRow (SwM size round l) L :=
  ⟨hr, fun p => (h p).trans (sweepL_has hs l p)⟩
theorem wk_discL : sweepL 1 true [⟨0, 0⟩] = wkD := by decide
theorem wk_sweepL : sweepL 1 false [⟨0, 0⟩, ⟨3, 0⟩] = [⟨-1, -1, 1⟩, ⟨0, -1, 1⟩, ⟨1, -1, 1⟩, ⟨-1, 2, 4⟩, ⟨0, 2, 4⟩, ⟨1, 2, 4⟩] := by decide
theorem rowP_of {l : List SpT} (h1 : ∀ s ∈ l, s.f ≤ s.t) (h2 : l.Pairwise fun a b => a.y < b.y ∨ a.y = b.y ∧ a.t + 1 < b.f) : RowP l := ⟨h1, h2⟩
theorem wk_setD : SetRow (SwM 1 true [⟨0, 0⟩]) wkD := setRow_sweep (by decide) (rowP_of (by decide) (by decide)) (fun p => by rw [wk_discL])
theorem wk_setS : SetRow (SwM 1 false [⟨0, 0⟩, ⟨3, 0⟩]) wkS := setRow_sweep (by decide) (rowP_of (by decide) (by decide)) (fun p => by
  rw [wk_sweepL]
  simp [hasB, inB, wkS]
  omega)
theorem wk_setU : SetRow (fun p => hasB [(⟨0, 0, 2⟩ : SpT), ⟨0, 3, 5⟩] p = true) wkU := ⟨rowP_of (by decide) (by decide), fun p => by
  simp [hasB, inB, wkU]
  omega⟩
theorem wk_disc (w : World) : Calls Try.prog 23 #[.agg #[.int .i64 0, .int .i64 0], .int .i64 1] w (Got 3 encS wkD 3 0 w) :=
  (shDisc_any ⟨0, 0⟩ 1 w).mono fun _ _ h => h.known (by decide) wk_setD 3 rfl
theorem wk_sweep (a : Option Addr) (cap : Nat) (w : World) (h : Elems w (.slice a 2 cap) 2 2 (rowC encP [⟨0, 0⟩, ⟨3, 0⟩])) : Calls Try.prog 11 #[.slice a 2 cap, .int .i64 1, .bool false] w (Got 3 encS wkS 3 0 w) :=
  (shSweep_any a 2 cap [⟨0, 0⟩, ⟨3, 0⟩] rfl (by decide) 1 false w h).mono fun _ _ h => h.known (by decide) wk_setS 3 rfl
theorem right_one {y f t : Int} (h : spB ⟨y, f, t⟩ = true) : rightB [(⟨y, f, t⟩ : SpT)] = true := (rightB_iff _).2 ⟨fun k hk => by
  obtain rfl : k = 0 := by simp at hk; omega
  exact h, fun k hk => by simp at hk⟩
theorem wk_union (a : Option Addr) (cap : Nat) (w : World) (h : RowsR w a [[⟨0, 0, 2⟩], [⟨0, 3, 5⟩]]) : Calls Try.prog 34 #[.slice a 2 cap] w (Got 3 encS wkU 1 0 w) :=
  (shUnion_any a 2 cap [[⟨0, 0, 2⟩], [⟨0, 3, 5⟩]] rfl (by decide) (by decide) w h).mono fun _ _ h => h.known (by simp [right_one (y := 0) (f := 0) (t := 2) (by decide), right_one (y := 0) (f := 3) (t := 5) (by decide)]) wk_setU 1 rfl
theorem wk_clip (a : Option Addr) (cap : Nat) (w : World) (h : Elems w (.slice a 1 cap) 1 3 (rowC encS wkU)) : Calls Try.prog 20 #[.slice a 1 cap, .agg #[.int .i64 1, .int .i64 0, .int .i64 4, .int .i64 0]] w (Got 3 encS wkC 1 0 w) :=
  (shClip_any a 1 cap wkU rfl (by decide) ⟨1, 0, 4, 0⟩ w h).mono fun _ _ h => (h.got encS_len).is (by
    unfold clipR
    rw [show rightB wkU = true from right_one (by decide)]
    decide) rfl (by rw [show rightB wkU = true from right_one (by decide)]; rfl)
theorem wk_count (a : Option Addr) (cap : Nat) (w : World) (h : Elems w (.slice a 3 cap) 3 3 (rowC encS wkS)) : Calls Try.prog 32 #[.slice a 3 cap] w (Gives (.int .i64 18) w) := by
  have hr : rightB wkS = true := (rightB_iff _).2 ⟨fun k hk => by
    have : k = 0 ∨ k = 1 ∨ k = 2 := by simp [wkS] at hk; omega
    rcases this with rfl | rfl | rfl <;> rfl, fun k hk => by
    have : k = 0 ∨ k = 1 := by simp [wkS] at hk; omega
    rcases this with rfl | rfl <;> rfl⟩
  have hl : (allL wkS).length = 18 := by
    unfold allL
    rw [hr]
    decide
  have := count_any a 3 cap wkS rfl (by decide) w h (by rw [hl]; decide)
  rw [hl] at this
  exact this

theorem sameB_self {α : Type} [DecidableEq α] (l : List α) : sameB l l = true := by unfold sameB; simp
theorem eqP_same (s1 s2 : Value) (L : List PtT) (n : Nat) (hn : L.length = n) (w : World) (h1 : Elems w s1 n 2 (rowC encP L)) (h2 : Elems w s2 n 2 (rowC encP L)) (hl : n ≤ 1000000000 := by decide) :
    Calls Try.prog 18 #[s1, s2] w (Gives (.bool true) w) := by
  subst hn
  have := eqP_any s1 s2 L L w h1 h2 hl
  rwa [sameB_self] at this
theorem eqS_same (s1 s2 : Value) (L : List SpT) (n : Nat) (hn : L.length = n) (w : World) (h1 : Elems w s1 n 3 (rowC encS L)) (h2 : Elems w s2 n 3 (rowC encS L)) (hl : n ≤ 1000000000 := by decide) :
    Calls Try.prog 17 #[s1, s2] w (Gives (.bool true) w) := by
  subst hn
  have := eqS_any s1 s2 L L w h1 h2 hl
  rwa [sameB_self] at this
set_option maxRecDepth 100000 in
set_option maxHeartbeats 4000000 in
theorem wakes_any (w : World) : Calls Try.prog 9 #[] w (Gives (.bool true) w) := by
  have HS := Lib.hid (St.start w)
  go_enter Try.func9, Try.ntmps9
  go_wp2_with fail
  refine (wk_line _).mono ?_
  rintro e w1 ⟨-, a1, c1, rfl, he_, hb_⟩
  have HS := Lib.hid ((HS.out.below hb_).addRow he_)
  clear hb_ he_
  go_wp2_with fail
  refine (wk_no _).mono ?_
  rintro e w2 ⟨-, a2, c2, rfl, he_, hb_⟩
  have HS := Lib.hid ((HS.out.below hb_).addRow he_)
  clear hb_ he_
  go_wp2_with fail
  refine (wk_disc _).mono ?_
  rintro e w3 ⟨-, a3, c3, rfl, he_, hb_⟩
  have HS := Lib.hid ((HS.out.below hb_).addRow he_)
  clear hb_ he_
  go_wp2_with fail
  have hs_ := (HS.out.alloc (.cells #[.int .i64 0, .int .i64 0, .int .i64 3, .int .i64 0] 28))
  obtain ⟨w4, hw_⟩ : ∃ w4 : World, (w3.alloc (.cells #[.int .i64 0, .int .i64 0, .int .i64 3, .int .i64 0] 28)) = w4 := ⟨_, rfl⟩
  rw [hw_] at hs_
  try simp only [World.size_alloc] at hs_
  have HS := Lib.hid hs_
  rw [hw_]
  clear hw_ hs_
  refine (wk_sweep _ _ _ (Elems.ofBlock (HS.out.blockAt 0 rfl) _ _ _ rfl rfl)).mono ?_
  rintro e w5 ⟨-, a5, c5, rfl, he_, hb_⟩
  have HS := Lib.hid ((HS.out.below hb_).addRow he_)
  clear hb_ he_
  go_wp2_with fail
  have hs_ := (((HS.out.alloc (.cells #[.int .i64 0, .int .i64 0, .int .i64 2] 39)).alloc (.cells #[.int .i64 0, .int .i64 3, .int .i64 5] 39)).alloc (.cells #[.slice (some ⟨w5.heap.size, 0, none⟩) 1 1, .slice (some ⟨w5.heap.size + 1, 0, none⟩) 1 1] 29))
  obtain ⟨w6, hw_⟩ : ∃ w6 : World, (((w5.alloc (.cells #[.int .i64 0, .int .i64 0, .int .i64 2] 39)).alloc (.cells #[.int .i64 0, .int .i64 3, .int .i64 5] 39)).alloc (.cells #[.slice (some ⟨w5.heap.size, 0, none⟩) 1 1, .slice (some ⟨w5.heap.size + 1, 0, none⟩) 1 1] 29)) = w6 := ⟨_, rfl⟩
  rw [hw_] at hs_
  try simp only [World.size_alloc] at hs_
  have HS := Lib.hid hs_
  rw [hw_]
  clear hw_ hs_
  have hrr : RowsR w6 (some ⟨w5.heap.size + 1 + 1, 0, none⟩) [[⟨0, 0, 2⟩], [⟨0, 3, 5⟩]] := fun k l hk => by
    rcases k with _ | _ | k
    · simp only [List.getElem?_cons_zero, Option.some.injEq] at hk
      subst hk
      exact ⟨_, 0, _, 1, rfl, HS.out.lt 0 rfl, cell_of_block (HS.out.blockAt 0 rfl) rfl, Elems.ofBlock (HS.out.blockAt 2 rfl) _ _ _ rfl rfl⟩
    · simp only [List.getElem?_cons_succ, List.getElem?_cons_zero, Option.some.injEq] at hk
      subst hk
      exact ⟨_, 0, _, 1, rfl, HS.out.lt 0 rfl, cell_of_block (HS.out.blockAt 0 rfl) rfl, Elems.ofBlock (HS.out.blockAt 1 rfl) _ _ _ rfl rfl⟩
    · simp at hk
  refine (wk_union _ _ _ hrr).mono ?_
  rintro e w7 ⟨-, a7, c7, rfl, he_, hb_⟩
  have HS := Lib.hid ((HS.out.below hb_).addRow he_)
  clear hb_ he_
  clear hrr
  go_wp2_with fail
  refine (wk_clip _ _ _ (HS.out.elems 0 rfl)).mono ?_
  rintro e w8 ⟨-, a8, c8, rfl, he_, hb_⟩
  have HS := Lib.hid ((HS.out.below hb_).addRow he_)
  clear hb_ he_
  go_wp2_with fail
  have hs_ := (HS.out.alloc (.cells #[.int .i64 0, .int .i64 0, .int .i64 1, .int .i64 1, .int .i64 2, .int .i64 1, .int .i64 3, .int .i64 2, .int .i64 4, .int .i64 2] 28))
  obtain ⟨w9, hw_⟩ : ∃ w9 : World, (w8.alloc (.cells #[.int .i64 0, .int .i64 0, .int .i64 1, .int .i64 1, .int .i64 2, .int .i64 1, .int .i64 3, .int .i64 2, .int .i64 4, .int .i64 2] 28)) = w9 := ⟨_, rfl⟩
  rw [hw_] at hs_
  try simp only [World.size_alloc] at hs_
  have HS := Lib.hid hs_
  rw [hw_]
  clear hw_ hs_
  refine (eqP_same _ _ wkL 5 rfl _ (HS.out.elems 10 rfl) (Elems.ofBlock (HS.out.blockAt 0 rfl) _ _ _ rfl rfl)).mono ?_
  rintro e w10 ⟨rfl, hb_⟩
  have HS := Lib.hid (HS.out.below hb_)
  clear hb_
  go_wp2_with fail
  have hs_ := (HS.out.alloc (.cells #[.int .i64 (-1), .int .i64 0, .int .i64 0, .int .i64 0, .int .i64 (-1), .int .i64 1, .int .i64 1, .int .i64 0, .int .i64 0] 39))
  obtain ⟨w11, hw_⟩ : ∃ w11 : World, (w10.alloc (.cells #[.int .i64 (-1), .int .i64 0, .int .i64 0, .int .i64 0, .int .i64 (-1), .int .i64 1, .int .i64 1, .int .i64 0, .int .i64 0] 39)) = w11 := ⟨_, rfl⟩
  rw [hw_] at hs_
  try simp only [World.size_alloc] at hs_
  have HS := Lib.hid hs_
  rw [hw_]
  clear hw_ hs_
  refine (eqS_same _ _ wkD 3 rfl _ (HS.out.elems 9 rfl) (Elems.ofBlock (HS.out.blockAt 0 rfl) _ _ _ rfl rfl)).mono ?_
  rintro e w12 ⟨rfl, hb_⟩
  have HS := Lib.hid (HS.out.below hb_)
  clear hb_
  go_wp2_with fail
  refine (wk_count _ _ _ (HS.out.elems 7 rfl)).mono ?_
  rintro e w13 ⟨rfl, hb_⟩
  have HS := Lib.hid (HS.out.below hb_)
  clear hb_
  go_wp2_with fail
  have hs_ := (HS.out.alloc (.cells #[.int .i64 0, .int .i64 0, .int .i64 5] 39))
  obtain ⟨w14, hw_⟩ : ∃ w14 : World, (w13.alloc (.cells #[.int .i64 0, .int .i64 0, .int .i64 5] 39)) = w14 := ⟨_, rfl⟩
  rw [hw_] at hs_
  try simp only [World.size_alloc] at hs_
  have HS := Lib.hid hs_
  rw [hw_]
  clear hw_ hs_
  refine (eqS_same _ _ wkU 1 rfl _ (HS.out.elems 4 rfl) (Elems.ofBlock (HS.out.blockAt 0 rfl) _ _ _ rfl rfl)).mono ?_
  rintro e w15 ⟨rfl, hb_⟩
  have HS := Lib.hid (HS.out.below hb_)
  clear hb_
  go_wp2_with fail
  have hs_ := (HS.out.alloc (.cells #[.int .i64 0, .int .i64 1, .int .i64 4] 39))
  obtain ⟨w16, hw_⟩ : ∃ w16 : World, (w15.alloc (.cells #[.int .i64 0, .int .i64 1, .int .i64 4] 39)) = w16 := ⟨_, rfl⟩
  rw [hw_] at hs_
  try simp only [World.size_alloc] at hs_
  have HS := Lib.hid hs_
  rw [hw_]
  clear hw_ hs_
  refine (eqS_same _ _ wkC 1 rfl _ (HS.out.elems 4 rfl) (Elems.ofBlock (HS.out.blockAt 0 rfl) _ _ _ rfl rfl)).mono ?_
  rintro e w17 ⟨rfl, hb_⟩
  have HS := Lib.hid (HS.out.below hb_)
  clear hb_
  go_wp2_with fail
  go_ret
  exact ⟨rfl, HS.out.low⟩
end Go.Proofs.Ytflbcabjefpojaa
