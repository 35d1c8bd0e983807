/- Layer 6: slices.ContainsFunc at this program's predicates; shape.Has. -/
import Derived.Test.YtflbcabjefpojaaShF
namespace Go.Proofs.Ytflbcabjefpojaa
set_option linter.unusedSimpArgs false
set_option linter.unusedVariables false
open Go.RowKit Go.Shelf

/-- What IndexFunc gives. -/
def idxI {α : Type} (q : α → Bool) (l : List α) : Int := bif l.any q then (l.findIdx q : Int) else -1
theorem idxI_hit {α : Type} {q : α → Bool} {l : List α} {k : Nat} {x : α} (hx : l[k]? = some x) (h : q x = true) (hall : ∀ (j : Nat) (y : α), l[j]? = some y → j < k → q y = false) : idxI q l = (k : Int) := by
  unfold idxI
  rw [any_true hx h]
  have hk := (List.getElem?_eq_some_iff.1 hx).1
  have e : l.findIdx q = k := by
    rw [List.findIdx_eq hk]
    refine ⟨by rw [(List.getElem?_eq_some_iff.1 hx).2]; exact h, fun j hj => ?_⟩
    have := hall j (l[j]'(by omega)) (List.getElem?_eq_getElem (by omega)) hj
    simpa using this
  rw [e]
  rfl
theorem idxI_none {α : Type} {q : α → Bool} {l : List α} (hall : ∀ (j : Nat) (y : α), l[j]? = some y → q y = false) : idxI q l = -1 := by
  unfold idxI
  rw [any_false hall]
  rfl
theorem idxI_ge {α : Type} (q : α → Bool) (l : List α) : decide (0 ≤ idxI q l) = l.any q := by
  unfold idxI
  cases l.any q <;> simp

set_option maxRecDepth 100000 in
set_option maxHeartbeats 4000000 in
theorem indexFuncHas (q : SpT → Bool) (cb : Array Value) (a : Option Addr) (n cap : Nat) (l : List SpT) (hl : l.length = n) (hn : n ≤ 1000000000) (w : World) (h : Elems w (.slice a n cap) n 3 (rowC encS l))
    (hq : ∀ (x : SpT) (y : World), Below w.heap.size w y → Calls Try.prog 55 (#[x.val] ++ cb) y (Gives (.bool (q x)) y)) :
    Calls Try.prog 63 #[.slice a n cap, .func (.func 55) #[] cb] w (Gives (.int .i64 (idxI q l)) w) := by
  have HS := Lib.hid ((St.start w).addRow h)
  have HL := Lib.hid hl
  have HQ := Lib.hid hq
  clear h hl hq
  go_enter Try.func63, Try.ntmps63
  go_wp2_with fail
  go_loopw [8] (fun i wr => ∃ k : Nat, k ≤ n ∧ i = .int .i64 (k : Int) ∧ St w [.row (.slice a n cap) n 3 (rowC encS l) w.heap.size] wr ∧ ∀ (j : Nat) (x : SpT), l[j]? = some x → j < k → q x = false) (fun i _ => n - (intOf i).toNat)
  case atStart => exact ⟨0, by omega, rfl, HS.out, fun j x _ h => by omega⟩
  case round =>
    obtain ⟨k, hk, rfl, hs, hall⟩ := hrel
    clear HS
    have HS := Lib.hid hs
    have HA := Lib.hid hall
    clear hs hall
    by_cases hlt : k < n
    · have wk : wrap64 ((k : Int) + 1) = ((k + 1 : Nat) : Int) := by unfold wrap64; omega
      obtain ⟨x, hx⟩ : ∃ x, l[k]? = some x := ⟨_, List.getElem?_eq_getElem (by rw [HL.out]; exact hlt)⟩
      obtain ⟨bb, off, rfl, hbb, c0, c1, c2⟩ := spCells HL.out (HS.out.elems 0 rfl) k x hx
      have HX := Lib.hid hx
      have HC := Lib.hid (HQ.out x)
      obtain ⟨x1, x2, x3⟩ := x
      simp only [SpT.val] at c0 c1 c2 HC
      clear hx hbb
      go_wp2_with fail
      refine (HC.out _ HS.out.low).mono ?_
      rintro e w3 ⟨rfl, hb_⟩
      have HS := Lib.hid (HS.out.below hb_)
      clear hb_ c0 c1 c2
      cases hg : q ⟨x1, x2, x3⟩
      · have HB := Lib.hid hg
        clear hg
        go_wp2_with fail
        go_roundw
        case rel => exact ⟨k + 1, hlt, by simp, HS.out, fun j x hj hjk => by rcases Nat.lt_or_eq_of_le (Nat.lt_succ_iff.1 hjk) with h | rfl; exact HA.out j x hj h; rw [HX.out] at hj; cases hj; exact HB.out⟩
        case measure => simp [intOf]; omega
      · have HB := Lib.hid (idxI_hit HX.out hg HA.out)
        clear hg
        go_wp2_with fail
        go_ret
        exact ⟨by rw [HB.out]; rfl, HS.out.low⟩
    · obtain rfl : k = n := by omega
      have HB := Lib.hid (show idxI q l = -1 from idxI_none fun j x hj => HA.out j x hj (by rw [← HL.out]; exact (List.getElem?_eq_some_iff.1 hj).1))
      clear hk hlt
      go_wp2_with fail
      go_ret
      exact ⟨by rw [HB.out]; rfl, HS.out.low⟩
theorem containsFuncHas (q : SpT → Bool) (cb : Array Value) (a : Option Addr) (n cap : Nat) (l : List SpT) (hl : l.length = n) (hn : n ≤ 1000000000) (w : World) (h : Elems w (.slice a n cap) n 3 (rowC encS l))
    (hq : ∀ (x : SpT) (y : World), Below w.heap.size w y → Calls Try.prog 55 (#[x.val] ++ cb) y (Gives (.bool (q x)) y)) :
    Calls Try.prog 56 #[.slice a n cap, .func (.func 55) #[] cb] w (Gives (.bool (l.any q)) w) := by
  have HI := Lib.hid (indexFuncHas q cb a n cap l hl hn w h hq)
  clear h hq
  rw [← idxI_ge]
  generalize idxI q l = r at HI ⊢
  go_enter Try.func56, Try.ntmps56
  go_wp2_with fail
  refine HI.out.mono ?_
  rintro e w3 ⟨rfl, hb_⟩
  go_wp2_with fail
  go_ret
  exact ⟨rfl, hb_⟩

set_option maxRecDepth 100000 in
set_option maxHeartbeats 4000000 in
theorem indexFuncSwp (q : PtT → Bool) (cb : Array Value) (a : Option Addr) (n cap : Nat) (l : List PtT) (hl : l.length = n) (hn : n ≤ 1000000000) (w : World) (h : Elems w (.slice a n cap) n 2 (rowC encP l))
    (hq : ∀ (x : PtT) (y : World), Below w.heap.size w y → Calls Try.prog 37 (#[x.val] ++ cb) y (Gives (.bool (q x)) y)) :
    Calls Try.prog 43 #[.slice a n cap, .func (.func 37) #[] cb] w (Gives (.int .i64 (idxI q l)) w) := by
  have HS := Lib.hid ((St.start w).addRow h)
  have HL := Lib.hid hl
  have HQ := Lib.hid hq
  clear h hl hq
  go_enter Try.func43, Try.ntmps43
  go_wp2_with fail
  go_loopw [8] (fun i wr => ∃ k : Nat, k ≤ n ∧ i = .int .i64 (k : Int) ∧ St w [.row (.slice a n cap) n 2 (rowC encP l) w.heap.size] wr ∧ ∀ (j : Nat) (x : PtT), l[j]? = some x → j < k → q x = false) (fun i _ => n - (intOf i).toNat)
  case atStart => exact ⟨0, by omega, rfl, HS.out, fun j x _ h => by omega⟩
  case round =>
    obtain ⟨k, hk, rfl, hs, hall⟩ := hrel
    clear HS
    have HS := Lib.hid hs
    have HA := Lib.hid hall
    clear hs hall
    by_cases hlt : k < n
    · have wk : wrap64 ((k : Int) + 1) = ((k + 1 : Nat) : Int) := by unfold wrap64; omega
      obtain ⟨x, hx⟩ : ∃ x, l[k]? = some x := ⟨_, List.getElem?_eq_getElem (by rw [HL.out]; exact hlt)⟩
      obtain ⟨bb, off, rfl, hbb, c0, c1⟩ := ptCells HL.out (HS.out.elems 0 rfl) k x hx
      have HX := Lib.hid hx
      have HC := Lib.hid (HQ.out x)
      obtain ⟨x1, x2⟩ := x
      simp only [PtT.val] at c0 c1 HC
      clear hx hbb
      go_wp2_with fail
      refine (HC.out _ HS.out.low).mono ?_
      rintro e w3 ⟨rfl, hb_⟩
      have HS := Lib.hid (HS.out.below hb_)
      clear hb_ c0 c1
      cases hg : q ⟨x1, x2⟩
      · have HB := Lib.hid hg
        clear hg
        go_wp2_with fail
        go_roundw
        case rel => exact ⟨k + 1, hlt, by simp, HS.out, fun j x hj hjk => by rcases Nat.lt_or_eq_of_le (Nat.lt_succ_iff.1 hjk) with h | rfl; exact HA.out j x hj h; rw [HX.out] at hj; cases hj; exact HB.out⟩
        case measure => simp [intOf]; omega
      · have HB := Lib.hid (idxI_hit HX.out hg HA.out)
        clear hg
        go_wp2_with fail
        go_ret
        exact ⟨by rw [HB.out]; rfl, HS.out.low⟩
    · obtain rfl : k = n := by omega
      have HB := Lib.hid (show idxI q l = -1 from idxI_none fun j x hj => HA.out j x hj (by rw [← HL.out]; exact (List.getElem?_eq_some_iff.1 hj).1))
      clear hk hlt
      go_wp2_with fail
      go_ret
      exact ⟨by rw [HB.out]; rfl, HS.out.low⟩
theorem containsFuncSwp (q : PtT → Bool) (cb : Array Value) (a : Option Addr) (n cap : Nat) (l : List PtT) (hl : l.length = n) (hn : n ≤ 1000000000) (w : World) (h : Elems w (.slice a n cap) n 2 (rowC encP l))
    (hq : ∀ (x : PtT) (y : World), Below w.heap.size w y → Calls Try.prog 37 (#[x.val] ++ cb) y (Gives (.bool (q x)) y)) :
    Calls Try.prog 13 #[.slice a n cap, .func (.func 37) #[] cb] w (Gives (.bool (l.any q)) w) := by
  have HI := Lib.hid (indexFuncSwp q cb a n cap l hl hn w h hq)
  clear h hq
  rw [← idxI_ge]
  generalize idxI q l = r at HI ⊢
  go_enter Try.func13, Try.ntmps13
  go_wp2_with fail
  refine HI.out.mono ?_
  rintro e w3 ⟨rfl, hb_⟩
  go_wp2_with fail
  go_ret
  exact ⟨rfl, hb_⟩

set_option maxRecDepth 100000 in
set_option maxHeartbeats 4000000 in
theorem indexFuncLaw (q : PtT → Bool) (cb : Array Value) (a : Option Addr) (n cap : Nat) (l : List PtT) (hl : l.length = n) (hn : n ≤ 1000000000) (w : World) (h : Elems w (.slice a n cap) n 2 (rowC encP l))
    (hq : ∀ (x : PtT) (y : World), Below w.heap.size w y → Calls Try.prog 14 (#[x.val] ++ cb) y (Gives (.bool (q x)) y)) :
    Calls Try.prog 43 #[.slice a n cap, .func (.func 14) #[] cb] w (Gives (.int .i64 (idxI q l)) w) := by
  have HS := Lib.hid ((St.start w).addRow h)
  have HL := Lib.hid hl
  have HQ := Lib.hid hq
  clear h hl hq
  go_enter Try.func43, Try.ntmps43
  go_wp2_with fail
  go_loopw [8] (fun i wr => ∃ k : Nat, k ≤ n ∧ i = .int .i64 (k : Int) ∧ St w [.row (.slice a n cap) n 2 (rowC encP l) w.heap.size] wr ∧ ∀ (j : Nat) (x : PtT), l[j]? = some x → j < k → q x = false) (fun i _ => n - (intOf i).toNat)
  case atStart => exact ⟨0, by omega, rfl, HS.out, fun j x _ h => by omega⟩
  case round =>
    obtain ⟨k, hk, rfl, hs, hall⟩ := hrel
    clear HS
    have HS := Lib.hid hs
    have HA := Lib.hid hall
    clear hs hall
    by_cases hlt : k < n
    · have wk : wrap64 ((k : Int) + 1) = ((k + 1 : Nat) : Int) := by unfold wrap64; omega
      obtain ⟨x, hx⟩ : ∃ x, l[k]? = some x := ⟨_, List.getElem?_eq_getElem (by rw [HL.out]; exact hlt)⟩
      obtain ⟨bb, off, rfl, hbb, c0, c1⟩ := ptCells HL.out (HS.out.elems 0 rfl) k x hx
      have HX := Lib.hid hx
      have HC := Lib.hid (HQ.out x)
      obtain ⟨x1, x2⟩ := x
      simp only [PtT.val] at c0 c1 HC
      clear hx hbb
      go_wp2_with fail
      refine (HC.out _ HS.out.low).mono ?_
      rintro e w3 ⟨rfl, hb_⟩
      have HS := Lib.hid (HS.out.below hb_)
      clear hb_ c0 c1
      cases hg : q ⟨x1, x2⟩
      · have HB := Lib.hid hg
        clear hg
        go_wp2_with fail
        go_roundw
        case rel => exact ⟨k + 1, hlt, by simp, HS.out, fun j x hj hjk => by rcases Nat.lt_or_eq_of_le (Nat.lt_succ_iff.1 hjk) with h | rfl; exact HA.out j x hj h; rw [HX.out] at hj; cases hj; exact HB.out⟩
        case measure => simp [intOf]; omega
      · have HB := Lib.hid (idxI_hit HX.out hg HA.out)
        clear hg
        go_wp2_with fail
        go_ret
        exact ⟨by rw [HB.out]; rfl, HS.out.low⟩
    · obtain rfl : k = n := by omega
      have HB := Lib.hid (show idxI q l = -1 from idxI_none fun j x hj => HA.out j x hj (by rw [← HL.out]; exact (List.getElem?_eq_some_iff.1 hj).1))
      clear hk hlt
      go_wp2_with fail
      go_ret
      exact ⟨by rw [HB.out]; rfl, HS.out.low⟩
theorem containsFuncLaw (q : PtT → Bool) (cb : Array Value) (a : Option Addr) (n cap : Nat) (l : List PtT) (hl : l.length = n) (hn : n ≤ 1000000000) (w : World) (h : Elems w (.slice a n cap) n 2 (rowC encP l))
    (hq : ∀ (x : PtT) (y : World), Below w.heap.size w y → Calls Try.prog 14 (#[x.val] ++ cb) y (Gives (.bool (q x)) y)) :
    Calls Try.prog 13 #[.slice a n cap, .func (.func 14) #[] cb] w (Gives (.bool (l.any q)) w) := by
  have HI := Lib.hid (indexFuncLaw q cb a n cap l hl hn w h hq)
  clear h hq
  rw [← idxI_ge]
  generalize idxI q l = r at HI ⊢
  go_enter Try.func13, Try.ntmps13
  go_wp2_with fail
  refine HI.out.mono ?_
  rintro e w3 ⟨rfl, hb_⟩
  go_wp2_with fail
  go_ret
  exact ⟨rfl, hb_⟩

set_option maxRecDepth 100000 in
set_option maxHeartbeats 4000000 in
theorem shHas_any (a : Option Addr) (n cap : Nat) (l : List SpT) (hl : l.length = n) (hn : n ≤ 1000000000) (p : PtT) (w : World) (h : Elems w (.slice a n cap) n 3 (rowC encS l)) :
    Calls Try.prog 33 #[.slice a n cap, p.val] w (Gives (.bool (rightB l && hasB l p)) w) := by
  have HS := Lib.hid ((St.start w).addRow h)
  have HL := Lib.hid hl
  obtain ⟨px, py⟩ := p
  clear h hl
  unfold PtT.val
  go_enter Try.func33, Try.ntmps33
  repeat ((fail_if_success (with_reducible refine stop_at (id := 1) ?_)); (first | go_values | go_skip | go_guarded | go_step | go_upon | go_back | (simp only [Int.not_lt, Int.not_le] at *; go_simp) | (go_values <;> (try go_simp)) | (go_ite <;> go_prune <;> (try go_simp)) | (split <;> (first | (rename_i hx; exact (hx _ rfl).elim) | go_prune))))
  have hs_ := (HS.out.alloc (.cells #[.int .i64 px, .int .i64 py] 28))
  obtain ⟨w1, hw_⟩ : ∃ w1 : World, (w.alloc (.cells #[.int .i64 px, .int .i64 py] 28)) = w1 := ⟨_, rfl⟩
  rw [hw_] at hs_
  try simp only [World.size_alloc] at hs_
  have HS := Lib.hid hs_
  rw [hw_]
  clear hw_ hs_
  go_wp2_with fail
  refine (check_any a n cap l HL.out (by omega) _ (HS.out.elems 1 rfl)).mono ?_
  rintro e w2 ⟨rfl, hb_⟩
  have HS := Lib.hid (HS.out.below hb_)
  clear hb_
  cases hr : rightB l
  · have HR := Lib.hid hr
    clear hr
    simp only [errOf, Bool.false_eq_true, if_false]
    go_wp2_with fail
    go_ret
    exact ⟨by rw [HR.out]; rfl, HS.out.low⟩
  · have HR := Lib.hid hr
    clear hr
    simp only [errOf, if_true]
    go_wp2_with fail
    refine (containsFuncHas (inB ⟨px, py⟩) #[.pointer (some ⟨w.heap.size, 0, none⟩)] a n cap l HL.out (by omega) _ (HS.out.elems 1 rfl) (fun x y hb => has1_any x ⟨px, py⟩ w.heap.size y ((HS.out.below hb).blockAt 0 rfl))).mono ?_
    rintro e w3 ⟨rfl, hb_⟩
    have HS := Lib.hid (HS.out.below hb_)
    clear hb_
    go_wp2_with fail
    go_ret
    exact ⟨by rw [HR.out]; rfl, HS.out.low⟩
end Go.Proofs.Ytflbcabjefpojaa
