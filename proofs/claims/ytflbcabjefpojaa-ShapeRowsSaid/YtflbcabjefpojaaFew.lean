/- Layer 6: few. -/
import Derived.Test.YtflbcabjefpojaaWk
namespace Go.Proofs.Ytflbcabjefpojaa
set_option linter.unusedSimpArgs false
set_option linter.unusedVariables false
open Go.RowKit Go.Shelf

/-- A row to be read. -/
def GotR {α : Type} (k : Nat) (enc : α → List Value) (L : List α) (n : Nat) (w : World) (e : Ending) (w' : World) : Prop :=
  L.length = n ∧ ∃ a cap, e = .returned (.slice a n cap) ∧ n ≤ cap ∧ Elems w' (.slice a n cap) n k (rowC enc L) ∧ Below w.heap.size w w'
theorem Cloned.got {α : Type} {E : TypeId} {k : Nat} {enc : α → List Value} (hk : ∀ q, (enc q).length = k) {L : List α} {sv : Value} {w : World} {e : Ending} {w' : World} (h : Cloned E k L.length (L.flatMap enc) sv w e w') : GotR k enc L L.length w e w' := by
  obtain ⟨v, rfl, hr, -, hb⟩ := h
  have he := ownsRow_rows hk hr
  have hc : ∃ a cap, v = .slice a L.length cap ∧ L.length ≤ cap := by
    rcases hr.2 with ⟨rfl, h0⟩ | ⟨g, cap, cur, rfl, _, _, h1, _⟩
    · exact ⟨none, 0, by rw [h0], by omega⟩
    · exact ⟨_, cap, rfl, h1⟩
  obtain ⟨a, cap, rfl, h1⟩ := hc
  exact ⟨rfl, a, cap, rfl, h1, he, hb⟩

set_option maxRecDepth 100000 in
set_option maxHeartbeats 1000000 in
theorem few_any (a : Option Addr) (n cap : Nat) (l : List SpT) (hl : l.length = n) (hc : n ≤ cap) (hc2 : cap ≤ 9223372036854775807) (w : World) (h : Elems w (.slice a n cap) n 3 (rowC encS l)) :
    Calls Try.prog 19 #[.slice a n cap] w (GotR 3 encS (l.take 40) (min n 40) w) := by
  obtain ⟨m, hm⟩ : ∃ m, min n 40 = m := ⟨_, rfl⟩
  have he := Elems.take encS_len hl h (show m ≤ n by omega)
  have hlm : (l.take m).length = m := by rw [List.length_take]; omega
  have htk : l.take 40 = l.take m := by
    by_cases h40 : n ≤ 40
    · rw [List.take_of_length_le (by omega), List.take_of_length_le (by omega)]
    · rw [show m = 40 by omega]
  have HCL := Lib.hid (cloneS_any (.slice a m cap) (l.take m) w (by rw [hlm]; exact he) (by omega))
  have e1 : min (n : Int) 40 = (m : Int) := by omega
  rw [hm, htk]
  have HTK := Lib.hid hlm
  clear hlm htk he h hl
  go_enter Try.func19, Try.ntmps19
  go_wp2_with fail
  refine HCL.out.mono ?_
  rintro e w2 h2
  have h3 := h2.got encS_len
  rw [HTK.out] at h3
  obtain ⟨-, a2, c2, rfl, hc2', he2, hb2⟩ := h3
  have HR := Lib.hid (And.intro hc2' (And.intro he2 hb2))
  clear h2 hc2' he2 hb2 HCL
  go_wp2_with fail
  go_ret
  exact ⟨HTK.out, a2, c2, rfl, HR.out⟩
end Go.Proofs.Ytflbcabjefpojaa
