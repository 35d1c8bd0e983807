/- Bytes of a text; the number of a row of digits: the plain law. -/
import Derived.Test.YtppaheekpmgifaaDoorState
namespace Go.Proofs.YtppaheekpmgifaaDoor
set_option linter.unusedSimpArgs false
set_option linter.unusedVariables false
open Go.RowKit Go.Shelf

def byteAt (s : ByteArray) (j : Nat) : Nat := (s.data[j]?.getD 0).toNat
def digAt (s : ByteArray) (j : Nat) : Prop := 48 ≤ byteAt s j ∧ byteAt s j ≤ 57
def partN (s : ByteArray) : Nat → Nat
  | 0 => 0
  | k + 1 => if k < 19 then 10 * partN s k + (byteAt s k - 48) else partN s k
theorem partN_lt (s : ByteArray) : ∀ k, (∀ j, j < k → digAt s j) → partN s k < 10 ^ 19 ∧ (k ≤ 19 → partN s k < 10 ^ k)
  | 0, _ => by simp [partN]
  | k + 1, h => by
    obtain ⟨i1, i2⟩ := partN_lt s k fun j hj => h j (by omega)
    have hk := h k (by omega)
    unfold digAt at hk
    unfold partN
    by_cases hk19 : k < 19
    · rw [if_pos hk19]
      have := i2 (by omega)
      have h1 : 10 * partN s k + (byteAt s k - 48) < 10 ^ (k + 1) := by rw [Nat.pow_succ]; omega
      have h2 : 10 ^ (k + 1) ≤ 10 ^ 19 := Nat.pow_le_pow_right (by omega) (by omega)
      exact ⟨by omega, fun _ => h1⟩
    · rw [if_neg hk19]
      exact ⟨i1, fun h => absurd h (by omega)⟩
theorem run_index_byte (s : ByteArray) (k : Nat) (hk : k < s.size) (w : World) : (Instr.index 9 (.string s) (.int .i64 (k : Int))).run Tryd.prog w = .ok (.int .u8 (byteAt s k : Int)) w := by
  have hb : byteAt s k = (s[k]'hk).toNat := by
    have : s.data[k]? = some (s[k]'hk) := Array.getElem?_eq_getElem hk
    simp [byteAt, this]
  rw [run_index_string _ _ _ _ _ (by kernel_rfl), dif_pos ⟨by omega, by omega⟩, hb]
  rfl
end Go.Proofs.YtppaheekpmgifaaDoor
