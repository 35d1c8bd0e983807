/- Package vector: Many; the library's Equal on rows of stretches. -/
import Derived.Test.YtppaheekpmgifaaVecL
namespace Go.Proofs.Ytppaheekpmgifaa
set_option linter.unusedSimpArgs false
set_option linter.unusedVariables false
open Go.RowKit Go.Shelf

/-- The cells of a row of rows of equal length. -/
theorem flat3_get {α : Type} (f : α → List Value) (hf : ∀ x, (f x).length = 3) : ∀ (l : List α) (k r : Nat), r < 3 → (l.flatMap f)[k * 3 + r]? = (l[k]?).bind fun x => (f x)[r]?
  | [], k, r, _ => by simp
  | x :: l, 0, r, hr => by
    rw [List.flatMap_cons, Nat.zero_mul, Nat.zero_add, List.getElem?_append_left (by rw [hf]; exact hr)]
    simp
  | x :: l, k + 1, r, hr => by
    rw [List.flatMap_cons, List.getElem?_append_right (by rw [hf]; omega), hf, show (k + 1) * 3 + r - 3 = k * 3 + r from by omega, flat3_get f hf l k r hr]
    simp

/-- A row of stretches. -/
def strCells (l : List StrT) (j : Nat) : Value := ((l.flatMap StrT.cells)[j]?).getD undef
theorem strLen (s : StrT) : s.cells.length = 3 := rfl
theorem flat_len (l : List StrT) : (l.flatMap StrT.cells).length = l.length * 3 := by
  induction l with
  | nil => rfl
  | cons x l ih => rw [List.flatMap_cons, List.length_append, ih, strLen]; simp; omega
theorem ownsRow_strs {w : World} {base : Nat} {e : TypeId} {v : Value} {l : List StrT} (h : w.ownsRow base e 3 v l.length (l.flatMap StrT.cells)) : Elems w v l.length 3 (strCells l) :=
  ownsRow_elems h fun j hj => by
    unfold strCells
    rw [List.getElem?_eq_getElem (by rw [flat_len]; exact hj)]
    rfl
theorem strElem {w : World} {b off : Nat} {l : List StrT} (hc : ∀ j, j < l.length * 3 → w.cell? ⟨b, off + j, none⟩ = some (strCells l j)) {k : Nat} {s : StrT} (hk : l[k]? = some s) :
    w.cell? ⟨b, off + k * 3, none⟩ = some (.int .i64 s.site) ∧ w.cell? ⟨b, off + k * 3 + 1, none⟩ = some (.int .u64 s.fr) ∧ w.cell? ⟨b, off + k * 3 + 2, none⟩ = some (.int .u64 s.upto) := by
  have hlt : k < l.length := (List.getElem?_eq_some_iff.1 hk).1
  have key : ∀ r, r < 3 → w.cell? ⟨b, off + k * 3 + r, none⟩ = some ((s.cells[r]?).getD undef) := by
    intro r hr
    have h := hc (k * 3 + r) (by omega)
    rw [← Nat.add_assoc] at h
    rw [h]
    unfold strCells
    rw [flat3_get StrT.cells strLen l k r hr, hk]
    rfl
  exact ⟨key 0 (by omega), key 1 (by omega), key 2 (by omega)⟩

/-- How many ids stretches have, up to the last number. -/
def manyTo (l : List StrT) : Nat → Int
  | 0 => 0
  | k + 1 => min (manyTo l k + ((l[k]?.map fun s => s.upto - s.fr + 1).getD 0)) MaxT
def manyOf (l : List StrT) : Int := manyTo l l.length

/-- Stretches whose numbers are in order. -/
def StrOk (l : List StrT) : Prop := ∀ s ∈ l, 1 ≤ s.fr ∧ s.fr ≤ s.upto ∧ s.upto ≤ MaxT
theorem manyTo_bd {l : List StrT} (h : StrOk l) : ∀ k, 0 ≤ manyTo l k ∧ manyTo l k ≤ MaxT
  | 0 => by unfold manyTo MaxT; omega
  | k + 1 => by
    have ih := manyTo_bd h k
    unfold manyTo
    cases hk : l[k]? with
    | none => simp only [Option.map_none, Option.getD_none]; unfold MaxT at *; omega
    | some s =>
      have := h s (List.mem_of_getElem? hk)
      simp only [Option.map_some, Option.getD_some]
      unfold MaxT at *
      omega

theorem lacks_ok (a b : Nat → Int) (h0 : ∀ k, 0 ≤ a k) : StrOk (lacks a b) := by
  unfold lacks
  split
  · rename_i hok
    intro s hs
    unfold lackOf at hs
    simp only [List.mem_map, List.mem_filter] at hs
    obtain ⟨x, ⟨_, hx⟩, rfl⟩ := hs
    have hb := hok.2
    unfold vecOk at hb
    simp only [Bool.and_eq_true] at hb
    have h2 := (sitesOk_iff b).1 hb.2 (x.1 + 1) (by omega) (by omega)
    have h3 := h0 (x.1 + 1)
    simp at hx
    dsimp only
    omega
  · intro s hs; cases hs

theorem lacks_any (a b : Nat → Int) (ha0 : ∀ k, 0 ≤ a k) (w : World) : Calls Try.prog 11 #[vecV a, vecV b] w (GivesRow 36 3 (lacks a b).length ((lacks a b).flatMap StrT.cells) w) := by
  by_cases h : vecOk a = true ∧ vecOk b = true
  · exact lacks_good a b ha0 w h
  · exact lacks_bad a b w h

set_option maxRecDepth 100000 in
set_option maxHeartbeats 2000000 in
theorem many_any (a b : Nat → Int) (ha0 : ∀ k, 0 ≤ a k) (w : World) : Calls Try.prog 13 #[vecV a, vecV b] w (Gives (.int .u64 (manyOf (lacks a b))) w) := by
  have Hok := Lib.hid (lacks_ok a b ha0)
  have Hl := Lib.hid (fun w => lacks_any a b ha0 w)
  have Hlen := Lib.hid (show (lacks a b).length ≤ 8 by
    unfold lacks
    split
    · unfold lackOf
      rw [List.length_map]
      exact Nat.le_trans (List.length_filter_le _ _) (by simp)
    · simp)
  clear ha0
  go_enter Try.func13, Try.ntmps13
  simp only [vecV, lit9]
  go_wp2_with fail
  refine (Hl.out _).mono ?_
  rintro e w1 ⟨sv, rfl, hrow, hb⟩
  have hB := ((((Below.refl w.heap.size w).alloc (Nat.le_refl _) (.cells (lit9 a) 24)).alloc (by simp) (.cells (lit9 b) 24)).trans (hb.mono (by simp; omega)))
  have HB := Lib.hid hB
  obtain ⟨sa, cap, rfl, hs⟩ := (ownsRow_strs hrow).shape
  have Hs := Lib.hid hs
  clear hb hB hrow hs Hl
  unfold manyOf
  generalize lacks a b = l at *
  go_wp2_with fail
  go_loopw [5, 12] (fun s i wr => ∃ k : Nat, k ≤ l.length ∧ i = .int .i64 k ∧ s = .int .u64 (manyTo l k) ∧ Below w1.heap.size w1 wr) (fun _ i _ => l.length - (intOf i).toNat)
  case atStart => exact ⟨0, Nat.zero_le _, rfl, rfl, Below.refl _ _⟩
  case round =>
    obtain ⟨k, hk, rfl, rfl, hbl⟩ := hrel
    have Hbl := Lib.hid hbl
    clear hbl
    have hlen := Hlen.out
    by_cases hkn : k < l.length
    · obtain ⟨b', off, rfl, hlt, hc⟩ := Hs.out.resolve_left (by omega)
      have hk' : l[k]? = some l[k] := List.getElem?_eq_getElem hkn
      obtain ⟨f0, f1, f2⟩ := strElem (fun j hj => (Hbl.out.cell (p := ⟨b', off + j, none⟩) hlt).trans (hc j hj)) hk'
      have hso := Hok.out _ (List.getElem_mem hkn)
      have hmb := manyTo_bd Hok.out k
      have hms : manyTo l (k + 1) = min (manyTo l k + (l[k].upto - l[k].fr + 1)) MaxT := by
        simp only [manyTo, hk', Option.map_some, Option.getD_some]
      unfold MaxT at hms hmb hso
      generalize l[k] = s at *
      obtain ⟨s1, s2, s3⟩ := s
      dsimp only at f0 f1 f2 hso hms
      obtain ⟨q1, q2, q3⟩ := hso
      obtain ⟨m1, m2⟩ := hmb
      have Hms := Lib.hid hms
      clear hc hk' hms
      generalize manyTo l k = m at *
      go_wp2_with fail
      go_roundw
      case rel =>
        refine ⟨k + 1, hkn, by go_num, ?_, Hbl.out.alloc Hbl.out.size _⟩
        rw [Hms.out]
        congr 1
        split <;> omega
      case measure => simp [intOf]; omega
    · obtain rfl : k = l.length := by omega
      go_wp2_with fail
      go_ret
      exact ⟨rfl, HB.out.trans (Hbl.out.mono HB.out.size)⟩
end Go.Proofs.Ytppaheekpmgifaa
