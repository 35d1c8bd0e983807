/- What reading an id's text comes to: the plain law of both readings. -/
import Derived.Test.YtppaheekpmgifaaDoorIdRa
import Derived.Test.YtppaheekpmgifaaDoorIdY
namespace Go.Proofs.YtppaheekpmgifaaDoor
set_option linter.unusedSimpArgs false
set_option linter.unusedVariables false
open Go.RowKit Go.Shelf Go.Lib

/-- This is what a text is read as: an id that may be, of which it is the text; or nothing, and it is no such id's. -/
def IsRead (s : ByteArray) : Option IdT → Prop
  | some i => idOk i = true ∧ s = ⟨(idText i).toArray⟩
  | none => ∀ i, idOk i = true → s ≠ ⟨(idText i).toArray⟩
theorem text_eq_inj {i j : IdT} (hi : idOk i = true) (hj : idOk j = true) (h : (⟨(idText i).toArray⟩ : ByteArray) = ⟨(idText j).toArray⟩) : i = j := by
  refine idText_inj hi hj ?_
  have := congrArg (fun b : ByteArray => b.data.toList) h
  simpa using this
theorem IsRead.unique {s : ByteArray} {o o' : Option IdT} (h : IsRead s o) (h' : IsRead s o') : o = o' := by
  cases o with
  | none =>
    cases o' with
    | none => rfl
    | some j => exact absurd h'.2 (h j h'.1)
  | some i =>
    cases o' with
    | none => exact absurd h.2 (h' i h.1)
    | some j => rw [text_eq_inj h.1 h'.1 (h.2.symm.trans h'.2)]
theorem isRead_text (i : IdT) (h : idOk i = true) : IsRead ⟨(idText i).toArray⟩ (some i) := ⟨h, rfl⟩
def zeroId : IdT := ⟨0, 0, 0⟩
theorem zeroId_bad : idOk zeroId = false := by decide
def readVal (o : Option IdT) : Value := .tuple #[(o.getD zeroId).val, .int .i64 (errOf o.isSome 210)]

theorem nats_drop (s : ByteArray) (k : Nat) (h : k < s.size) : (nats s.data.toList).drop k = byteAt s k :: (nats s.data.toList).drop (k + 1) := by
  have hl : k < (nats s.data.toList).length := by simp [nats]; exact h
  rw [List.drop_eq_getElem_cons hl]
  congr 1
  have hs : k < s.data.size := h
  simp only [nats, byteAt, List.getElem_map, Array.getElem_toList, Array.getElem?_eq_getElem hs, Option.getD_some]
theorem nats_drop_all (s : ByteArray) (k : Nat) (h : ¬ k < s.size) : (nats s.data.toList).drop k = [] := by
  apply List.drop_eq_nil_of_le
  simp [nats]
  have : s.data.size = s.size := rfl
  omega
theorem rd_none {s : ByteArray} (h : rd0.run (nats s.data.toList) = none) : IsRead s none := by
  intro i hi hs
  have := rd_text i hi
  subst hs
  simp [this] at h
theorem rd_some {s : ByteArray} {r : Rd} (h : rd0.run (nats s.data.toList) = some r) (i : IdT) (hi : idOk i = true) (hs : s = ⟨(idText i).toArray⟩) : r = ⟨2, i.time.toNat, i.site.toNat, i.seq.toNat⟩ := by
  have := rd_text i hi
  subst hs
  simp [this] at h
  exact h.symm
/-- The id that the machine holds. -/
def Rd.id (r : Rd) : IdT := ⟨r.n0, r.n1, r.n2⟩
theorem rd_id {s : ByteArray} {r : Rd} (h : rd0.run (nats s.data.toList) = some r) (i : IdT) (hi : idOk i = true) (hs : s = ⟨(idText i).toArray⟩) : i = r.id := by
  rw [rd_some h i hi hs]
  obtain ⟨⟨h1, h2⟩, ⟨h3, h4⟩, h5, h6⟩ := (idOk_iff i).1 hi
  obtain ⟨t, q, u⟩ := i
  simp only at h1 h2 h3 h4 h5 h6
  unfold Rd.id
  simp only [IdT.mk.injEq]
  omega
theorem rd_site {s : ByteArray} {r : Rd} (h : rd0.run (nats s.data.toList) = some r) (h8 : 8 < r.n1) : IsRead s none := by
  intro i hi hs
  have e := rd_id h i hi hs
  obtain ⟨_, ⟨h3, h4⟩, _⟩ := (idOk_iff i).1 hi
  subst e
  simp [Rd.id] at h4
  omega
theorem rd_bad {s : ByteArray} {r : Rd} (h : rd0.run (nats s.data.toList) = some r) (h8 : idOk r.id = false) : IsRead s none := by
  intro i hi hs
  have e := rd_id h i hi hs
  subst e
  simp [h8] at hi
theorem rd_other {s : ByteArray} {r : Rd} (h : rd0.run (nats s.data.toList) = some r) (h8 : (⟨(idText r.id).toArray⟩ : ByteArray) ≠ s) : IsRead s none := by
  intro i hi hs
  have e := rd_id h i hi hs
  subst e
  exact h8 hs.symm
/-- What the iterator of a string gives, at whatever byte. -/
theorem run_next_byte (s : ByteArray) (pos : Nat) (h : pos < s.size) : ∃ (c wd : Nat), 1 ≤ wd ∧ ((wd = 1 ∧ c = byteAt s pos ∧ c < 128) ∨ (128 ≤ c ∧ c ≤ 2147483647 ∧ 128 ≤ byteAt s pos)) ∧
    ∀ (W : World) (ty : TypeId) (B : Nat), W.heap.size = B → (Instr.next (.pointer (some ⟨B, 0, none⟩)) true ty).run Tryd.prog (W.iter s pos) = .ok (.tuple #[.bool true, .int .i64 pos, .int .i32 (c : Int)]) (W.iter s (pos + wd)) := by
  have hb : byteAt s pos = (s[pos]'h).toNat := by
    have : s.data[pos]? = some (s[pos]'h) := Array.getElem?_eq_getElem h
    simp [byteAt, this]
  by_cases ha : (s[pos]'h).toNat < 128
  · refine ⟨byteAt s pos, 1, Nat.le_refl _, .inl ⟨rfl, rfl, by omega⟩, fun W ty B hB => ?_⟩
    subst hB
    rw [hb]
    exact run_next_ascii W s pos ty h ha
  · obtain ⟨d1, d2⟩ := decode_high s pos h (by omega)
    refine ⟨(Utf8.decode s pos).1, (Utf8.decode s pos).2, d2, .inr ⟨d1, decode_le s pos, by omega⟩, fun W ty B hB => ?_⟩
    subst hB
    exact run_next_any W s pos ty h
theorem run_next_stop (s : ByteArray) (pos : Nat) (h : ¬ pos < s.size) (W : World) (ty : TypeId) (B : Nat) (hB : W.heap.size = B) : (Instr.next (.pointer (some ⟨B, 0, none⟩)) true ty).run Tryd.prog (W.iter s pos) = .ok (.tuple #[.bool false]) (W.iter s pos) := by
  subst hB
  exact run_next_end W s pos ty h
/-- A rune is taken as its byte is. -/
theorem step_high (r : Rd) {c : Nat} (h : 128 ≤ c) : r.step c = none := by
  unfold Rd.step
  rw [if_neg (by omega), if_neg (by omega)]
end Go.Proofs.YtppaheekpmgifaaDoor
