/- VectorIds: rows of ids for With; Of. -/
import Derived.Test.YtppaheekpmgifaaRefF
import Derived.Test.YtppaheekpmgifaaIdF
import Derived.Test.YtppaheekpmgifaaMeetsA
namespace Go.Proofs.Ytppaheekpmgifaa
set_option linter.unusedSimpArgs false
set_option linter.unusedVariables false
open Go.RowKit Go.Shelf

def idAt (l : List IdT) (k : Nat) : IdT := (l[k]?).getD ⟨0, 0, 0⟩
theorem rowC_id (l : List IdT) (j : Nat) (h : j < l.length * 3) : rowC encId l j = idCells (idAt l) j := by
  have hk : j / 3 < l.length := by omega
  have h1 := flat_get encId_len l (j / 3) (j % 3) (by omega)
  rw [show j / 3 * 3 + j % 3 = j from by omega, List.getElem?_eq_getElem hk] at h1
  unfold rowC idCells idAt
  rw [h1, List.getElem?_eq_getElem hk]
  show (((encId l[j / 3])[j % 3]?).getD undef) = _
  have : j % 3 < 3 := by omega
  match j % 3, this with
  | 0, _ => rfl
  | 1, _ => rfl
  | 2, _ => rfl
theorem Elems.ids {w : World} {sv : Value} {l : List IdT} {n : Nat} (hn : l.length = n) (h : Elems w sv n 3 (rowC encId l)) : Elems w sv n 3 (idCells (idAt l)) := by
  subst hn
  rcases h with h | ⟨b, off, cap, e, hlt, hc⟩
  · exact .inl h
  · exact .inr ⟨b, off, cap, e, hlt, fun j hj => by rw [hc j hj, rowC_id l j hj]⟩
theorem elems_one {w : World} {q c : Nat} {i : IdT} {T : TypeId} (h : w.heap[q]? = some (.cells #[.int .u64 i.time, .int .i64 i.site, .int .u64 i.seq] T (0, 0))) : Elems w (.slice (some ⟨q, 0, none⟩) 1 c) 1 3 (idCells fun _ => i) := by
  refine .inr ⟨q, 0, c, rfl, block_lt h, fun j hj => cell_of_block h ?_⟩
  match j, hj with
  | 0, _ => rfl
  | 1, _ => rfl
  | 2, _ => rfl

/-- The vector, and the error, that are handed back. -/
def resVec (r : Except Int (Nat → Int)) : Nat → Int := match r with | .error _ => fun _ => 0 | .ok u => u
def resErr (r : Except Int (Nat → Int)) : Int := match r with | .error e => e | .ok _ => 0
theorem resV_is (r : Except Int (Nat → Int)) : resV r = .tuple #[vecV (resVec r), .int .i64 (resErr r)] := by cases r <;> rfl

set_option maxRecDepth 100000 in
set_option maxHeartbeats 1000000 in
theorem of_any (sv : Value) (l : List IdT) (w : World) (h : Elems w sv l.length 3 (rowC encId l)) (hl : l.length ≤ 1000000) :
    Calls Try.prog 30 #[sv] w (Gives (resV (withB (fun _ => 0) (idAt (sortIds l)) l.length)) w) := by
  obtain ⟨a, cap, rfl, _⟩ := h.shape
  obtain ⟨n, hn⟩ : ∃ n, l.length = n := ⟨_, rfl⟩
  have hsl := sortIds_length l
  have HS := Lib.hid ((((St.start w).addRow h).alloc (.cells (lit9 fun _ => 0) 24)))
  have Hn := Lib.hid hn
  rw [hn] at hsl
  rw [resV_is, hn]
  obtain ⟨r, hr⟩ : ∃ r, withB (fun _ => 0) (idAt (sortIds l)) n = r := ⟨_, rfl⟩
  rw [hr]
  have Hsl := Lib.hid hsl
  have Hr := Lib.hid hr
  rw [hn] at hl
  clear h hsl hr hn
  go_enter Try.func30, Try.ntmps30
  go_wp2_with fail
  refine (sorted_any _ l _ (by have := HS.out.elems 1 rfl; rw [Hn.out] at this ⊢; exact this) (by rw [Hn.out]; exact hl)).mono ?_
  rintro e w1 ⟨v, rfl, hrow, hb⟩
  rw [Hn.out] at hrow
  have hel := ownsRow_rows encId_len (show w1.ownsRow _ 38 3 v (sortIds l).length ((sortIds l).flatMap encId) by rw [Hsl.out]; exact hrow)
  rw [Hsl.out] at hel
  have HS := Lib.hid ((HS.out.below hb).addRow hel)
  clear hrow hb hel
  obtain ⟨sa, sc, rfl⟩ : ∃ sa sc, v = .slice sa n sc := by
    obtain ⟨sa, sc, e, _⟩ := (HS.out.elems 0 rfl).shape
    exact ⟨sa, sc, e⟩
  go_wp2_with fail
  refine (with_any (fun _ => 0) (fun _ => Int.le_refl _) _ n (idAt (sortIds l)) _ hl (Elems.ids Hsl.out (HS.out.elems 0 rfl))).mono ?_
  rintro e w2 ⟨rfl, hb⟩
  have HS := Lib.hid (HS.out.below hb)
  clear hb
  rw [Hr.out, resV_is]
  have hbr := HS.out.blockAt 1 rfl
  obtain ⟨d0, d1, d2, d3, d4, d5, d6, d7, d8⟩ := vec9 hbr
  have fr := free_of_block hbr
  clear hbr
  simp only [vecV, lit9]
  go_wp2_with fail
  refine bodyPost_ret (v := .tuple #[vecV (resVec r), .int .i64 (resErr r)]) (by simp [vecV, lit9, results, Try.results30, go_sem, d0, d1, d2, d3, d4, d5, d6, d7, d8]) rfl ⟨rfl, ?_⟩
  exact below_set9 _ HS.out.low (Nat.le_refl _)
end Go.Proofs.Ytppaheekpmgifaa
