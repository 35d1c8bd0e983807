/- A store goes under the iterator of a string. -/
import Derived.Test.YtppaheekpmgifaaDoorByte
import Derived.Laws.RangeAny
namespace Go.Proofs.YtppaheekpmgifaaDoor
set_option linter.unusedSimpArgs false
set_option linter.unusedVariables false
open Go.RowKit Go.Shelf

theorem setCell_iter (w : World) (s : ByteArray) (pos : Nat) (p : Addr) (v : Value) (hp : p.block < w.heap.size) : (w.iter s pos).setCell p v = (w.setCell p v).iter s pos := by
  unfold World.iter World.alloc World.setCell
  congr 1
  apply Array.ext_getElem?
  intro k
  simp only [Array.getElem?_modify, Array.getElem?_push, Array.size_modify]
  by_cases h1 : p.block = k
  · subst h1
    have hn : ¬ p.block = w.heap.size := by omega
    simp [hn]
  · by_cases h2 : k = w.heap.size <;> simp [h1, h2]
theorem size_setCell (w : World) (p : Addr) (v : Value) : (w.setCell p v).heap.size = w.heap.size := by simp [World.setCell]
theorem cell_iter (w : World) (s : ByteArray) (pos : Nat) (p : Addr) (v : Value) (h : w.cell? p = some v) (hp : p.block < w.heap.size) : (w.iter s pos).cell? p = some v := by
  have hb : Below w.heap.size w (w.iter s pos) := (Below.refl _ _).alloc (Nat.le_refl _) _
  exact (hb.cell hp).trans h
end Go.Proofs.YtppaheekpmgifaaDoor
