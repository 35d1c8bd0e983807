/- Merged texts: WithL. -/
import Derived.Test.YthcdkkmjnglmjaaGreatDoorM2
set_option linter.unusedSimpArgs false
set_option linter.unusedVariables false
/- Layer 5: canvases with dots, plain. -/
namespace Go.Proofs.YthcdkkmjnglmjaaGreatDoor
/-- A pixel's colour. -/
structure DotT where
 x : Int
 y : Int
 c : ColT
def encD (d : DotT) : List Value := [.int .i64 d.x, .int .i64 d.y, .int .u8 d.c.r, .int .u8 d.c.g, .int .u8 d.c.b, .int .u8 d.c.a]
theorem encD_len (d : DotT) : (encD d).length = 6 := rfl
def setT (t : TileT) (k : Nat) (c : ColT) : TileT := ⟨t.1.set k c, by rw [List.length_set]; exact t.2⟩
/-- Where the tile of a pixel is, and where it is there. -/
def tileI (C : CanT) (x y : Nat) : Nat := y / 8 * C.wide + x / 8
def inI (x y : Nat) : Nat := y % 8 * 8 + x % 8
def putC (C : CanT) (x y : Nat) (c : ColT) : CanT := { C with tiles := C.tiles.modify (tileI C x y) fun t => setT t (inI x y) c }
def onCan (C : CanT) (p : PtT) : Bool := onB (8 * (C.wide : Int)) (8 * (C.high : Int)) p
def dotC (C : CanT) (d : DotT) : CanT := if onCan C ⟨d.x, d.y⟩ = true then putC C d.x.toNat d.y.toNat d.c else C
def withL (C : CanT) (l : List DotT) : CanT := l.foldl dotC C
theorem putC_len (C : CanT) (x y : Nat) (c : ColT) : (putC C x y c).tiles.length = C.tiles.length := by simp [putC]
theorem dotC_wide (C : CanT) (d : DotT) : (dotC C d).wide = C.wide := by unfold dotC; split <;> rfl
theorem dotC_high (C : CanT) (d : DotT) : (dotC C d).high = C.high := by unfold dotC; split <;> rfl
theorem dotC_len (C : CanT) (d : DotT) : (dotC C d).tiles.length = C.tiles.length := by
 unfold dotC
 split
 · exact putC_len _ _ _ _
 · rfl
theorem withL_wide : ∀ (l : List DotT) (C : CanT), (withL C l).wide = C.wide
 | [], _ => rfl
 | d :: l, C => (withL_wide l (dotC C d)).trans (dotC_wide C d)
theorem withL_high : ∀ (l : List DotT) (C : CanT), (withL C l).high = C.high
 | [], _ => rfl
 | d :: l, C => (withL_high l (dotC C d)).trans (dotC_high C d)
theorem withL_len : ∀ (l : List DotT) (C : CanT), (withL C l).tiles.length = C.tiles.length
 | [], _ => rfl
 | d :: l, C => (withL_len l (dotC C d)).trans (dotC_len C d)
theorem withL_snoc (C : CanT) (l : List DotT) (d : DotT) : withL C (l ++ [d]) = dotC (withL C l) d := by unfold withL; rw [List.foldl_append]; rfl
theorem onCan_iff {C : CanT} {p : PtT} : onCan C p = true ↔ ((0 ≤ p.x ∧ p.x < 8 * C.wide) ∧ (0 ≤ p.y ∧ p.y < 8 * C.high)) := onB_iff
theorem onCan_nat {C : CanT} {p : PtT} (h : onCan C p = true) : p.x.toNat < 8 * C.wide ∧ p.y.toNat < 8 * C.high ∧ (p.x.toNat : Int) = p.x ∧ (p.y.toNat : Int) = p.y := by
 have := onCan_iff.1 h
 omega
theorem okCan.putC {C : CanT} (h : okCan C) (x y : Nat) {c : ColT} (hc : okC c) : okCan (putC C x y c) := by
 refine ⟨h.wide, h.high, (putC_len C x y c).trans h.many, fun t ht d hd => ?_⟩
 obtain ⟨i, hi, rfl⟩ := List.mem_iff_getElem.1 ht
 simp only [Go.Proofs.YthcdkkmjnglmjaaGreatDoor.putC] at hi hd
 rw [List.getElem_modify] at hd
 split at hd
 · rcases List.mem_or_eq_of_mem_set hd with hd | rfl
   · exact h.cols _ (List.getElem_mem _) d hd
   · exact hc
 · exact h.cols _ (List.getElem_mem _) d hd
theorem okCan.dotC {C : CanT} (h : okCan C) {d : DotT} (hd : okC d.c) : okCan (dotC C d) := by
 unfold Go.Proofs.YthcdkkmjnglmjaaGreatDoor.dotC
 split
 · exact h.putC _ _ hd
 · exact h
theorem okCan.withL : ∀ (l : List DotT) {C : CanT}, okCan C → (∀ d ∈ l, okC d.c) → okCan (withL C l)
 | [], _, h, _ => h
 | d :: l, _, h, hl => okCan.withL l (h.dotC (hl d (by simp))) fun e he => hl e (by simp [he])
/-- The colour of a pixel, by its tile. -/
theorem colC_tile {C : CanT} {x y : Nat} {t : TileT} (h : C.tiles[tileI C x y]? = some t) : colC C x y = (t.1[inI x y]?).getD zeroC := by
 unfold colC
 rw [show y / 8 * C.wide + x / 8 = tileI C x y from rfl, h]
 rfl
theorem inI_lt (x y : Nat) : inI x y < 64 := by unfold inI; omega
theorem tileI_lt {C : CanT} (h : okCan C) {x y : Nat} (hx : x < 8 * C.wide) (hy : y < 8 * C.high) : tileI C x y < C.tiles.length := by rw [h.many]; exact tile_lt hx hy
theorem divmod_inj {w a b c d : Nat} (hb : b < w) (hd : d < w) (h : a * w + b = c * w + d) : a = c ∧ b = d := by
 have h1 : (a * w + b) / w = (c * w + d) / w := by rw [h]
 have hw : 0 < w := by omega
 rw [Nat.mul_comm a w, Nat.mul_comm c w, Nat.mul_add_div hw, Nat.mul_add_div hw, Nat.div_eq_of_lt hb, Nat.div_eq_of_lt hd] at h1
 have : a = c := by omega
 subst this
 omega
/-- Places of different pixels. -/
theorem place_inj {C : CanT} {x y u v : Nat} (hx : x < 8 * C.wide) (hu : u < 8 * C.wide) (h1 : tileI C x y = tileI C u v) (h2 : inI x y = inI u v) : x = u ∧ y = v := by
 unfold tileI at h1
 unfold inI at h2
 have := divmod_inj (by omega) (by omega) h1
 omega
theorem colC_putC {C : CanT} (h : okCan C) {x y u v : Nat} (hx : x < 8 * C.wide) (hy : y < 8 * C.high) (hu : u < 8 * C.wide) (hv : v < 8 * C.high) (c : ColT) : colC (putC C u v c) x y = if x = u ∧ y = v then c else colC C x y := by
 have hl := tileI_lt h hx hy
 have e0 : C.tiles[tileI C x y]? = some C.tiles[tileI C x y] := List.getElem?_eq_getElem hl
 have e1 : (putC C u v c).tiles[tileI C x y]? = some (if tileI C u v = tileI C x y then setT C.tiles[tileI C x y] (inI u v) c else C.tiles[tileI C x y]) := by
  simp only [putC]
  rw [List.getElem?_modify, e0]
  split <;> rfl
 rw [colC_tile (C := putC C u v c) (t := _) e1, colC_tile e0]
 by_cases ht : tileI C u v = tileI C x y
 · rw [if_pos ht]
   have hlen := (C.tiles[tileI C x y]).2
   simp only [setT]
   rw [List.getElem?_set]
   by_cases hi : inI u v = inI x y
   · have := place_inj hu hx ht hi
     rw [if_pos hi, if_pos (by rw [hlen]; exact inI_lt _ _), if_pos ⟨this.1.symm, this.2.symm⟩]
     rfl
   · rw [if_neg hi, if_neg]
     rintro ⟨rfl, rfl⟩
     exact hi rfl
 · rw [if_neg ht, if_neg]
   rintro ⟨rfl, rfl⟩
   exact ht rfl
theorem colC_dotC {C : CanT} (h : okCan C) {x y : Nat} (hx : x < 8 * C.wide) (hy : y < 8 * C.high) (d : DotT) : colC (dotC C d) x y = if d.x = (x : Int) ∧ d.y = (y : Int) then d.c else colC C x y := by
 unfold dotC
 by_cases ho : onCan C ⟨d.x, d.y⟩ = true
 · obtain ⟨h1, h2, h3, h4⟩ := onCan_nat ho
   simp only at h1 h2 h3 h4
   rw [if_pos ho, colC_putC h hx hy h1 h2]
   by_cases hh : d.x = (x : Int) ∧ d.y = (y : Int)
   · rw [if_pos hh, if_pos (by omega)]
   · rw [if_neg hh, if_neg (by omega)]
 · rw [if_neg ho, if_neg]
   rintro ⟨e1, e2⟩
   exact ho (onCan_iff.2 (by simp only; omega))
/-- Two canvases that show the same are one. -/
theorem CanT.ext_col {C D : CanT} (hC : okCan C) (hD : okCan D) (hw : C.wide = D.wide) (hh : C.high = D.high) (h : ∀ x y, x < 8 * C.wide → y < 8 * C.high → colC C x y = colC D x y) : C = D := by
 obtain ⟨w, hi, ts⟩ := C
 obtain ⟨w', hi', us⟩ := D
 simp only at hw hh
 subst hw hh
 have e : ts = us := by
  refine List.ext_getElem (by rw [show ts.length = w * hi from hC.many, show us.length = w * hi from hD.many]) fun i h1 h2 => ?_
  refine Subtype.ext (List.ext_getElem (by rw [(ts[i]).2, (us[i]).2]) fun k k1 k2 => ?_)
  have hk : k < 64 := by rw [(ts[i]).2] at k1; exact k1
  have hlt : i < w * hi := by rw [← show ts.length = w * hi from hC.many]; exact h1
  have hw0 : 0 < w := by have := hC.wide; simp only at this; omega
  have hq : i / w < hi := Nat.div_lt_of_lt_mul (by rw [Nat.mul_comm] at hlt; rw [Nat.mul_comm]; exact hlt)
  have hr : i % w < w := Nat.mod_lt _ hw0
  have hx : i % w * 8 + k % 8 < 8 * w := by omega
  have hy : i / w * 8 + k / 8 < 8 * hi := by omega
  have ei : (i / w * 8 + k / 8) / 8 * w + (i % w * 8 + k % 8) / 8 = i := by
   rw [show (i / w * 8 + k / 8) / 8 = i / w by omega, show (i % w * 8 + k % 8) / 8 = i % w by omega]
   rw [Nat.mul_comm]; exact Nat.div_add_mod i w
  have ek : inI (i % w * 8 + k % 8) (i / w * 8 + k / 8) = k := by unfold inI; omega
  have h3 := h _ _ hx hy
  rw [colC_tile (C := ⟨w, hi, ts⟩) (t := ts[i]) (by show ts[(i / w * 8 + k / 8) / 8 * w + (i % w * 8 + k % 8) / 8]? = _; rw [ei]; exact List.getElem?_eq_getElem h1),
   colC_tile (C := ⟨w, hi, us⟩) (t := us[i]) (by show us[(i / w * 8 + k / 8) / 8 * w + (i % w * 8 + k % 8) / 8]? = _; rw [ei]; exact List.getElem?_eq_getElem h2), ek, List.getElem?_eq_getElem k1, List.getElem?_eq_getElem k2] at h3
  exact h3
 rw [e]
end Go.Proofs.YthcdkkmjnglmjaaGreatDoor
