/- Fields of truths: rows of rows. -/
import Derived.Test.YtflbcabjefpojaaBase
namespace Go.Proofs.Ytflbcabjefpojaa
set_option linter.unusedSimpArgs false
set_option linter.unusedVariables false
open Go.RowKit Go.Shelf

theorem rowB : RowT Try.prog 87 4 1 1 := .of (z := .bool false) Try.underlying87 (by kernel_rfl) rfl (by decide)
theorem rowBB : RowT Try.prog 84 87 1 24 := .of (z := .slice none 0 0) Try.underlying84 (by kernel_rfl) rfl (by decide)
def encB (m : Nat) (b : Nat) : List Value := [.slice (some ⟨b, 0, none⟩) m m]
theorem encB_len (m b : Nat) : (encB m b).length = 1 := rfl
theorem encB_one (m b : Nat) : ∀ u ∈ encB m b, u.oneCell' = true := by
  intro u hu
  simp [encB] at hu
  subst hu
  rfl
def rowV (m : Nat) (f : Nat → Bool) : List Value := (List.range m).map fun i => .bool (f i)
theorem rowV_len (m : Nat) (f : Nat → Bool) : (rowV m f).length = m := by simp [rowV]
theorem rowV_get (m : Nat) (f : Nat → Bool) (i : Nat) (h : i < m) : (rowV m f)[i]? = some (.bool (f i)) := by simp [rowV, h]
def upd1 (f : Nat → Bool) (i : Nat) (u : Bool) : Nat → Bool := fun k => if k = i then u else f k
def upd2 (F : Nat → Nat → Bool) (j i : Nat) (u : Bool) : Nat → Nat → Bool := fun a b => if a = j ∧ b = i then u else F a b
theorem rowV_set (m : Nat) (f : Nat → Bool) (i : Nat) (u : Bool) : (rowV m f).set i (.bool u) = rowV m (upd1 f i u) := by
  refine List.ext_getElem? fun k => ?_
  rw [List.getElem?_set]
  by_cases h : i = k
  · subst h
    by_cases hm : i < m
    · simp [rowV, hm, upd1]
    · simp [rowV, hm]
  · by_cases hm : k < m
    · have : ¬ k = i := fun e => h e.symm
      simp [rowV, hm, upd1, this, h]
    · simp [rowV, hm, h]
theorem rowV_ext (m : Nat) (f f' : Nat → Bool) (h : ∀ i, i < m → f i = f' i) : rowV m f = rowV m f' := by
  unfold rowV
  refine List.map_congr_left fun i hi => ?_
  rw [h i (List.mem_range.1 hi)]

/-- The blocks of n rows of m truths each. -/
structure FldB (w0 : World) (its : List It) (base : Nat) (v : Value) (B : List Nat) (m : Nat) (F : Nat → Nat → Bool) (w : World) : Prop where
  o : StO w0 its base 87 1 (encB m) v B w
  nd : B.Nodup
  row : ∀ j b, B[j]? = some b → w.ownsRow base 4 1 (.slice (some ⟨b, 0, none⟩) m m) m (rowV m (F j))
theorem FldB.below {w0 w w' : World} {its : List It} {base : Nat} {v : Value} {B : List Nat} {m : Nat} {F : Nat → Nat → Bool} (h : FldB w0 its base v B m F w) (hb : Below w.heap.size w w') : FldB w0 its base v B m F w' :=
  ⟨h.o.below hb, h.nd, fun j b hj => ownsRow_below (h.row j b hj) hb⟩
/-- A field of the call's own. -/
def Fld (w0 : World) (its : List It) (base g cap n m : Nat) (F : Nat → Nat → Bool) (w : World) : Prop := ∃ B : List Nat, B.length = n ∧ FldB w0 its base (.slice (some ⟨g, 0, none⟩) n cap) B m F w
theorem Fld.below {w0 w w' : World} {its : List It} {base g cap n m : Nat} {F : Nat → Nat → Bool} (h : Fld w0 its base g cap n m F w) (hb : Below w.heap.size w w') : Fld w0 its base g cap n m F w' := by
  obtain ⟨B, h1, h2⟩ := h
  exact ⟨B, h1, h2.below hb⟩
theorem Fld.st {w0 w : World} {its : List It} {base g cap n m : Nat} {F : Nat → Nat → Bool} (h : Fld w0 its base g cap n m F w) : St w0 its w := by
  obtain ⟨B, h1, h2⟩ := h
  exact h2.o.st
theorem Fld.ext {w0 w : World} {its : List It} {base g cap n m : Nat} {F F' : Nat → Nat → Bool} (h : Fld w0 its base g cap n m F w) (he : ∀ j i, j < n → i < m → F j i = F' j i) : Fld w0 its base g cap n m F' w := by
  obtain ⟨B, h1, h2⟩ := h
  refine ⟨B, h1, h2.o, h2.nd, fun j b hj => ?_⟩
  rw [← rowV_ext m (F j) (F' j) (fun i hi => he j i (by rw [← h1]; exact (List.getElem?_eq_some_iff.1 hj).1) hi)]
  exact h2.row j b hj
/-- What the walk asks of a place: to read it, and to write it. -/
theorem Fld.at {w0 w : World} {its : List It} {base g cap n m : Nat} {F : Nat → Nat → Bool} (h : Fld w0 its base g cap n m F w) (j i : Nat) (hj : j < n) (hi : i < m) :
    ∃ b, base ≤ b ∧ w.cell? ⟨g, j, none⟩ = some (.slice (some ⟨b, 0, none⟩) m m) ∧ w.cell? ⟨b, i, none⟩ = some (.bool (F j i)) ∧ w.frozen? ⟨b, i, none⟩ = false ∧
      ∀ u : Bool, Fld w0 its base g cap n m (upd2 F j i u) (w.setCell ⟨b, i, none⟩ (.bool u)) := by
  obtain ⟨B, h1, h2⟩ := h
  obtain ⟨b, hb⟩ : ∃ b, B[j]? = some b := ⟨_, List.getElem?_eq_getElem (by omega)⟩
  have hr := h2.row j b hb
  obtain ⟨hbb, hlt, cur, hcur⟩ := ownsRow_block hr
  refine ⟨b, hbb, ?_, ownsRow_cell hr (rowV_get m _ i hi), ownsRow_free hr i, fun u => ?_⟩
  · have := h2.o.cell (encB_len m) j b 0 _ hb rfl
    simpa using this
  · have hg := grownBy_setCellAt w b i (.bool u)
    have hgb : g ≠ b := by
      obtain ⟨_, _, cg, hcg⟩ := ownsRow_block (g := g) (n := B.length) (cap := cap) (by have := h2.o.row; rw [← h1] at this; exact this)
      intro e
      subst e
      rw [hcg] at hcur
      simp at hcur
    refine ⟨B, h1, ⟨⟨h2.o.st.grown (base := base) (row := some b) (fun j e => by cases e; exact hbb) h2.o.low h2.o.top hg, h2.o.row.kept hg (.inr (by simp [Value.ownBlock]; exact hgb)), h2.o.low, h2.o.top, by rw [World.size_setCell]; exact h2.o.hi⟩, h2.nd, fun j' b' hj' => ?_⟩⟩
    by_cases e : b' = b
    · subst e
      have ej : j' = j := (List.getElem?_inj (List.getElem?_eq_some_iff.1 hj').1 h2.nd).1 (hj'.trans hb.symm)
      subst ej
      have := ownsRow_set hr i (by omega) (.bool u)
      rw [rowV_set] at this
      rw [rowV_ext m (upd2 F j' i u j') (upd1 (F j') i u) (fun k _ => by simp [upd2, upd1])]
      exact this
    · have ne : ¬ j' = j := fun e2 => e (by subst e2; rw [hj'] at hb; exact Option.some.inj hb)
      rw [rowV_ext m (upd2 F j i u j') (F j') (fun k _ => by simp [upd2, ne])]
      exact (h2.row j' b' hj').kept hg (.inr (by simp [Value.ownBlock]; exact e))
/-- A field that another call made. -/
theorem Fld.into {w0 x y : World} {its : List It} {g cap n m : Nat} {F : Nat → Nat → Bool} (hs : St w0 its x) (h : Fld x [] x.heap.size g cap n m F y) : Fld w0 its x.heap.size g cap n m F y := by
  obtain ⟨B, h1, h2⟩ := h
  exact ⟨B, h1, ⟨⟨hs.below h2.o.st.low, h2.o.row, hs.size, hs.top, h2.o.hi⟩, h2.nd, h2.row⟩⟩

theorem infoB : (Try.prog.info? 4).map (fun i => (i.zero, i.size, i.bytes)) = some (some (.bool false), 1, 1) := by kernel_rfl
theorem madeB (m : Nat) : (madeCells (Value.bool false).cells (m * 1)).toList = rowV m (fun _ => false) := by
  refine List.ext_getElem? fun i => ?_
  unfold madeCells rowV
  by_cases h : i < m
  · simp [h, Value.cells, Nat.mod_one]
  · simp [h, Value.cells]
theorem St.quiet {w0 x y : World} {its : List It} (h : St w0 its x) (hg : x.grownBy y none) : Below x.heap.size x y := ⟨hg.os, hg.tape, hg.output, hg.size, fun k hk => hg.block k hk (by simp)⟩
theorem FldB.push {w0 x y w' : World} {its : List It} {base : Nat} {v v' : Value} {B : List Nat} {m : Nat} {F : Nat → Nat → Bool} (h : FldB w0 its base v B m F x) (hy : Below x.heap.size x y) (b : Nat) (hb : x.heap.size ≤ b)
    (hrow : y.ownsRow base 4 1 (.slice (some ⟨b, 0, none⟩) m m) m (rowV m (F B.length))) (ho : StO w0 its base 87 1 (encB m) v' (B ++ [b]) w') (hg : y.grownBy w' v.ownBlock) : FldB w0 its base v' (B ++ [b]) m F w' := by
  have hne : ∀ c xs, y.ownsRow base 4 1 (.slice (some ⟨c, 0, none⟩) m m) m xs → (Value.slice (some ⟨c, 0, none⟩) m m).ownBlock = none ∨ (Value.slice (some ⟨c, 0, none⟩) m m).ownBlock ≠ v.ownBlock := by
    intro c xs hr
    refine .inr fun e => ?_
    obtain ⟨_, _, cur, hcur⟩ := ownsRow_block hr
    rcases (h.o.below hy).row.2 with ⟨rfl, _⟩ | ⟨g', cap', cur', rfl, _, hg', _⟩
    · simp [Value.ownBlock] at e
    · simp only [Value.ownBlock, Option.some.injEq] at e
      subst e
      rw [hcur] at hg'
      simp at hg'
  refine ⟨ho, ?_, fun j c hj => ?_⟩
  · refine List.nodup_append.2 ⟨h.nd, by simp, fun c hc d hd => ?_⟩
    simp at hd
    subst hd
    obtain ⟨j, hj⟩ := List.getElem?_of_mem hc
    have := (ownsRow_block (h.row j c hj)).2.1
    omega
  · rcases Nat.lt_or_ge j B.length with hlt | hge
    · rw [List.getElem?_append_left hlt] at hj
      have := ownsRow_below (h.row j c hj) hy
      exact this.kept hg (hne _ _ this)
    · obtain rfl : j = B.length := by
        have := (List.getElem?_eq_some_iff.1 hj).1
        simp at this
        omega
      rw [List.getElem?_append_right (Nat.le_refl _)] at hj
      simp at hj
      subst hj
      exact hrow.kept hg (hne _ _ hrow)

set_option maxRecDepth 100000 in
set_option maxHeartbeats 400000 in
theorem refBlank_any (x1 y1 x2 y2 : Int) (n m : Nat) (hn : 0 < n) (hn2 : n ≤ 1000) (hm2 : m ≤ 1000) (h1 : wrap64 (x2 - x1) = x2 - x1) (h2 : wrap64 (x2 - x1 + 1) = (m : Int)) (h3 : wrap64 (y2 - y1) = y2 - y1) (h4 : wrap64 (y2 - y1 + 1) = (n : Int)) (w : World) :
    Calls Try.prog 45 #[.agg #[.int .i64 x1, .int .i64 y1, .int .i64 x2, .int .i64 y2]] w fun e w' => ∃ g cap, e = .returned (.slice (some ⟨g, 0, none⟩) n cap) ∧ Fld w [] w.heap.size g cap n m (fun _ _ => false) w' := by
  have HS := Lib.hid (St.start w)
  go_enter Try.func45, Try.ntmps45
  repeat ((fail_if_success (with_reducible refine stop_at (id := 1) ?_)); (first | go_values | go_skip | go_guarded | go_step | go_upon | go_back | (simp only [Int.not_lt, Int.not_le] at *; go_simp) | (go_values <;> (try go_simp)) | (go_ite <;> go_prune <;> (try go_simp)) | (split <;> (first | (rename_i hx; exact (hx _ rfl).elim) | go_prune))))
  have hs_ := (HS.out.alloc (.cells #[.int .i64 x1, .int .i64 y1, .int .i64 x2, .int .i64 y2] 43))
  obtain ⟨w1, hw_⟩ : ∃ w1 : World, (w.alloc (.cells #[.int .i64 x1, .int .i64 y1, .int .i64 x2, .int .i64 y2] 43)) = w1 := ⟨_, rfl⟩
  rw [hw_] at hs_
  try simp only [World.size_alloc] at hs_
  have HS := Lib.hid hs_
  rw [hw_]
  clear hw_ hs_
  have HO := Lib.hid (show FldB w [.blk w.heap.size (.cells #[.int .i64 x1, .int .i64 y1, .int .i64 x2, .int .i64 y2] 43 (0, 0))] w1.heap.size (.slice none 0 0) [] m (fun _ _ => false) w1 from ⟨StO.start HS.out 87 1 (encB m), List.nodup_nil, fun j b h => by simp at h⟩)
  obtain ⟨N1, hN1⟩ : ∃ N1, w1.heap.size = N1 := ⟨_, rfl⟩
  rw [hN1] at HO
  have k1 := cell_of_block (k := 1) (HS.out.blockAt 0 rfl) rfl
  have k3 := cell_of_block (k := 3) (HS.out.blockAt 0 rfl) rfl
  go_wp2_with fail
  clear k1 k3
  rw [h4, h3]
  clear h3 h4
  go_loopw [3, 10] (fun v i wr => ∃ B : List Nat, B.length ≤ n ∧ i = .int .i64 (B.length : Int) ∧ FldB w [.blk w.heap.size (.cells #[.int .i64 x1, .int .i64 y1, .int .i64 x2, .int .i64 y2] 43 (0, 0))] N1 v B m (fun _ _ => false) wr) (fun _ i _ => n - (intOf i).toNat)
  case atStart => exact ⟨[], by simp, rfl, HO.out⟩
  case round =>
    obtain ⟨B, hB, rfl, ho⟩ := hrel
    clear HO hN1
    have HO := Lib.hid ho
    clear ho
    by_cases hlt : B.length < n
    · have wk : wrap64 ((B.length : Int) + 1) = ((B.length + 1 : Nat) : Int) := by unfold wrap64; omega
      have k0 := cell_of_block (k := 0) (HO.out.o.st.blockAt 0 rfl) rfl
      have k2 := cell_of_block (k := 2) (HO.out.o.st.blockAt 0 rfl) rfl
      obtain ⟨i0, hi, hz0, hz1, hz2⟩ := info_parts infoB
      have HBL := Lib.hid (show B.length < 1000000000 by omega)
      have HML := Lib.hid (show m ≤ maxLen by unfold maxLen; omega)
      have HB2 := Lib.hid (show i0.bytes * m ≤ 281474976710656 by rw [hz2]; omega)
      clear hz2
      go_wp2_with (first | (at_make; refine wpList_make_full _ rfl _ _ _ rfl wr.heap.size 4 i0 _ 1 Try.underlying87 hi hz0 hz1 _ _ _ _ m rfl rfl h2 h2 HB2.out HML.out (Nat.le_refl _) ?_; intro w3 hown hgr; rw [madeB] at hown; have HW := Lib.hid hown; have HG := Lib.hid (HO.out.o.st.quiet hgr); clear hown hgr) | (at_builtin; refine wpList_app1g (enc := encB m) (L := B) (x := wr) (y := w3) rowBB (encB_len m) (encB_one m) HO.out.o HG.out wr.heap.size B.length rfl HBL.out (by decide) _ _ rfl rfl rfl _ rfl rfl ?_; intro v' w5 ho5 hsh hg5; have HO5 := Lib.hid (HO.out.push HG.out wr.heap.size (Nat.le_refl _) (ownsRow_mono HW.out HO.out.o.hi) ho5 hg5); clear ho5 hsh hg5))
      go_roundw
      case rel => exact ⟨B ++ [wr.heap.size], by simp; omega, by simp, HO5.out⟩
      case measure => simp [intOf]; omega
    · obtain rfl : n = B.length := by omega
      clear hB
      obtain ⟨ad, cap, hv, hg⟩ := HO.out.o.shape
      have hg := hg.resolve_left (by omega)
      obtain ⟨g, rfl⟩ := hg
      subst hv
      clear hlt
      go_wp2_with fail
      go_ret
      refine ⟨g, cap, rfl, B, rfl, ?_⟩
      have hh := HO.out
      clear HO
      refine ⟨⟨?_, ?_, ?_, ?_, ?_⟩, ?_, ?_⟩
      · exact hh.o.st.drop1
      · exact ownsRow_mono hh.o.row hh.o.low
      · exact Nat.le_refl _
      · intro i hi; cases hi
      · exact hh.o.st.low.size
      · exact hh.nd
      · exact fun j b hj => ownsRow_mono (hh.row j b hj) hh.o.low
end Go.Proofs.Ytflbcabjefpojaa
