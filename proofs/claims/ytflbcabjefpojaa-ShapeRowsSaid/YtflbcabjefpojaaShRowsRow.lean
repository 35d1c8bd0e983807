/- ShapeRows returns true at every input, and its arguments read as they did. Conditions: none. -/
import Derived.Test.YtflbcabjefpojaaRowG
import Derived.Test.YtflbcabjefpojaaShRows
namespace Go.Proofs.Ytflbcabjefpojaa
set_option linter.unusedSimpArgs false
set_option linter.unusedVariables false
open Go.ChangeShapes Go.WideShapes Go.ChangeAt Go.RowKit Go.Deep
section
variable {H : Type} {enc : TypeId × Value → H} {P : Program} {w : World}
/-- A row that is kept in a cell. -/
theorem open_inner {α : Type} {n : Nat} {t e : TypeId} {ls : List Leaf} {k : Nat} (ht : P.underlying t = some (.slice e)) (hf : flat P n e = some ls) (hk : P.cellsOf e = k) (encA : α → List Value)
    (hlen : ∀ x, (encA x).length = k) (hdec : ∀ vs : List Value, vs.length = k → Leaves ls vs → ∃ x, encA x = vs ∧ True)
    {cs : List Value} {fuel : Nat} {x : DataW H × List MemPlace} (h : DataW.trod enc P w 0 (fun _ => true) true fuel t cs = some x) (hk0 : 0 < k) :
    ∃ (l : List α) (a : Option Addr) (cap : Nat), cs = [.slice a l.length cap] ∧ l.length ≤ cap ∧ cap ≤ maxLen ∧ (l.length = 0 ∨ Elems w (.slice a l.length cap) l.length k (rowC encA l)) := by
  rcases open_slice ht h with ⟨rfl, _⟩ | ⟨⟨b, off, spot⟩, len, cap, m, n', D, Pl, rfl, hb, hl, hm, hmm, hx, hi⟩
  · exact ⟨[], none, 0, rfl, Nat.le_refl _, by unfold maxLen; omega, .inl rfl⟩
  · simp only [if_true] at hmm
    subst hmm
    by_cases hz : len = 0
    · subst hz
      exact ⟨[], some ⟨b, off, spot⟩, m, rfl, hl, hm, .inl rfl⟩
    have hsp : spot = none ∧ b < w.heap.size := by
      obtain ⟨cs', h1, h2⟩ := hi 0 (by omega)
      obtain ⟨_, hcl, hcg⟩ := World.cells?_some h1
      have h3 := hcg 0 (by omega)
      rw [List.getElem?_eq_getElem (by omega)] at h3
      unfold World.cell? at h3
      have e : (((⟨b, off, spot⟩ : Addr).add (0 * P.cellsOf e)).add 0).spot.isSome = spot.isSome ∧ (((⟨b, off, spot⟩ : Addr).add (0 * P.cellsOf e)).add 0).block = b := by
        cases spot <;> simp [Addr.add]
      rw [e.1, e.2] at h3
      cases spot with
      | some s => split at h3 <;> simp at h3
      | none =>
        refine ⟨rfl, ?_⟩
        split at h3
        · rename_i hh; exact (Array.getElem?_eq_some_iff.1 hh).1
        · cases h3
    obtain ⟨rfl, hblk⟩ := hsp
    have hex : ∀ i, i < len → ∃ x : α, ∀ r u, (encA x)[r]? = some u → w.cell? ⟨b, off + (i * k + r), none⟩ = some u := fun i hil => by
      obtain ⟨cs', h1, h2⟩ := hi i (by omega)
      obtain ⟨_, hcl, hcg⟩ := World.cells?_some h1
      obtain ⟨x, hx1, -⟩ := hdec cs' (by rw [hcl, hk]) (open_flat n e ls n' cs' _ hf h2).2
      refine ⟨x, fun r u hr => ?_⟩
      rw [hx1] at hr
      have hrl : r < cs'.length := (List.getElem?_eq_some_iff.1 hr).1
      have := hcg r (by omega)
      rw [Go.Deep.add_add, hk, hr] at this
      rwa [show (⟨b, off, none⟩ : Addr).add (i * k + r) = ⟨b, off + (i * k + r), none⟩ from by unfold Addr.add; split <;> simp_all] at this
    obtain ⟨l, hl1, hl2⟩ := list_of_ex len hex
    subst hl1
    refine ⟨l, some ⟨b, off, none⟩, m, rfl, hl, hm, .inr (.inr ⟨b, off, m, rfl, hblk, fun j hj => ?_⟩)⟩
    have hdiv : j / k < l.length := Nat.div_lt_of_lt_mul (by rw [Nat.mul_comm]; exact hj)
    have hmod : j % k < k := Nat.mod_lt _ hk0
    have hjk : j / k * k + j % k = j := by rw [Nat.mul_comm]; exact Nat.div_add_mod j k
    have h1 := hl2 (j / k) hdiv (j % k)
    rw [hjk] at h1
    refine h1 _ ?_
    unfold rowC
    have h2 := flat_get hlen l (j / k) (j % k) hmod
    rw [hjk, List.getElem?_eq_getElem hdiv] at h2
    rw [h2]
    show (encA l[j / k])[j % k]? = some (((encA l[j / k])[j % k]?).getD undef)
    rw [List.getElem?_eq_getElem (by rw [hlen]; exact hmod)]
    rfl
/-- A row of rows. -/
theorem open_rowsW {α : Type} {n : Nat} {t e e2 : TypeId} {ls : List Leaf} {k : Nat} (ht : P.underlying t = some (.slice e)) (ht2 : P.underlying e = some (.slice e2)) (hc1 : P.cellsOf e = 1) (hf : flat P n e2 = some ls) (hk : P.cellsOf e2 = k) (encA : α → List Value)
    (hlen : ∀ x, (encA x).length = k) (hdec : ∀ vs : List Value, vs.length = k → Leaves ls vs → ∃ x, encA x = vs ∧ True)
    {v : Value} {d : DataW H} {ps : List MemPlace} {r : Reach} {b0 : Nat} (hval : Value.okWide P w r b0 t v) (h : DataW.Trod enc P w 0 (fun _ => true) true t v d ps) (hk0 : 0 < k) :
    ∃ (lls : List (List α)) (a : Option Addr) (cap : Nat), v = .slice a lls.length cap ∧ lls.length ≤ maxLen ∧
      ∀ j l, lls[j]? = some l → ∃ b off a' cap', a = some ⟨b, off, none⟩ ∧ b < w.heap.size ∧ w.cell? ⟨b, off + j, none⟩ = some (.slice a' l.length cap') ∧ l.length ≤ cap' ∧ cap' ≤ maxLen ∧ (l.length = 0 ∨ Elems w (.slice a' l.length cap') l.length k (rowC encA l)) := by
  obtain ⟨fuel, h⟩ := h
  rcases open_slice ht h with ⟨hcs, _⟩ | ⟨a, len, cap, m, n', D, Pl, hcs, hb, hl, hm, hmm, hx, hi⟩
  · rcases slice_okWide ht hval with rfl | ⟨a, len, cap, rfl, hs, hb⟩
    · exact ⟨[], none, 0, rfl, by simp, fun j l hj => by simp at hj⟩
    · simp [Value.cells] at hcs
  · rcases slice_okWide ht hval with rfl | ⟨a', len', cap', rfl, hspot, hblk⟩
    · simp [Value.cells] at hcs
    simp only [Value.cells, List.cons.injEq, Value.slice.injEq, Option.some.injEq, and_true] at hcs
    obtain ⟨rfl, rfl, rfl⟩ := hcs
    simp only [if_true] at hmm
    subst hmm
    obtain ⟨b, off, spot⟩ := a'
    dsimp only at hspot hblk
    subst hspot
    have hex : ∀ i, i < len' → ∃ l : List α, ∃ a' cap', w.cell? ⟨b, off + i, none⟩ = some (.slice a' l.length cap') ∧ l.length ≤ cap' ∧ cap' ≤ maxLen ∧ (l.length = 0 ∨ Elems w (.slice a' l.length cap') l.length k (rowC encA l)) := fun i hil => by
      obtain ⟨cs', h1, h2⟩ := hi i (by omega)
      obtain ⟨_, hcl, hcg⟩ := World.cells?_some h1
      obtain ⟨l, a', cap', rfl, h3, h4, h5⟩ := open_inner ht2 hf hk encA hlen hdec h2 hk0
      refine ⟨l, a', cap', ?_, h3, h4, h5⟩
      have := hcg 0 (by omega)
      rw [Go.Deep.add_add, hc1, Nat.mul_one, Nat.add_zero] at this
      rw [show (⟨b, off, none⟩ : Addr).add i = ⟨b, off + i, none⟩ from by unfold Addr.add; split <;> simp_all] at this
      exact this
    obtain ⟨lls, hl1, hl2⟩ := list_of_ex len' hex
    subst hl1
    refine ⟨lls, some ⟨b, off, none⟩, m, rfl, by omega, fun j l hj => ?_⟩
    obtain ⟨hj1, rfl⟩ := List.getElem?_eq_some_iff.1 hj
    obtain ⟨a', cap', h1, h2, h3, h4⟩ := hl2 j hj1
    exact ⟨b, off, a', cap', rfl, hblk, h1, h2, h3, h4⟩
end
theorem flatS3 : flat Try.prog 5 39 = some (List.replicate 3 (.int .i64)) := by kernel_rfl
theorem flatP3 : flat Try.prog 5 28 = some (List.replicate 2 (.int .i64)) := by kernel_rfl
theorem flatBx3 : flat Try.prog 5 43 = some (List.replicate 4 (.int .i64)) := by kernel_rfl
theorem leaves_pt3 (vs : List Value) (hl : vs.length = 2) (h : Leaves (List.replicate 2 (.int .i64)) vs) : ∃ x, encP x = vs ∧ True := by
  obtain ⟨v0, e0, n0, rfl, -⟩ := h 0 (.int .i64) rfl
  obtain ⟨v1, e1, n1, rfl, -⟩ := h 1 (.int .i64) rfl
  obtain ⟨c0, c1, rfl⟩ : ∃ c0 c1, vs = [c0, c1] := by
    rcases vs with _ | ⟨c0, _ | ⟨c1, _ | ⟨c2, l⟩⟩⟩ <;> simp at hl
    exact ⟨c0, c1, rfl⟩
  simp at e0 e1
  subst e0 e1
  exact ⟨⟨n0, n1⟩, rfl, trivial⟩
theorem leaves_span3 (vs : List Value) (hl : vs.length = 3) (h : Leaves (List.replicate 3 (.int .i64)) vs) : ∃ x, encS x = vs ∧ True := by
  obtain ⟨v0, e0, n0, rfl, -⟩ := h 0 (.int .i64) rfl
  obtain ⟨v1, e1, n1, rfl, -⟩ := h 1 (.int .i64) rfl
  obtain ⟨v2, e2, n2, rfl, -⟩ := h 2 (.int .i64) rfl
  obtain ⟨c0, c1, c2, rfl⟩ : ∃ c0 c1 c2, vs = [c0, c1, c2] := by
    rcases vs with _ | ⟨c0, _ | ⟨c1, _ | ⟨c2, _ | ⟨c3, l⟩⟩⟩⟩ <;> simp at hl
    exact ⟨c0, c1, c2, rfl⟩
  simp at e0 e1 e2
  subst e0 e1 e2
  exact ⟨⟨n0, n1, n2⟩, rfl, trivial⟩
theorem leaves_bx3 (cs : Array Value) (hl : cs.size = 4) (h : Leaves (List.replicate 4 (.int .i64)) cs.toList) : ∃ b : BxT, .agg cs = b.val := by
  obtain ⟨vs⟩ := cs
  simp only at h
  obtain ⟨v0, e0, n0, rfl, -⟩ := h 0 (.int .i64) rfl
  obtain ⟨v1, e1, n1, rfl, -⟩ := h 1 (.int .i64) rfl
  obtain ⟨v2, e2, n2, rfl, -⟩ := h 2 (.int .i64) rfl
  obtain ⟨v3, e3, n3, rfl, -⟩ := h 3 (.int .i64) rfl
  obtain ⟨c0, c1, c2, c3, rfl⟩ : ∃ c0 c1 c2 c3, vs = [c0, c1, c2, c3] := by
    rcases vs with _ | ⟨c0, _ | ⟨c1, _ | ⟨c2, _ | ⟨c3, _ | ⟨c4, l⟩⟩⟩⟩⟩ <;> simp at hl
    exact ⟨c0, c1, c2, c3, rfl⟩
  simp at e0 e1 e2 e3
  subst e0 e1 e2 e3
  exact ⟨⟨n0, n1, n2, n3⟩, rfl⟩

theorem own_shapeRows : ownKnob Try.prog.godebug = none := by kernel_rfl
theorem laid_shapeRows : laidOutB Try.prog = true := by kernel_rfl
set_option maxHeartbeats 400000 in
set_option maxRecDepth 100000 in
theorem lifted_shapeRows (os : Os) (started : os.Started) (H : Type) (enc : TypeId × Value → H) :
    ReturnsInHanded {} Try.checked os 6 .any (Rows.shapeRowsSpec.pre6 enc Try.prog Try.f6 Rows.shapeRowsRow.domain false) (Rows.shapeRowsSpec.post enc Try.prog Try.f6 false true false false) := by
  refine returnsInHanded_of_change (C := Try.checked) own_shapeRows started (by kernel_rfl) Try.func6
    (ChangeSpec.witness6 (enc := enc) (C := Try.checked) false ⟨#[], #[.slice none 0 0, .agg #[.int .i64 0, .int .i64 0, .int .i64 0, .int .i64 0], .slice none 0 0], []⟩ 8 (by kernel_rfl) (by kernel_rfl) (by kernel_rfl) (by kernel_rfl)) ?_
  intro W base args ds gs before hval0 hW _ _
  have hval : ∀ (j : Nat) t v, Try.f6.params[j]? = some t → args[j]? = some v → Value.okWide Try.prog W .any base t v := hval0
  have hW' := hW
  obtain ⟨p, q, hA0, hV, hpq, _, _⟩ := hW
  have hA : DataW.TrodAll enc Try.prog W 0 (fun _ => true) true Try.f6.params.toList args.toList ds p := hA0
  rw [Try.params6] at hA hval
  obtain ⟨v0, vs0, d0, ds0, p0, q0, hargs, rfl, hp_, h0, r0⟩ := trodAll_cons hA
  obtain ⟨v1, vs1, d1, ds1, p1, q1, rfl, rfl, rfl, h1, r1⟩ := trodAll_cons r0
  obtain ⟨v2, vs2, d2, ds2, p2, q2, rfl, rfl, rfl, h2, r2⟩ := trodAll_cons r1
  obtain ⟨rfl, rfl, rfl⟩ := trodAll_nil r2
  obtain rfl : args = #[v0, v1, v2] := by cases args; simp_all
  have hv0 : Value.okWide Try.prog W .any base 58 v0 := hval 0 58 v0 rfl rfl
  have hv1 : Value.okWide Try.prog W .any base 43 v1 := hval 1 43 v1 rfl rfl
  have hv2 : Value.okWide Try.prog W .any base 22 v2 := hval 2 22 v2 rfl rfl
  clear hval hval0 hA0
  obtain ⟨lls, a, cap, rfl, hmax, hrows⟩ := open_rowsW (k := 3) Try.underlying58 Try.underlying29 (by kernel_rfl) flatS3 (by kernel_rfl) encS encS_len leaves_span3 hv0 h0 (by omega)
  have q1 := (trod_flat flatBx3 h1).2
  obtain ⟨cs1, rfl, hz1, -⟩ : ∃ cs, v1 = .agg cs ∧ cs.size = Try.prog.cellsOf 43 ∧ Row.okWide Try.prog W Reach.any base 43 cs := by simpa [Value.okWide, Try.underlying43] using hv1
  rw [show Try.prog.cellsOf 43 = 4 by kernel_rfl] at hz1
  obtain ⟨bx, hbx⟩ := leaves_bx3 cs1 hz1 q1
  obtain ⟨ps, a2, cap2, rfl, he2, _, hmax2, hcap2⟩ := open_rows (k := 2) Try.underlying22 flatP3 (by kernel_rfl) rfl encP (fun _ => True) encP_len leaves_pt3 hv2 h2 (by omega)
  rw [hbx]
  rw [hbx] at hW'
  refine (rows_any a lls.length cap lls rfl (by unfold maxLen at hmax; omega) bx a2 ps.length cap2 ps rfl hcap2 W (fun j l hj => by obtain ⟨b, off, a', cap', e1, e2, e3, e4, e5, e6⟩ := hrows j l hj; exact ⟨b, off, a', cap', e1, e2, e3, e4, by unfold maxLen at e5; omega, e6⟩) he2).mono fun e W' ⟨he, hb⟩ => ?_
  subst he
  exact ⟨_, rfl, post_true laid_shapeRows Try.underlying4 (by kernel_rfl) rfl (of_decide_eq_true (by kernel_rfl)) rfl rfl hW' hb⟩

/-- ████ THE STATEMENT ████ -/
theorem shapeRows_holds : Rows.ShapeRowsSaid :=
  OpenClaim.holds_of_wide 6 Try.f6 rfl rfl rfl rfl rfl rfl rfl ⟨rfl, rfl, rfl, rfl, rfl⟩ rfl rfl rfl rfl rfl (by kernel_rfl) Try.func6 (by kernel_rfl)
    (of_decide_eq_true (by kernel_rfl)) (by unfold Func.isWrapper; first | (rw [if_pos (by decide +kernel)]; kernel_rfl) | (rw [if_neg (by decide +kernel)]; exact ⟨rfl, rfl⟩))
    (fun os started H enc _ => lifted_shapeRows os started H enc)
#print axioms shapeRows_holds
end Go.Proofs.Ytflbcabjefpojaa
