/- A row's argument that is a vector: taken apart, and put together. -/
import Derived.Test.YtppaheekpmgifaaRows
import Derived.Test.YtppaheekpmgifaaVecA
import Derived.ProofKit
import Derived.OpenShut
namespace Go.Proofs.Ytppaheekpmgifaa
set_option linter.unusedSimpArgs false
set_option linter.unusedVariables false
open Go.ChangeShapes Go.WideShapes Go.ChangeAt Go.RowKit

/-- 'post', of a call that has only made blocks of its own. -/
theorem post_of_below {H : Type} {enc : TypeId × Value → H} {P : Program} {f : Func} {s : ChangeSpec} {apart fresh handsOn again : Bool} {W W' : World} {args : Array Value} {v : Value} {ds gs : List (DataW H)} {before pa pv : List MemPlace}
    (hW : DataW.Whole enc P f.params.toList s.vars apart W args.toList ds gs before)
    (hres : ∀ (b : Nat) (sp : Nat → Bool) (hd : Bool), DataW.TrodAll enc P W' b sp hd f.resultTypes.toList (v.resultList f.resultTypes.size) (s.fn H (ds ++ gs)).results [])
    (hargs : ∀ sp : Nat → Bool, (∀ p ∈ before, sp p.block = true) → DataW.TrodAll enc P W' 0 sp true f.params.toList args.toList (s.fn H (ds ++ gs)).args pa)
    (hvars : ∀ sp : Nat → Bool, (∀ p ∈ before, sp p.block = true) → DataW.TrodVars enc P W' sp s.vars (s.fn H (ds ++ gs)).vars pv)
    (hps : before = pa ++ pv) (hb : Below W.heap.size W W')
    (hok : ∀ (j : Nat) (t : TypeId) (r : Value), f.resultTypes[j]? = some t → (v.resultList f.resultTypes.size)[j]? = some r → Value.okWide P W' .any 0 t r) :
    s.post enc P f apart fresh handsOn again W args v W' := by
  have hlt := fun p hp => hW.lt p hp
  have hold : ∀ p ∈ before, (fun b => decide (b < W.heap.size)) p.block = true := fun p hp => by simpa using hW.lt p hp
  refine ⟨ds, gs, before, [], pa, pv, hW, hres _ _ _, hargs _ hold, hvars _ hold, World.keptBut_mono (fun p hp => ⟨hp, ?_⟩) (hb.frame (· ∈ before)), fun _ => ?_⟩
  · rw [hps, List.mem_append] at hp
    exact Or.inr hp
  · obtain ⟨_, _, _, _, _, hz, hn⟩ := hW
    refine ⟨hok, _, _, ([] ++ pa) ++ pv, ⟨[] ++ pa, pv, trodAll_append (hargs _ (fun _ _ => rfl)) (hres _ _ _), hvars _ (fun _ _ => rfl), rfl, ?_, ?_⟩, ?_⟩
    · intro b off hp
      have hp' : MemPlace.cell b off ∈ before := by rw [hps]; simpa using hp
      rw [hb.frozen (p := ⟨b, off, none⟩) (hlt _ hp')]
      exact hz b off hp'
    · intro ha
      have := hn ha
      rw [hps] at this
      simpa using this
    · intro p hp _
      rw [hps]
      simpa using hp

section
variable {H : Type} {enc : TypeId × Value → H} {P : Program} {w : World} {base : Nat} {spare : Nat → Bool} {held : Bool}
theorem trod_array9 {t e : TypeId} {fuel : Nat} {c0 c1 c2 c3 c4 c5 c6 c7 c8 : Value} {x : DataW H × List MemPlace} (ht : P.underlying t = some (.array 9 e)) (hce : P.cellsOf e = 1)
    (h : DataW.trod enc P w base spare held fuel t [c0, c1, c2, c3, c4, c5, c6, c7, c8] = some x) :
    ∃ y0 y1 y2 y3 y4 y5 y6 y7 y8 n, x = (.agg [y0.1, y1.1, y2.1, y3.1, y4.1, y5.1, y6.1, y7.1, y8.1], y0.2 ++ (y1.2 ++ (y2.2 ++ (y3.2 ++ (y4.2 ++ (y5.2 ++ (y6.2 ++ (y7.2 ++ (y8.2))))))))) ∧ DataW.trod enc P w base spare held n e [c0] = some y0 ∧ DataW.trod enc P w base spare held n e [c1] = some y1 ∧ DataW.trod enc P w base spare held n e [c2] = some y2 ∧ DataW.trod enc P w base spare held n e [c3] = some y3 ∧ DataW.trod enc P w base spare held n e [c4] = some y4 ∧ DataW.trod enc P w base spare held n e [c5] = some y5 ∧ DataW.trod enc P w base spare held n e [c6] = some y6 ∧ DataW.trod enc P w base spare held n e [c7] = some y7 ∧ DataW.trod enc P w base spare held n e [c8] = some y8 := by
  cases fuel with
  | zero => simp [DataW.trod] at h
  | succ n =>
    unfold DataW.trod at h
    rw [ht] at h
    have r9 : List.range 9 = [0, 1, 2, 3, 4, 5, 6, 7, 8] := rfl
    simp [r9, hce] at h
    obtain ⟨_, h⟩ := h
    cases h0 : DataW.trod enc P w base spare held n e [c0] with
    | none => simp [h0] at h
    | some y0 =>
      cases h1 : DataW.trod enc P w base spare held n e [c1] with
      | none => simp [h0, h1] at h
      | some y1 =>
        cases h2 : DataW.trod enc P w base spare held n e [c2] with
        | none => simp [h0, h1, h2] at h
        | some y2 =>
          cases h3 : DataW.trod enc P w base spare held n e [c3] with
          | none => simp [h0, h1, h2, h3] at h
          | some y3 =>
            cases h4 : DataW.trod enc P w base spare held n e [c4] with
            | none => simp [h0, h1, h2, h3, h4] at h
            | some y4 =>
              cases h5 : DataW.trod enc P w base spare held n e [c5] with
              | none => simp [h0, h1, h2, h3, h4, h5] at h
              | some y5 =>
                cases h6 : DataW.trod enc P w base spare held n e [c6] with
                | none => simp [h0, h1, h2, h3, h4, h5, h6] at h
                | some y6 =>
                  cases h7 : DataW.trod enc P w base spare held n e [c7] with
                  | none => simp [h0, h1, h2, h3, h4, h5, h6, h7] at h
                  | some y7 =>
                    cases h8 : DataW.trod enc P w base spare held n e [c8] with
                    | none => simp [h0, h1, h2, h3, h4, h5, h6, h7, h8] at h
                    | some y8 =>
                      simp [h0, h1, h2, h3, h4, h5, h6, h7, h8] at h
                      exact ⟨y0, y1, y2, y3, y4, y5, y6, y7, y8, n, h.symm, h0, h1, h2, h3, h4, h5, h6, h7, h8⟩

/-- The nine numbers, as a function. -/
def nine (x0 x1 x2 x3 x4 x5 x6 x7 x8 : Int) : Nat → Int | 0 => x0 | 1 => x1 | 2 => x2 | 3 => x3 | 4 => x4 | 5 => x5 | 6 => x6 | 7 => x7 | 8 => x8 | _ => 0
/-- What a vector reads as. -/
def vecD (H : Type) (x : Nat → Int) : DataW H := .agg [.lit (.int .u64 (x 0)), .lit (.int .u64 (x 1)), .lit (.int .u64 (x 2)), .lit (.int .u64 (x 3)), .lit (.int .u64 (x 4)), .lit (.int .u64 (x 5)), .lit (.int .u64 (x 6)), .lit (.int .u64 (x 7)), .lit (.int .u64 (x 8))]
def wfV (x : Nat → Int) : Prop := ∀ k, (Lit.int .u64 (x k)).wf = true
theorem wfV.nn {x : Nat → Int} (h : wfV x) (k : Nat) : 0 ≤ x k := (bounds_u64 (h k)).1

set_option maxRecDepth 100000 in
theorem open_vec {r : Reach} {b0 : Nat} {v : Value} {d : DataW H} {ps : List MemPlace} (hval : Value.okWide Try.prog w r b0 24 v) (hd : DataW.Trod enc Try.prog w base spare held 24 v d ps) :
    ∃ x, v = vecV x ∧ d = vecD H x ∧ ps = [] ∧ wfV x := by
  obtain ⟨cs, rfl, hsz, _⟩ : ∃ cs, v = .agg cs ∧ cs.size = Try.prog.cellsOf 24 ∧ Row.okWide Try.prog w r b0 24 cs := by
    simpa [Value.okWide, Try.underlying24] using hval
  rw [show Try.prog.cellsOf 24 = 9 by kernel_rfl] at hsz
  obtain ⟨l⟩ := cs
  obtain ⟨c0, c1, c2, c3, c4, c5, c6, c7, c8, rfl⟩ : ∃ c0 c1 c2 c3 c4 c5 c6 c7 c8, l = [c0, c1, c2, c3, c4, c5, c6, c7, c8] := by
    rcases l with _ | ⟨c0, _ | ⟨c1, _ | ⟨c2, _ | ⟨c3, _ | ⟨c4, _ | ⟨c5, _ | ⟨c6, _ | ⟨c7, _ | ⟨c8, _ | ⟨c9, l⟩⟩⟩⟩⟩⟩⟩⟩⟩⟩ <;> simp at hsz
    exact ⟨c0, c1, c2, c3, c4, c5, c6, c7, c8, rfl⟩
  obtain ⟨fuel, hf⟩ := hd
  obtain ⟨y0, y1, y2, y3, y4, y5, y6, y7, y8, m, hx, hy0, hy1, hy2, hy3, hy4, hy5, hy6, hy7, hy8⟩ := trod_array9 Try.underlying24 (by kernel_rfl) hf
  obtain ⟨x0, e0, rfl, w0⟩ := DataW.trod_int Try.underlying22 hy0
  obtain ⟨x1, e1, rfl, w1⟩ := DataW.trod_int Try.underlying22 hy1
  obtain ⟨x2, e2, rfl, w2⟩ := DataW.trod_int Try.underlying22 hy2
  obtain ⟨x3, e3, rfl, w3⟩ := DataW.trod_int Try.underlying22 hy3
  obtain ⟨x4, e4, rfl, w4⟩ := DataW.trod_int Try.underlying22 hy4
  obtain ⟨x5, e5, rfl, w5⟩ := DataW.trod_int Try.underlying22 hy5
  obtain ⟨x6, e6, rfl, w6⟩ := DataW.trod_int Try.underlying22 hy6
  obtain ⟨x7, e7, rfl, w7⟩ := DataW.trod_int Try.underlying22 hy7
  obtain ⟨x8, e8, rfl, w8⟩ := DataW.trod_int Try.underlying22 hy8
  simp only [List.cons.injEq, and_true] at e0 e1 e2 e3 e4 e5 e6 e7 e8
  subst e0 e1 e2 e3 e4 e5 e6 e7 e8
  simp only [Prod.mk.injEq] at hx
  obtain ⟨rfl, rfl⟩ := hx
  refine ⟨nine x0 x1 x2 x3 x4 x5 x6 x7 x8, rfl, rfl, rfl, fun k => ?_⟩
  unfold nine
  split <;> first | assumption | rfl

set_option maxRecDepth 100000 in
theorem shut_vec {x : Nat → Int} (hx : wfV x) : DataW.Trod enc Try.prog w base spare held 24 (vecV x) (vecD H x) [] :=
  ⟨2, by simp [DataW.trod, vecV, vecD, lit9, Value.cells, Try.underlying24, Try.underlying22, show Try.prog.cellsOf 24 = 9 by kernel_rfl, show Try.prog.cellsOf 22 = 1 by kernel_rfl, hx 0, hx 1, hx 2, hx 3, hx 4, hx 5, hx 6, hx 7, hx 8, show List.range 9 = [0, 1, 2, 3, 4, 5, 6, 7, 8] from rfl]⟩
end
end Go.Proofs.Ytppaheekpmgifaa
