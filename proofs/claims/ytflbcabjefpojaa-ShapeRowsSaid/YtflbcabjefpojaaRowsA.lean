/- ShapeRows: rows of rows. -/
import Derived.Test.YtflbcabjefpojaaUnions
namespace Go.Proofs.Ytflbcabjefpojaa
set_option linter.unusedSimpArgs false
set_option linter.unusedVariables false
open Go.RowKit Go.Shelf

section
variable {F : Fence} {n : Nat} {P : Program} {ops : Array Oper} {Q : Exit → Act → World → Prop}
/- The same, where an operation may read a slot that a later one writes. -/
/-- **A REGION THAT DRAWS ITS ORDER, ONE OF WHOSE FREE OPERATIONS STORES**: J b: what holds of the memory before (false) and behind (true) operation s. -/
theorem wpIn_region_storeU {id : Nat} {a : Act} {w : World} (hm : P.follows .mixedOrders = true) (k : Nat) (R : Nat → Value → (Nat → Value) → World → Prop) (C : World → World → Prop)
    (hCr : ∀ x : World, C x x) (hCt : ∀ {x y z : World}, C x y → C y z → C x z) (C0 : World → World → Prop) (h00 : ∀ x, C0 x x) (h0C : ∀ {x y : World}, C0 x y → C x y) (s : Nat) (af : Nat → Bool) (haf : ((List.range k).all fun i => !af i || aheadB ops i s) = true) (hst : ∀ i v env x y, i < k → i ≠ s → cond (af i) (C0 x y) (C x y) → R i v env x → R i v env y) (hst0 : ∀ v env x y, C0 x y → R s v env x → R s v env y)
    (hloc : ∀ i o v env env' x, i < k → ops[i]? = some o → (∀ e ∈ o.after, Region.binds .any e = true → ∀ o' d, ops[e.on]? = some o' → o'.dst = some d → env d = env' d) → R i v env x → R i v env' x)
    (hfo : factsOk ops a.tmps.size = true) (ht : tailOk ops k = true) (hC0 : C w w.drew)
    (hsk : s < k) (hso : s < ops.size) (J : Bool → World → Prop) (hJ0 : J false w.drew) (hsg : ∀ o, ops[s]? = some o → o.guard = none)
    (hstep : ∀ (i : Nat) (o : Oper), i < k → ops[i]? = some o → ∀ (a' : Act) (w' : World) (b : Bool), Agree ops k a a' → C w w' → J b w' → (aheadB ops s i = true → b = false) → (i = s → b = false) → (∀ (j : Nat) (oj : Oper) (t : Tmp), j < k → ops[j]? = some oj → oj.dst = some t → (aheadB ops j (i) = true ∨ j = i) → a'.tmps[t]? = a.tmps[t]?) → 
      (∀ e ∈ o.after, Region.binds .any e = true → Known R ops e.on a' w') → StepOk F n P ops R (fun x y => (if i = s then C x y else C0 x y) ∧ J (if i = s then true else b) y) Q i o a' w')
    (hend : ∀ (a' : Act) (w' : World), Agree ops k a a' → C w w' → J true w' → (∀ i, i < k → i < ops.size → Known R ops i a' w') → wpListIn F n P ops Q (ops.toList.drop k) a' w') :
    (Code.region id ops true).wpIn F n P Q a w := by
  refine wpIn_region_any hm ?_
  have main : ∀ (fuel : Nat) (listed : Array Bool) (a' : Act) (w' : World), listed.size = ops.size → fuel + (List.range ops.size).countP (fun i => listed.getD i false) = ops.size → Shut ops listed →
      (∀ i, k ≤ i → i < ops.size → listed.getD i false = false) → Agree ops k a a' → C w w' → J (listed.getD s false) w' → (∀ (j : Nat) (oj : Oper) (t : Tmp), j < k → ops[j]? = some oj → oj.dst = some t → listed.getD j false = false → a'.tmps[t]? = a.tmps[t]?) → (∀ i, i < k → i < ops.size → listed.getD i false = true → Known R ops i a' w') →
      wpAnyIn F n P .any ops Q fuel listed a' w' := by
    intro fuel
    induction fuel with
    | zero =>
      intro listed a' w' hsz hf hs hlate hA hC hJ hU hK
      have hall : ∀ i, i < ops.size → listed.getD i false = true := by
        intro i hi
        have h1 : (List.range ops.size).countP (fun i => listed.getD i false) = (List.range ops.size).length := by simp at hf ⊢; omega
        exact List.countP_eq_length.1 h1 i (List.mem_range.2 hi)
      have hk : ops.size ≤ k := by
        rcases Nat.lt_or_ge k ops.size with h | h
        · have := hlate k (Nat.le_refl _) h; rw [hall k h] at this; cases this
        · exact h
      rw [hall s hso] at hJ
      have h := hend a' w' hA hC hJ (fun i hik hi => hK i hik hi (hall i hi))
      rw [List.drop_eq_nil_of_le (by simpa using hk)] at h
      refine ⟨?_, h⟩
      apply List.eq_nil_iff_forall_not_mem.2
      intro j hj
      obtain ⟨hlt, hno, _⟩ := ready_mem hj
      rw [getD_lt _ _ (by omega), hall j hlt] at hno
      cases hno
    | succ fuel ih =>
      intro listed a' w' hsz hf hs hlate hA hC hJ hU hK
      refine ⟨?_, ?_⟩
      · -- nothing is ready: all has been carried out
        intro h0
        exfalso
        have hex : ∃ i, i < ops.size ∧ listed.getD i false = false := by
          rcases Classical.em (∃ i, i < ops.size ∧ listed.getD i false = false) with h | h
          · exact h
          · exfalso
            have hall : ∀ i, i < ops.size → listed.getD i false = true := fun i hi => by
              cases hb : listed.getD i false with
              | true => rfl
              | false => exact absurd ⟨i, hi, hb⟩ h
            have h1 : (List.range ops.size).countP (fun i => listed.getD i false) = (List.range ops.size).length := List.countP_eq_length.2 (fun i hi => hall i (List.mem_range.1 hi))
            simp only [List.length_range] at h1
            rw [h1] at hf
            omega
        have least : ∀ m, (∃ i, i < ops.size ∧ i ≤ m ∧ listed.getD i false = false) → ∃ i, i < ops.size ∧ listed.getD i false = false ∧ ∀ j, j < i → listed.getD j false = true := by
          intro m
          induction m with
          | zero => rintro ⟨i, hi, h0', hb⟩; exact ⟨i, hi, hb, fun j hj => by omega⟩
          | succ m ihm =>
            rintro ⟨i, hi, hle, hb⟩
            rcases Classical.em (∃ i, i < ops.size ∧ i ≤ m ∧ listed.getD i false = false) with h | h
            · exact ihm h
            · refine ⟨i, hi, hb, fun j hj => ?_⟩
              cases hbj : listed.getD j false with
              | true => rfl
              | false => exact absurd ⟨j, by omega, by omega, hbj⟩ h
        obtain ⟨i0, hi0, hb0⟩ := hex
        obtain ⟨i, hi, hb, hbef⟩ := least i0 ⟨i0, hi0, Nat.le_refl _, hb0⟩
        obtain ⟨o, ho⟩ : ∃ o, ops[i]? = some o := ⟨_, Array.getElem?_eq_getElem hi⟩
        have hin : i ∈ Region.ready .any ops listed := by
          simp only [Region.ready, List.mem_filter, List.mem_range, Bool.and_eq_true, Bool.not_eq_true']
          refine ⟨hi, by rw [getD_lt _ _ (by omega)]; exact hb, ?_⟩
          simp only [ho, Option.map_some, Option.getD_some, Array.all_eq_true_iff_forall_mem]
          intro e he
          by_cases hbn : Region.binds .any e = true
          · rw [hbef _ (factsOk_edge hfo ho he hbn)]; simp
          · simp [hbn]
        rw [h0] at hin
        cases hin
      · intro i hi
        obtain ⟨hlt, hno, hdep⟩ := ready_mem hi
        rw [getD_lt _ _ (by omega)] at hno
        obtain ⟨o, ho⟩ : ∃ o, ops[i]? = some o := ⟨_, Array.getElem?_eq_getElem hlt⟩
        rcases Nat.lt_or_ge i k with hik | hik
        · -- one of the free ones
          have hso := hstep i o hik ho a' w' (listed.getD s false) hA hC hJ (fun hab => by
            cases hls : listed.getD s false with
            | false => rfl
            | true =>
              exfalso
              obtain ⟨os, hos⟩ : ∃ o, ops[s]? = some o := ⟨_, Array.getElem?_eq_getElem hso⟩
              have h2 := befores_spec hs ops.toList [] (by simp) (fun i o _ hlt => by simp at hlt) s os hos (fun e he hb => hs s os hos hls e he hb) i (by simpa [aheadB] using hab)
              rw [hno] at h2
              cases h2) (fun e => by rw [← e]; exact hno) (fun j oj t hjk hj hdt hab => hU j oj t hjk hj hdt (by
            rcases hab with hab | rfl
            · cases hls : listed.getD j false with
              | false => rfl
              | true =>
                exfalso
                have h2 := befores_spec hs ops.toList [] (by simp) (fun i o _ hlt => by simp at hlt) j oj hj (fun e he hb => hs j oj hj hls e he hb) i (by simpa [aheadB] using hab)
                rw [hno] at h2
                cases h2
            · exact hno)) (fun e he hb => by
            have hl := hdep o ho e he hb
            have hlt' := factsOk_edge hfo ho he hb
            exact hK e.on (by omega) (by omega) hl)
          have henv : ∀ (m : Nat) (om : Oper), ops[m]? = some om → (∀ e ∈ om.after, Region.binds .any e = true → e.on ≠ i) → ∀ (v : Value), ∀ e ∈ om.after, Region.binds .any e = true → ∀ o' d, ops[e.on]? = some o' → o'.dst = some d → envOf a' d = envOf (a'.put o.dst v) d := by
            intro m om hom hne v e he hb o' d ho' hd
            unfold envOf
            rw [put_other _ _ _ _ (fun hd' => factsOk_once hfo ho ho' (fun e1 => hne e he hb e1.symm) hd' hd)]
          have hnext : ∀ v w'', R i v (envOf a') w'' → ((if i = s then C w' w'' else C0 w' w'') ∧ J (if i = s then true else listed.getD s false) w'') → wpAnyIn F n P .any ops Q fuel (listed.setIfInBounds i true) (a'.put o.dst v) w'' := by
            intro v w'' hR hCJ
            have hC' : C w' w'' := by
              have h := hCJ.1
              by_cases e : i = s
              · simpa [e] using h
              · exact h0C (by simpa [e] using h)
            have hsj : ∀ j v env, j < k → j ≠ i → listed.getD j false = true → (∃ oj, ops[j]? = some oj) → R j v env w' → R j v env w'' := fun j v env hj hji hlj hoj hr => by
              by_cases e : j = s
              · subst e
                refine hst0 v env _ _ ?_ hr
                have h := hCJ.1
                rw [if_neg (fun e => hji e.symm)] at h
                exact h
              · refine hst j v env _ _ hj e ?_ hr
                cases ha : af j with
                | false => exact hC'
                | true =>
                  have h := hCJ.1
                  rw [cond_true]
                  by_cases ei : i = s
                  · exfalso
                    obtain ⟨oj, hoj⟩ := hoj
                    have h1 := List.all_eq_true.1 haf j (List.mem_range.2 hj)
                    have h2 := befores_spec hs ops.toList [] (by simp) (fun i o _ hlt => by simp at hlt) j oj hoj (fun e he hb => hs j oj hoj hlj e he hb) s (by simpa [aheadB, ha] using h1)
                    rw [← ei, hno] at h2
                    cases h2
                  · rwa [if_neg ei] at h
            refine ih _ _ _ (by simpa using hsz) ?_ ?_ ?_ (hA.put hik ho v) (hCt hC hC') ?_ ?_ ?_
            · have hc : (List.range ops.size).countP (fun j => (listed.setIfInBounds i true).getD j false) = (List.range ops.size).countP (fun j => listed.getD j false) + 1 := by
                have key : ∀ m, i < m → m ≤ ops.size → (List.range m).countP (fun j => (listed.setIfInBounds i true).getD j false) = (List.range m).countP (fun j => listed.getD j false) + 1 := by
                  intro m
                  induction m with
                  | zero => intro h _; omega
                  | succ m ihm =>
                    intro h hle
                    simp only [List.range_succ, List.countP_append, List.countP_singleton]
                    rcases Nat.lt_or_eq_of_le (Nat.lt_succ_iff.1 h) with h' | rfl
                    · rw [ihm h' (by omega), getD_set_other _ _ _ _ (by omega)]; omega
                    · have same : ∀ m, m ≤ i → (List.range m).countP (fun j => (listed.setIfInBounds i true).getD j false) = (List.range m).countP (fun j => listed.getD j false) := by
                        intro m hm
                        refine List.countP_congr (fun j hj => ?_)
                        rw [getD_set_other _ _ _ _ (by have := List.mem_range.1 hj; omega)]
                      rw [same i (Nat.le_refl _), getD_set_same _ _ _ (by omega), hno]
                      simp
                exact key ops.size hlt (Nat.le_refl _)
              rw [hc]; omega
            · intro j o' hj hlj e he hb
              by_cases e1 : i = e.on
              · rw [← e1, getD_set_same _ _ _ (by omega)]
              · rw [getD_set_other _ _ _ _ e1]
                by_cases e2 : i = j
                · subst e2
                  rw [ho] at hj; cases hj
                  exact hdep o ho e he hb
                · rw [getD_set_other _ _ _ _ e2] at hlj
                  exact hs j o' hj hlj e he hb
            · intro j hkj hj
              rw [getD_set_other _ _ _ _ (by omega)]
              exact hlate j hkj hj
            · have hJ' := hCJ.2
              by_cases e : i = s
              · subst e
                rw [getD_set_same _ _ _ (by omega)]
                simpa using hJ'
              · rw [getD_set_other _ _ _ _ e]
                simpa [e] using hJ'
            · intro j oj t hjk hj hdt hlj
              by_cases e1 : i = j
              · subst e1
                rw [getD_set_same _ _ _ (by omega)] at hlj
                cases hlj
              · rw [getD_set_other _ _ _ _ e1] at hlj
                rw [put_other _ _ _ _ (fun hd => factsOk_once hfo ho hj e1 hd hdt)]
                exact hU j oj t hjk hj hdt hlj
            · intro j hjk hj hlj
              by_cases e1 : i = j
              · subst e1
                intro o' ho'
                rw [ho] at ho'; cases ho'
                cases hd : o.dst with
                | none => exact ⟨v, hR⟩
                | some d =>
                  refine ⟨v, by rw [put_same _ _ _ (by rw [hA.size]; exact factsOk_dst hfo ho hd)], ?_⟩
                  rw [← hd]
                  exact hloc i o v _ _ _ hik ho (henv i o ho (fun e he hb e1 => by have := factsOk_edge hfo ho he hb; omega) v) hR
              · rw [getD_set_other _ _ _ _ e1] at hlj
                have hk := hK j hjk hj hlj
                intro o' ho'
                have hk' := hk o' ho'
                have hen := henv j o' ho' (fun e he hb e2 => by
                  have := hs j o' ho' hlj e he hb
                  rw [e2, hno] at this
                  cases this) v
                cases hd' : o'.dst with
                | none => rw [hd'] at hk'; obtain ⟨u, hu⟩ := hk'; exact ⟨u, hloc j o' u _ _ _ hjk ho' hen (hsj j _ _ hjk (fun e => e1 e.symm) hlj ⟨o', ho'⟩ hu)⟩
                | some d =>
                  rw [hd'] at hk'
                  obtain ⟨u, hu, hRu⟩ := hk'
                  exact ⟨u, by rw [put_other _ _ _ _ (fun hd => factsOk_once hfo ho ho' e1 hd hd')]; exact hu, hloc j o' u _ _ _ hjk ho' hen (hsj j _ _ hjk (fun e => e1 e.symm) hlj ⟨o', ho'⟩ hRu)⟩
          unfold StepOk at hso
          unfold wpOpIn
          simp only [ho]
          split
          · rename_i hw
            simp only [hw, if_true] at hso
            exact hso _ hnext
          · rename_i hw
            simp only [hw] at hso
            exact ⟨hso.1, hnext _ _ hso.2 ⟨(by by_cases e : i = s; exact (by simpa [e] using hCr _); exact (by simpa [e] using h00 _)), by
              by_cases e : i = s
              · subst e; exfalso; exact hw (by simp [Region.wanted, hsg o ho])
              · simpa [e] using hJ⟩⟩
        · -- the first of the last ones
          have hbefore := tailOk_before ht hs hik ho (hdep o ho)
          have hik' : i = k := by
            rcases Nat.lt_or_eq_of_le hik with h | h
            · have := hbefore k h; rw [hlate k (Nat.le_refl _) (by omega)] at this; cases this
            · exact h.symm
          subst hik'
          have hl : ∀ j, j < ops.size → listed.getD j false = decide (j < i) := by
            intro j hj
            rcases Nat.lt_or_ge j i with h | h
            · rw [hbefore j h]; simp [h]
            · rw [hlate j h hj]; simp; omega
          have hf' : fuel + 1 + i = ops.size := by
            have : (List.range ops.size).countP (fun j => listed.getD j false) = i := by
              have key : ∀ m, m ≤ ops.size → (List.range m).countP (fun j => listed.getD j false) = min m i := by
                intro m
                induction m with
                | zero => simp
                | succ m ihm =>
                  intro hm
                  simp only [List.range_succ, List.countP_append, List.countP_singleton]
                  rw [ihm (by omega), hl m (by omega)]
                  by_cases h : m < i <;> simp [h] <;> omega
              rw [key _ (Nat.le_refl _)]; omega
            omega
          have h := wpAnyIn_tail (F := F) (n := n) (P := P) (Q := Q) hfo ht (fuel + 1) listed i a' w' (Nat.le_refl _) hf' hsz hl (hend a' w' hA hC (by rw [hbefore s hsk] at hJ; exact hJ) (fun j hj hjs => hK j hj hjs (hbefore j hj)))
          exact h.2 i hi
  refine main ops.size _ a w.drew (by simp) ?_ ?_ ?_ (Agree.refl k a) hC0 ?_ (fun _ _ _ _ _ _ _ => rfl) ?_
  · have : (List.range ops.size).countP (fun i => (Array.replicate ops.size false).getD i false) = 0 := by
      rw [List.countP_eq_zero]
      intro i hi
      simp [Array.getD_eq_getD_getElem?, List.mem_range.1 hi]
    omega
  · intro i o hi hl
    exfalso
    have hlt : i < ops.size := (Array.getElem?_eq_some_iff.1 hi).1
    simp [Array.getD_eq_getD_getElem?, hlt] at hl
  · intro i _ hi
    simp [Array.getD_eq_getD_getElem?, hi]
  · have : (Array.replicate ops.size false).getD s false = false := by simp [Array.getD_eq_getD_getElem?, hso]
    rw [this]; exact hJ0
  · intro i _ hi hl
    exfalso
    simp [Array.getD_eq_getD_getElem?, hi] at hl

def StepsFromJU (F : Fence) (n : Nat) (P : Program) (ops : Array Oper) (Rl : List (Value → World → Prop)) (C C0 : World → World → Prop) (Q : Exit → Act → World → Prop) (a : Act) (w : World) (s : Nat) (J : Bool → World → Prop) : Nat → List Oper → Prop
  | _, [] => True
  | i, o :: rest => (∀ (a' : Act) (w' : World) (b : Bool), Agree ops Rl.length a a' → C w w' → J b w' → (aheadB ops s i = true → b = false) → (i = s → b = false) → (∀ (j : Nat) (oj : Oper) (t : Tmp), j < Rl.length → ops[j]? = some oj → oj.dst = some t → (aheadB ops j (i) = true ∨ j = i) → a'.tmps[t]? = a.tmps[t]?) → (∀ e ∈ o.after, Region.binds .any e = true → Known (fun i v _ w => factsAt Rl i v w) ops e.on a' w') →
      StepOk F n P ops (fun i v _ w => factsAt Rl i v w) (fun x y => (if i = s then C x y else C0 x y) ∧ J (if i = s then true else b) y) Q i o a' w') ∧
    StepsFromJU F n P ops Rl C C0 Q a w s J (i + 1) rest
theorem stepsFromJU_at {Rl : List (Value → World → Prop)} {C C0 : World → World → Prop} {a : Act} {w : World} {s : Nat} {J : Bool → World → Prop} : ∀ (l : List Oper) (j : Nat), StepsFromJU F n P ops Rl C C0 Q a w s J j l → ∀ (i : Nat) (o : Oper), l[i]? = some o →
    ∀ (a' : Act) (w' : World) (b : Bool), Agree ops Rl.length a a' → C w w' → J b w' → (aheadB ops s (j + i) = true → b = false) → (j + i = s → b = false) → (∀ (jj : Nat) (oj : Oper) (t : Tmp), jj < Rl.length → ops[jj]? = some oj → oj.dst = some t → (aheadB ops jj (j + i) = true ∨ jj = j + i) → a'.tmps[t]? = a.tmps[t]?) → (∀ e ∈ o.after, Region.binds .any e = true → Known (fun i v _ w => factsAt Rl i v w) ops e.on a' w') →
      StepOk F n P ops (fun i v _ w => factsAt Rl i v w) (fun x y => (if j + i = s then C x y else C0 x y) ∧ J (if j + i = s then true else b) y) Q (j + i) o a' w'
  | [], _, _, _, _, hi => by simp at hi
  | o :: rest, j, h, 0, o', hi => by
    simp only [List.getElem?_cons_zero, Option.some.injEq] at hi
    subst hi
    exact h.1
  | o :: rest, j, h, i + 1, o', hi => by
    have := stepsFromJU_at rest (j + 1) h.2 i o' (by simpa using hi)
    rw [Nat.add_assoc, Nat.add_comm 1 i] at this
    exact this

/-- All but fact s are stable under C; what comes behind s need be so under C0 alone. -/
def AllStableU (C C0 : World → World → Prop) (s : Nat) (af : Nat → Bool) : Nat → List (Value → World → Prop) → Prop
  | _, [] => True
  | i, r :: rs => (∀ v x y, cond (Nat.beq i s || af i) (C0 x y) (C x y) → r v x → r v y) ∧ AllStableU C C0 s af (i + 1) rs
theorem AllStableU.at {C C0 : World → World → Prop} {s : Nat} {af : Nat → Bool} : ∀ {Rl : List (Value → World → Prop)} {m : Nat} (_ : AllStableU C C0 s af m Rl) (i : Nat) (v : Value) (x y : World), cond (Nat.beq (m + i) s || af (m + i)) (C0 x y) (C x y) → factsAt Rl i v x → factsAt Rl i v y
  | [], _, _, _, _, _, _, _, _ => trivial
  | _ :: _, _, h, 0, v, x, y, hC, hr => h.1 v x y hC hr
  | _ :: _, m, h, i + 1, v, x, y, hC, hr => AllStableU.at h.2 i v x y (by rw [Nat.add_assoc, Nat.add_comm 1 i]; exact hC) hr
theorem wp_region_storeU (af : Nat → Bool) {id : Nat} {a : Act} {w : World} (k : Nat) (s : Nat) (J : Bool → World → Prop) (hm : P.follows .mixedOrders = true) (Rl : List (Value → World → Prop)) (C : World → World → Prop) (hk : Rl.length = k)
    (hCr : ∀ x : World, C x x) (hCt : ∀ {x y z : World}, C x y → C y z → C x z) (C0 : World → World → Prop) (h00 : ∀ x, C0 x x) (h0C : ∀ {x y : World}, C0 x y → C x y) (haf : ((List.range Rl.length).all fun i => !af i || aheadB ops i s) = true) (hst : AllStableU C C0 s af 0 Rl)
    (hfo : factsOk ops a.tmps.size = true) (ht : tailOk ops k = true) (hC0 : C w w.drew) (hsk : s < k) (hso : s < ops.size) (hJ0 : J false w.drew) (hsg : (ops[s]?).map (·.guard) = some none)
    (hsteps : StepsFromJU F n P ops Rl C C0 Q a w s J 0 (ops.toList.take k))
    (hend : ∀ w', C w w' → J true w' → EndFrom (fun a' => wpListIn F n P ops Q (ops.toList.drop k) a' w') w' ops.toList Rl a) :
    (Code.region id ops true).wpIn F n P Q a w := by
  subst hk
  refine wpIn_region_storeU hm Rl.length (fun i v _ w => factsAt Rl i v w) C hCr hCt C0 h00 h0C s af haf (fun i v _ x y _ hne hC => hst.at i v x y (by rw [Nat.zero_add]; cases ha : af i <;> rw [ha] at hC <;> simp [Nat.beq_eq, hne] <;> simpa using hC)) (fun v _ x y hC => hst.at s v x y (by rw [Nat.zero_add]; simp [Nat.beq_eq]; exact hC)) (fun _ _ _ _ _ _ _ _ _ h => h) hfo ht hC0 hsk hso J hJ0 (fun o ho => by rw [ho] at hsg; simpa using hsg) ?_ ?_
  · intro i o hik hi a' w' b hA hC hJ hb1 hb2 hU hD
    have hi' : (ops.toList.take Rl.length)[i]? = some o := by
      rw [List.getElem?_take_of_lt hik]
      simpa using hi
    have := stepsFromJU_at _ 0 hsteps i o hi' a' w' b hA hC hJ (by rw [Nat.zero_add]; exact hb1) (by rw [Nat.zero_add]; exact hb2) (by rw [Nat.zero_add]; exact hU) hD
    rw [Nat.zero_add] at this
    exact this
  · intro a' w' hA hC hJ hK
    exact endFrom_of (K := fun a' => wpListIn F n P ops Q (ops.toList.drop Rl.length) a' w') hfo hA.size 0 a rfl hA.defers.symm (by simpa using hend w' hC hJ) hK (fun t ht => hA.slot t (fun i o hil hi => ht i o (Nat.zero_le _) hil hi))
end
/-- slices.Clone of a slice that holds nothing, wherever it points. -/
theorem cloneEmpty {P : Program} {ρ : Ren} (L : SlLaysE0.n41 P ρ) (i0 : TypeInfo) (z : Value) (size bytes : Nat) (hi : P.info? (ρ.t 23) = some i0) (hz0 : i0.zero = some z) (hz1 : i0.size = size) (hz2 : i0.bytes = bytes) (hzs : z.cells.size = size) (hsz : 0 < size)
    (z23 : ∀ w, (Go.sizeOf (ρ.t 23)).run P w = .ok size w) (a : Addr) (c : Nat) (w : World) :
    Calls P (ρ.f 41) #[.slice (some a) 0 c] w fun e w' => ∃ v', e = .returned v' ∧ w'.ownsRow w.heap.size (ρ.t 23) size v' 0 [] ∧ Below w.heap.size w w' := by
  have mixed := L.mixed; have t4 := L.t4; have a4 := L.a4; have z4 := L.z4; have v4 := L.v4; have t22 := L.t22; have a22 := L.a22; have z22 := L.z22; have v22 := L.v22
  have q22 : ∀ (w : World) (a : Option Addr) (n c n' c' : Nat), (binOp .eql (ρ.t 22) (.slice a n c) (.slice none n' c')).run P w = .ok (.bool a.isNone) w := fun w a n c n' c' => Lib.run_eql_slice_nil w _ _ a n c n' c' L.t22
  have u22 : ∀ w, Sem.run P (underlying (ρ.t 22)) w = .ok (TypeDesc.slice (ρ.t 23)) w := run_underlying t22
  obtain ⟨_, _, FG⟩ := L.f41
  go_enter FG, SlBodyN.n41_ntmps ρ
  go_wp2_with (at_builtin; refine wpList_append_own _ rfl _ _ (ρ.t 22) rfl w.heap.size (ρ.t 23) i0 z size bytes t22 hi hz0 hz1 hz2 hzs hsz _ _ _ rfl (World.ownsRow_made w #[] 0 (Nat.le_refl _) (Nat.zero_le _) (by simp)) a 0 c [] rfl ?qc1 ?qc2 ?qc3 ?qc4 ?qc5 ?qc6 ?_)
  case qc1 => simp
  case qc2 => intro j u hj; simp at hj
  case qc3 => simp
  case qc4 => exact Nat.zero_le _
  case qc5 => simp
  case qc6 => simp
  intro v' w1 hown hgrow hnil
  go_wp2
  go_ret
  refine ⟨v', rfl, by simpa using hown, ?_⟩
  exact ((Below.refl _ w).alloc (Nat.le_refl _) _).grown hgrow (by simp) (by intro k hk; simp [Value.ownBlock] at hk; omega)

/-- A row to be read, in blocks of the call's own. -/
def GotF {α : Type} (k : Nat) (enc : α → List Value) (L : List α) (n : Nat) (w : World) (e : Ending) (w' : World) : Prop :=
  ∃ a cap, e = .returned (.slice a n cap) ∧ Elems w' (.slice a n cap) n k (rowC enc L) ∧ Below w.heap.size w w' ∧ ∀ b ∈ aBlk a, w.heap.size ≤ b
theorem ownsRow_gotF {α : Type} {E : TypeId} {k : Nat} {enc : α → List Value} (hk : ∀ q, (enc q).length = k) {L : List α} {v : Value} {w w' : World} (hr : w'.ownsRow w.heap.size E k v L.length (L.flatMap enc)) (hb : Below w.heap.size w w') : GotF k enc L L.length w (.returned v) w' := by
  have he := ownsRow_rows hk hr
  have hc : ∃ a cap, v = .slice a L.length cap ∧ ∀ b ∈ aBlk a, w.heap.size ≤ b := by
    rcases hr.2 with ⟨rfl, h0⟩ | ⟨g, cap, cur, rfl, h1, _⟩
    · exact ⟨none, 0, by rw [h0], by simp [aBlk]⟩
    · exact ⟨_, cap, rfl, by simp [aBlk]; exact h1⟩
  obtain ⟨a, cap, rfl, h1⟩ := hc
  exact ⟨a, cap, rfl, he, hb, h1⟩
theorem cloneS_got (a : Option Addr) (cap : Nat) (l : List SpT) (w : World) (h : l.length = 0 ∨ Elems w (.slice a l.length cap) l.length 3 (rowC encS l)) (hl : l.length ≤ 1000000000) :
    Calls Try.prog 48 #[.slice a l.length cap] w (GotF 3 encS l l.length w) := by
  rcases h with h | h
  · obtain rfl : l = [] := List.length_eq_zero_iff.1 h
    rcases a with _ | a
    · refine (AnyE.slices_Clone_nil lay_cloneS 0 cap w).mono ?_
      rintro e w' ⟨rfl, rfl⟩
      exact ⟨none, 0, rfl, .inl ⟨rfl, rfl⟩, Below.refl _ _, by simp [aBlk]⟩
    · obtain ⟨i0, hi, hz0, hz1, hz2⟩ := info_parts infoS
      refine (cloneEmpty lay_cloneS i0 _ 3 24 hi hz0 hz1 hz2 rfl (by omega) Try.sizeOf39 a cap w).mono ?_
      rintro e w' ⟨v', rfl, hr, hb⟩
      exact ownsRow_gotF (L := ([] : List SpT)) encS_len hr hb
  · refine (cloneS_any _ l w h hl).mono ?_
    rintro e w' ⟨v, rfl, hr, -, hb⟩
    exact ownsRow_gotF encS_len hr hb
set_option maxRecDepth 100000 in
set_option maxHeartbeats 1000000 in
theorem few_got (a : Option Addr) (n cap : Nat) (l : List SpT) (hl : l.length = n) (hc : n ≤ cap) (hc2 : cap ≤ 9223372036854775807) (w : World) (h : n = 0 ∨ Elems w (.slice a n cap) n 3 (rowC encS l)) :
    Calls Try.prog 19 #[.slice a n cap] w (GotF 3 encS (l.take 40) (l.take 40).length w) := by
  obtain ⟨m, hm⟩ : ∃ m, min n 40 = m := ⟨_, rfl⟩
  have hlm : (l.take m).length = m := by rw [List.length_take]; omega
  have htk : l.take 40 = l.take m := by
    by_cases h40 : n ≤ 40
    · rw [List.take_of_length_le (by omega), List.take_of_length_le (by omega)]
    · rw [show m = 40 by omega]
  have HCL := Lib.hid (cloneS_got a cap (l.take m) w (by
    rw [hlm]
    rcases h with h | h
    · exact .inl (by omega)
    · exact .inr (Elems.take encS_len hl h (show m ≤ n by omega))) (by omega))
  rw [hlm] at HCL
  have e1 : min (n : Int) 40 = (m : Int) := by omega
  rw [htk, hlm]
  clear hlm htk h hl
  go_enter Try.func19, Try.ntmps19
  go_wp2_with fail
  refine HCL.out.mono ?_
  rintro e w2 ⟨a2, c2, rfl, h2, h3, h4⟩
  have HR := Lib.hid (And.intro h2 (And.intro h3 h4))
  clear h2 h3 h4 HCL
  go_wp2_with fail
  go_ret
  exact ⟨a2, c2, rfl, HR.out⟩

/-- A row of rows, as an argument reads. -/
def RowsW (w : World) (a : Option Addr) (ls : List (List SpT)) : Prop := ∀ k l, ls[k]? = some l → ∃ b off a' cap', a = some ⟨b, off, none⟩ ∧ b < w.heap.size ∧ w.cell? ⟨b, off + k, none⟩ = some (.slice a' l.length cap') ∧ l.length ≤ cap' ∧ cap' ≤ 9223372036854775807 ∧ (l.length = 0 ∨ Elems w (.slice a' l.length cap') l.length 3 (rowC encS l))

/-- A row that is kept in a row. -/
structure RowD where
  a : Option Addr
  c : Nat
  l : List SpT
def encR (r : RowD) : List Value := [.slice r.a r.l.length r.c]
theorem encR_len (r : RowD) : (encR r).length = 1 := rfl
theorem encR_one (r : RowD) : ∀ u ∈ encR r, u.oneCell' = true := by
  intro u hu
  simp only [encR, List.mem_singleton] at hu
  subst hu
  rfl
/-- A row of the call's own of rows that are read. -/
structure OwnRs (base : Nat) (v : Value) (Rs : List RowD) (w : World) : Prop where
  row : w.ownsRow base 29 1 v Rs.length (Rs.flatMap encR)
  each : ∀ r ∈ Rs, Elems w (.slice r.a r.l.length r.c) r.l.length 3 (rowC encS r.l) ∧ ∀ g, v.ownBlock = some g → g ∉ aBlk r.a
theorem OwnRs.below {base : Nat} {v : Value} {Rs : List RowD} {w w' : World} (h : OwnRs base v Rs w) (hb : Below w.heap.size w w') : OwnRs base v Rs w' :=
  ⟨ownsRow_below h.row hb, fun r hr => ⟨(h.each r hr).1.below hb, (h.each r hr).2⟩⟩
theorem OwnRs.lt {base : Nat} {v : Value} {Rs : List RowD} {w : World} (h : OwnRs base v Rs w) (g : Nat) (hg : v.ownBlock = some g ∨ ∃ r ∈ Rs, g ∈ aBlk r.a) : g < w.heap.size := by
  rcases hg with hg | ⟨r, hr, hg⟩
  · exact (h.row.lt g hg).2
  · exact aBlk_lt (h.each r hr).1 g hg
theorem elems_turned {w w' : World} {S : Nat → Prop} {a : Option Addr} {n cap k : Nat} {c : Nat → Value} (h : Elems w (.slice a n cap) n k c) (ht : Turned S w w') (hS : ∀ b ∈ aBlk a, ¬ S b) : Elems w' (.slice a n cap) n k c := by
  rcases h with h | ⟨b, off, cap', e, hlt, hc⟩
  · exact .inl h
  · cases e
    exact .inr ⟨b, off, cap, rfl, Nat.lt_of_lt_of_le hlt ht.size, fun j hj => (World.cell?_of_block (ht.block b hlt (hS b (by simp [aBlk])))).trans (hc j hj)⟩
theorem OwnRs.turned {base : Nat} {v : Value} {Rs : List RowD} {w w' : World} {S : Nat → Prop} (h : OwnRs base v Rs w) (ht : Turned S w w') (hS : ∀ g, (v.ownBlock = some g ∨ ∃ r ∈ Rs, g ∈ aBlk r.a) → ¬ S g) : OwnRs base v Rs w' := by
  refine ⟨⟨h.row.1, ?_⟩, fun r hr => ⟨elems_turned (h.each r hr).1 ht (fun b hb => hS b (.inr ⟨r, hr, hb⟩)), (h.each r hr).2⟩⟩
  rcases h.row.2 with hn | ⟨g, cap, cur, rfl, hg, hgg, rest⟩
  · exact .inl hn
  · exact .inr ⟨g, cap, cur, rfl, hg, (ht.block g (block_lt hgg) (hS g (.inl rfl))).trans hgg, rest⟩
theorem OwnRs.push {base : Nat} {v v' : Value} {Rs : List RowD} {r : RowD} {w w' : World} (h : OwnRs base v Rs w) (he : Elems w (.slice r.a r.l.length r.c) r.l.length 3 (rowC encS r.l)) (hr : ∀ g, v.ownBlock = some g → g ∉ aBlk r.a)
    (hg : w.grownBy w' v.ownBlock) (hrow : w'.ownsRow base 29 1 v' (Rs ++ [r]).length ((Rs ++ [r]).flatMap encR)) (hloc : Loc v v' w.heap.size) : OwnRs base v' (Rs ++ [r]) w' := by
  have ht := Turned.of_grown hg
  have key : ∀ q : RowD, (Elems w (.slice q.a q.l.length q.c) q.l.length 3 (rowC encS q.l) ∧ ∀ g, v.ownBlock = some g → g ∉ aBlk q.a) → Elems w' (.slice q.a q.l.length q.c) q.l.length 3 (rowC encS q.l) ∧ ∀ g, v'.ownBlock = some g → g ∉ aBlk q.a := fun q hq => by
    refine ⟨elems_turned hq.1 ht (fun b hb hs => hq.2 b hs.symm hb), fun g hg' hm => ?_⟩
    rcases hloc with h1 | ⟨g', h1, h2⟩
    · exact hq.2 g (h1.symm.trans hg') hm
    · rw [h1] at hg'
      cases hg'
      have := aBlk_lt hq.1 _ hm
      omega
  refine ⟨hrow, fun q hq => key q ?_⟩
  rcases List.mem_append.1 hq with hq | hq
  · exact h.each q hq
  · simp at hq
    subst hq
    exact ⟨he, hr⟩
theorem OwnRs.rowsR {base : Nat} {v : Value} {Rs : List RowD} {w : World} (h : OwnRs base v Rs w) : ∃ a cap, v = .slice a Rs.length cap ∧ RowsR w a (Rs.map (·.l)) ∧ ∀ (k : Nat) (r : RowD), Rs[k]? = some r → ∃ g, a = some ⟨g, 0, none⟩ ∧ w.cell? ⟨g, k, none⟩ = some (.slice r.a r.l.length r.c) := by
  have he := ownsRow_rows encR_len h.row
  have key : ∃ a cap, v = .slice a Rs.length cap ∧ ∀ (k : Nat) (r : RowD), Rs[k]? = some r → ∃ g, a = some ⟨g, 0, none⟩ ∧ g < w.heap.size ∧ w.cell? ⟨g, k, none⟩ = some (.slice r.a r.l.length r.c) := by
    rcases h.row.2 with ⟨rfl, h0⟩ | ⟨g, cap, cur, rfl, _, hgg, _⟩
    · exact ⟨none, 0, by rw [h0], fun k r hk => by have := (List.getElem?_eq_some_iff.1 hk).1; omega⟩
    · refine ⟨some ⟨g, 0, none⟩, cap, rfl, fun k r hk => ⟨g, rfl, block_lt hgg, ?_⟩⟩
      rcases he with ⟨e, _⟩ | ⟨b, off, cap', e, hlt, hc⟩
      · cases e
      · cases e
        have g0 := rowElem encR_len hc hk 0 _ rfl
        simpa using g0
  obtain ⟨a, cap, e, hk⟩ := key
  refine ⟨a, cap, e, fun k l hl => ?_, fun k r hr => ?_⟩
  · rw [List.getElem?_map] at hl
    obtain ⟨r, hr, rfl⟩ := Option.map_eq_some_iff.1 hl
    obtain ⟨g, h1, h2, h3⟩ := hk k r hr
    exact ⟨g, 0, r.a, r.c, h1, h2, by rw [Nat.zero_add]; exact h3, (h.each r (List.mem_of_getElem? hr)).1⟩
  · obtain ⟨g, h1, _, h3⟩ := hk k r hr
    exact ⟨g, h1, h3⟩

/-- What a round of ShapeRows keeps. -/
structure Rnd (w0 : World) (B0 : Nat) (its : List It) (v : Value) (Rs : List RowD) (Ds : List Nat) (W : World) : Prop where
  hB : w0.heap.size ≤ B0
  hW : B0 ≤ W.heap.size
  st : St w0 its W
  own : OwnRs B0 v Rs W
  mks : Marks w0.heap.size Ds W
namespace Rnd
variable {w0 W W' : World} {B0 : Nat} {its : List It} {v : Value} {Rs : List RowD} {Ds : List Nat}
theorem below (h : Rnd w0 B0 its v Rs Ds W) (hb : Below W.heap.size W W') : Rnd w0 B0 its v Rs Ds W' := ⟨h.hB, Nat.le_trans h.hW hb.size, h.st.below hb, h.own.below hb, h.mks.below hb⟩
theorem alloc (h : Rnd w0 B0 its v Rs Ds W) (o : Obj) : Rnd w0 B0 (.blk W.heap.size o :: its) v Rs Ds (W.alloc o) :=
  ⟨h.hB, by rw [World.size_alloc]; exact Nat.le_succ_of_le h.hW, h.st.alloc o, h.own.below ((Below.refl _ _).alloc (Nat.le_refl _) o), h.mks.below ((Below.refl _ _).alloc (Nat.le_refl _) o)⟩
theorem addRow (h : Rnd w0 B0 its v Rs Ds W) {sv : Value} {n size : Nat} {c : Nat → Value} (he : Elems W sv n size c) : Rnd w0 B0 (.row sv n size c W.heap.size :: its) v Rs Ds W := ⟨h.hB, h.hW, h.st.addRow he, h.own, h.mks⟩
theorem blockAt (h : Rnd w0 B0 its v Rs Ds W) (i : Nat) {b : Nat} {o : Obj} (hi : its[i]? = some (.blk b o)) : W.heap[b]? = some o := h.st.blockAt i hi
theorem elems (h : Rnd w0 B0 its v Rs Ds W) (i : Nat) {sv : Value} {n size : Nat} {c : Nat → Value} {hi' : Nat} (hi : its[i]? = some (.row sv n size c hi')) : Elems W sv n size c := h.st.elems i hi
theorem lt (h : Rnd w0 B0 its v Rs Ds W) (i : Nat) {b : Nat} {o : Obj} (hi : its[i]? = some (.blk b o)) : b < W.heap.size := h.st.lt i hi
theorem low (h : Rnd w0 B0 its v Rs Ds W) : Below w0.heap.size w0 W := h.st.low
theorem sub {its' : List It} (h : Rnd w0 B0 its v Rs Ds W) (hs : its'.Sublist its) : Rnd w0 B0 its' v Rs Ds W := ⟨h.hB, h.hW, h.st.sub hs, h.own, h.mks⟩
theorem mark (h : Rnd w0 B0 its v Rs Ds W) {D B : Nat} (hB : w0.heap.size ≤ D) (hD : ∀ E ∈ Ds, E < B) (hBD : B ≤ D) (hK : W.heap[D]? = some (.deferred (some []))) : Rnd w0 B0 its v Rs (D :: Ds) W :=
  ⟨h.hB, h.hW, h.st, h.own, List.nodup_cons.2 ⟨fun hm => by have := hD D hm; omega, h.mks.nd⟩, fun E hE => by
    rcases List.mem_cons.1 hE with rfl | hE
    · exact ⟨hB, hK⟩
    · exact h.mks.blk E hE⟩
theorem markLt (h : Rnd w0 B0 its v Rs Ds W) : ∀ E ∈ Ds, E < W.heap.size := fun E hE => block_lt (h.mks.blk E hE).2
/-- A block of cells is written, behind all that the rows need. -/
theorem putAt {p : Nat} {c c' : Array Value} {t : TypeId} {f : Nat × Nat} {pre post : List It} (h : Rnd w0 B0 (pre ++ .blk p (.cells c t f) :: post) v Rs Ds W) (hpre : ∀ i ∈ pre, ∃ b ob, i = .blk b ob) (k : Nat) (x : Value) (hc : c.setIfInBounds k x = c')
    (hp : ∀ g, (v.ownBlock = some g ∨ ∃ r ∈ Rs, g ∈ aBlk r.a) → g < p) : Rnd w0 B0 (pre ++ .blk p (.cells c' t f) :: post) v Rs Ds (W.setCell ⟨p, k, none⟩ x) := by
  have hb := h.st.ok (.blk p (.cells c t f)) (List.mem_append.2 (.inr (by simp)))
  have ht : Turned (fun k => k = p) W (W.setCell ⟨p, k, none⟩ x) := ⟨rfl, rfl, rfl, by rw [World.size_setCell]; exact Nat.le_refl _, fun j _ hj => Below.heap_setCell W ⟨p, k, none⟩ x j hj⟩
  refine ⟨h.hB, by rw [World.size_setCell]; exact h.hW, h.st.putAt hpre k x hc, h.own.turned ht (fun g hg e => by have := hp g hg; omega), h.mks.keep fun j hj => (Below.heap_setCell W ⟨p, k, none⟩ x j (fun e => ?_)).trans hj⟩
  have e' : j = p := e
  subst e'
  rw [show W.heap[j]? = some (.cells c t f) from hb] at hj
  cases hj
/-- A row is appended. -/
theorem push {v' : Value} {r : RowD} (h : Rnd w0 B0 its v Rs Ds W) (hf : ∀ i ∈ its, ∀ g, v.ownBlock = some g → i.free (fun k => k = g)) (he : Elems W (.slice r.a r.l.length r.c) r.l.length 3 (rowC encS r.l)) (hr : ∀ g, v.ownBlock = some g → g ∉ aBlk r.a)
    (hg : W.grownBy W' v.ownBlock) (hrow : W'.ownsRow B0 29 1 v' (Rs ++ [r]).length ((Rs ++ [r]).flatMap encR)) (hloc : Loc v v' W.heap.size) : Rnd w0 B0 its v' (Rs ++ [r]) Ds W' := by
  have ht := Turned.of_grown hg
  refine ⟨h.hB, Nat.le_trans h.hW hg.size, h.st.turned ht (fun k hk => Nat.le_trans h.hB (h.own.row.lt k hk.symm).1) (fun i hi => ?_), h.own.push he hr hg hrow hloc, h.mks.keep fun k hk => (ht.block k (block_lt hk) (fun e => ?_)).trans hk⟩
  · cases hv : v.ownBlock with
    | none => cases i <;> simp [It.free]
    | some g =>
      have := hf i hi g hv
      cases i <;> simp [It.free] at this ⊢ <;> omega
  · rcases h.own.row.2 with ⟨rfl, _⟩ | ⟨g, cap, cur, rfl, _, hgg, _⟩
    · simp [Value.ownBlock] at e
    · simp [Value.ownBlock] at e
      subst e
      rw [hgg] at hk
      cases hk
end Rnd
theorem ownFrom_OwnRs {β : Type} {B base : Nat} {v : Value} {Rs : List RowD} : OwnFrom B (fun (_ : β) W => OwnRs base v Rs W) := fun _ W W' row h hg hr => by
  have hr' : ∀ r, row = some r → ∃ o : Obj, W.heap[r]? = some o ∧ o.isCells = false := fun r e => (hr r e).2
  have hb : ∀ (k : Nat) (o : Obj), W.heap[k]? = some o → o.isCells = true → W'.heap[k]? = some o := fun k o hk ho => (grownBy_keeps_cells hg hr' hk ho).trans hk
  refine ⟨⟨h.row.1, ?_⟩, fun r hr2 => ⟨?_, (h.each r hr2).2⟩⟩
  · rcases h.row.2 with hn | ⟨g, cap, cur, rfl, hg', hgg, rest⟩
    · exact .inl hn
    · exact .inr ⟨g, cap, cur, rfl, hg', hb _ _ hgg rfl, rest⟩
  · rcases (h.each r hr2).1 with e | ⟨b, off, cap, e, hlt, hcs⟩
    · exact .inl e
    · exact .inr ⟨b, off, cap, e, Nat.lt_of_lt_of_le hlt hg.size, fun j hj => cell_kept (hcs j hj) hg hr'⟩
theorem ownFrom_Rnd {β : Type} {B B0 : Nat} {w0 : World} {v : Value} {Rs : List RowD} {Ds : List Nat} (its : β → List It) (hB0 : w0.heap.size ≤ B0) (hB : w0.heap.size ≤ B) (hc : ∀ s b o, .blk b o ∈ its s → o.isCells = true) (hD : ∀ D ∈ Ds, D < B) : OwnFrom B (fun s W => Rnd w0 B0 (its s) v Rs Ds W) := fun s W W' row h hg hr =>
  ⟨hB0, Nat.le_trans h.hW hg.size, ownFrom_St its hB hc s W W' row h.st hg hr, ownFrom_OwnRs (B := B) (β := β) s W W' row h.own hg hr, ownFrom_marks (β := β) (lo := w0.heap.size) hD s W W' row h.mks hg hr⟩
theorem stop_atI {F : Fence} {n : Nat} {P : Program} {id : Nat} {ops : Array Oper} {d : Bool} {Q : Exit → Act → World → Prop} {a : Act} {w : World} (h : (Code.region id ops d).wpIn F n P Q a w) : (Code.region id ops d).wpIn F n P Q a w := h
/-- The one operation that is ready. -/
theorem any_one {F : Fence} {n : Nat} {P : Program} {ops : Array Oper} {Q : Exit → Act → World → Prop} {i : Nat} {oi : Oper} {fuel : Nat} {listed : Array Bool} {a : Act} {w : World} (hi : ops[i]? = some oi) (hr : Region.ready .any ops listed = [i])
    (h : ∀ K' : Act → World → Prop, (∀ a w, wpAnyIn F n P .any ops Q fuel (listed.setIfInBounds i true) a w → K' a w) → if Region.wanted oi (yielded ops a.tmps) = true then Oper.wpIn F n P oi a w K' Q else (∀ f, oi.about P w a.eval = some f → F.fn f) ∧ K' (a.put oi.dst undef) w) :
    wpAnyIn F n P .any ops Q (fuel + 1) listed a w :=
  wpAnyIn_ready hr (by simp) (AllReadyIn.cons hi h AllReadyIn.nil)
theorem setS_get {S : List Nat} {u : Nat → Value} {tm : Array Value} {s : Nat} (hs : s ∈ S) (hz : s < tm.size) : (setS S u tm).getD s undef = u s := by
  have key : ∀ (S : List Nat) (tm : Array Value), s < tm.size → (s ∈ S ∨ tm[s]? = some (u s)) → (setS S u tm)[s]? = some (u s) := by
    intro S
    induction S with
    | nil => intro tm _ h; exact h.resolve_left (by simp)
    | cons x S ih =>
      intro tm hz h
      unfold setS
      rw [List.foldl_cons]
      refine ih _ (by simpa using hz) ?_
      by_cases hx : x = s
      · subst hx
        right
        simp [hz]
      · rcases h with h | h
        · rcases List.mem_cons.1 h with h | h
          · exact absurd h.symm hx
          · exact .inl h
        · right
          rw [Array.getElem?_setIfInBounds_ne hx]
          exact h
  rw [Array.getD_eq_getD_getElem?, key S tm hz (.inl hs)]
  rfl
/-- A round of such a loop whose measure stands in one slot. -/
def RoundS (S : List Nat) (R : (Nat → Value) → List Deferred → World → Prop) (tm0 : Array Value) (s : Nat) (mu : Value → Nat) (m : Nat) (a' : Act) (w' : World) : Prop := (∃ (u' : Nat → Value) (ds' : List Deferred), R u' ds' w' ∧ a' = ⟨setS S u' tm0, ds'⟩) ∧ mu (a'.tmps.getD s undef) < m
theorem roundS_of {S : List Nat} {R : (Nat → Value) → List Deferred → World → Prop} {tm0 : Array Value} {s : Nat} {mu : Value → Nat} {m : Nat} {tm : Array Value} {ds : List Deferred} {w' : World} (he : setS S (fun t => tm.getD t undef) tm0 = tm) (hR : R (fun t => tm.getD t undef) ds w') (hm : mu (tm.getD s undef) < m) : RoundS S R tm0 s mu m ⟨tm, ds⟩ w' :=
  ⟨⟨_, ds, hR, by rw [he]⟩, hm⟩
/-- The second row where a slot is in S, the first one elsewhere. -/
def mixL (S : List Nat) : Nat → List Value → List Value → List Value
  | i, x :: xs, y :: ys => cond (S.any (Nat.beq i)) y x :: mixL S (i + 1) xs ys
  | _, _, _ => []
theorem mixL_get (S : List Nat) : ∀ (xs ys : List Value) (i k : Nat) (h1 : k < xs.length) (h2 : k < ys.length), (mixL S i xs ys)[k]? = some (cond (S.any (Nat.beq (i + k))) ys[k] xs[k])
  | x :: xs, y :: ys, i, 0, _, _ => rfl
  | x :: xs, y :: ys, i, k + 1, h1, h2 => by
    have := mixL_get S xs ys (i + 1) k (by simpa using h1) (by simpa using h2)
    rw [show i + (k + 1) = i + 1 + k by omega]
    simpa [mixL] using this
theorem setS_get? {S : List Nat} {u : Nat → Value} : ∀ (S' : List Nat) (tm : Array Value) (s : Nat), S' = S → (setS S' u tm)[s]? = if s ∈ S' ∧ s < tm.size then some (u s) else tm[s]? := by
  intro S'
  suffices h : ∀ (S' : List Nat) (tm : Array Value) (s : Nat), (setS S' u tm)[s]? = if s ∈ S' ∧ s < tm.size then some (u s) else tm[s]? from fun tm s _ => h S' tm s
  intro S'
  induction S' with
  | nil => intro tm s; simp [setS]
  | cons x S' ih =>
    intro tm s
    have e : setS (x :: S') u tm = setS S' u (tm.setIfInBounds x (u x)) := rfl
    rw [e, ih, Array.size_setIfInBounds, Array.getElem?_setIfInBounds]
    by_cases hs : s < tm.size
    · by_cases hx : x = s
      · subst hx; simp [hs]
      · have : ¬ s = x := fun e => hx e.symm
        simp [hs, hx, this]
    · have : tm[s]? = none := Array.getElem?_eq_none (by omega)
      by_cases hx : x = s
      · subst hx; simp [hs]
      · simp [hs, hx]
theorem setS_mix {S : List Nat} {tm tm0 : Array Value} (hz : tm.toList.length = tm0.toList.length) (h : mixL S 0 tm0.toList tm.toList = tm.toList) : setS S (fun t => tm.getD t undef) tm0 = tm := by
  have hz' : tm.size = tm0.size := by simpa using hz
  refine Array.ext_getElem? fun i => ?_
  rw [setS_get? (S := S) S tm0 i rfl]
  by_cases hi : i < tm0.size
  · by_cases hs : i ∈ S
    · rw [if_pos ⟨hs, hi⟩, Array.getD_eq_getD_getElem?, Array.getElem?_eq_getElem (by omega)]
      rfl
    · rw [if_neg (fun h => hs h.1)]
      have h1 := mixL_get S tm0.toList tm.toList 0 i (by simpa using hi) (by simp; omega)
      have h2 : S.any (Nat.beq (0 + i)) = false := by
        rw [Nat.zero_add, List.any_eq_false]
        intro x hx hb
        have := Nat.eq_of_beq_eq_true hb
        exact hs (this ▸ hx)
      rw [h, h2, cond_false] at h1
      rw [← Array.getElem?_toList, ← Array.getElem?_toList, h1, List.getElem?_eq_getElem (by simpa using hi)]
  · rw [if_neg (fun h => hi h.2), Array.getElem?_eq_none (by omega), Array.getElem?_eq_none (by omega)]
theorem roundS_mix {S : List Nat} {R : (Nat → Value) → List Deferred → World → Prop} {tm0 : Array Value} {s : Nat} {mu : Value → Nat} {m : Nat} {tm : Array Value} {ds : List Deferred} {w' : World} (v' : Value) (hz : tm.toList.length = tm0.toList.length) (he : mixL S 0 tm0.toList tm.toList = tm.toList) (hR : R (fun t => tm.getD t undef) ds w') (hv : tm.getD s undef = v') (hm : mu v' < m) : RoundS S R tm0 s mu m ⟨tm, ds⟩ w' :=
  roundS_of (setS_mix hz he) hR (by rw [hv]; exact hm)
theorem wpIn_loopS {F : Fence} {n : Nat} {P : Program} {c : Code} {Q : Exit → Act → World → Prop} {a : Act} {w : World} (S : List Nat) (s : Nat) (hs : s ∈ S) (hz : s < a.tmps.size) (R : (Nat → Value) → List Deferred → World → Prop) (mu : Value → Nat)
    (h0 : R (fun t => a.tmps.getD t undef) a.defers w)
    (hr : ∀ (u : Nat → Value) (ds : List Deferred) (wr : World), R u ds wr → c.wpIn F n P (Exit.then (RoundS S R a.tmps s mu (mu (u s))) Q) ⟨setS S u a.tmps, ds⟩ wr) :
    (Code.loop c).wpIn F n P Q a w := wpIn_loopD S R (fun tm _ => mu (tm.getD s undef)) h0 (fun u ds wr hR => by
      have h := hr u ds wr hR
      rw [setS_get hs hz]
      exact h)
theorem meas_step {m j : Nat} (h : j < m) : m - (((j + 1 : Nat) : Int)).toNat < m - ((j : Int)).toNat := by omega
theorem flat40 : ∀ M : List (List SpT), (∀ l ∈ M, l.length ≤ 40) → M.flatten.length ≤ 40 * M.length
  | [], _ => by simp
  | x :: M, hM => by
    have h1 := flat40 M fun l hl => hM l (by simp [hl])
    have h2 := hM x (by simp)
    simp only [List.flatten_cons, List.length_append, List.length_cons]
    omega
theorem OwnRs.cellAt {base : Nat} {av : Option Addr} {q cv : Nat} {Rs : List RowD} {w : World} (h : OwnRs base (.slice av q cv) Rs w) {k : Nat} {r : RowD} (hk : Rs[k]? = some r) : ∃ g, av = some ⟨g, 0, none⟩ ∧ g < w.heap.size ∧ w.cell? ⟨g, k, none⟩ = some (.slice r.a r.l.length r.c) := by
  obtain ⟨a, cap, e, _, h2⟩ := h.rowsR
  cases e
  obtain ⟨g, rfl, h3⟩ := h2 k r hk
  exact ⟨g, rfl, cell_lt h3, h3⟩
theorem rowR : RowT Try.prog 58 29 1 24 := .of (z := .slice none 0 0) Try.underlying58 (by kernel_rfl) rfl (by decide)
theorem infoR : (Try.prog.info? 29).map (fun i => (i.zero, i.size, i.bytes)) = some (some (.slice none 0 0), 1, 24) := by kernel_rfl
end Go.Proofs.Ytflbcabjefpojaa
