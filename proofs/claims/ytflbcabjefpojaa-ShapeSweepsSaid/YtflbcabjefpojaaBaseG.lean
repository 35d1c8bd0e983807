/- A region that draws its order, one of whose free operations stores. -/
import Derived.Test.YtflbcabjefpojaaBaseD
namespace Go.Proofs.Ytflbcabjefpojaa
set_option linter.unusedSimpArgs false
set_option linter.unusedVariables false
open Go.RowKit Go.Shelf
section
variable {F : Fence} {n : Nat} {P : Program} {ops : Array Oper} {Q : Exit → Act → World → Prop}

/-- i comes ahead of s in every order. -/
def aheadB (ops : Array Oper) (s i : Nat) : Bool := ((befores ops.toList []).getD s []).contains i

/-- **A REGION THAT DRAWS ITS ORDER, ONE OF WHOSE FREE OPERATIONS STORES**: J b: what holds of the memory before (false) and behind (true) operation s. -/
theorem wpIn_region_store {id : Nat} {a : Act} {w : World} (hm : P.follows .mixedOrders = true) (k : Nat) (R : Nat → Value → (Nat → Value) → World → Prop) (C : World → World → Prop)
    (hCr : ∀ x : World, C x x) (hCt : ∀ {x y z : World}, C x y → C y z → C x z) (C0 : World → World → Prop) (h00 : ∀ x, C0 x x) (h0C : ∀ {x y : World}, C0 x y → C x y) (s : Nat) (hst : ∀ i v env x y, i < k → i ≠ s → C x y → R i v env x → R i v env y) (hst0 : ∀ v env x y, C0 x y → R s v env x → R s v env y)
    (hloc : ∀ i o v env env' x, i < k → ops[i]? = some o → (∀ e ∈ o.after, Region.binds .any e = true → ∀ o' d, ops[e.on]? = some o' → o'.dst = some d → env d = env' d) → R i v env x → R i v env' x)
    (hfo : factsOk ops a.tmps.size = true) (ht : tailOk ops k = true) (hC0 : C w w.drew)
    (hsk : s < k) (hso : s < ops.size) (J : Bool → World → Prop) (hJ0 : J false w.drew) (hsg : ∀ o, ops[s]? = some o → o.guard = none)
    (hstep : ∀ (i : Nat) (o : Oper), i < k → ops[i]? = some o → ∀ (a' : Act) (w' : World) (b : Bool), Agree ops k a a' → C w w' → J b w' → (aheadB ops s i = true → b = false) → (i = s → b = false) →
      (∀ e ∈ o.after, Region.binds .any e = true → Known R ops e.on a' w') → StepOk F n P ops R (fun x y => (if i = s then C x y else C0 x y) ∧ J (if i = s then true else b) y) Q i o a' w')
    (hend : ∀ (a' : Act) (w' : World), Agree ops k a a' → C w w' → J true w' → (∀ i, i < k → i < ops.size → Known R ops i a' w') → wpListIn F n P ops Q (ops.toList.drop k) a' w') :
    (Code.region id ops true).wpIn F n P Q a w := by
  refine wpIn_region_any hm ?_
  have main : ∀ (fuel : Nat) (listed : Array Bool) (a' : Act) (w' : World), listed.size = ops.size → fuel + (List.range ops.size).countP (fun i => listed.getD i false) = ops.size → Shut ops listed →
      (∀ i, k ≤ i → i < ops.size → listed.getD i false = false) → Agree ops k a a' → C w w' → J (listed.getD s false) w' → (∀ i, i < k → i < ops.size → listed.getD i false = true → Known R ops i a' w') →
      wpAnyIn F n P .any ops Q fuel listed a' w' := by
    intro fuel
    induction fuel with
    | zero =>
      intro listed a' w' hsz hf hs hlate hA hC hJ hK
      have hall : ∀ i, i < ops.size → listed.getD i false = true := by
        intro i hi
        have h1 : (List.range ops.size).countP (fun i => listed.getD i false) = (List.range ops.size).length := by simp at hf ⊢; omega
        exact List.countP_eq_length.1 h1 i (List.mem_range.2 hi)
      have hk : ops.size ≤ k := by
        rcases Nat.lt_or_ge k ops.size with h | h
        · have := hlate k (Nat.le_refl _) h; rw [hall k h] at this; cases this
        · exact h
      rw [hall s hso] at hJ
      have h := hend a' w' hA hC hJ (fun i hik hi => hK i hik hi (hall i hi))
      rw [List.drop_eq_nil_of_le (by simpa using hk)] at h
      refine ⟨?_, h⟩
      apply List.eq_nil_iff_forall_not_mem.2
      intro j hj
      obtain ⟨hlt, hno, _⟩ := ready_mem hj
      rw [getD_lt _ _ (by omega), hall j hlt] at hno
      cases hno
    | succ fuel ih =>
      intro listed a' w' hsz hf hs hlate hA hC hJ hK
      refine ⟨?_, ?_⟩
      · -- nothing is ready: all has been carried out
        intro h0
        exfalso
        have hex : ∃ i, i < ops.size ∧ listed.getD i false = false := by
          rcases Classical.em (∃ i, i < ops.size ∧ listed.getD i false = false) with h | h
          · exact h
          · exfalso
            have hall : ∀ i, i < ops.size → listed.getD i false = true := fun i hi => by
              cases hb : listed.getD i false with
              | true => rfl
              | false => exact absurd ⟨i, hi, hb⟩ h
            have h1 : (List.range ops.size).countP (fun i => listed.getD i false) = (List.range ops.size).length := List.countP_eq_length.2 (fun i hi => hall i (List.mem_range.1 hi))
            simp only [List.length_range] at h1
            rw [h1] at hf
            omega
        have least : ∀ m, (∃ i, i < ops.size ∧ i ≤ m ∧ listed.getD i false = false) → ∃ i, i < ops.size ∧ listed.getD i false = false ∧ ∀ j, j < i → listed.getD j false = true := by
          intro m
          induction m with
          | zero => rintro ⟨i, hi, h0', hb⟩; exact ⟨i, hi, hb, fun j hj => by omega⟩
          | succ m ihm =>
            rintro ⟨i, hi, hle, hb⟩
            rcases Classical.em (∃ i, i < ops.size ∧ i ≤ m ∧ listed.getD i false = false) with h | h
            · exact ihm h
            · refine ⟨i, hi, hb, fun j hj => ?_⟩
              cases hbj : listed.getD j false with
              | true => rfl
              | false => exact absurd ⟨j, by omega, by omega, hbj⟩ h
        obtain ⟨i0, hi0, hb0⟩ := hex
        obtain ⟨i, hi, hb, hbef⟩ := least i0 ⟨i0, hi0, Nat.le_refl _, hb0⟩
        obtain ⟨o, ho⟩ : ∃ o, ops[i]? = some o := ⟨_, Array.getElem?_eq_getElem hi⟩
        have hin : i ∈ Region.ready .any ops listed := by
          simp only [Region.ready, List.mem_filter, List.mem_range, Bool.and_eq_true, Bool.not_eq_true']
          refine ⟨hi, by rw [getD_lt _ _ (by omega)]; exact hb, ?_⟩
          simp only [ho, Option.map_some, Option.getD_some, Array.all_eq_true_iff_forall_mem]
          intro e he
          by_cases hbn : Region.binds .any e = true
          · rw [hbef _ (factsOk_edge hfo ho he hbn)]; simp
          · simp [hbn]
        rw [h0] at hin
        cases hin
      · intro i hi
        obtain ⟨hlt, hno, hdep⟩ := ready_mem hi
        rw [getD_lt _ _ (by omega)] at hno
        obtain ⟨o, ho⟩ : ∃ o, ops[i]? = some o := ⟨_, Array.getElem?_eq_getElem hlt⟩
        rcases Nat.lt_or_ge i k with hik | hik
        · -- one of the free ones
          have hso := hstep i o hik ho a' w' (listed.getD s false) hA hC hJ (fun hab => by
            cases hls : listed.getD s false with
            | false => rfl
            | true =>
              exfalso
              obtain ⟨os, hos⟩ : ∃ o, ops[s]? = some o := ⟨_, Array.getElem?_eq_getElem hso⟩
              have h2 := befores_spec hs ops.toList [] (by simp) (fun i o _ hlt => by simp at hlt) s os hos (fun e he hb => hs s os hos hls e he hb) i (by simpa [aheadB] using hab)
              rw [hno] at h2
              cases h2) (fun e => by rw [← e]; exact hno) (fun e he hb => by
            have hl := hdep o ho e he hb
            have hlt' := factsOk_edge hfo ho he hb
            exact hK e.on (by omega) (by omega) hl)
          have henv : ∀ (m : Nat) (om : Oper), ops[m]? = some om → (∀ e ∈ om.after, Region.binds .any e = true → e.on ≠ i) → ∀ (v : Value), ∀ e ∈ om.after, Region.binds .any e = true → ∀ o' d, ops[e.on]? = some o' → o'.dst = some d → envOf a' d = envOf (a'.put o.dst v) d := by
            intro m om hom hne v e he hb o' d ho' hd
            unfold envOf
            rw [put_other _ _ _ _ (fun hd' => factsOk_once hfo ho ho' (fun e1 => hne e he hb e1.symm) hd' hd)]
          have hnext : ∀ v w'', R i v (envOf a') w'' → ((if i = s then C w' w'' else C0 w' w'') ∧ J (if i = s then true else listed.getD s false) w'') → wpAnyIn F n P .any ops Q fuel (listed.setIfInBounds i true) (a'.put o.dst v) w'' := by
            intro v w'' hR hCJ
            have hC' : C w' w'' := by
              have h := hCJ.1
              by_cases e : i = s
              · simpa [e] using h
              · exact h0C (by simpa [e] using h)
            have hsj : ∀ j v env, j < k → j ≠ i → R j v env w' → R j v env w'' := fun j v env hj hji hr => by
              by_cases e : j = s
              · subst e
                refine hst0 v env _ _ ?_ hr
                have h := hCJ.1
                rw [if_neg (fun e => hji e.symm)] at h
                exact h
              · exact hst j v env _ _ hj e hC' hr
            refine ih _ _ _ (by simpa using hsz) ?_ ?_ ?_ (hA.put hik ho v) (hCt hC hC') ?_ ?_
            · have hc : (List.range ops.size).countP (fun j => (listed.setIfInBounds i true).getD j false) = (List.range ops.size).countP (fun j => listed.getD j false) + 1 := by
                have key : ∀ m, i < m → m ≤ ops.size → (List.range m).countP (fun j => (listed.setIfInBounds i true).getD j false) = (List.range m).countP (fun j => listed.getD j false) + 1 := by
                  intro m
                  induction m with
                  | zero => intro h _; omega
                  | succ m ihm =>
                    intro h hle
                    simp only [List.range_succ, List.countP_append, List.countP_singleton]
                    rcases Nat.lt_or_eq_of_le (Nat.lt_succ_iff.1 h) with h' | rfl
                    · rw [ihm h' (by omega), getD_set_other _ _ _ _ (by omega)]; omega
                    · have same : ∀ m, m ≤ i → (List.range m).countP (fun j => (listed.setIfInBounds i true).getD j false) = (List.range m).countP (fun j => listed.getD j false) := by
                        intro m hm
                        refine List.countP_congr (fun j hj => ?_)
                        rw [getD_set_other _ _ _ _ (by have := List.mem_range.1 hj; omega)]
                      rw [same i (Nat.le_refl _), getD_set_same _ _ _ (by omega), hno]
                      simp
                exact key ops.size hlt (Nat.le_refl _)
              rw [hc]; omega
            · intro j o' hj hlj e he hb
              by_cases e1 : i = e.on
              · rw [← e1, getD_set_same _ _ _ (by omega)]
              · rw [getD_set_other _ _ _ _ e1]
                by_cases e2 : i = j
                · subst e2
                  rw [ho] at hj; cases hj
                  exact hdep o ho e he hb
                · rw [getD_set_other _ _ _ _ e2] at hlj
                  exact hs j o' hj hlj e he hb
            · intro j hkj hj
              rw [getD_set_other _ _ _ _ (by omega)]
              exact hlate j hkj hj
            · have hJ' := hCJ.2
              by_cases e : i = s
              · subst e
                rw [getD_set_same _ _ _ (by omega)]
                simpa using hJ'
              · rw [getD_set_other _ _ _ _ e]
                simpa [e] using hJ'
            · intro j hjk hj hlj
              by_cases e1 : i = j
              · subst e1
                intro o' ho'
                rw [ho] at ho'; cases ho'
                cases hd : o.dst with
                | none => exact ⟨v, hR⟩
                | some d =>
                  refine ⟨v, by rw [put_same _ _ _ (by rw [hA.size]; exact factsOk_dst hfo ho hd)], ?_⟩
                  rw [← hd]
                  exact hloc i o v _ _ _ hik ho (henv i o ho (fun e he hb e1 => by have := factsOk_edge hfo ho he hb; omega) v) hR
              · rw [getD_set_other _ _ _ _ e1] at hlj
                have hk := hK j hjk hj hlj
                intro o' ho'
                have hk' := hk o' ho'
                have hen := henv j o' ho' (fun e he hb e2 => by
                  have := hs j o' ho' hlj e he hb
                  rw [e2, hno] at this
                  cases this) v
                cases hd' : o'.dst with
                | none => rw [hd'] at hk'; obtain ⟨u, hu⟩ := hk'; exact ⟨u, hloc j o' u _ _ _ hjk ho' hen (hsj j _ _ hjk (fun e => e1 e.symm) hu)⟩
                | some d =>
                  rw [hd'] at hk'
                  obtain ⟨u, hu, hRu⟩ := hk'
                  exact ⟨u, by rw [put_other _ _ _ _ (fun hd => factsOk_once hfo ho ho' e1 hd hd')]; exact hu, hloc j o' u _ _ _ hjk ho' hen (hsj j _ _ hjk (fun e => e1 e.symm) hRu)⟩
          unfold StepOk at hso
          unfold wpOpIn
          simp only [ho]
          split
          · rename_i hw
            simp only [hw, if_true] at hso
            exact hso _ hnext
          · rename_i hw
            simp only [hw] at hso
            exact ⟨hso.1, hnext _ _ hso.2 ⟨(by by_cases e : i = s; exact (by simpa [e] using hCr _); exact (by simpa [e] using h00 _)), by
              by_cases e : i = s
              · subst e; exfalso; exact hw (by simp [Region.wanted, hsg o ho])
              · simpa [e] using hJ⟩⟩
        · -- the first of the last ones
          have hbefore := tailOk_before ht hs hik ho (hdep o ho)
          have hik' : i = k := by
            rcases Nat.lt_or_eq_of_le hik with h | h
            · have := hbefore k h; rw [hlate k (Nat.le_refl _) (by omega)] at this; cases this
            · exact h.symm
          subst hik'
          have hl : ∀ j, j < ops.size → listed.getD j false = decide (j < i) := by
            intro j hj
            rcases Nat.lt_or_ge j i with h | h
            · rw [hbefore j h]; simp [h]
            · rw [hlate j h hj]; simp; omega
          have hf' : fuel + 1 + i = ops.size := by
            have : (List.range ops.size).countP (fun j => listed.getD j false) = i := by
              have key : ∀ m, m ≤ ops.size → (List.range m).countP (fun j => listed.getD j false) = min m i := by
                intro m
                induction m with
                | zero => simp
                | succ m ihm =>
                  intro hm
                  simp only [List.range_succ, List.countP_append, List.countP_singleton]
                  rw [ihm (by omega), hl m (by omega)]
                  by_cases h : m < i <;> simp [h] <;> omega
              rw [key _ (Nat.le_refl _)]; omega
            omega
          have h := wpAnyIn_tail (F := F) (n := n) (P := P) (Q := Q) hfo ht (fuel + 1) listed i a' w' (Nat.le_refl _) hf' hsz hl (hend a' w' hA hC (by rw [hbefore s hsk] at hJ; exact hJ) (fun j hj hjs => hK j hj hjs (hbefore j hj)))
          exact h.2 i hi
  refine main ops.size _ a w.drew (by simp) ?_ ?_ ?_ (Agree.refl k a) hC0 ?_ ?_
  · have : (List.range ops.size).countP (fun i => (Array.replicate ops.size false).getD i false) = 0 := by
      rw [List.countP_eq_zero]
      intro i hi
      simp [Array.getD_eq_getD_getElem?, List.mem_range.1 hi]
    omega
  · intro i o hi hl
    exfalso
    have hlt : i < ops.size := (Array.getElem?_eq_some_iff.1 hi).1
    simp [Array.getD_eq_getD_getElem?, hlt] at hl
  · intro i _ hi
    simp [Array.getD_eq_getD_getElem?, hi]
  · have : (Array.replicate ops.size false).getD s false = false := by simp [Array.getD_eq_getD_getElem?, hso]
    rw [this]; exact hJ0
  · intro i _ hi hl
    exfalso
    simp [Array.getD_eq_getD_getElem?, hi] at hl

def StepsFromJ (F : Fence) (n : Nat) (P : Program) (ops : Array Oper) (Rl : List (Value → World → Prop)) (C C0 : World → World → Prop) (Q : Exit → Act → World → Prop) (a : Act) (w : World) (s : Nat) (J : Bool → World → Prop) : Nat → List Oper → Prop
  | _, [] => True
  | i, o :: rest => (∀ (a' : Act) (w' : World) (b : Bool), Agree ops Rl.length a a' → C w w' → J b w' → (aheadB ops s i = true → b = false) → (i = s → b = false) → (∀ e ∈ o.after, Region.binds .any e = true → Known (fun i v _ w => factsAt Rl i v w) ops e.on a' w') →
      StepOk F n P ops (fun i v _ w => factsAt Rl i v w) (fun x y => (if i = s then C x y else C0 x y) ∧ J (if i = s then true else b) y) Q i o a' w') ∧
    StepsFromJ F n P ops Rl C C0 Q a w s J (i + 1) rest
theorem stepsFromJ_at {Rl : List (Value → World → Prop)} {C C0 : World → World → Prop} {a : Act} {w : World} {s : Nat} {J : Bool → World → Prop} : ∀ (l : List Oper) (j : Nat), StepsFromJ F n P ops Rl C C0 Q a w s J j l → ∀ (i : Nat) (o : Oper), l[i]? = some o →
    ∀ (a' : Act) (w' : World) (b : Bool), Agree ops Rl.length a a' → C w w' → J b w' → (aheadB ops s (j + i) = true → b = false) → (j + i = s → b = false) → (∀ e ∈ o.after, Region.binds .any e = true → Known (fun i v _ w => factsAt Rl i v w) ops e.on a' w') →
      StepOk F n P ops (fun i v _ w => factsAt Rl i v w) (fun x y => (if j + i = s then C x y else C0 x y) ∧ J (if j + i = s then true else b) y) Q (j + i) o a' w'
  | [], _, _, _, _, hi => by simp at hi
  | o :: rest, j, h, 0, o', hi => by
    simp only [List.getElem?_cons_zero, Option.some.injEq] at hi
    subst hi
    exact h.1
  | o :: rest, j, h, i + 1, o', hi => by
    have := stepsFromJ_at rest (j + 1) h.2 i o' (by simpa using hi)
    rw [Nat.add_assoc, Nat.add_comm 1 i] at this
    exact this

/-- All but fact s are stable under C. -/
def AllStableBut (C C0 : World → World → Prop) (s : Nat) : Nat → List (Value → World → Prop) → Prop
  | _, [] => True
  | i, r :: rs => (∀ v x y, (if i = s then C0 x y else C x y) → r v x → r v y) ∧ AllStableBut C C0 s (i + 1) rs
theorem AllStableBut.at {C C0 : World → World → Prop} {s : Nat} : ∀ {Rl : List (Value → World → Prop)} {m : Nat} (_ : AllStableBut C C0 s m Rl) (i : Nat) (v : Value) (x y : World), (if m + i = s then C0 x y else C x y) → factsAt Rl i v x → factsAt Rl i v y
  | [], _, _, _, _, _, _, _, _ => trivial
  | _ :: _, _, h, 0, v, x, y, hC, hr => h.1 v x y hC hr
  | _ :: _, m, h, i + 1, v, x, y, hC, hr => AllStableBut.at h.2 i v x y (by rw [Nat.add_assoc, Nat.add_comm 1 i]; exact hC) hr

/-- The law, for a walk. -/
theorem wp_region_store {id : Nat} {a : Act} {w : World} (k : Nat) (s : Nat) (J : Bool → World → Prop) (hm : P.follows .mixedOrders = true) (Rl : List (Value → World → Prop)) (C : World → World → Prop) (hk : Rl.length = k)
    (hCr : ∀ x : World, C x x) (hCt : ∀ {x y z : World}, C x y → C y z → C x z) (C0 : World → World → Prop) (h00 : ∀ x, C0 x x) (h0C : ∀ {x y : World}, C0 x y → C x y) (hst : AllStableBut C C0 s 0 Rl)
    (hfo : factsOk ops a.tmps.size = true) (ht : tailOk ops k = true) (hC0 : C w w.drew) (hsk : s < k) (hso : s < ops.size) (hJ0 : J false w.drew) (hsg : (ops[s]?).map (·.guard) = some none)
    (hsteps : StepsFromJ F n P ops Rl C C0 Q a w s J 0 (ops.toList.take k))
    (hend : ∀ w', C w w' → J true w' → EndFrom (fun a' => wpListIn F n P ops Q (ops.toList.drop k) a' w') w' ops.toList Rl a) :
    (Code.region id ops true).wpIn F n P Q a w := by
  subst hk
  refine wpIn_region_store hm Rl.length (fun i v _ w => factsAt Rl i v w) C hCr hCt C0 h00 h0C s (fun i v _ x y _ hne hC => hst.at i v x y (by rw [Nat.zero_add, if_neg hne]; exact hC)) (fun v _ x y hC => hst.at s v x y (by rw [Nat.zero_add, if_pos rfl]; exact hC)) (fun _ _ _ _ _ _ _ _ _ h => h) hfo ht hC0 hsk hso J hJ0 (fun o ho => by rw [ho] at hsg; simpa using hsg) ?_ ?_
  · intro i o hik hi a' w' b hA hC hJ hb1 hb2 hD
    have hi' : (ops.toList.take Rl.length)[i]? = some o := by
      rw [List.getElem?_take_of_lt hik]
      simpa using hi
    have := stepsFromJ_at _ 0 hsteps i o hi' a' w' b hA hC hJ (by rw [Nat.zero_add]; exact hb1) (by rw [Nat.zero_add]; exact hb2) hD
    rw [Nat.zero_add] at this
    exact this
  · intro a' w' hA hC hJ hK
    exact endFrom_of (K := fun a' => wpListIn F n P ops Q (ops.toList.drop Rl.length) a' w') hfo hA.size 0 a rfl hA.defers.symm (by simpa using hend w' hC hJ) hK (fun t ht => hA.slot t (fun i o hil hi => ht i o (Nat.zero_le _) hil hi))
end
end Go.Proofs.Ytflbcabjefpojaa
