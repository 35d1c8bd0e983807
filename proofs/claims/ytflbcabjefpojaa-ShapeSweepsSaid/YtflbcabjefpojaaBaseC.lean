/- General lemmas, more: a region in the text's order, by one fact for each operation. -/
import Derived.Test.YtflbcabjefpojaaBaseB
namespace Go.Proofs.Ytflbcabjefpojaa
set_option linter.unusedSimpArgs false
set_option linter.unusedVariables false
open Go.RowKit Go.Shelf
section text
variable {F : Fence} {n : Nat} {P : Program} {ops : Array Oper} {Q : Exit → Act → World → Prop}

/-- **A REGION IN THE TEXT'S ORDER**, by facts. -/
theorem wp_region_text {id : Nat} {a : Act} {w : World} (Rl : List (Value → World → Prop)) (C : World → World → Prop)
    (hCr : ∀ x : World, C x x) (hCt : ∀ {x y z : World}, C x y → C y z → C x z) (hst : AllStable C Rl)
    (hfo : factsOk ops a.tmps.size = true)
    (hsteps : StepsFrom F n P ops Rl C Q a w 0 (ops.toList.take Rl.length))
    (hend : ∀ w', C w w' → EndFrom (fun a' => wpListIn F n P ops Q (ops.toList.drop Rl.length) a' w') w' ops.toList Rl a) :
    (Code.region id ops false).wpIn F n P Q a w := by
  refine wpIn_region_list ?_
  have main : ∀ (fuel m : Nat) (a' : Act) (w' : World), fuel + m = min Rl.length ops.size → Agree ops Rl.length a a' → C w w' →
      (∀ i, i < m → Known (fun i v _ w => factsAt Rl i v w) ops i a' w') → wpListIn F n P ops Q (ops.toList.drop m) a' w' := by
    intro fuel
    induction fuel with
    | zero =>
      intro m a' w' hf hA hC hK
      have hd : ops.toList.drop m = ops.toList.drop Rl.length := by
        rcases Nat.le_total Rl.length ops.size with h | h
        · rw [show m = Rl.length from by omega]
        · rw [List.drop_eq_nil_of_le (by simp; omega), List.drop_eq_nil_of_le (by simp; omega)]
      rw [hd]
      exact endFrom_of (K := fun a' => wpListIn F n P ops Q (ops.toList.drop Rl.length) a' w') hfo hA.size 0 a rfl hA.defers.symm (by simpa using hend w' hC) (fun i hil hi => hK i (by omega)) (fun t ht => hA.slot t (fun i o hil hi => ht i o (Nat.zero_le _) hil hi))
    | succ fuel ih =>
      intro m a' w' hf hA hC hK
      have hm : m < ops.size := by omega
      have hmk : m < Rl.length := by omega
      obtain ⟨o, ho⟩ : ∃ o, ops[m]? = some o := ⟨_, Array.getElem?_eq_getElem hm⟩
      have hdrop : ops.toList.drop m = o :: ops.toList.drop (m + 1) := by
        rw [List.drop_eq_getElem_cons (by simpa using hm)]
        have : ops.toList[m]'(by simpa using hm) = o := by simpa using (Array.getElem?_eq_some_iff.1 ho).2
        rw [this]
      have hso := stepsFrom_at _ 0 hsteps m o (by rw [List.getElem?_take_of_lt hmk]; simpa using ho) a' w' hA hC (fun e he hb => hK e.on (factsOk_edge hfo ho he hb))
      rw [Nat.zero_add] at hso
      have hnext : ∀ v w'', factsAt Rl m v w'' → C w' w'' → wpListIn F n P ops Q (ops.toList.drop (m + 1)) (a'.put o.dst v) w'' := by
        intro v w'' hR hC'
        refine ih (m + 1) _ _ (by omega) (hA.put hmk ho v) (hCt hC hC') ?_
        intro j hj
        by_cases e1 : m = j
        · subst e1
          intro o' ho'
          rw [ho] at ho'; cases ho'
          cases hd : o.dst with
          | none => exact ⟨v, hR⟩
          | some d => exact ⟨v, by rw [put_same _ _ _ (by rw [hA.size]; exact factsOk_dst hfo ho hd)], hR⟩
        · have hk := hK j (by omega)
          intro o' ho'
          have hk' := hk o' ho'
          cases hd' : o'.dst with
          | none => rw [hd'] at hk'; obtain ⟨u, hu⟩ := hk'; exact ⟨u, hst.at j _ _ _ hC' hu⟩
          | some d =>
            rw [hd'] at hk'
            obtain ⟨u, hu, hRu⟩ := hk'
            exact ⟨u, by rw [put_other _ _ _ _ (fun hd => factsOk_once hfo ho ho' e1 hd hd')]; exact hu, hst.at j _ _ _ hC' hRu⟩
      rw [hdrop]
      unfold StepOk at hso
      unfold wpListIn
      split
      · rename_i hw
        simp only [hw, if_true] at hso
        exact hso _ hnext
      · rename_i hw
        simp only [hw] at hso
        exact ⟨hso.1, hnext _ _ hso.2 (hCr _)⟩
  simpa using main (min Rl.length ops.size) 0 a w (by omega) (Agree.refl _ a) (hCr _) (fun i hi => by omega)
end text
/-- To see that the walk stands at a region. -/
theorem stop_at {P : Program} {id : Nat} {ops : Array Oper} {d : Bool} {Q : Exit → Act → World → Prop} {a : Act} {w : World} (h : (Code.region id ops d).wp P Q a w) : (Code.region id ops d).wp P Q a w := h
end Go.Proofs.Ytflbcabjefpojaa
