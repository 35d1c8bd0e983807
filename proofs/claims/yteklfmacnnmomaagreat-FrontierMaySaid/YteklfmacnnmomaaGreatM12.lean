/- Merged texts: RegJ RegC. -/
import Derived.Test.YteklfmacnnmomaaGreatM1
set_option linter.unusedSimpArgs false
set_option linter.unusedVariables false
/- General lemmas: a region by facts beside a ghost automaton that sees which operations are done. -/
namespace Go.Proofs.YteklfmacnnmomaaGreat
open Go.RowKit
section
variable {F : Fence} {n : Nat} {P : Program} {ops : Array Oper} {Q : Exit → Act → World → Prop}
/-- What is owed for one operation, with how the world turns. -/
def StepOkT (F : Fence) (n : Nat) (P : Program) (ops : Array Oper) (R : Nat → Value → (Nat → Value) → World → Prop) (C : World → World → Prop) (T : Nat → Value → (Nat → Value) → World → World → Prop) (Q : Exit → Act → World → Prop) (i : Nat) (o : Oper) (a' : Act) (w' : World) : Prop :=
 if Region.wanted o (yielded ops a'.tmps) then ∀ K : Act → World → Prop, (∀ v w'', R i v (envOf a') w'' → C w' w'' → T i v (envOf a') w' w'' → K (a'.put o.dst v) w'') → o.wpIn F n P a' w' K Q
 else (∀ f, o.about P w' a'.eval = some f → F.fn f) ∧ R i undef (envOf a') w' ∧ T i undef (envOf a') w' w'
theorem wpIn_region_auto {id : Nat} {a : Act} {w : World} (hm : P.follows .mixedOrders = true) (k : Nat) (R : Nat → Value → (Nat → Value) → World → Prop) (C : World → World → Prop) (T : Nat → Value → (Nat → Value) → World → World → Prop) (J : Array Bool → Act → World → Prop)
 (hCr : ∀ x : World, C x x) (hCt : ∀ {x y z : World}, C x y → C y z → C x z) (hst : ∀ i v env x y, i < k → C x y → R i v env x → R i v env y)
 (hloc : ∀ i o v env env' x, i < k → ops[i]? = some o → (∀ e ∈ o.after, Region.binds .any e = true → ∀ o' d, ops[e.on]? = some o' → o'.dst = some d → env d = env' d) → R i v env x → R i v env' x)
 (hfo : factsOk ops a.tmps.size = true) (ht : tailOk ops k = true) (hC0 : C w w.drew) (hJ0 : J (Array.replicate ops.size false) a w.drew)
 (hJs : ∀ (i : Nat) (o : Oper) (listed : Array Bool) (a' : Act) (v : Value) (w' w'' : World), i < k → ops[i]? = some o → listed.size = ops.size → listed.getD i false = false → (∀ e ∈ o.after, Region.binds .any e = true → listed.getD e.on false = true) → Agree ops k a a' → C w w' → J listed a' w' → R i v (envOf a') w'' → T i v (envOf a') w' w'' → J (listed.setIfInBounds i true) (a'.put o.dst v) w'')
 (hstep : ∀ (i : Nat) (o : Oper), i < k → ops[i]? = some o → ∀ (listed : Array Bool) (a' : Act) (w' : World), Agree ops k a a' → C w w' → J listed a' w' → listed.getD i false = false → (∀ e ∈ o.after, Region.binds .any e = true → listed.getD e.on false = true) →
  (∀ e ∈ o.after, Region.binds .any e = true → Known R ops e.on a' w') → StepOkT F n P ops R C T Q i o a' w')
 (hend : ∀ (listed : Array Bool) (a' : Act) (w' : World), Agree ops k a a' → C w w' → J listed a' w' → (∀ i, i < k → i < ops.size → listed.getD i false = true) → (∀ i, i < k → i < ops.size → Known R ops i a' w') → wpListIn F n P ops Q (ops.toList.drop k) a' w') :
 (Code.region id ops true).wpIn F n P Q a w := by
 refine wpIn_region_any hm ?_
 have main : ∀ (fuel : Nat) (listed : Array Bool) (a' : Act) (w' : World), listed.size = ops.size → fuel + (List.range ops.size).countP (fun i => listed.getD i false) = ops.size → Shut ops listed →
  (∀ i, k ≤ i → i < ops.size → listed.getD i false = false) → Agree ops k a a' → C w w' → J listed a' w' → (∀ i, i < k → i < ops.size → listed.getD i false = true → Known R ops i a' w') →
  wpAnyIn F n P .any ops Q fuel listed a' w' := by
  intro fuel
  induction fuel with
  | zero =>
   intro listed a' w' hsz hf hs hlate hA hC hJ hK
   have hall : ∀ i, i < ops.size → listed.getD i false = true := by
    intro i hi
    have h1 : (List.range ops.size).countP (fun i => listed.getD i false) = (List.range ops.size).length := by simp at hf ⊢; omega
    exact List.countP_eq_length.1 h1 i (List.mem_range.2 hi)
   have hk : ops.size ≤ k := by
    rcases Nat.lt_or_ge k ops.size with h | h
    · have := hlate k (Nat.le_refl _) h; rw [hall k h] at this; cases this
    · exact h
   have h := hend listed a' w' hA hC hJ (fun i _ hi => hall i hi) (fun i hik hi => hK i hik hi (hall i hi))
   rw [List.drop_eq_nil_of_le (by simpa using hk)] at h
   refine ⟨?_, h⟩
   apply List.eq_nil_iff_forall_not_mem.2
   intro j hj
   obtain ⟨hlt, hno, _⟩ := ready_mem hj
   rw [getD_lt _ _ (by omega), hall j hlt] at hno
   cases hno
  | succ fuel ih =>
   intro listed a' w' hsz hf hs hlate hA hC hJ hK
   refine ⟨?_, ?_⟩
   · -- nothing is ready: all has been carried out
     intro h0
     exfalso
     have hex : ∃ i, i < ops.size ∧ listed.getD i false = false := by
      rcases Classical.em (∃ i, i < ops.size ∧ listed.getD i false = false) with h | h
      · exact h
      · exfalso
        have hall : ∀ i, i < ops.size → listed.getD i false = true := fun i hi => by
         cases hb : listed.getD i false with
         | true => rfl
         | false => exact absurd ⟨i, hi, hb⟩ h
        have h1 : (List.range ops.size).countP (fun i => listed.getD i false) = (List.range ops.size).length := List.countP_eq_length.2 (fun i hi => hall i (List.mem_range.1 hi))
        simp only [List.length_range] at h1
        rw [h1] at hf
        omega
     have least : ∀ m, (∃ i, i < ops.size ∧ i ≤ m ∧ listed.getD i false = false) → ∃ i, i < ops.size ∧ listed.getD i false = false ∧ ∀ j, j < i → listed.getD j false = true := by
      intro m
      induction m with
      | zero => rintro ⟨i, hi, h0', hb⟩; exact ⟨i, hi, hb, fun j hj => by omega⟩
      | succ m ihm =>
       rintro ⟨i, hi, hle, hb⟩
       rcases Classical.em (∃ i, i < ops.size ∧ i ≤ m ∧ listed.getD i false = false) with h | h
       · exact ihm h
       · refine ⟨i, hi, hb, fun j hj => ?_⟩
         cases hbj : listed.getD j false with
         | true => rfl
         | false => exact absurd ⟨j, by omega, by omega, hbj⟩ h
     obtain ⟨i0, hi0, hb0⟩ := hex
     obtain ⟨i, hi, hb, hbef⟩ := least i0 ⟨i0, hi0, Nat.le_refl _, hb0⟩
     obtain ⟨o, ho⟩ : ∃ o, ops[i]? = some o := ⟨_, Array.getElem?_eq_getElem hi⟩
     have hin : i ∈ Region.ready .any ops listed := by
      simp only [Region.ready, List.mem_filter, List.mem_range, Bool.and_eq_true, Bool.not_eq_true']
      refine ⟨hi, by rw [getD_lt _ _ (by omega)]; exact hb, ?_⟩
      simp only [ho, Option.map_some, Option.getD_some, Array.all_eq_true_iff_forall_mem]
      intro e he
      by_cases hbn : Region.binds .any e = true
      · rw [hbef _ (factsOk_edge hfo ho he hbn)]; simp
      · simp [hbn]
     rw [h0] at hin
     cases hin
   · intro i hi
     obtain ⟨hlt, hno, hdep⟩ := ready_mem hi
     rw [getD_lt _ _ (by omega)] at hno
     obtain ⟨o, ho⟩ : ∃ o, ops[i]? = some o := ⟨_, Array.getElem?_eq_getElem hlt⟩
     rcases Nat.lt_or_ge i k with hik | hik
     · -- one of the free ones
       have hso := hstep i o hik ho listed a' w' hA hC hJ hno (hdep o ho) (fun e he hb => by
        have hl := hdep o ho e he hb
        have hlt' := factsOk_edge hfo ho he hb
        exact hK e.on (by omega) (by omega) hl)
       have henv : ∀ (m : Nat) (om : Oper), ops[m]? = some om → (∀ e ∈ om.after, Region.binds .any e = true → e.on ≠ i) → ∀ (v : Value), ∀ e ∈ om.after, Region.binds .any e = true → ∀ o' d, ops[e.on]? = some o' → o'.dst = some d → envOf a' d = envOf (a'.put o.dst v) d := by
        intro m om hom hne v e he hb o' d ho' hd
        unfold envOf
        rw [put_other _ _ _ _ (fun hd' => factsOk_once hfo ho ho' (fun e1 => hne e he hb e1.symm) hd' hd)]
       have hnext : ∀ v w'', R i v (envOf a') w'' → C w' w'' → T i v (envOf a') w' w'' → wpAnyIn F n P .any ops Q fuel (listed.setIfInBounds i true) (a'.put o.dst v) w'' := by
        intro v w'' hR hC' hT
        refine ih _ _ _ (by simpa using hsz) ?_ ?_ ?_ (hA.put hik ho v) (hCt hC hC') (hJs i o listed a' v w' w'' hik ho hsz hno (hdep o ho) hA hC hJ hR hT) ?_
        · have hc : (List.range ops.size).countP (fun j => (listed.setIfInBounds i true).getD j false) = (List.range ops.size).countP (fun j => listed.getD j false) + 1 := by
           have key : ∀ m, i < m → m ≤ ops.size → (List.range m).countP (fun j => (listed.setIfInBounds i true).getD j false) = (List.range m).countP (fun j => listed.getD j false) + 1 := by
            intro m
            induction m with
            | zero => intro h _; omega
            | succ m ihm =>
             intro h hle
             simp only [List.range_succ, List.countP_append, List.countP_singleton]
             rcases Nat.lt_or_eq_of_le (Nat.lt_succ_iff.1 h) with h' | rfl
             · rw [ihm h' (by omega), g7o _ _ _ _ (by omega)]; omega
             · have same : ∀ m, m ≤ i → (List.range m).countP (fun j => (listed.setIfInBounds i true).getD j false) = (List.range m).countP (fun j => listed.getD j false) := by
                intro m hm
                refine List.countP_congr (fun j hj => ?_)
                rw [g7o _ _ _ _ (by have := List.mem_range.1 hj; omega)]
               rw [same i (Nat.le_refl _), getD_set_same _ _ _ (by omega), hno]
               simp
           exact key ops.size hlt (Nat.le_refl _)
          rw [hc]; omega
        · intro j o' hj hlj e he hb
          by_cases e1 : i = e.on
          · rw [← e1, getD_set_same _ _ _ (by omega)]
          · rw [g7o _ _ _ _ e1]
            by_cases e2 : i = j
            · subst e2
              rw [ho] at hj; cases hj
              exact hdep o ho e he hb
            · rw [g7o _ _ _ _ e2] at hlj
              exact hs j o' hj hlj e he hb
        · intro j hkj hj
          rw [g7o _ _ _ _ (by omega)]
          exact hlate j hkj hj
        · intro j hjk hj hlj
          by_cases e1 : i = j
          · subst e1
            intro o' ho'
            rw [ho] at ho'; cases ho'
            cases hd : o.dst with
            | none => exact ⟨v, hR⟩
            | some d =>
             refine ⟨v, by rw [put_same _ _ _ (by rw [hA.size]; exact factsOk_dst hfo ho hd)], ?_⟩
             rw [← hd]
             exact hloc i o v _ _ _ hik ho (henv i o ho (fun e he hb e1 => by have := factsOk_edge hfo ho he hb; omega) v) hR
          · rw [g7o _ _ _ _ e1] at hlj
            have hk := hK j hjk hj hlj
            intro o' ho'
            have hk' := hk o' ho'
            have hen := henv j o' ho' (fun e he hb e2 => by
             have := hs j o' ho' hlj e he hb
             rw [e2, hno] at this
             cases this) v
            cases hd' : o'.dst with
            | none => rw [hd'] at hk'; obtain ⟨u, hu⟩ := hk'; exact ⟨u, hloc j o' u _ _ _ hjk ho' hen (hst j _ _ _ _ hjk hC' hu)⟩
            | some d =>
             rw [hd'] at hk'
             obtain ⟨u, hu, hRu⟩ := hk'
             exact ⟨u, by rw [put_other _ _ _ _ (fun hd => factsOk_once hfo ho ho' e1 hd hd')]; exact hu, hloc j o' u _ _ _ hjk ho' hen (hst j _ _ _ _ hjk hC' hRu)⟩
       unfold StepOkT at hso
       unfold wpOpIn
       simp only [ho]
       split
       · rename_i hw
         simp only [hw, if_true] at hso
         exact hso _ hnext
       · rename_i hw
         simp only [hw] at hso
         exact ⟨hso.1, hnext _ _ hso.2.1 (hCr _) hso.2.2⟩
     · -- the first of the last ones
       have hbefore := tailOk_before ht hs hik ho (hdep o ho)
       have hik' : i = k := by
        rcases Nat.lt_or_eq_of_le hik with h | h
        · have := hbefore k h; rw [hlate k (Nat.le_refl _) (by omega)] at this; cases this
        · exact h.symm
       subst hik'
       have hl : ∀ j, j < ops.size → listed.getD j false = decide (j < i) := by
        intro j hj
        rcases Nat.lt_or_ge j i with h | h
        · rw [hbefore j h]; simp [h]
        · rw [hlate j h hj]; simp; omega
       have hf' : fuel + 1 + i = ops.size := by
        have : (List.range ops.size).countP (fun j => listed.getD j false) = i := by
         have key : ∀ m, m ≤ ops.size → (List.range m).countP (fun j => listed.getD j false) = min m i := by
          intro m
          induction m with
          | zero => simp
          | succ m ihm =>
           intro hm
           simp only [List.range_succ, List.countP_append, List.countP_singleton]
           rw [ihm (by omega), hl m (by omega)]
           by_cases h : m < i <;> simp [h] <;> omega
         rw [key _ (Nat.le_refl _)]; omega
        omega
       have h := wpAnyIn_tail (F := F) (n := n) (P := P) (Q := Q) hfo ht (fuel + 1) listed i a' w' (Nat.le_refl _) hf' hsz hl (hend listed a' w' hA hC hJ (fun m hm _ => hbefore m hm) (fun j hj hjs => hK j hj hjs (hbefore j hj)))
       exact h.2 i hi
 refine main ops.size _ a w.drew (by simp) ?_ ?_ ?_ (Agree.refl k a) hC0 hJ0 ?_
 · have : (List.range ops.size).countP (fun i => (Array.replicate ops.size false).getD i false) = 0 := by
    rw [List.countP_eq_zero]
    intro i hi
    simp [Array.getD_eq_getD_getElem?, List.mem_range.1 hi]
   omega
 · intro i o hi hl
   exfalso
   have hlt : i < ops.size := (Array.getElem?_eq_some_iff.1 hi).1
   simp [Array.getD_eq_getD_getElem?, hlt] at hl
 · intro i _ hi
   simp [Array.getD_eq_getD_getElem?, hi]
 · intro i _ hi hl
   exfalso
   simp [Array.getD_eq_getD_getElem?, hi] at hl
end
/-- A block that the region allocates (operation ia, into slot d) and fills (operation is). -/
structure SlotA where
 ia : Nat
 is : Nat
 d : Nat
 o0 : Obj
 o1 : Obj
def ptrB (b : Nat) : Value := .pointer (some ⟨b, 0, none⟩)
theorem ptrB_inj {b c : Nat} (h : ptrB b = ptrB c) : b = c := by
 unfold ptrB at h
 simp only [Value.pointer.injEq, Option.some.injEq, Addr.mk.injEq, and_true] at h
 exact h
structure SlJ (ss : List SlotA) (N : Nat) (listed : Array Bool) (a : Act) (w : World) : Prop where
 at_ : ∀ s ∈ ss, listed.getD s.ia false = true → ∃ b, N ≤ b ∧ a.tmps[s.d]? = some (ptrB b) ∧ w.heap[b]? = some (if listed.getD s.is false then s.o1 else s.o0)
 ne : ∀ s ∈ ss, ∀ t ∈ ss, s.ia ≠ t.ia → listed.getD s.ia false = true → listed.getD t.ia false = true → a.tmps[s.d]? ≠ a.tmps[t.d]?
 bef : ∀ s ∈ ss, listed.getD s.is false = true → listed.getD s.ia false = true
structure SlT (ss : List SlotA) (i : Nat) (v : Value) (env : Nat → Value) (x y : World) : Prop where
 al : ∀ s ∈ ss, i = s.ia → v = ptrB x.heap.size ∧ y.heap[x.heap.size]? = some s.o0
 sto : ∀ s ∈ ss, i = s.is → ∀ b, env s.d = ptrB b → x.heap[b]? = some s.o0 → y.heap[b]? = some s.o1
 same : ∀ k, k < x.heap.size → (∀ s ∈ ss, i = s.is → env s.d ≠ ptrB k) → y.heap[k]? = x.heap[k]?
def slotsOk (ops : Array Oper) (l : List (Nat × Nat × Nat)) : Bool :=
 (l.all fun (ia, is, d) => ((ops[ia]?).bind (·.dst) == some d) && decide (is < ops.size) && decide (ia < ops.size) && ((ops[is]?).all fun o => o.after.toList.any fun e => Region.binds .any e && e.on == ia)) &&
 decide ((l.map (·.1)).Nodup) && decide ((l.map (·.2.1)).Nodup) && (l.all fun s => l.all fun t => decide (s.2.1 ≠ t.1))
def SlotA.key (s : SlotA) : Nat × Nat × Nat := (s.ia, s.is, s.d)
theorem nodup_key {β : Type} {f : SlotA → β} : ∀ {ss : List SlotA}, (ss.map f).Nodup → ∀ {s t : SlotA}, s ∈ ss → t ∈ ss → f s = f t → s = t
 | [], _, _, _, h, _, _ => by simp at h
 | x :: ss, h, s, t, hs, ht, e => by
  rw [List.map_cons, List.nodup_cons] at h
  rcases List.mem_cons.1 hs with hs | hs
  · subst hs
    rcases List.mem_cons.1 ht with ht | ht
    · exact ht.symm
    · exact absurd (List.mem_map.2 ⟨t, ht, e.symm⟩) h.1
  · rcases List.mem_cons.1 ht with ht | ht
    · exact absurd (List.mem_map.2 ⟨s, hs, e.trans (by rw [ht])⟩) h.1
    · exact nodup_key h.2 hs ht e
section
variable {ops : Array Oper} {ss : List SlotA} {N k : Nat}
theorem slJ_step {a' : Act} {size : Nat} (hok : slotsOk ops (ss.map (·.key)) = true) (hfo : factsOk ops size = true) {i : Nat} {o : Oper} {listed : Array Bool} {v : Value} {w' w'' : World} (ho : ops[i]? = some o) (hsz : listed.size = ops.size) (hno : listed.getD i false = false) (hdep : ∀ e ∈ o.after, Region.binds .any e = true → listed.getD e.on false = true)
 (has : a'.tmps.size = size) (hN : N ≤ w'.heap.size) (hJ : SlJ ss N listed a' w') (hT : SlT ss i v (envOf a') w' w'') : SlJ ss N (listed.setIfInBounds i true) (a'.put o.dst v) w'' := by
 unfold slotsOk at hok
 simp only [Bool.and_eq_true, List.all_map, decide_eq_true_eq] at hok
 obtain ⟨⟨⟨h1, h2⟩, h3⟩, h4⟩ := hok
 simp only [List.map_map] at h2 h3
 have hi : i < ops.size := (Array.getElem?_eq_some_iff.1 ho).1
 have hdst : ∀ s ∈ ss, (ops[s.ia]?).bind (·.dst) = some s.d := fun s hs => by
  have := List.all_eq_true.1 h1 s hs
  simp only [Function.comp, SlotA.key, Bool.and_eq_true, beq_iff_eq] at this
  exact this.1.1.1
 have hafter : ∀ s ∈ ss, i = s.is → listed.getD s.ia false = true := fun s hs e => by
  have := List.all_eq_true.1 h1 s hs
  simp only [Function.comp, SlotA.key, Bool.and_eq_true, ← e, ho, Option.all_some, List.any_eq_true] at this
  obtain ⟨e, he, hb⟩ := this.2
  simp only [beq_iff_eq] at hb
  rw [← hb.2]
  exact hdep e (by simpa using he) hb.1
 have hia : ∀ s ∈ ss, ∀ t ∈ ss, s.ia = t.ia → s = t := fun s hs t ht e => nodup_key (f := fun s => s.ia) h2 hs ht e
 have his : ∀ s ∈ ss, ∀ t ∈ ss, s.is = t.is → s = t := fun s hs t ht e => nodup_key (f := fun s => s.is) h3 hs ht e
 have hx : ∀ s ∈ ss, ∀ t ∈ ss, s.is ≠ t.ia := fun s hs t ht => by
  have h5 := List.all_eq_true.1 h4 s hs
  simp only [Function.comp] at h5
  have h6 := List.all_eq_true.1 h5 t ht
  exact of_decide_eq_true h6
 have hown : ∀ s ∈ ss, i = s.ia → o.dst = some s.d := fun s hs e => by
  have := hdst s hs
  rw [← e, ho] at this
  exact this
 have hoth : ∀ s ∈ ss, i ≠ s.ia → (a'.put o.dst v).tmps[s.d]? = a'.tmps[s.d]? := fun s hs e => by
  refine put_other _ _ _ _ fun hd => ?_
  have h5 := hdst s hs
  cases h6 : ops[s.ia]? with
  | none => rw [h6] at h5; simp at h5
  | some o' =>
   rw [h6] at h5
   exact factsOk_once hfo ho h6 e hd h5
 have hset : ∀ j, i ≠ j → (listed.setIfInBounds i true).getD j false = listed.getD j false := fun j e => g7o _ _ _ _ e
 have hsame : (listed.setIfInBounds i true).getD i false = true := getD_set_same _ _ _ (by omega)
 have henv : ∀ s b, a'.tmps[s]? = some (ptrB b) → envOf a' s = ptrB b := fun s b h => by unfold envOf; rw [h]; rfl
 refine ⟨fun s hs hl => ?_, fun s hs t ht hne hls hlt => ?_, fun s hs hl => ?_⟩
 · by_cases e : i = s.ia
   · obtain ⟨e1, e2⟩ := hT.al s hs e
     refine ⟨w'.heap.size, hN, ?_, ?_⟩
     · rw [hown s hs e, put_same _ _ _ (by rw [has]; exact factsOk_dst hfo ho (hown s hs e)), e1]
     · have hne : i ≠ s.is := fun h => hx s hs s hs (h.symm.trans e)
       rw [hset _ hne]
       have : listed.getD s.is false = false := by
        cases hl2 : listed.getD s.is false with
        | false => rfl
        | true => have := hJ.bef s hs hl2; rw [← e, hno] at this; cases this
       rw [this]
       exact e2
   · rw [hset _ e] at hl
     obtain ⟨b, hb1, hb2, hb3⟩ := hJ.at_ s hs hl
     refine ⟨b, hb1, (hoth s hs e).trans hb2, ?_⟩
     by_cases e2 : i = s.is
     · rw [← e2, hsame]
       rw [← e2, hno] at hb3
       exact hT.sto s hs e2 b (henv _ _ hb2) hb3
     · rw [hset _ e2, ← hb3]
       refine hT.same b (b7t hb3) fun t ht e3 he => ?_
       have hst : s.ia ≠ t.ia := fun h => e2 (by rw [hia s hs t ht h]; exact e3)
       have hlt := hafter t ht e3
       obtain ⟨c, hc1, hc2, hc3⟩ := hJ.at_ t ht hlt
       rw [henv _ _ hc2] at he
       exact hJ.ne s hs t ht hst hl hlt (by rw [hb2, hc2, he])
 · by_cases e : i = s.ia
   · have e' : i ≠ t.ia := fun h => hne (e.symm.trans h)
     rw [hset _ e'] at hlt
     obtain ⟨c, hc1, hc2, hc3⟩ := hJ.at_ t ht hlt
     rw [hoth t ht e', hc2, hown s hs e, put_same _ _ _ (by rw [has]; exact factsOk_dst hfo ho (hown s hs e)), (hT.al s hs e).1]
     intro h
     have := ptrB_inj (Option.some.inj h)
     have := b7t hc3
     omega
   · rw [hset _ e] at hls
     by_cases e2 : i = t.ia
     · obtain ⟨c, hc1, hc2, hc3⟩ := hJ.at_ s hs hls
       rw [hoth s hs e, hc2, hown t ht e2, put_same _ _ _ (by rw [has]; exact factsOk_dst hfo ho (hown t ht e2)), (hT.al t ht e2).1]
       intro h
       have := ptrB_inj (Option.some.inj h)
       have := b7t hc3
       omega
     · rw [hset _ e2] at hlt
       rw [hoth s hs e, hoth t ht e2]
       exact hJ.ne s hs t ht hne hls hlt
 · by_cases e : i = s.is
   · have h5 := hafter s hs e
     by_cases e2 : i = s.ia
     · rw [← e2, hno] at h5; cases h5
     · rw [hset _ e2]; exact h5
   · rw [hset _ e] at hl
     have h5 := hJ.bef s hs hl
     by_cases e2 : i = s.ia
     · rw [← e2, hno] at h5; cases h5
     · rw [hset _ e2]; exact h5
theorem SlT.plain {i : Nat} {v : Value} {env : Nat → Value} {x y : World} (hi : ∀ s ∈ ss, i ≠ s.ia ∧ i ≠ s.is) (hb : Below x.heap.size x y) : SlT ss i v env x y :=
 ⟨fun s hs e => absurd e (hi s hs).1, fun s hs e => absurd e (hi s hs).2, fun k hk _ => hb.block k hk⟩
theorem slJ_start (w : World) (a : Act) (n : Nat) : SlJ ss N (Array.replicate n false) a w := by
 have h : ∀ j, (Array.replicate n false).getD j false = false := fun j => by
  rw [Array.getD_eq_getD_getElem?]
  by_cases hj : j < n
  · simp [hj]
  · simp [hj]
 refine ⟨fun s _ hl => ?_, fun s _ t _ _ hl => ?_, fun s _ hl => ?_⟩
 · rw [h] at hl; cases hl
 · rw [h] at hl; cases hl
 · rw [h] at hl; cases hl
end
section
variable {F : Fence} {n : Nat} {P : Program} {ops : Array Oper} {Q : Exit → Act → World → Prop}
def StepsFromS (F : Fence) (n : Nat) (P : Program) (ops : Array Oper) (ss : List SlotA) (N : Nat) (Rl : List (Value → World → Prop)) (Q : Exit → Act → World → Prop) (a : Act) (w : World) : Nat → List Oper → Prop
 | _, [] => True
 | i, o :: rest => (∀ (listed : Array Bool) (a' : Act) (w' : World), Agree ops Rl.length a a' → Below N w w' → SlJ ss N listed a' w' → listed.getD i false = false → (∀ e ∈ o.after, Region.binds .any e = true → listed.getD e.on false = true) → (∀ e ∈ o.after, Region.binds .any e = true → Known (fun i v _ w => factsAt Rl i v w) ops e.on a' w') → StepOkT F n P ops (fun i v _ w => factsAt Rl i v w) (fun x y => Below N x y) (SlT ss) Q i o a' w') ∧
  StepsFromS F n P ops ss N Rl Q a w (i + 1) rest
theorem stepsFromS_at {ss : List SlotA} {N : Nat} {Rl : List (Value → World → Prop)} {a : Act} {w : World} : ∀ (l : List Oper) (j : Nat), StepsFromS F n P ops ss N Rl Q a w j l → ∀ (i : Nat) (o : Oper), l[i]? = some o →
 ∀ (listed : Array Bool) (a' : Act) (w' : World), Agree ops Rl.length a a' → Below N w w' → SlJ ss N listed a' w' → listed.getD (j + i) false = false → (∀ e ∈ o.after, Region.binds .any e = true → listed.getD e.on false = true) → (∀ e ∈ o.after, Region.binds .any e = true → Known (fun i v _ w => factsAt Rl i v w) ops e.on a' w') → StepOkT F n P ops (fun i v _ w => factsAt Rl i v w) (fun x y => Below N x y) (SlT ss) Q (j + i) o a' w'
 | [], _, _, _, _, hi => by simp at hi
 | o :: rest, j, h, 0, o', hi => by
  simp only [List.getElem?_cons_zero, Option.some.injEq] at hi
  subst hi
  exact h.1
 | o :: rest, j, h, i + 1, o', hi => by
  have := stepsFromS_at rest (j + 1) h.2 i o' (by simpa using hi)
  rw [Nat.add_assoc, Nat.add_comm 1 i] at this
  exact this
/-- What the region leaves of its blocks. -/
def SlEnd (ss : List SlotA) (N : Nat) (a : Act) (w : World) : Prop :=
 (∀ s ∈ ss, ∃ b, N ≤ b ∧ a.tmps[s.d]? = some (ptrB b) ∧ w.heap[b]? = some s.o1) ∧ ∀ s ∈ ss, ∀ t ∈ ss, s.ia ≠ t.ia → a.tmps[s.d]? ≠ a.tmps[t.d]?
/-- A region that draws its order, allocates blocks and fills them, by facts. -/
theorem wp_region_slots {id : Nat} {a : Act} {w : World} (k : Nat) (ss : List SlotA) (N : Nat) (hm : P.follows .mixedOrders = true) (Rl : List (Value → World → Prop)) (hk : Rl.length = k)
 (hst : AllStable (fun x y => Below N x y) Rl)
 (hfo : factsOk ops a.tmps.size = true) (ht : tailOk ops k = true) (hN : N ≤ w.heap.size) (hok : slotsOk ops (ss.map (·.key)) = true) (hsk : ∀ s ∈ ss, s.ia < k ∧ s.is < k)
 (hsteps : StepsFromS F n P ops ss N Rl Q a w 0 (ops.toList.take k))
 (hend : ∀ w', Below N w w' → EndFrom (fun a' => SlEnd ss N a' w' → wpListIn F n P ops Q (ops.toList.drop k) a' w') w' ops.toList Rl a) :
 (Code.region id ops true).wpIn F n P Q a w := by
 subst hk
 refine wpIn_region_auto hm Rl.length (fun i v _ w => factsAt Rl i v w) (fun x y => Below N x y) (SlT ss) (SlJ ss N) (fun x => B7 _ x) (fun h k => h.trans k) (fun i v _ x y _ => hst.at i v x y) (fun _ _ _ _ _ _ _ _ _ h => h) hfo ht (B7 _ _).drew (slJ_start _ _ _) ?_ ?_ ?_
 · intro i o listed a' v w' w'' hik ho hsz hno hdep hA hC hJ hR hT
   exact slJ_step hok hfo ho hsz hno hdep hA.size (Nat.le_trans hN hC.size) hJ hT
 · intro i o hik hi listed a' w' hA hC hJ hno hdep hD
   have hi' : (ops.toList.take Rl.length)[i]? = some o := by
    rw [List.getElem?_take_of_lt hik]
    simpa using hi
   have := stepsFromS_at _ 0 hsteps i o hi' listed a' w' hA hC hJ (by rw [Nat.zero_add]; exact hno) hdep hD
   rw [Nat.zero_add] at this
   exact this
 · intro listed a' w' hA hC hJ hall hK
   have hok' := hok
   unfold slotsOk at hok'
   simp only [Bool.and_eq_true, List.all_map, decide_eq_true_eq] at hok'
   have hl : ∀ s ∈ ss, listed.getD s.ia false = true ∧ listed.getD s.is false = true := fun s hs => by
    have h1 := List.all_eq_true.1 hok'.1.1.1 s hs
    simp only [Function.comp, SlotA.key, Bool.and_eq_true, decide_eq_true_eq] at h1
    exact ⟨hall _ (hsk s hs).1 (of_decide_eq_true h1.1.2), hall _ (hsk s hs).2 (of_decide_eq_true h1.1.1.2)⟩
   have hE : SlEnd ss N a' w' := by
    refine ⟨fun s hs => ?_, fun s hs t ht hne => hJ.ne s hs t ht hne (hl s hs).1 (hl t ht).1⟩
    obtain ⟨b, h1, h2, h3⟩ := hJ.at_ s hs (hl s hs).1
    rw [(hl s hs).2] at h3
    exact ⟨b, h1, h2, h3⟩
   exact endFrom_of (K := fun a' => SlEnd ss N a' w' → wpListIn F n P ops Q (ops.toList.drop Rl.length) a' w') hfo hA.size 0 a rfl hA.defers.symm (by simpa using hend w' hC) hK (fun t ht => hA.slot t (fun i o hil hi => ht i o (Nat.zero_le _) hil hi)) hE
theorem o7t {R : Nat → Value → (Nat → Value) → World → Prop} {C : World → World → Prop} {T : Nat → Value → (Nat → Value) → World → World → Prop} {i : Nat} {o : Oper} {a' : Act} {w' : World} (hg : o.guard = none)
 (h : ∀ K : Act → World → Prop, (∀ v w'', R i v (envOf a') w'' → C w' w'' → T i v (envOf a') w' w'' → K (a'.put o.dst v) w'') → o.wpIn F n P a' w' K Q) : StepOkT F n P ops R C T Q i o a' w' := by
 unfold StepOkT
 simp only [Region.wanted, hg, if_true]
 exact h
end
section
variable {ss : List SlotA} {i : Nat} {v : Value} {env : Nat → Value} {x y : World}
theorem SlT.plainB (hi : (ss.all fun s => !(Nat.beq i s.ia) && !(Nat.beq i s.is)) = true) (hb : Below x.heap.size x y) : SlT ss i v env x y :=
 SlT.plain (fun s hs => by
  have := List.all_eq_true.1 hi s hs
  simp only [Bool.and_eq_true, Bool.not_eq_true'] at this
  exact ⟨fun e => by rw [e, Nat.beq_refl] at this; exact absurd this.1 (by decide), fun e => by rw [← e, Nat.beq_refl] at this; exact absurd this.2 (by decide)⟩) hb
theorem SlT.alloc {o : Obj} (ha : ∀ t ∈ ss, t.ia = i → t.o0 = o) (hn : ∀ t ∈ ss, t.is ≠ i) : SlT ss i (ptrB x.heap.size) env x (x.alloc o) :=
 ⟨fun s hs e => ⟨rfl, by rw [ha s hs e.symm]; exact newBlock _ _ _ rfl⟩, fun s hs e => absurd e.symm (hn s hs), fun k hk _ => Below.heap_alloc x o k hk⟩
theorem SlT.store (s : SlotA) (hu : ∀ t ∈ ss, t.is = i → t = s) (hna : ∀ t ∈ ss, t.ia ≠ i) (hm : s ∈ ss) (hsi : s.is = i) (b : Nat) (he : env s.d = ptrB b) (hy : y.heap[b]? = some s.o1) (ho : ∀ k, k ≠ b → y.heap[k]? = x.heap[k]?) : SlT ss i v env x y :=
 ⟨fun t ht e => absurd e.symm (hna t ht), fun t ht e c hc _ => by
  obtain rfl := hu t ht e.symm
  rw [he] at hc
  rw [← ptrB_inj hc]
  exact hy, fun k hk hn => ho k fun e => hn s hm hsi.symm (by rw [e]; exact he)⟩
end
/-- A block that lies there. -/
structure BlkAt (b : Nat) (o : Obj) (w : World) : Prop where
 at_ : w.heap[b]? = some o
theorem BlkAt.below {b : Nat} {o : Obj} {w w' : World} (h : BlkAt b o w) (hb : Below w.heap.size w w') : BlkAt b o w' := ⟨(hb.block b (b7t h.at_)).trans h.at_⟩
end Go.Proofs.YteklfmacnnmomaaGreat
/- General lemmas: a region that allocates and fills blocks, by facts that are stable under any relation. -/
namespace Go.Proofs.YteklfmacnnmomaaGreat
open Go.RowKit
section
variable {F : Fence} {n : Nat} {P : Program} {ops : Array Oper} {Q : Exit → Act → World → Prop}
def StepsFromSC (F : Fence) (n : Nat) (P : Program) (ops : Array Oper) (ss : List SlotA) (N : Nat) (C : World → World → Prop) (Rl : List (Value → World → Prop)) (Q : Exit → Act → World → Prop) (a : Act) (w : World) : Nat → List Oper → Prop
 | _, [] => True
 | i, o :: rest => (∀ (listed : Array Bool) (a' : Act) (w' : World), Agree ops Rl.length a a' → C w w' → SlJ ss N listed a' w' → listed.getD i false = false → (∀ e ∈ o.after, Region.binds .any e = true → listed.getD e.on false = true) → (∀ e ∈ o.after, Region.binds .any e = true → Known (fun i v _ w => factsAt Rl i v w) ops e.on a' w') → StepOkT F n P ops (fun i v _ w => factsAt Rl i v w) C (SlT ss) Q i o a' w') ∧
  StepsFromSC F n P ops ss N C Rl Q a w (i + 1) rest
theorem stepsFromSC_at {ss : List SlotA} {N : Nat} {C : World → World → Prop} {Rl : List (Value → World → Prop)} {a : Act} {w : World} : ∀ (l : List Oper) (j : Nat), StepsFromSC F n P ops ss N C Rl Q a w j l → ∀ (i : Nat) (o : Oper), l[i]? = some o →
 ∀ (listed : Array Bool) (a' : Act) (w' : World), Agree ops Rl.length a a' → C w w' → SlJ ss N listed a' w' → listed.getD (j + i) false = false → (∀ e ∈ o.after, Region.binds .any e = true → listed.getD e.on false = true) → (∀ e ∈ o.after, Region.binds .any e = true → Known (fun i v _ w => factsAt Rl i v w) ops e.on a' w') → StepOkT F n P ops (fun i v _ w => factsAt Rl i v w) C (SlT ss) Q (j + i) o a' w'
 | [], _, _, _, _, hi => by simp at hi
 | o :: rest, j, h, 0, o', hi => by
  simp only [List.getElem?_cons_zero, Option.some.injEq] at hi
  subst hi
  exact h.1
 | o :: rest, j, h, i + 1, o', hi => by
  have := stepsFromSC_at rest (j + 1) h.2 i o' (by simpa using hi)
  rw [Nat.add_assoc, Nat.add_comm 1 i] at this
  exact this
/-- A region that draws its order, allocates blocks and fills them, by facts. -/
theorem wp_region_slotsC {id : Nat} {a : Act} {w : World} (k : Nat) (ss : List SlotA) (N : Nat) (hm : P.follows .mixedOrders = true) (Rl : List (Value → World → Prop)) (hk : Rl.length = k)
 (C : World → World → Prop) (hCr : ∀ x, C x x) (hCt : ∀ {x y z}, C x y → C y z → C x z) (hCz : ∀ {x y}, C x y → x.heap.size ≤ y.heap.size) (hC0 : C w w.drew)
 (hst : AllStable C Rl)
 (hfo : factsOk ops a.tmps.size = true) (ht : tailOk ops k = true) (hN : N ≤ w.heap.size) (hok : slotsOk ops (ss.map (·.key)) = true) (hsk : ∀ s ∈ ss, s.ia < k ∧ s.is < k)
 (hsteps : StepsFromSC F n P ops ss N C Rl Q a w 0 (ops.toList.take k))
 (hend : ∀ w', C w w' → EndFrom (fun a' => SlEnd ss N a' w' → wpListIn F n P ops Q (ops.toList.drop k) a' w') w' ops.toList Rl a) :
 (Code.region id ops true).wpIn F n P Q a w := by
 subst hk
 refine wpIn_region_auto hm Rl.length (fun i v _ w => factsAt Rl i v w) C (SlT ss) (SlJ ss N) hCr (fun h k => hCt h k) (fun i v _ x y _ => hst.at i v x y) (fun _ _ _ _ _ _ _ _ _ h => h) hfo ht hC0 (slJ_start _ _ _) ?_ ?_ ?_
 · intro i o listed a' v w' w'' hik ho hsz hno hdep hA hC hJ hR hT
   exact slJ_step hok hfo ho hsz hno hdep hA.size (Nat.le_trans hN (hCz hC)) hJ hT
 · intro i o hik hi listed a' w' hA hC hJ hno hdep hD
   have hi' : (ops.toList.take Rl.length)[i]? = some o := by
    rw [List.getElem?_take_of_lt hik]
    simpa using hi
   have := stepsFromSC_at _ 0 hsteps i o hi' listed a' w' hA hC hJ (by rw [Nat.zero_add]; exact hno) hdep hD
   rw [Nat.zero_add] at this
   exact this
 · intro listed a' w' hA hC hJ hall hK
   have hok' := hok
   unfold slotsOk at hok'
   simp only [Bool.and_eq_true, List.all_map, decide_eq_true_eq] at hok'
   have hl : ∀ s ∈ ss, listed.getD s.ia false = true ∧ listed.getD s.is false = true := fun s hs => by
    have h1 := List.all_eq_true.1 hok'.1.1.1 s hs
    simp only [Function.comp, SlotA.key, Bool.and_eq_true, decide_eq_true_eq] at h1
    exact ⟨hall _ (hsk s hs).1 (of_decide_eq_true h1.1.2), hall _ (hsk s hs).2 (of_decide_eq_true h1.1.1.2)⟩
   have hE : SlEnd ss N a' w' := by
    refine ⟨fun s hs => ?_, fun s hs t ht hne => hJ.ne s hs t ht hne (hl s hs).1 (hl t ht).1⟩
    obtain ⟨b, h1, h2, h3⟩ := hJ.at_ s hs (hl s hs).1
    rw [(hl s hs).2] at h3
    exact ⟨b, h1, h2, h3⟩
   exact endFrom_of (K := fun a' => SlEnd ss N a' w' → wpListIn F n P ops Q (ops.toList.drop Rl.length) a' w') hfo hA.size 0 a rfl hA.defers.symm (by simpa using hend w' hC) hK (fun t ht => hA.slot t (fun i o hil hi => ht i o (Nat.zero_le _) hil hi)) hE
end
end Go.Proofs.YteklfmacnnmomaaGreat
