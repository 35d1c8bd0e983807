/- Merged texts: RegJ FldI FldH DocSp. -/
import Derived.Test.YtodpkgbpcpfamaaM1
import Derived.Test.YtodpkgbpcpfamaaM19
import Derived.Test.YtodpkgbpcpfamaaM11
/- General lemmas: a region by facts beside a ghost automaton that sees which operations are done. -/
namespace Go.Proofs.Ytodpkgbpcpfamaa
set_option linter.unusedSimpArgs false
set_option linter.unusedVariables false
open Go.RowKit
section
variable {F : Fence} {n : Nat} {P : Program} {ops : Array Oper} {Q : Exit → Act → World → Prop}
/-- What is owed for one operation, with how the world turns. -/
def StepOkT (F : Fence) (n : Nat) (P : Program) (ops : Array Oper) (R : Nat → Value → (Nat → Value) → World → Prop) (C : World → World → Prop) (T : Nat → Value → (Nat → Value) → World → World → Prop) (Q : Exit → Act → World → Prop) (i : Nat) (o : Oper) (a' : Act) (w' : World) : Prop :=
 if Region.wanted o (yielded ops a'.tmps) then ∀ K : Act → World → Prop, (∀ v w'', R i v (envOf a') w'' → C w' w'' → T i v (envOf a') w' w'' → K (a'.put o.dst v) w'') → o.wpIn F n P a' w' K Q
 else (∀ f, o.about P w' a'.eval = some f → F.fn f) ∧ R i undef (envOf a') w' ∧ T i undef (envOf a') w' w'

theorem wpIn_region_auto {id : Nat} {a : Act} {w : World} (hm : P.follows .mixedOrders = true) (k : Nat) (R : Nat → Value → (Nat → Value) → World → Prop) (C : World → World → Prop) (T : Nat → Value → (Nat → Value) → World → World → Prop) (J : Array Bool → Act → World → Prop)
 (hCr : ∀ x : World, C x x) (hCt : ∀ {x y z : World}, C x y → C y z → C x z) (hst : ∀ i v env x y, i < k → C x y → R i v env x → R i v env y)
 (hloc : ∀ i o v env env' x, i < k → ops[i]? = some o → (∀ e ∈ o.after, Region.binds .any e = true → ∀ o' d, ops[e.on]? = some o' → o'.dst = some d → env d = env' d) → R i v env x → R i v env' x)
 (hfo : factsOk ops a.tmps.size = true) (ht : tailOk ops k = true) (hC0 : C w w.drew) (hJ0 : J (Array.replicate ops.size false) a w.drew)
 (hJs : ∀ (i : Nat) (o : Oper) (listed : Array Bool) (a' : Act) (v : Value) (w' w'' : World), i < k → ops[i]? = some o → listed.size = ops.size → listed.getD i false = false → (∀ e ∈ o.after, Region.binds .any e = true → listed.getD e.on false = true) → Agree ops k a a' → C w w' → J listed a' w' → R i v (envOf a') w'' → T i v (envOf a') w' w'' → J (listed.setIfInBounds i true) (a'.put o.dst v) w'')
 (hstep : ∀ (i : Nat) (o : Oper), i < k → ops[i]? = some o → ∀ (listed : Array Bool) (a' : Act) (w' : World), Agree ops k a a' → C w w' → J listed a' w' → listed.getD i false = false → (∀ e ∈ o.after, Region.binds .any e = true → listed.getD e.on false = true) →
  (∀ e ∈ o.after, Region.binds .any e = true → Known R ops e.on a' w') → StepOkT F n P ops R C T Q i o a' w')
 (hend : ∀ (listed : Array Bool) (a' : Act) (w' : World), Agree ops k a a' → C w w' → J listed a' w' → (∀ i, i < k → i < ops.size → listed.getD i false = true) → (∀ i, i < k → i < ops.size → Known R ops i a' w') → wpListIn F n P ops Q (ops.toList.drop k) a' w') :
 (Code.region id ops true).wpIn F n P Q a w := by
 refine wpIn_region_any hm ?_
 have main : ∀ (fuel : Nat) (listed : Array Bool) (a' : Act) (w' : World), listed.size = ops.size → fuel + (List.range ops.size).countP (fun i => listed.getD i false) = ops.size → Shut ops listed →
  (∀ i, k ≤ i → i < ops.size → listed.getD i false = false) → Agree ops k a a' → C w w' → J listed a' w' → (∀ i, i < k → i < ops.size → listed.getD i false = true → Known R ops i a' w') →
  wpAnyIn F n P .any ops Q fuel listed a' w' := by
  intro fuel
  induction fuel with
  | zero =>
   intro listed a' w' hsz hf hs hlate hA hC hJ hK
   have hall : ∀ i, i < ops.size → listed.getD i false = true := by
    intro i hi
    have h1 : (List.range ops.size).countP (fun i => listed.getD i false) = (List.range ops.size).length := by simp at hf ⊢; omega
    exact List.countP_eq_length.1 h1 i (List.mem_range.2 hi)
   have hk : ops.size ≤ k := by
    rcases Nat.lt_or_ge k ops.size with h | h
    · have := hlate k (Nat.le_refl _) h; rw [hall k h] at this; cases this
    · exact h
   have h := hend listed a' w' hA hC hJ (fun i _ hi => hall i hi) (fun i hik hi => hK i hik hi (hall i hi))
   rw [List.drop_eq_nil_of_le (by simpa using hk)] at h
   refine ⟨?_, h⟩
   apply List.eq_nil_iff_forall_not_mem.2
   intro j hj
   obtain ⟨hlt, hno, _⟩ := ready_mem hj
   rw [getD_lt _ _ (by omega), hall j hlt] at hno
   cases hno
  | succ fuel ih =>
   intro listed a' w' hsz hf hs hlate hA hC hJ hK
   refine ⟨?_, ?_⟩
   · -- nothing is ready: all has been carried out
     intro h0
     exfalso
     have hex : ∃ i, i < ops.size ∧ listed.getD i false = false := by
      rcases Classical.em (∃ i, i < ops.size ∧ listed.getD i false = false) with h | h
      · exact h
      · exfalso
        have hall : ∀ i, i < ops.size → listed.getD i false = true := fun i hi => by
         cases hb : listed.getD i false with
         | true => rfl
         | false => exact absurd ⟨i, hi, hb⟩ h
        have h1 : (List.range ops.size).countP (fun i => listed.getD i false) = (List.range ops.size).length := List.countP_eq_length.2 (fun i hi => hall i (List.mem_range.1 hi))
        simp only [List.length_range] at h1
        rw [h1] at hf
        omega
     have least : ∀ m, (∃ i, i < ops.size ∧ i ≤ m ∧ listed.getD i false = false) → ∃ i, i < ops.size ∧ listed.getD i false = false ∧ ∀ j, j < i → listed.getD j false = true := by
      intro m
      induction m with
      | zero => rintro ⟨i, hi, h0', hb⟩; exact ⟨i, hi, hb, fun j hj => by omega⟩
      | succ m ihm =>
       rintro ⟨i, hi, hle, hb⟩
       rcases Classical.em (∃ i, i < ops.size ∧ i ≤ m ∧ listed.getD i false = false) with h | h
       · exact ihm h
       · refine ⟨i, hi, hb, fun j hj => ?_⟩
         cases hbj : listed.getD j false with
         | true => rfl
         | false => exact absurd ⟨j, by omega, by omega, hbj⟩ h
     obtain ⟨i0, hi0, hb0⟩ := hex
     obtain ⟨i, hi, hb, hbef⟩ := least i0 ⟨i0, hi0, Nat.le_refl _, hb0⟩
     obtain ⟨o, ho⟩ : ∃ o, ops[i]? = some o := ⟨_, Array.getElem?_eq_getElem hi⟩
     have hin : i ∈ Region.ready .any ops listed := by
      simp only [Region.ready, List.mem_filter, List.mem_range, Bool.and_eq_true, Bool.not_eq_true']
      refine ⟨hi, by rw [getD_lt _ _ (by omega)]; exact hb, ?_⟩
      simp only [ho, Option.map_some, Option.getD_some, Array.all_eq_true_iff_forall_mem]
      intro e he
      by_cases hbn : Region.binds .any e = true
      · rw [hbef _ (factsOk_edge hfo ho he hbn)]; simp
      · simp [hbn]
     rw [h0] at hin
     cases hin
   · intro i hi
     obtain ⟨hlt, hno, hdep⟩ := ready_mem hi
     rw [getD_lt _ _ (by omega)] at hno
     obtain ⟨o, ho⟩ : ∃ o, ops[i]? = some o := ⟨_, Array.getElem?_eq_getElem hlt⟩
     rcases Nat.lt_or_ge i k with hik | hik
     · -- one of the free ones
       have hso := hstep i o hik ho listed a' w' hA hC hJ hno (hdep o ho) (fun e he hb => by
        have hl := hdep o ho e he hb
        have hlt' := factsOk_edge hfo ho he hb
        exact hK e.on (by omega) (by omega) hl)
       have henv : ∀ (m : Nat) (om : Oper), ops[m]? = some om → (∀ e ∈ om.after, Region.binds .any e = true → e.on ≠ i) → ∀ (v : Value), ∀ e ∈ om.after, Region.binds .any e = true → ∀ o' d, ops[e.on]? = some o' → o'.dst = some d → envOf a' d = envOf (a'.put o.dst v) d := by
        intro m om hom hne v e he hb o' d ho' hd
        unfold envOf
        rw [put_other _ _ _ _ (fun hd' => factsOk_once hfo ho ho' (fun e1 => hne e he hb e1.symm) hd' hd)]
       have hnext : ∀ v w'', R i v (envOf a') w'' → C w' w'' → T i v (envOf a') w' w'' → wpAnyIn F n P .any ops Q fuel (listed.setIfInBounds i true) (a'.put o.dst v) w'' := by
        intro v w'' hR hC' hT
        refine ih _ _ _ (by simpa using hsz) ?_ ?_ ?_ (hA.put hik ho v) (hCt hC hC') (hJs i o listed a' v w' w'' hik ho hsz hno (hdep o ho) hA hC hJ hR hT) ?_
        · have hc : (List.range ops.size).countP (fun j => (listed.setIfInBounds i true).getD j false) = (List.range ops.size).countP (fun j => listed.getD j false) + 1 := by
           have key : ∀ m, i < m → m ≤ ops.size → (List.range m).countP (fun j => (listed.setIfInBounds i true).getD j false) = (List.range m).countP (fun j => listed.getD j false) + 1 := by
            intro m
            induction m with
            | zero => intro h _; omega
            | succ m ihm =>
             intro h hle
             simp only [List.range_succ, List.countP_append, List.countP_singleton]
             rcases Nat.lt_or_eq_of_le (Nat.lt_succ_iff.1 h) with h' | rfl
             · rw [ihm h' (by omega), getD_set_other _ _ _ _ (by omega)]; omega
             · have same : ∀ m, m ≤ i → (List.range m).countP (fun j => (listed.setIfInBounds i true).getD j false) = (List.range m).countP (fun j => listed.getD j false) := by
                intro m hm
                refine List.countP_congr (fun j hj => ?_)
                rw [getD_set_other _ _ _ _ (by have := List.mem_range.1 hj; omega)]
               rw [same i (Nat.le_refl _), getD_set_same _ _ _ (by omega), hno]
               simp
           exact key ops.size hlt (Nat.le_refl _)
          rw [hc]; omega
        · intro j o' hj hlj e he hb
          by_cases e1 : i = e.on
          · rw [← e1, getD_set_same _ _ _ (by omega)]
          · rw [getD_set_other _ _ _ _ e1]
            by_cases e2 : i = j
            · subst e2
              rw [ho] at hj; cases hj
              exact hdep o ho e he hb
            · rw [getD_set_other _ _ _ _ e2] at hlj
              exact hs j o' hj hlj e he hb
        · intro j hkj hj
          rw [getD_set_other _ _ _ _ (by omega)]
          exact hlate j hkj hj
        · intro j hjk hj hlj
          by_cases e1 : i = j
          · subst e1
            intro o' ho'
            rw [ho] at ho'; cases ho'
            cases hd : o.dst with
            | none => exact ⟨v, hR⟩
            | some d =>
             refine ⟨v, by rw [put_same _ _ _ (by rw [hA.size]; exact factsOk_dst hfo ho hd)], ?_⟩
             rw [← hd]
             exact hloc i o v _ _ _ hik ho (henv i o ho (fun e he hb e1 => by have := factsOk_edge hfo ho he hb; omega) v) hR
          · rw [getD_set_other _ _ _ _ e1] at hlj
            have hk := hK j hjk hj hlj
            intro o' ho'
            have hk' := hk o' ho'
            have hen := henv j o' ho' (fun e he hb e2 => by
             have := hs j o' ho' hlj e he hb
             rw [e2, hno] at this
             cases this) v
            cases hd' : o'.dst with
            | none => rw [hd'] at hk'; obtain ⟨u, hu⟩ := hk'; exact ⟨u, hloc j o' u _ _ _ hjk ho' hen (hst j _ _ _ _ hjk hC' hu)⟩
            | some d =>
             rw [hd'] at hk'
             obtain ⟨u, hu, hRu⟩ := hk'
             exact ⟨u, by rw [put_other _ _ _ _ (fun hd => factsOk_once hfo ho ho' e1 hd hd')]; exact hu, hloc j o' u _ _ _ hjk ho' hen (hst j _ _ _ _ hjk hC' hRu)⟩
       unfold StepOkT at hso
       unfold wpOpIn
       simp only [ho]
       split
       · rename_i hw
         simp only [hw, if_true] at hso
         exact hso _ hnext
       · rename_i hw
         simp only [hw] at hso
         exact ⟨hso.1, hnext _ _ hso.2.1 (hCr _) hso.2.2⟩
     · -- the first of the last ones
       have hbefore := tailOk_before ht hs hik ho (hdep o ho)
       have hik' : i = k := by
        rcases Nat.lt_or_eq_of_le hik with h | h
        · have := hbefore k h; rw [hlate k (Nat.le_refl _) (by omega)] at this; cases this
        · exact h.symm
       subst hik'
       have hl : ∀ j, j < ops.size → listed.getD j false = decide (j < i) := by
        intro j hj
        rcases Nat.lt_or_ge j i with h | h
        · rw [hbefore j h]; simp [h]
        · rw [hlate j h hj]; simp; omega
       have hf' : fuel + 1 + i = ops.size := by
        have : (List.range ops.size).countP (fun j => listed.getD j false) = i := by
         have key : ∀ m, m ≤ ops.size → (List.range m).countP (fun j => listed.getD j false) = min m i := by
          intro m
          induction m with
          | zero => simp
          | succ m ihm =>
           intro hm
           simp only [List.range_succ, List.countP_append, List.countP_singleton]
           rw [ihm (by omega), hl m (by omega)]
           by_cases h : m < i <;> simp [h] <;> omega
         rw [key _ (Nat.le_refl _)]; omega
        omega
       have h := wpAnyIn_tail (F := F) (n := n) (P := P) (Q := Q) hfo ht (fuel + 1) listed i a' w' (Nat.le_refl _) hf' hsz hl (hend listed a' w' hA hC hJ (fun m hm _ => hbefore m hm) (fun j hj hjs => hK j hj hjs (hbefore j hj)))
       exact h.2 i hi
 refine main ops.size _ a w.drew (by simp) ?_ ?_ ?_ (Agree.refl k a) hC0 hJ0 ?_
 · have : (List.range ops.size).countP (fun i => (Array.replicate ops.size false).getD i false) = 0 := by
    rw [List.countP_eq_zero]
    intro i hi
    simp [Array.getD_eq_getD_getElem?, List.mem_range.1 hi]
   omega
 · intro i o hi hl
   exfalso
   have hlt : i < ops.size := (Array.getElem?_eq_some_iff.1 hi).1
   simp [Array.getD_eq_getD_getElem?, hlt] at hl
 · intro i _ hi
   simp [Array.getD_eq_getD_getElem?, hi]
 · intro i _ hi hl
   exfalso
   simp [Array.getD_eq_getD_getElem?, hi] at hl
end

/-- A block that the region allocates (operation ia, into slot d) and fills (operation is). -/
structure SlotA where
 ia : Nat
 is : Nat
 d : Nat
 o0 : Obj
 o1 : Obj
def ptrB (b : Nat) : Value := .pointer (some ⟨b, 0, none⟩)
theorem ptrB_inj {b c : Nat} (h : ptrB b = ptrB c) : b = c := by
 unfold ptrB at h
 simp only [Value.pointer.injEq, Option.some.injEq, Addr.mk.injEq, and_true] at h
 exact h
structure SlJ (ss : List SlotA) (N : Nat) (listed : Array Bool) (a : Act) (w : World) : Prop where
 at_ : ∀ s ∈ ss, listed.getD s.ia false = true → ∃ b, N ≤ b ∧ a.tmps[s.d]? = some (ptrB b) ∧ w.heap[b]? = some (if listed.getD s.is false then s.o1 else s.o0)
 ne : ∀ s ∈ ss, ∀ t ∈ ss, s.ia ≠ t.ia → listed.getD s.ia false = true → listed.getD t.ia false = true → a.tmps[s.d]? ≠ a.tmps[t.d]?
 bef : ∀ s ∈ ss, listed.getD s.is false = true → listed.getD s.ia false = true
structure SlT (ss : List SlotA) (i : Nat) (v : Value) (env : Nat → Value) (x y : World) : Prop where
 al : ∀ s ∈ ss, i = s.ia → v = ptrB x.heap.size ∧ y.heap[x.heap.size]? = some s.o0
 sto : ∀ s ∈ ss, i = s.is → ∀ b, env s.d = ptrB b → x.heap[b]? = some s.o0 → y.heap[b]? = some s.o1
 same : ∀ k, k < x.heap.size → (∀ s ∈ ss, i = s.is → env s.d ≠ ptrB k) → y.heap[k]? = x.heap[k]?
def slotsOk (ops : Array Oper) (l : List (Nat × Nat × Nat)) : Bool :=
 (l.all fun (ia, is, d) => ((ops[ia]?).bind (·.dst) == some d) && decide (is < ops.size) && decide (ia < ops.size) && ((ops[is]?).all fun o => o.after.toList.any fun e => Region.binds .any e && e.on == ia)) &&
 decide ((l.map (·.1)).Nodup) && decide ((l.map (·.2.1)).Nodup) && (l.all fun s => l.all fun t => decide (s.2.1 ≠ t.1))
def SlotA.key (s : SlotA) : Nat × Nat × Nat := (s.ia, s.is, s.d)
theorem nodup_key {β : Type} {f : SlotA → β} : ∀ {ss : List SlotA}, (ss.map f).Nodup → ∀ {s t : SlotA}, s ∈ ss → t ∈ ss → f s = f t → s = t
 | [], _, _, _, h, _, _ => by simp at h
 | x :: ss, h, s, t, hs, ht, e => by
  rw [List.map_cons, List.nodup_cons] at h
  rcases List.mem_cons.1 hs with hs | hs
  · subst hs
    rcases List.mem_cons.1 ht with ht | ht
    · exact ht.symm
    · exact absurd (List.mem_map.2 ⟨t, ht, e.symm⟩) h.1
  · rcases List.mem_cons.1 ht with ht | ht
    · exact absurd (List.mem_map.2 ⟨s, hs, e.trans (by rw [ht])⟩) h.1
    · exact nodup_key h.2 hs ht e
section
variable {ops : Array Oper} {ss : List SlotA} {N k : Nat}
theorem slJ_step {a' : Act} {size : Nat} (hok : slotsOk ops (ss.map (·.key)) = true) (hfo : factsOk ops size = true) {i : Nat} {o : Oper} {listed : Array Bool} {v : Value} {w' w'' : World} (ho : ops[i]? = some o) (hsz : listed.size = ops.size) (hno : listed.getD i false = false) (hdep : ∀ e ∈ o.after, Region.binds .any e = true → listed.getD e.on false = true)
 (has : a'.tmps.size = size) (hN : N ≤ w'.heap.size) (hJ : SlJ ss N listed a' w') (hT : SlT ss i v (envOf a') w' w'') : SlJ ss N (listed.setIfInBounds i true) (a'.put o.dst v) w'' := by
 unfold slotsOk at hok
 simp only [Bool.and_eq_true, List.all_map, decide_eq_true_eq] at hok
 obtain ⟨⟨⟨h1, h2⟩, h3⟩, h4⟩ := hok
 simp only [List.map_map] at h2 h3
 have hi : i < ops.size := (Array.getElem?_eq_some_iff.1 ho).1
 have hdst : ∀ s ∈ ss, (ops[s.ia]?).bind (·.dst) = some s.d := fun s hs => by
  have := List.all_eq_true.1 h1 s hs
  simp only [Function.comp, SlotA.key, Bool.and_eq_true, beq_iff_eq] at this
  exact this.1.1.1
 have hafter : ∀ s ∈ ss, i = s.is → listed.getD s.ia false = true := fun s hs e => by
  have := List.all_eq_true.1 h1 s hs
  simp only [Function.comp, SlotA.key, Bool.and_eq_true, ← e, ho, Option.all_some, List.any_eq_true] at this
  obtain ⟨e, he, hb⟩ := this.2
  simp only [beq_iff_eq] at hb
  rw [← hb.2]
  exact hdep e (by simpa using he) hb.1
 have hia : ∀ s ∈ ss, ∀ t ∈ ss, s.ia = t.ia → s = t := fun s hs t ht e => nodup_key (f := fun s => s.ia) h2 hs ht e
 have his : ∀ s ∈ ss, ∀ t ∈ ss, s.is = t.is → s = t := fun s hs t ht e => nodup_key (f := fun s => s.is) h3 hs ht e
 have hx : ∀ s ∈ ss, ∀ t ∈ ss, s.is ≠ t.ia := fun s hs t ht => by
  have h5 := List.all_eq_true.1 h4 s hs
  simp only [Function.comp] at h5
  have h6 := List.all_eq_true.1 h5 t ht
  exact of_decide_eq_true h6
 have hown : ∀ s ∈ ss, i = s.ia → o.dst = some s.d := fun s hs e => by
  have := hdst s hs
  rw [← e, ho] at this
  exact this
 have hoth : ∀ s ∈ ss, i ≠ s.ia → (a'.put o.dst v).tmps[s.d]? = a'.tmps[s.d]? := fun s hs e => by
  refine put_other _ _ _ _ fun hd => ?_
  have h5 := hdst s hs
  cases h6 : ops[s.ia]? with
  | none => rw [h6] at h5; simp at h5
  | some o' =>
   rw [h6] at h5
   exact factsOk_once hfo ho h6 e hd h5
 have hset : ∀ j, i ≠ j → (listed.setIfInBounds i true).getD j false = listed.getD j false := fun j e => getD_set_other _ _ _ _ e
 have hsame : (listed.setIfInBounds i true).getD i false = true := getD_set_same _ _ _ (by omega)
 have henv : ∀ s b, a'.tmps[s]? = some (ptrB b) → envOf a' s = ptrB b := fun s b h => by unfold envOf; rw [h]; rfl
 refine ⟨fun s hs hl => ?_, fun s hs t ht hne hls hlt => ?_, fun s hs hl => ?_⟩
 · by_cases e : i = s.ia
   · obtain ⟨e1, e2⟩ := hT.al s hs e
     refine ⟨w'.heap.size, hN, ?_, ?_⟩
     · rw [hown s hs e, put_same _ _ _ (by rw [has]; exact factsOk_dst hfo ho (hown s hs e)), e1]
     · have hne : i ≠ s.is := fun h => hx s hs s hs (h.symm.trans e)
       rw [hset _ hne]
       have : listed.getD s.is false = false := by
        cases hl2 : listed.getD s.is false with
        | false => rfl
        | true => have := hJ.bef s hs hl2; rw [← e, hno] at this; cases this
       rw [this]
       exact e2
   · rw [hset _ e] at hl
     obtain ⟨b, hb1, hb2, hb3⟩ := hJ.at_ s hs hl
     refine ⟨b, hb1, (hoth s hs e).trans hb2, ?_⟩
     by_cases e2 : i = s.is
     · rw [← e2, hsame]
       rw [← e2, hno] at hb3
       exact hT.sto s hs e2 b (henv _ _ hb2) hb3
     · rw [hset _ e2, ← hb3]
       refine hT.same b (block_lt hb3) fun t ht e3 he => ?_
       have hst : s.ia ≠ t.ia := fun h => e2 (by rw [hia s hs t ht h]; exact e3)
       have hlt := hafter t ht e3
       obtain ⟨c, hc1, hc2, hc3⟩ := hJ.at_ t ht hlt
       rw [henv _ _ hc2] at he
       exact hJ.ne s hs t ht hst hl hlt (by rw [hb2, hc2, he])
 · by_cases e : i = s.ia
   · have e' : i ≠ t.ia := fun h => hne (e.symm.trans h)
     rw [hset _ e'] at hlt
     obtain ⟨c, hc1, hc2, hc3⟩ := hJ.at_ t ht hlt
     rw [hoth t ht e', hc2, hown s hs e, put_same _ _ _ (by rw [has]; exact factsOk_dst hfo ho (hown s hs e)), (hT.al s hs e).1]
     intro h
     have := ptrB_inj (Option.some.inj h)
     have := block_lt hc3
     omega
   · rw [hset _ e] at hls
     by_cases e2 : i = t.ia
     · obtain ⟨c, hc1, hc2, hc3⟩ := hJ.at_ s hs hls
       rw [hoth s hs e, hc2, hown t ht e2, put_same _ _ _ (by rw [has]; exact factsOk_dst hfo ho (hown t ht e2)), (hT.al t ht e2).1]
       intro h
       have := ptrB_inj (Option.some.inj h)
       have := block_lt hc3
       omega
     · rw [hset _ e2] at hlt
       rw [hoth s hs e, hoth t ht e2]
       exact hJ.ne s hs t ht hne hls hlt
 · by_cases e : i = s.is
   · have h5 := hafter s hs e
     by_cases e2 : i = s.ia
     · rw [← e2, hno] at h5; cases h5
     · rw [hset _ e2]; exact h5
   · rw [hset _ e] at hl
     have h5 := hJ.bef s hs hl
     by_cases e2 : i = s.ia
     · rw [← e2, hno] at h5; cases h5
     · rw [hset _ e2]; exact h5
theorem SlT.plain {i : Nat} {v : Value} {env : Nat → Value} {x y : World} (hi : ∀ s ∈ ss, i ≠ s.ia ∧ i ≠ s.is) (hb : Below x.heap.size x y) : SlT ss i v env x y :=
 ⟨fun s hs e => absurd e (hi s hs).1, fun s hs e => absurd e (hi s hs).2, fun k hk _ => hb.block k hk⟩
theorem slJ_start (w : World) (a : Act) (n : Nat) : SlJ ss N (Array.replicate n false) a w := by
 have h : ∀ j, (Array.replicate n false).getD j false = false := fun j => by
  rw [Array.getD_eq_getD_getElem?]
  by_cases hj : j < n
  · simp [hj]
  · simp [hj]
 refine ⟨fun s _ hl => ?_, fun s _ t _ _ hl => ?_, fun s _ hl => ?_⟩
 · rw [h] at hl; cases hl
 · rw [h] at hl; cases hl
 · rw [h] at hl; cases hl
end
section
variable {F : Fence} {n : Nat} {P : Program} {ops : Array Oper} {Q : Exit → Act → World → Prop}
def StepsFromS (F : Fence) (n : Nat) (P : Program) (ops : Array Oper) (ss : List SlotA) (N : Nat) (Rl : List (Value → World → Prop)) (Q : Exit → Act → World → Prop) (a : Act) (w : World) : Nat → List Oper → Prop
 | _, [] => True
 | i, o :: rest => (∀ (listed : Array Bool) (a' : Act) (w' : World), Agree ops Rl.length a a' → Below N w w' → SlJ ss N listed a' w' → listed.getD i false = false → (∀ e ∈ o.after, Region.binds .any e = true → listed.getD e.on false = true) → (∀ e ∈ o.after, Region.binds .any e = true → Known (fun i v _ w => factsAt Rl i v w) ops e.on a' w') → StepOkT F n P ops (fun i v _ w => factsAt Rl i v w) (fun x y => Below N x y) (SlT ss) Q i o a' w') ∧
  StepsFromS F n P ops ss N Rl Q a w (i + 1) rest
theorem stepsFromS_at {ss : List SlotA} {N : Nat} {Rl : List (Value → World → Prop)} {a : Act} {w : World} : ∀ (l : List Oper) (j : Nat), StepsFromS F n P ops ss N Rl Q a w j l → ∀ (i : Nat) (o : Oper), l[i]? = some o →
 ∀ (listed : Array Bool) (a' : Act) (w' : World), Agree ops Rl.length a a' → Below N w w' → SlJ ss N listed a' w' → listed.getD (j + i) false = false → (∀ e ∈ o.after, Region.binds .any e = true → listed.getD e.on false = true) → (∀ e ∈ o.after, Region.binds .any e = true → Known (fun i v _ w => factsAt Rl i v w) ops e.on a' w') → StepOkT F n P ops (fun i v _ w => factsAt Rl i v w) (fun x y => Below N x y) (SlT ss) Q (j + i) o a' w'
 | [], _, _, _, _, hi => by simp at hi
 | o :: rest, j, h, 0, o', hi => by
  simp only [List.getElem?_cons_zero, Option.some.injEq] at hi
  subst hi
  exact h.1
 | o :: rest, j, h, i + 1, o', hi => by
  have := stepsFromS_at rest (j + 1) h.2 i o' (by simpa using hi)
  rw [Nat.add_assoc, Nat.add_comm 1 i] at this
  exact this
/-- What the region leaves of its blocks. -/
def SlEnd (ss : List SlotA) (N : Nat) (a : Act) (w : World) : Prop :=
 (∀ s ∈ ss, ∃ b, N ≤ b ∧ a.tmps[s.d]? = some (ptrB b) ∧ w.heap[b]? = some s.o1) ∧ ∀ s ∈ ss, ∀ t ∈ ss, s.ia ≠ t.ia → a.tmps[s.d]? ≠ a.tmps[t.d]?
/-- A region that draws its order, allocates blocks and fills them, by facts. -/
theorem wp_region_slots {id : Nat} {a : Act} {w : World} (k : Nat) (ss : List SlotA) (N : Nat) (hm : P.follows .mixedOrders = true) (Rl : List (Value → World → Prop)) (hk : Rl.length = k)
 (hst : AllStable (fun x y => Below N x y) Rl)
 (hfo : factsOk ops a.tmps.size = true) (ht : tailOk ops k = true) (hN : N ≤ w.heap.size) (hok : slotsOk ops (ss.map (·.key)) = true) (hsk : ∀ s ∈ ss, s.ia < k ∧ s.is < k)
 (hsteps : StepsFromS F n P ops ss N Rl Q a w 0 (ops.toList.take k))
 (hend : ∀ w', Below N w w' → EndFrom (fun a' => SlEnd ss N a' w' → wpListIn F n P ops Q (ops.toList.drop k) a' w') w' ops.toList Rl a) :
 (Code.region id ops true).wpIn F n P Q a w := by
 subst hk
 refine wpIn_region_auto hm Rl.length (fun i v _ w => factsAt Rl i v w) (fun x y => Below N x y) (SlT ss) (SlJ ss N) (fun x => Below.refl _ x) (fun h k => h.trans k) (fun i v _ x y _ => hst.at i v x y) (fun _ _ _ _ _ _ _ _ _ h => h) hfo ht (Below.refl _ _).drew (slJ_start _ _ _) ?_ ?_ ?_
 · intro i o listed a' v w' w'' hik ho hsz hno hdep hA hC hJ hR hT
   exact slJ_step hok hfo ho hsz hno hdep hA.size (Nat.le_trans hN hC.size) hJ hT
 · intro i o hik hi listed a' w' hA hC hJ hno hdep hD
   have hi' : (ops.toList.take Rl.length)[i]? = some o := by
    rw [List.getElem?_take_of_lt hik]
    simpa using hi
   have := stepsFromS_at _ 0 hsteps i o hi' listed a' w' hA hC hJ (by rw [Nat.zero_add]; exact hno) hdep hD
   rw [Nat.zero_add] at this
   exact this
 · intro listed a' w' hA hC hJ hall hK
   have hok' := hok
   unfold slotsOk at hok'
   simp only [Bool.and_eq_true, List.all_map, decide_eq_true_eq] at hok'
   have hl : ∀ s ∈ ss, listed.getD s.ia false = true ∧ listed.getD s.is false = true := fun s hs => by
    have h1 := List.all_eq_true.1 hok'.1.1.1 s hs
    simp only [Function.comp, SlotA.key, Bool.and_eq_true, decide_eq_true_eq] at h1
    exact ⟨hall _ (hsk s hs).1 (of_decide_eq_true h1.1.2), hall _ (hsk s hs).2 (of_decide_eq_true h1.1.1.2)⟩
   have hE : SlEnd ss N a' w' := by
    refine ⟨fun s hs => ?_, fun s hs t ht hne => hJ.ne s hs t ht hne (hl s hs).1 (hl t ht).1⟩
    obtain ⟨b, h1, h2, h3⟩ := hJ.at_ s hs (hl s hs).1
    rw [(hl s hs).2] at h3
    exact ⟨b, h1, h2, h3⟩
   exact endFrom_of (K := fun a' => SlEnd ss N a' w' → wpListIn F n P ops Q (ops.toList.drop Rl.length) a' w') hfo hA.size 0 a rfl hA.defers.symm (by simpa using hend w' hC) hK (fun t ht => hA.slot t (fun i o hil hi => ht i o (Nat.zero_le _) hil hi)) hE
theorem stepOkT_plain {R : Nat → Value → (Nat → Value) → World → Prop} {C : World → World → Prop} {T : Nat → Value → (Nat → Value) → World → World → Prop} {i : Nat} {o : Oper} {a' : Act} {w' : World} (hg : o.guard = none)
 (h : ∀ K : Act → World → Prop, (∀ v w'', R i v (envOf a') w'' → C w' w'' → T i v (envOf a') w' w'' → K (a'.put o.dst v) w'') → o.wpIn F n P a' w' K Q) : StepOkT F n P ops R C T Q i o a' w' := by
 unfold StepOkT
 simp only [Region.wanted, hg, if_true]
 exact h
end
section
variable {ss : List SlotA} {i : Nat} {v : Value} {env : Nat → Value} {x y : World}
theorem SlT.plainB (hi : (ss.all fun s => !(Nat.beq i s.ia) && !(Nat.beq i s.is)) = true) (hb : Below x.heap.size x y) : SlT ss i v env x y :=
 SlT.plain (fun s hs => by
  have := List.all_eq_true.1 hi s hs
  simp only [Bool.and_eq_true, Bool.not_eq_true'] at this
  exact ⟨fun e => by rw [e, Nat.beq_refl] at this; exact absurd this.1 (by decide), fun e => by rw [← e, Nat.beq_refl] at this; exact absurd this.2 (by decide)⟩) hb
theorem SlT.alloc {o : Obj} (ha : ∀ t ∈ ss, t.ia = i → t.o0 = o) (hn : ∀ t ∈ ss, t.is ≠ i) : SlT ss i (ptrB x.heap.size) env x (x.alloc o) :=
 ⟨fun s hs e => ⟨rfl, by rw [ha s hs e.symm]; exact newBlock _ _ _ rfl⟩, fun s hs e => absurd e.symm (hn s hs), fun k hk _ => Below.heap_alloc x o k hk⟩
theorem SlT.store (s : SlotA) (hu : ∀ t ∈ ss, t.is = i → t = s) (hna : ∀ t ∈ ss, t.ia ≠ i) (hm : s ∈ ss) (hsi : s.is = i) (b : Nat) (he : env s.d = ptrB b) (hy : y.heap[b]? = some s.o1) (ho : ∀ k, k ≠ b → y.heap[k]? = x.heap[k]?) : SlT ss i v env x y :=
 ⟨fun t ht e => absurd e.symm (hna t ht), fun t ht e c hc _ => by
  obtain rfl := hu t ht e.symm
  rw [he] at hc
  rw [← ptrB_inj hc]
  exact hy, fun k hk hn => ho k fun e => hn s hm hsi.symm (by rw [e]; exact he)⟩
end
/-- A block that lies there. -/
structure BlkAt (b : Nat) (o : Obj) (w : World) : Prop where
 at_ : w.heap[b]? = some o
theorem BlkAt.below {b : Nat} {o : Obj} {w w' : World} (h : BlkAt b o w) (hb : Below w.heap.size w w') : BlkAt b o w' := ⟨(hb.block b (block_lt h.at_)).trans h.at_⟩
end Go.Proofs.Ytodpkgbpcpfamaa

/- A field of numbers as a value: its rows and cells. -/
namespace Go.Proofs.Ytodpkgbpcpfamaa
set_option linter.unusedSimpArgs false
set_option linter.unusedVariables false
open Go.RowKit Go.Shelf
theorem built_field0 : Try.prog.built 50 [] = some (fldA fun _ => 0) := by kernel_rfl
end Go.Proofs.Ytodpkgbpcpfamaa

/- Fields of truths whose rows are laid one by one into a row that is made whole. -/
namespace Go.Proofs.Ytodpkgbpcpfamaa
set_option linter.unusedSimpArgs false
set_option linter.unusedVariables false
open Go.RowKit Go.Shelf
def encV (v : Value) : List Value := [v]
theorem encV_len (v : Value) : (encV v).length = 1 := rfl
def rowB1 (m b : Nat) : Value := .slice (some ⟨b, 0, none⟩) m m
/-- The rows so far, and none behind them. -/
def rowsH (n m : Nat) (B : List Nat) : List Value := B.map (rowB1 m) ++ List.replicate (n - B.length) (.slice none 0 0)
theorem rowsH_len {n m : Nat} {B : List Nat} (h : B.length ≤ n) : (rowsH n m B).length = n := by simp [rowsH]; omega
theorem rowsH_none {n m : Nat} {B : List Nat} (h : B.length < n) : (rowsH n m B)[B.length]? = some (.slice none 0 0) := by
 unfold rowsH
 rw [List.getElem?_append_right (by simp), List.length_map, Nat.sub_self, List.getElem?_replicate]; rw [if_pos (by omega)]
theorem rowsH_some {n m j b : Nat} {B : List Nat} (h : B[j]? = some b) : (rowsH n m B)[j]? = some (rowB1 m b) := by
 unfold rowsH
 rw [List.getElem?_append_left (by simpa using (List.getElem?_eq_some_iff.1 h).1), List.getElem?_map, h]
 rfl
theorem rowsH_set {n m b : Nat} {B : List Nat} (h : B.length < n) : (rowsH n m B).set B.length (rowB1 m b) = rowsH n m (B ++ [b]) := by
 unfold rowsH
 obtain ⟨k, hk⟩ : ∃ k, n - B.length = k + 1 := ⟨n - B.length - 1, by omega⟩
 rw [List.set_append_right _ _ (by simp), hk]
 have e : n - (B ++ [b]).length = k := by simp; omega
 rw [e]
 simp [List.replicate_succ]
theorem infoBS : (Try.prog.info? 102).map (fun i => (i.zero, i.size, i.bytes)) = some (some (.slice none 0 0), 1, 24) := by kernel_rfl
theorem madeBS (n : Nat) : (madeCells (Value.slice none 0 0).cells (n * 1)).toList = rowsH n 0 [] := by
 refine List.ext_getElem? fun i => ?_
 unfold madeCells rowsH
 by_cases h : i < n
 · simp [h, Value.cells, Nat.mod_one]
 · simp [h, Value.cells]
structure FldH (w0 : World) (its : List It) (base g n m : Nat) (B : List Nat) (F : Nat → Nat → Bool) (w : World) : Prop where
 o : StO w0 its base 102 1 encV (.slice (some ⟨g, 0, none⟩) n n) (rowsH n m B) w
 nd : B.Nodup
 row : ∀ j b, B[j]? = some b → w.ownsRow base 4 1 (.slice (some ⟨b, 0, none⟩) m m) m (rowV m (F j))
theorem encV_flat (l : List Value) : l.flatMap encV = l := by induction l with | nil => rfl | cons a l ih => rw [List.flatMap_cons, ih]; rfl
theorem FldH.start {w0 x y : World} {its : List It} {n m : Nat} {F : Nat → Nat → Bool} (h : St w0 its x) (ho : y.ownsRow x.heap.size 102 1 (.slice (some ⟨x.heap.size, 0, none⟩) n n) n (rowsH n 0 [])) (hg : x.grownBy y none) : FldH w0 its x.heap.size x.heap.size n m [] F y := by
 have hb := h.quiet hg
 refine ⟨⟨h.below hb, ?_, h.size, h.top, hb.size⟩, List.nodup_nil, fun j b hj => by simp at hj⟩
 rw [rowsH_len (Nat.zero_le _), encV_flat]
 exact ho
theorem FldH.below {w0 w w' : World} {its : List It} {base g n m : Nat} {B : List Nat} {F : Nat → Nat → Bool} (h : FldH w0 its base g n m B F w) (hb : Below w.heap.size w w') : FldH w0 its base g n m B F w' :=
 ⟨h.o.below hb, h.nd, fun j b hj => ownsRow_below (h.row j b hj) hb⟩
theorem FldH.lt {w0 w : World} {its : List It} {base g n m : Nat} {B : List Nat} {F : Nat → Nat → Bool} (h : FldH w0 its base g n m B F w) {j b : Nat} (hj : B[j]? = some b) : b < w.heap.size := (ownsRow_block (h.row j b hj)).2.1
theorem FldH.block {w0 w : World} {its : List It} {base g n m : Nat} {B : List Nat} {F : Nat → Nat → Bool} (h : FldH w0 its base g n m B F w) (hB : B.length ≤ n) : base ≤ g ∧ g < w.heap.size ∧ ∃ cur, w.heap[g]? = some (.cells cur 102 (0, 0)) := by
 have h1 := h.o.row
 rw [rowsH_len hB] at h1
 exact ownsRow_block h1
theorem FldH.ne {w0 w : World} {its : List It} {base g n m : Nat} {B : List Nat} {F : Nat → Nat → Bool} (h : FldH w0 its base g n m B F w) (hB : B.length ≤ n) {j b : Nat} (hj : B[j]? = some b) : b ≠ g := by
 obtain ⟨_, _, c1, h1⟩ := h.block hB
 obtain ⟨_, _, c2, h2⟩ := ownsRow_block (h.row j b hj)
 rintro rfl
 rw [h1] at h2
 simp at h2
/-- A row is made. -/
theorem FldH.made {w0 x y : World} {its : List It} {base g n m : Nat} {B : List Nat} {F : Nat → Nat → Bool} (h : FldH w0 its base g n m B F x) (hB : B.length < n) (hF : ∀ i, i < m → F B.length i = false)
 (ho : y.ownsRow x.heap.size 4 1 (.slice (some ⟨x.heap.size, 0, none⟩) m m) m (rowV m fun _ => false)) (hg : x.grownBy y none) :
 FldH w0 its base g n m (B ++ [x.heap.size]) F (y.setCell ⟨g, B.length, none⟩ (rowB1 m x.heap.size)) := by
 have hy := h.below (h.o.st.quiet hg)
 have hs := h.o.hi
 have hset := hy.o.set encV_len B.length (.slice none 0 0) (rowB1 m x.heap.size) 0 (rowB1 m x.heap.size) (rowsH_none hB) (by decide) rfl
 rw [rowsH_set hB] at hset
 simp only [Nat.mul_one, Nat.add_zero] at hset
 have hgl := (h.block (Nat.le_of_lt hB)).2.1
 have hgr := grownBy_setCellAt y g B.length (rowB1 m x.heap.size)
 refine ⟨hset, ?_, fun j b hj => ?_⟩
 · refine List.nodup_append.2 ⟨h.nd, by simp, fun c hc d hd => ?_⟩
   simp at hd
   subst hd
   obtain ⟨j, hj⟩ := List.getElem?_of_mem hc
   have := h.lt hj
   omega
 · rcases Nat.lt_or_ge j B.length with hlt | hge
   · rw [List.getElem?_append_left hlt] at hj
     exact (hy.row j b hj).kept hgr (.inr (by simp [Value.ownBlock]; exact hy.ne (Nat.le_of_lt hB) hj))
   · obtain rfl : j = B.length := by
      have := (List.getElem?_eq_some_iff.1 hj).1
      simp at this
      omega
     rw [List.getElem?_append_right (Nat.le_refl _)] at hj
     simp at hj
     subst hj
     rw [rowV_ext m (F B.length) (fun _ => false) hF]
     exact (ownsRow_mono ho hs).kept hgr (.inr (by simp [Value.ownBlock]; omega))
/-- What the walk asks of a place. -/
theorem FldH.at {w0 w : World} {its : List It} {base g n m : Nat} {B : List Nat} {F : Nat → Nat → Bool} (h : FldH w0 its base g n m B F w) (hB : B.length ≤ n) (j i b : Nat) (hb : B[j]? = some b) (hi : i < m) :
 base ≤ b ∧ w.cell? ⟨g, j, none⟩ = some (.slice (some ⟨b, 0, none⟩) m m) ∧ w.cell? ⟨b, i, none⟩ = some (.bool (F j i)) ∧ w.frozen? ⟨b, i, none⟩ = false ∧
  ∀ u : Bool, FldH w0 its base g n m B (upd2 F j i u) (w.setCell ⟨b, i, none⟩ (.bool u)) := by
 have hr := h.row j b hb
 obtain ⟨hbb, hlt, cur, hcur⟩ := ownsRow_block hr
 have hgb := h.ne hB hb
 refine ⟨hbb, ?_, ownsRow_cell hr (rowV_get m _ i hi), ownsRow_free hr i, fun u => ?_⟩
 · have := h.o.cell encV_len j (rowB1 m b) 0 _ (rowsH_some hb) rfl
   simpa [rowB1] using this
 · have hg := grownBy_setCellAt w b i (.bool u)
   refine ⟨⟨h.o.st.grown (base := base) (row := some b) (fun j e => by cases e; exact hbb) h.o.low h.o.top hg, h.o.row.kept hg (.inr (by simp [Value.ownBlock]; exact hgb.symm)), h.o.low, h.o.top, by rw [World.size_setCell]; exact h.o.hi⟩, h.nd, fun j' b' hj' => ?_⟩
   by_cases e : b' = b
   · subst e
     have ej : j' = j := (List.getElem?_inj (List.getElem?_eq_some_iff.1 hj').1 h.nd).1 (hj'.trans hb.symm)
     subst ej
     have := ownsRow_set hr i (by omega) (.bool u)
     rw [rowV_set] at this
     rw [rowV_ext m (upd2 F j' i u j') (upd1 (F j') i u) (fun k _ => by simp [upd2, upd1])]
     exact this
   · have ne : ¬ j' = j := fun e2 => e (by subst e2; rw [hj'] at hb; exact Option.some.inj hb)
     rw [rowV_ext m (upd2 F j i u j') (F j') (fun k _ => by simp [upd2, ne])]
     exact (h.row j' b' hj').kept hg (.inr (by simp [Value.ownBlock]; exact e))
theorem FldH.read {w0 w : World} {its : List It} {base g n m : Nat} {B : List Nat} {F : Nat → Nat → Bool} (h : FldH w0 its base g n m B F w) (hB : B.length = n) : FldR w g n m F := by
 refine ⟨(h.block (Nat.le_of_eq hB)).2.1, fun j hj => ?_⟩
 obtain ⟨b, hb⟩ : ∃ b, B[j]? = some b := ⟨_, List.getElem?_eq_getElem (by omega)⟩
 have hr := h.row j b hb
 refine ⟨b, (ownsRow_block hr).2.1, ?_, fun i hi => ownsRow_cell hr (rowV_get m _ i hi)⟩
 have := h.o.cell encV_len j (rowB1 m b) 0 _ (rowsH_some hb) rfl
 simpa [rowB1] using this
theorem FldH.ext {w0 w : World} {its : List It} {base g n m : Nat} {B : List Nat} {F F' : Nat → Nat → Bool} (h : FldH w0 its base g n m B F w) (hB : B.length ≤ n) (he : ∀ j i, j < B.length → i < m → F j i = F' j i) : FldH w0 its base g n m B F' w :=
 ⟨h.o, h.nd, fun j b hj => by
  rw [← rowV_ext m (F j) (F' j) (fun i hi => he j i (List.getElem?_eq_some_iff.1 hj).1 hi)]
  exact h.row j b hj⟩
end Go.Proofs.Ytodpkgbpcpfamaa

/- Layer 8: the document's Spans. -/
namespace Go.Proofs.Ytodpkgbpcpfamaa
set_option linter.unusedSimpArgs false
set_option linter.unusedVariables false
open Go.RowKit Go.Shelf
attribute [local go_sem] Oper.semAt_some
/-- So far: J whole rows, and I places of the next. -/
def spF (m : Nat → Nat) (J I j i : Nat) : Bool := decide ((j < J ∨ (j = J ∧ i < I)) ∧ 0 < m (j * 32 + i))
theorem spF_new (m : Nat → Nat) (J i : Nat) : spF m J 0 J i = false := by unfold spF; exact decide_eq_false (by omega)
theorem spF_step (m : Nat → Nat) (J I j i : Nat) : upd2 (spF m J I) J I (decide (0 < m (J * 32 + I))) j i = spF m J (I + 1) j i := by
 unfold upd2
 by_cases h : j = J ∧ i = I
 · rw [if_pos h]
   obtain ⟨rfl, rfl⟩ := h
   unfold spF
   exact decide_eq_decide.2 ⟨fun h => ⟨.inr ⟨rfl, Nat.lt_succ_self _⟩, h⟩, fun h => h.2⟩
 · rw [if_neg h]
   unfold spF
   exact decide_eq_decide.2 ⟨fun h2 => ⟨by omega, h2.2⟩, fun h2 => ⟨by omega, h2.2⟩⟩
theorem spF_down (m : Nat → Nat) {J W j i : Nat} (hi : i < W) : spF m J W j i = spF m (J + 1) 0 j i := by
 unfold spF
 exact decide_eq_decide.2 ⟨fun h2 => ⟨by omega, h2.2⟩, fun h2 => ⟨by omega, h2.2⟩⟩

theorem FldR.ext {w : World} {g n m : Nat} {F F' : Nat → Nat → Bool} (h : FldR w g n m F) (he : ∀ j i, j < n → i < m → F j i = F' j i) : FldR w g n m F' := ⟨h.1, fun j hj => by
 obtain ⟨b, h1, h2, h3⟩ := h.2 j hj
 exact ⟨b, h1, h2, fun i hi => by rw [← he j i hj hi]; exact h3 i hi⟩⟩
def spG (m : Nat → Nat) (H W j i : Nat) : Bool := decide ((j < H ∧ i < W) ∧ 0 < m (j * 32 + i))
theorem spF_all (m : Nat → Nat) {H W j i : Nat} (hj : j < H) (hi : i < W) : spF m H 0 j i = spG m H W j i := by
 unfold spF spG
 exact decide_eq_decide.2 ⟨fun h => ⟨⟨hj, hi⟩, h.2⟩, fun h => ⟨.inl hj, h.2⟩⟩
set_option maxRecDepth 100000 in
set_option maxHeartbeats 4000000 in
theorem refSpans_any (C : CanT) (hC : okCan C) (v : Value) (m : Nat → Nat) (w : World) (hv : CanV w C v) :
 Calls Try.prog 18 #[v, .agg (fldA m)] w fun e w' => ∃ L, SetRow (fun p => onC C p = true ∧ 0 < m (ixP p)) L ∧ GivesRow 33 3 L.length (L.flatMap encS) w e w' := by
 have HZ := Lib.hid (fun w' h => refSizes_any C hC v w' h)
 have HV := Lib.hid hv
 obtain ⟨a, cap, rfl, -, -⟩ := id hv
 obtain ⟨wi, hwi⟩ : ∃ wi, C.wide = wi := ⟨_, rfl⟩
 obtain ⟨hi, hhi⟩ : ∃ hi, C.high = hi := ⟨_, rfl⟩
 obtain ⟨W, hW⟩ : ∃ W, 8 * wi = W := ⟨_, rfl⟩
 obtain ⟨H, hH⟩ : ∃ H, 8 * hi = H := ⟨_, rfl⟩
 have HWH := Lib.hid (show 0 < W ∧ 0 < H ∧ W ≤ 32 ∧ H ≤ 32 ∧ 8 * C.wide = W ∧ 8 * C.high = H by have h1 := hC.wide; have h2 := hC.high; rw [hwi, hhi, hW, hH]; omega)
 have HWI := Lib.hid (show 8 * (C.wide : Int) = (W : Int) ∧ 8 * (C.high : Int) = (H : Int) by rw [hwi, hhi]; omega)
 rw [HWI.out.1, HWI.out.2] at HZ
 have HS := Lib.hid (St.start w)
 rw [hwi, hhi]
 rw [hwi, hhi] at HV HZ
 clear hC hv hW hH
 go_enter Try.func18, Try.ntmps18
 repeat ((fail_if_success (with_reducible refine stop_at (id := 1) ?_)); (first | go_values | go_skip | go_guarded | go_step | go_upon | go_back | (simp only [Int.not_lt, Int.not_le] at *; go_simp) | (go_values <;> (try go_simp)) | (go_ite <;> go_prune <;> (try go_simp)) | (split <;> (first | (rename_i hx; exact (hx _ rfl).elim) | go_prune))))
 have hs_ := ((HS.out.alloc (.cells #[.int .i64 wi, .int .i64 hi, .slice a C.tiles.length cap] 24)).alloc (.cells (fldA m) 50))
 obtain ⟨w1, hw_⟩ : ∃ w1 : World, ((w.alloc (.cells #[.int .i64 wi, .int .i64 hi, .slice a C.tiles.length cap] 24)).alloc (.cells (fldA m) 50)) = w1 := ⟨_, rfl⟩
 rw [hw_] at hs_
 try simp only [World.size_alloc] at hs_
 have HS := Lib.hid hs_
 rw [hw_]
 clear hw_ hs_
 have v0 := cell_of_block (k := 0) (HS.out.blockAt 1 rfl) rfl
 have v1 := cell_of_block (k := 1) (HS.out.blockAt 1 rfl) rfl
 have v2 := cell_of_block (k := 2) (HS.out.blockAt 1 rfl) rfl
 go_wp2_with fail
 refine (HZ.out _ (HV.out.below HS.out.low)).mono ?_
 rintro e w2 ⟨rfl, hb_⟩
 have HS := Lib.hid (HS.out.below hb_)
 clear hb_
 clear v0 v1 v2
 have e1 : wrap64 ((W : Int) - 1) = (W : Int) - 1 := by have := HWH.out; unfold wrap64; omega
 have e2 : wrap64 ((H : Int) - 1) = (H : Int) - 1 := by have := HWH.out; unfold wrap64; omega
 repeat ((fail_if_success (with_reducible refine stop_at (id := 3) ?_)); (first | go_values | go_skip | go_guarded | go_step | go_upon | go_back | (simp only [Int.not_lt, Int.not_le] at *; go_simp) | (go_values <;> (try go_simp)) | (go_ite <;> go_prune <;> (try go_simp)) | (split <;> (first | (rename_i hx; exact (hx _ rfl).elim) | go_prune))))
 rw [e1, e2]
 clear e1 e2
 have hs_ := (HS.out.alloc (.cells #[.int .i64 0, .int .i64 0, .int .i64 ((W : Int) - 1), .int .i64 ((H : Int) - 1)] 100))
 obtain ⟨w3, hw_⟩ : ∃ w3 : World, (w2.alloc (.cells #[.int .i64 0, .int .i64 0, .int .i64 ((W : Int) - 1), .int .i64 ((H : Int) - 1)] 100)) = w3 := ⟨_, rfl⟩
 rw [hw_] at hs_
 try simp only [World.size_alloc] at hs_
 have HS := Lib.hid hs_
 rw [hw_]
 clear hw_ hs_
 obtain ⟨i0, hi0, hz0, hz1, hz2⟩ := info_parts infoBS
 obtain ⟨i1, hi1, hy0, hy1, hy2⟩ := info_parts infoB
 have HBL := Lib.hid (show i0.bytes * H ≤ 281474976710656 by rw [hz2]; have := HWH.out; omega)
 have HBL1 := Lib.hid (show i1.bytes * W ≤ 281474976710656 by rw [hy2]; have := HWH.out; omega)
 have HML := Lib.hid (show H ≤ maxLen by have := HWH.out; unfold maxLen; omega)
 have HML1 := Lib.hid (show W ≤ maxLen by have := HWH.out; unfold maxLen; omega)
 clear hz2 hy2
 go_wp2_with (at_make; refine wpList_make_full _ rfl _ _ _ rfl w3.heap.size 102 i0 _ 1 Try.underlying101 hi0 hz0 hz1 _ _ _ _ H rfl rfl rfl rfl HBL.out HML.out (Nat.le_refl _) ?_; intro w4 hown hgr; rw [madeBS] at hown; have HF := Lib.hid (FldH.start (m := W) (F := spF m 0 0) HS.out hown hgr); clear hown hgr)
 obtain ⟨N1, hN1⟩ : ∃ N1, w3.heap.size = N1 := ⟨_, rfl⟩
 obtain ⟨N0, hN0⟩ : ∃ N0, w2.heap.size = N0 := ⟨_, rfl⟩
 rw [hN1, hN0] at HF
 simp only [hN1, hN0]
 clear HS hN1 hN0
 go_loopw [24] (fun y wr => ∃ B : List Nat, B.length ≤ H ∧ y = .int .i64 (B.length : Int) ∧ FldH w [.blk N0 (.cells #[.int .i64 0, .int .i64 0, .int .i64 ((W : Int) - 1), .int .i64 ((H : Int) - 1)] 100 (0, 0)), .blk (w.heap.size + 1) (.cells (fldA m) 50 (0, 0)), .blk w.heap.size (.cells #[.int .i64 wi, .int .i64 hi, .slice a C.tiles.length cap] 24 (0, 0))] N1 N1 H W B (spF m B.length 0) wr) (fun y _ => H - (intOf y).toNat)
 case atStart => exact ⟨[], by simp, rfl, HF.out⟩
 case round =>
  obtain ⟨B, hB, rfl, hf⟩ := hrel
  clear HF
  have HF := Lib.hid hf
  clear hf
  by_cases hlt : B.length < H
  · have HJ := Lib.hid hlt
    have HE := Lib.hid (wrap_succ (n := B.length) (by have := HWH.out; omega))
    obtain ⟨J, hJ⟩ : ∃ J, B.length = J := ⟨_, rfl⟩
    have HBJ := Lib.hid hJ
    simp only [hJ] at HE HF HJ hlt ⊢
    clear hJ hB
    go_wp2_with (at_make; refine wpList_make_full _ rfl _ _ _ rfl wr.heap.size 4 i1 _ 1 Try.underlying102 hi1 hy0 hy1 _ _ _ _ W rfl rfl rfl rfl HBL1.out HML1.out (Nat.le_refl _) ?_; intro w5 hown hgr; rw [madeB] at hown; have c5 := (HF.out.below (HF.out.o.st.quiet hgr)).o.cell encV_len J (.slice none 0 0) 0 _ (by rw [← HBJ.out]; exact rowsH_none (by rw [HBJ.out]; exact HJ.out)) rfl; have f5 := (HF.out.below (HF.out.o.st.quiet hgr)).o.free J; simp only [Nat.mul_one, Nat.add_zero] at c5; have hm := HF.out.made (by rw [HBJ.out]; exact HJ.out) (fun i _ => by rw [HBJ.out]; exact spF_new m J i) hown hgr; simp only [HBJ.out] at hm; have HM := Lib.hid hm; clear hm hown hgr)
    obtain ⟨b, hb⟩ : ∃ b, wr.heap.size = b := ⟨_, rfl⟩
    rw [hb] at HM
    unfold rowB1 at HM
    simp only [hb]
    clear hb HF c5 f5 hlt
    go_loopw [33] (fun x wx => ∃ I : Nat, I ≤ W ∧ x = .int .i64 (I : Int) ∧ FldH w [.blk N0 (.cells #[.int .i64 0, .int .i64 0, .int .i64 ((W : Int) - 1), .int .i64 ((H : Int) - 1)] 100 (0, 0)), .blk (w.heap.size + 1) (.cells (fldA m) 50 (0, 0)), .blk w.heap.size (.cells #[.int .i64 wi, .int .i64 hi, .slice a C.tiles.length cap] 24 (0, 0))] N1 N1 H W (B ++ [b]) (spF m J I) wx) (fun y _ => W - (intOf y).toNat)
    case atStart => exact ⟨0, by omega, rfl, HM.out⟩
    case round =>
     obtain ⟨I, hI, rfl, hf⟩ := hrel
     clear HM
     have HF := Lib.hid hf
     clear hf
     by_cases hlt : I < W
     · have HI := Lib.hid hlt
       have HE3 := Lib.hid (wrap_succ (n := I) (by have := HWH.out; omega))
       obtain ⟨hII, x1, x2⟩ := ix_lt hlt HJ.out HWH.out.2.2.1 HWH.out.2.2.2.1
       have HII := Lib.hid hII
       have HAT := Lib.hid (fun w' (h : Below wr.heap.size wr w') => (HF.out.below h).at (by simp; rw [HBJ.out]; exact HJ.out) J I b (by rw [← HBJ.out]; simp) HI.out)
       obtain ⟨mv, hmv⟩ : ∃ mv, m (J * 32 + I) = mv := ⟨_, rfl⟩
       have HMV := Lib.hid hmv
       clear hI hII hmv
       repeat ((fail_if_success (with_reducible refine stop_at (id := 11) ?_)); (first | go_values | go_skip | go_guarded | go_step | go_upon | go_back | (simp only [Int.not_lt, Int.not_le] at *; go_simp) | (go_values <;> (try go_simp)) | (go_ite <;> go_prune <;> (try go_simp)) | (split <;> (first | (rename_i hx; exact (hx _ rfl).elim) | go_prune))))
       clear hlt
       refine (wpIn_wide (n := 0)).1 ?_
       apply wp_region_vals 11 (Rl := [(eqv _), (eqv _), (eqv _), (eqv _), (eqv _), (eqv _), (eqv _), (eqv _), (eqv _), (eqv _), (eqv _)]) (C := (fun x y => Below wr.heap.size x y))
       case hm => kernel_rfl
       case hk => rfl
       case hCr => exact (fun x => Below.refl _ x)
       case hCt => intro _ _ _; exact (fun h k => h.trans k)
       case hst => exact ⟨fun _ _ _ _ h => h, fun _ _ _ _ h => h, fun _ _ _ _ h => h, fun _ _ _ _ h => h, fun _ _ _ _ h => h, fun _ _ _ _ h => h, fun _ _ _ _ h => h, fun _ _ _ _ h => h, fun _ _ _ _ h => h, fun _ _ _ _ h => h, fun _ _ _ _ h => h, trivial⟩
       case hfo => kernel_rfl
       case ht => kernel_rfl
       case hC0 => exact ((Below.refl _ _).drew)
       case hsteps =>
        refine ⟨?_, ?_, ?_, ?_, ?_, ?_, ?_, ?_, ?_, ?_, ?_, trivial⟩
        · intro a' w' hA hC hD; have s8 : a'.tmps[8]? = some _ := (hA.at 8 (by kernel_rfl)).trans rfl; clear hA hD; refine stepOk_plain rfl ?_; intro K hK; gi_wp2; exact hK _ _ rfl ((fun x => Below.refl _ x) _)
        · intro a' w' hA hC hD; have s9 : a'.tmps[9]? = some _ := (hA.at 9 (by kernel_rfl)).trans rfl; clear hA hD; refine stepOk_plain rfl ?_; intro K hK; gi_wp2; exact hK _ _ rfl ((fun x => Below.refl _ x) _)
        · intro a' w' hA hC hD; obtain ⟨u36, s36, r36⟩ := hD ⟨0, .data⟩ (by simp) rfl _ rfl; replace r36 : u36 = _ := r36; subst r36; obtain ⟨u37, s37, r37⟩ := hD ⟨1, .data⟩ (by simp) rfl _ rfl; replace r37 : u37 = _ := r37; subst r37; clear hA hD; refine stepOk_plain rfl ?_; intro K hK; gi_wp2; exact hK _ _ rfl ((fun x => Below.refl _ x) _)
        · intro a' w' hA hC hD; obtain ⟨u38, s38, r38⟩ := hD ⟨2, .data⟩ (by simp) rfl _ rfl; replace r38 : u38 = _ := r38; subst r38
          have c1 := (HAT.out w' hC).2.1
          clear hA hD; refine stepOk_plain rfl ?_; intro K hK; gi_wp2; exact hK _ _ rfl ((fun x => Below.refl _ x) _)
        · intro a' w' hA hC hD; have s10 : a'.tmps[10]? = some _ := (hA.at 10 (by kernel_rfl)).trans rfl; clear hA hD; refine stepOk_plain rfl ?_; intro K hK; gi_wp2; exact hK _ _ rfl ((fun x => Below.refl _ x) _)
        · intro a' w' hA hC hD; have s9 : a'.tmps[9]? = some _ := (hA.at 9 (by kernel_rfl)).trans rfl; clear hA hD; refine stepOk_plain rfl ?_; intro K hK; gi_wp2; exact hK _ _ rfl ((fun x => Below.refl _ x) _)
        · intro a' w' hA hC hD; have s10 : a'.tmps[10]? = some _ := (hA.at 10 (by kernel_rfl)).trans rfl; clear hA hD; refine stepOk_plain rfl ?_; intro K hK; gi_wp2; exact hK _ _ rfl ((fun x => Below.refl _ x) _)
        · intro a' w' hA hC hD; have s3 : a'.tmps[3]? = some _ := (hA.at 3 (by kernel_rfl)).trans rfl; obtain ⟨u41, s41, r41⟩ := hD ⟨5, .data⟩ (by simp) rfl _ rfl; replace r41 : u41 = _ := r41; subst r41; clear hA hD; refine stepOk_plain rfl ?_; intro K hK; gi_wp2; exact hK _ _ rfl ((fun x => Below.refl _ x) _)
        · intro a' w' hA hC hD; obtain ⟨u43, s43, r43⟩ := hD ⟨7, .data⟩ (by simp) rfl _ rfl; replace r43 : u43 = _ := r43; subst r43; obtain ⟨u42, s42, r42⟩ := hD ⟨6, .data⟩ (by simp) rfl _ rfl; replace r42 : u42 = _ := r42; subst r42; clear hA hD; refine stepOk_plain rfl ?_; intro K hK; gi_wp2; exact hK _ _ rfl ((fun x => Below.refl _ x) _)
        · intro a' w' hA hC hD; obtain ⟨u44, s44, r44⟩ := hD ⟨8, .data⟩ (by simp) rfl _ rfl; replace r44 : u44 = _ := r44; subst r44
          have c1 := cell_of_block ((HF.out.o.st.below hC).blockAt 1 rfl) (fldA_get m HII.out); rw [HMV.out] at c1
          clear hA hD; refine stepOk_plain rfl ?_; intro K hK; gi_wp2; exact hK _ _ rfl ((fun x => Below.refl _ x) _)
        · intro a' w' hA hC hD; obtain ⟨u45, s45, r45⟩ := hD ⟨9, .data⟩ (by simp) rfl _ rfl; replace r45 : u45 = _ := r45; subst r45; clear hA hD; refine stepOk_plain rfl ?_; intro K hK; gi_wp2; exact hK _ _ rfl ((fun x => Below.refl _ x) _)
       case hend =>
        intro w6 hC
        simp only [EndFrom, eqv, forall_eq, Act.put, List.length_cons, List.length_nil, List.drop_succ_cons, List.drop_zero, Nat.reduceAdd, List.setIfInBounds_toArray, List.set_cons_succ, List.set_cons_zero]
        have hat := HAT.out w6 hC
        have c1 := hat.2.2.1
        have f1 := hat.2.2.2.1
        have HN := Lib.hid (hat.2.2.2.2 (decide (0 < m (J * 32 + I))))
        clear hat hC HAT HF
        gi_wp2
        go_wp2_with fail
        clear c1 f1
        go_roundw
        case rel =>
         refine ⟨I + 1, HI.out, congrArg (Value.int .i64) (Int.natCast_succ I).symm, ?_⟩
         have hn := HN.out
         rw [HMV.out] at hn
         have hx := FldH.ext (F' := spF m J (I + 1)) HN.out (by simp; rw [HBJ.out]; exact HJ.out) (fun j i _ _ => spF_step m J I j i)
         rw [HMV.out] at hx
         simpa using hx
        case measure => have := HI.out; simp only [intOf]; omega
     · have hIW : I = W := by omega
       subst hIW
       have HN := Lib.hid (FldH.ext (F' := spF m (J + 1) 0) HF.out (by simp; rw [HBJ.out]; exact HJ.out) (fun j i _ hi => spF_down m hi))
       clear hI
       go_wp2_with fail
       clear hlt
       go_roundw
       case rel => exact ⟨B ++ [b], by simp; rw [HBJ.out]; exact HJ.out, by rw [HE.out]; simp [HBJ.out], by have h := HN.out; rw [show (B ++ [b]).length = J + 1 by simp [HBJ.out]]; exact h⟩
       case measure => rw [HE.out]; have := HJ.out; simp only [intOf]; omega
  · have hBH : B.length = H := by omega
    have HBH := Lib.hid hBH
    rw [hBH] at HF
    clear hB hBH
    have k0 := cell_of_block (k := 0) (HF.out.o.st.blockAt 0 rfl) rfl
    have k1 := cell_of_block (k := 1) (HF.out.o.st.blockAt 0 rfl) rfl
    have k2 := cell_of_block (k := 2) (HF.out.o.st.blockAt 0 rfl) rfl
    have k3 := cell_of_block (k := 3) (HF.out.o.st.blockAt 0 rfl) rfl
    have HBB := Lib.hid (show ¬ (H : Int) > (H : Int) by omega)
    rw [HBH.out] at hlt ⊢
    go_wp2_with fail
    clear k0 k1 k2 k3 hlt
    refine (refRow_any 0 0 H W (by have := HWH.out; omega) (by have := HWH.out; omega) (by decide) (by decide) ((W : Int) - 1) ((H : Int) - 1) (by omega) (by omega) N1 H (spG m H W) _ ((HF.out.read HBH.out).ext fun j i hj hi => spF_all m hj hi)).mono ?_
    rintro e w7 ⟨L, hL, u, rfl, hrow, hb_⟩
    have hset : SetRow (fun p => onC C p = true ∧ 0 < m (ixP p)) L := by
     refine hL.setRow (fun p hp => ?_) fun r c => ?_
     · have h1 := onB_iff.1 (show onB (8 * (C.wide : Int)) (8 * (C.high : Int)) p = true from hp.1)
       have h2 := HWI.out
       omega
     · have h2 := HWI.out
       have e3 : ixP ⟨0 + (c : Int), 0 + (r : Int)⟩ = r * 32 + c := by unfold ixP; simp only; omega
       rw [e3]
       unfold spG
       rw [decide_eq_true_iff, show onC C ⟨0 + (c : Int), 0 + (r : Int)⟩ = onB (8 * (C.wide : Int)) (8 * (C.high : Int)) ⟨0 + (c : Int), 0 + (r : Int)⟩ from rfl, onB_iff, h2.1, h2.2]
       simp only
       exact ⟨fun h => ⟨by omega, h.2⟩, fun h => ⟨by omega, h.2⟩⟩
    have H1 := Lib.hid hset
    have H2 := Lib.hid (ownsRow_mono hrow HF.out.o.st.low.size)
    have H3 := Lib.hid (HF.out.o.st.low.trans (hb_.mono HF.out.o.st.low.size))
    clear hL hrow hb_ hset
    go_wp2_with fail
    go_ret
    exact ⟨L, H1.out, u, rfl, H2.out, H3.out⟩
end Go.Proofs.Ytodpkgbpcpfamaa
