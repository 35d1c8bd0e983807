/- Merged texts: RegJ Tile Made BoxS. -/
import Derived.Test.YtgdcfkbimkclaaaGreatDoorM1
import Derived.Test.YtgdcfkbimkclaaaGreatDoorM7
import Derived.Test.YtgdcfkbimkclaaaGreatDoorM3
import Derived.Maps.OwnIn
set_option linter.unusedSimpArgs false
set_option linter.unusedVariables false
/- General lemmas: a region by facts beside a ghost automaton that sees which operations are done. -/
namespace Go.Proofs.YtgdcfkbimkclaaaGreatDoor
open Go.RowKit
section
variable {F : Fence} {n : Nat} {P : Program} {ops : Array Oper} {Q : Exit → Act → World → Prop}
/-- What is owed for one operation, with how the world turns. -/
def StepOkT (F : Fence) (n : Nat) (P : Program) (ops : Array Oper) (R : Nat → Value → (Nat → Value) → World → Prop) (C : World → World → Prop) (T : Nat → Value → (Nat → Value) → World → World → Prop) (Q : Exit → Act → World → Prop) (i : Nat) (o : Oper) (a' : Act) (w' : World) : Prop :=
 if Region.wanted o (yielded ops a'.tmps) then ∀ K : Act → World → Prop, (∀ v w'', R i v (envOf a') w'' → C w' w'' → T i v (envOf a') w' w'' → K (a'.put o.dst v) w'') → o.wpIn F n P a' w' K Q
 else (∀ f, o.about P w' a'.eval = some f → F.fn f) ∧ R i undef (envOf a') w' ∧ T i undef (envOf a') w' w'
theorem wpIn_region_auto {id : Nat} {a : Act} {w : World} (hm : P.follows .mixedOrders = true) (k : Nat) (R : Nat → Value → (Nat → Value) → World → Prop) (C : World → World → Prop) (T : Nat → Value → (Nat → Value) → World → World → Prop) (J : Array Bool → Act → World → Prop)
 (hCr : ∀ x : World, C x x) (hCt : ∀ {x y z : World}, C x y → C y z → C x z) (hst : ∀ i v env x y, i < k → C x y → R i v env x → R i v env y)
 (hloc : ∀ i o v env env' x, i < k → ops[i]? = some o → (∀ e ∈ o.after, Region.binds .any e = true → ∀ o' d, ops[e.on]? = some o' → o'.dst = some d → env d = env' d) → R i v env x → R i v env' x)
 (hfo : factsOk ops a.tmps.size = true) (ht : tailOk ops k = true) (hC0 : C w w.drew) (hJ0 : J (Array.replicate ops.size false) a w.drew)
 (hJs : ∀ (i : Nat) (o : Oper) (listed : Array Bool) (a' : Act) (v : Value) (w' w'' : World), i < k → ops[i]? = some o → listed.size = ops.size → listed.getD i false = false → (∀ e ∈ o.after, Region.binds .any e = true → listed.getD e.on false = true) → Agree ops k a a' → C w w' → J listed a' w' → R i v (envOf a') w'' → T i v (envOf a') w' w'' → J (listed.setIfInBounds i true) (a'.put o.dst v) w'')
 (hstep : ∀ (i : Nat) (o : Oper), i < k → ops[i]? = some o → ∀ (listed : Array Bool) (a' : Act) (w' : World), Agree ops k a a' → C w w' → J listed a' w' → listed.getD i false = false → (∀ e ∈ o.after, Region.binds .any e = true → listed.getD e.on false = true) →
  (∀ e ∈ o.after, Region.binds .any e = true → Known R ops e.on a' w') → StepOkT F n P ops R C T Q i o a' w')
 (hend : ∀ (listed : Array Bool) (a' : Act) (w' : World), Agree ops k a a' → C w w' → J listed a' w' → (∀ i, i < k → i < ops.size → listed.getD i false = true) → (∀ i, i < k → i < ops.size → Known R ops i a' w') → wpListIn F n P ops Q (ops.toList.drop k) a' w') :
 (Code.region id ops true).wpIn F n P Q a w := by
 refine wpIn_region_any hm ?_
 have main : ∀ (fuel : Nat) (listed : Array Bool) (a' : Act) (w' : World), listed.size = ops.size → fuel + (List.range ops.size).countP (fun i => listed.getD i false) = ops.size → Shut ops listed →
  (∀ i, k ≤ i → i < ops.size → listed.getD i false = false) → Agree ops k a a' → C w w' → J listed a' w' → (∀ i, i < k → i < ops.size → listed.getD i false = true → Known R ops i a' w') →
  wpAnyIn F n P .any ops Q fuel listed a' w' := by
  intro fuel
  induction fuel with
  | zero =>
   intro listed a' w' hsz hf hs hlate hA hC hJ hK
   have hall : ∀ i, i < ops.size → listed.getD i false = true := by
    intro i hi
    have h1 : (List.range ops.size).countP (fun i => listed.getD i false) = (List.range ops.size).length := by simp at hf ⊢; omega
    exact List.countP_eq_length.1 h1 i (List.mem_range.2 hi)
   have hk : ops.size ≤ k := by
    rcases Nat.lt_or_ge k ops.size with h | h
    · have := hlate k (Nat.le_refl _) h; rw [hall k h] at this; cases this
    · exact h
   have h := hend listed a' w' hA hC hJ (fun i _ hi => hall i hi) (fun i hik hi => hK i hik hi (hall i hi))
   rw [List.drop_eq_nil_of_le (by simpa using hk)] at h
   refine ⟨?_, h⟩
   apply List.eq_nil_iff_forall_not_mem.2
   intro j hj
   obtain ⟨hlt, hno, _⟩ := ready_mem hj
   rw [getD_lt _ _ (by omega), hall j hlt] at hno
   cases hno
  | succ fuel ih =>
   intro listed a' w' hsz hf hs hlate hA hC hJ hK
   refine ⟨?_, ?_⟩
   · -- nothing is ready: all has been carried out
     intro h0
     exfalso
     have hex : ∃ i, i < ops.size ∧ listed.getD i false = false := by
      rcases Classical.em (∃ i, i < ops.size ∧ listed.getD i false = false) with h | h
      · exact h
      · exfalso
        have hall : ∀ i, i < ops.size → listed.getD i false = true := fun i hi => by
         cases hb : listed.getD i false with
         | true => rfl
         | false => exact absurd ⟨i, hi, hb⟩ h
        have h1 : (List.range ops.size).countP (fun i => listed.getD i false) = (List.range ops.size).length := List.countP_eq_length.2 (fun i hi => hall i (List.mem_range.1 hi))
        simp only [List.length_range] at h1
        rw [h1] at hf
        omega
     have least : ∀ m, (∃ i, i < ops.size ∧ i ≤ m ∧ listed.getD i false = false) → ∃ i, i < ops.size ∧ listed.getD i false = false ∧ ∀ j, j < i → listed.getD j false = true := by
      intro m
      induction m with
      | zero => rintro ⟨i, hi, h0', hb⟩; exact ⟨i, hi, hb, fun j hj => by omega⟩
      | succ m ihm =>
       rintro ⟨i, hi, hle, hb⟩
       rcases Classical.em (∃ i, i < ops.size ∧ i ≤ m ∧ listed.getD i false = false) with h | h
       · exact ihm h
       · refine ⟨i, hi, hb, fun j hj => ?_⟩
         cases hbj : listed.getD j false with
         | true => rfl
         | false => exact absurd ⟨j, by omega, by omega, hbj⟩ h
     obtain ⟨i0, hi0, hb0⟩ := hex
     obtain ⟨i, hi, hb, hbef⟩ := least i0 ⟨i0, hi0, Nat.le_refl _, hb0⟩
     obtain ⟨o, ho⟩ : ∃ o, ops[i]? = some o := ⟨_, Array.getElem?_eq_getElem hi⟩
     have hin : i ∈ Region.ready .any ops listed := by
      simp only [Region.ready, List.mem_filter, List.mem_range, Bool.and_eq_true, Bool.not_eq_true']
      refine ⟨hi, by rw [getD_lt _ _ (by omega)]; exact hb, ?_⟩
      simp only [ho, Option.map_some, Option.getD_some, Array.all_eq_true_iff_forall_mem]
      intro e he
      by_cases hbn : Region.binds .any e = true
      · rw [hbef _ (factsOk_edge hfo ho he hbn)]; simp
      · simp [hbn]
     rw [h0] at hin
     cases hin
   · intro i hi
     obtain ⟨hlt, hno, hdep⟩ := ready_mem hi
     rw [getD_lt _ _ (by omega)] at hno
     obtain ⟨o, ho⟩ : ∃ o, ops[i]? = some o := ⟨_, Array.getElem?_eq_getElem hlt⟩
     rcases Nat.lt_or_ge i k with hik | hik
     · -- one of the free ones
       have hso := hstep i o hik ho listed a' w' hA hC hJ hno (hdep o ho) (fun e he hb => by
        have hl := hdep o ho e he hb
        have hlt' := factsOk_edge hfo ho he hb
        exact hK e.on (by omega) (by omega) hl)
       have henv : ∀ (m : Nat) (om : Oper), ops[m]? = some om → (∀ e ∈ om.after, Region.binds .any e = true → e.on ≠ i) → ∀ (v : Value), ∀ e ∈ om.after, Region.binds .any e = true → ∀ o' d, ops[e.on]? = some o' → o'.dst = some d → envOf a' d = envOf (a'.put o.dst v) d := by
        intro m om hom hne v e he hb o' d ho' hd
        unfold envOf
        rw [put_other _ _ _ _ (fun hd' => factsOk_once hfo ho ho' (fun e1 => hne e he hb e1.symm) hd' hd)]
       have hnext : ∀ v w'', R i v (envOf a') w'' → C w' w'' → T i v (envOf a') w' w'' → wpAnyIn F n P .any ops Q fuel (listed.setIfInBounds i true) (a'.put o.dst v) w'' := by
        intro v w'' hR hC' hT
        refine ih _ _ _ (by simpa using hsz) ?_ ?_ ?_ (hA.put hik ho v) (hCt hC hC') (hJs i o listed a' v w' w'' hik ho hsz hno (hdep o ho) hA hC hJ hR hT) ?_
        · have hc : (List.range ops.size).countP (fun j => (listed.setIfInBounds i true).getD j false) = (List.range ops.size).countP (fun j => listed.getD j false) + 1 := by
           have key : ∀ m, i < m → m ≤ ops.size → (List.range m).countP (fun j => (listed.setIfInBounds i true).getD j false) = (List.range m).countP (fun j => listed.getD j false) + 1 := by
            intro m
            induction m with
            | zero => intro h _; omega
            | succ m ihm =>
             intro h hle
             simp only [List.range_succ, List.countP_append, List.countP_singleton]
             rcases Nat.lt_or_eq_of_le (Nat.lt_succ_iff.1 h) with h' | rfl
             · rw [ihm h' (by omega), g7o _ _ _ _ (by omega)]; omega
             · have same : ∀ m, m ≤ i → (List.range m).countP (fun j => (listed.setIfInBounds i true).getD j false) = (List.range m).countP (fun j => listed.getD j false) := by
                intro m hm
                refine List.countP_congr (fun j hj => ?_)
                rw [g7o _ _ _ _ (by have := List.mem_range.1 hj; omega)]
               rw [same i (Nat.le_refl _), getD_set_same _ _ _ (by omega), hno]
               simp
           exact key ops.size hlt (Nat.le_refl _)
          rw [hc]; omega
        · intro j o' hj hlj e he hb
          by_cases e1 : i = e.on
          · rw [← e1, getD_set_same _ _ _ (by omega)]
          · rw [g7o _ _ _ _ e1]
            by_cases e2 : i = j
            · subst e2
              rw [ho] at hj; cases hj
              exact hdep o ho e he hb
            · rw [g7o _ _ _ _ e2] at hlj
              exact hs j o' hj hlj e he hb
        · intro j hkj hj
          rw [g7o _ _ _ _ (by omega)]
          exact hlate j hkj hj
        · intro j hjk hj hlj
          by_cases e1 : i = j
          · subst e1
            intro o' ho'
            rw [ho] at ho'; cases ho'
            cases hd : o.dst with
            | none => exact ⟨v, hR⟩
            | some d =>
             refine ⟨v, by rw [put_same _ _ _ (by rw [hA.size]; exact factsOk_dst hfo ho hd)], ?_⟩
             rw [← hd]
             exact hloc i o v _ _ _ hik ho (henv i o ho (fun e he hb e1 => by have := factsOk_edge hfo ho he hb; omega) v) hR
          · rw [g7o _ _ _ _ e1] at hlj
            have hk := hK j hjk hj hlj
            intro o' ho'
            have hk' := hk o' ho'
            have hen := henv j o' ho' (fun e he hb e2 => by
             have := hs j o' ho' hlj e he hb
             rw [e2, hno] at this
             cases this) v
            cases hd' : o'.dst with
            | none => rw [hd'] at hk'; obtain ⟨u, hu⟩ := hk'; exact ⟨u, hloc j o' u _ _ _ hjk ho' hen (hst j _ _ _ _ hjk hC' hu)⟩
            | some d =>
             rw [hd'] at hk'
             obtain ⟨u, hu, hRu⟩ := hk'
             exact ⟨u, by rw [put_other _ _ _ _ (fun hd => factsOk_once hfo ho ho' e1 hd hd')]; exact hu, hloc j o' u _ _ _ hjk ho' hen (hst j _ _ _ _ hjk hC' hRu)⟩
       unfold StepOkT at hso
       unfold wpOpIn
       simp only [ho]
       split
       · rename_i hw
         simp only [hw, if_true] at hso
         exact hso _ hnext
       · rename_i hw
         simp only [hw] at hso
         exact ⟨hso.1, hnext _ _ hso.2.1 (hCr _) hso.2.2⟩
     · -- the first of the last ones
       have hbefore := tailOk_before ht hs hik ho (hdep o ho)
       have hik' : i = k := by
        rcases Nat.lt_or_eq_of_le hik with h | h
        · have := hbefore k h; rw [hlate k (Nat.le_refl _) (by omega)] at this; cases this
        · exact h.symm
       subst hik'
       have hl : ∀ j, j < ops.size → listed.getD j false = decide (j < i) := by
        intro j hj
        rcases Nat.lt_or_ge j i with h | h
        · rw [hbefore j h]; simp [h]
        · rw [hlate j h hj]; simp; omega
       have hf' : fuel + 1 + i = ops.size := by
        have : (List.range ops.size).countP (fun j => listed.getD j false) = i := by
         have key : ∀ m, m ≤ ops.size → (List.range m).countP (fun j => listed.getD j false) = min m i := by
          intro m
          induction m with
          | zero => simp
          | succ m ihm =>
           intro hm
           simp only [List.range_succ, List.countP_append, List.countP_singleton]
           rw [ihm (by omega), hl m (by omega)]
           by_cases h : m < i <;> simp [h] <;> omega
         rw [key _ (Nat.le_refl _)]; omega
        omega
       have h := wpAnyIn_tail (F := F) (n := n) (P := P) (Q := Q) hfo ht (fuel + 1) listed i a' w' (Nat.le_refl _) hf' hsz hl (hend listed a' w' hA hC hJ (fun m hm _ => hbefore m hm) (fun j hj hjs => hK j hj hjs (hbefore j hj)))
       exact h.2 i hi
 refine main ops.size _ a w.drew (by simp) ?_ ?_ ?_ (Agree.refl k a) hC0 hJ0 ?_
 · have : (List.range ops.size).countP (fun i => (Array.replicate ops.size false).getD i false) = 0 := by
    rw [List.countP_eq_zero]
    intro i hi
    simp [Array.getD_eq_getD_getElem?, List.mem_range.1 hi]
   omega
 · intro i o hi hl
   exfalso
   have hlt : i < ops.size := (Array.getElem?_eq_some_iff.1 hi).1
   simp [Array.getD_eq_getD_getElem?, hlt] at hl
 · intro i _ hi
   simp [Array.getD_eq_getD_getElem?, hi]
 · intro i _ hi hl
   exfalso
   simp [Array.getD_eq_getD_getElem?, hi] at hl
end
/-- A block that the region allocates (operation ia, into slot d) and fills (operation is). -/
structure SlotA where
 ia : Nat
 is : Nat
 d : Nat
 o0 : Obj
 o1 : Obj
def ptrB (b : Nat) : Value := .pointer (some ⟨b, 0, none⟩)
theorem ptrB_inj {b c : Nat} (h : ptrB b = ptrB c) : b = c := by
 unfold ptrB at h
 simp only [Value.pointer.injEq, Option.some.injEq, Addr.mk.injEq, and_true] at h
 exact h
structure SlJ (ss : List SlotA) (N : Nat) (listed : Array Bool) (a : Act) (w : World) : Prop where
 at_ : ∀ s ∈ ss, listed.getD s.ia false = true → ∃ b, N ≤ b ∧ a.tmps[s.d]? = some (ptrB b) ∧ w.heap[b]? = some (if listed.getD s.is false then s.o1 else s.o0)
 ne : ∀ s ∈ ss, ∀ t ∈ ss, s.ia ≠ t.ia → listed.getD s.ia false = true → listed.getD t.ia false = true → a.tmps[s.d]? ≠ a.tmps[t.d]?
 bef : ∀ s ∈ ss, listed.getD s.is false = true → listed.getD s.ia false = true
structure SlT (ss : List SlotA) (i : Nat) (v : Value) (env : Nat → Value) (x y : World) : Prop where
 al : ∀ s ∈ ss, i = s.ia → v = ptrB x.heap.size ∧ y.heap[x.heap.size]? = some s.o0
 sto : ∀ s ∈ ss, i = s.is → ∀ b, env s.d = ptrB b → x.heap[b]? = some s.o0 → y.heap[b]? = some s.o1
 same : ∀ k, k < x.heap.size → (∀ s ∈ ss, i = s.is → env s.d ≠ ptrB k) → y.heap[k]? = x.heap[k]?
def slotsOk (ops : Array Oper) (l : List (Nat × Nat × Nat)) : Bool :=
 (l.all fun (ia, is, d) => ((ops[ia]?).bind (·.dst) == some d) && decide (is < ops.size) && decide (ia < ops.size) && ((ops[is]?).all fun o => o.after.toList.any fun e => Region.binds .any e && e.on == ia)) &&
 decide ((l.map (·.1)).Nodup) && decide ((l.map (·.2.1)).Nodup) && (l.all fun s => l.all fun t => decide (s.2.1 ≠ t.1))
def SlotA.key (s : SlotA) : Nat × Nat × Nat := (s.ia, s.is, s.d)
theorem nodup_key {β : Type} {f : SlotA → β} : ∀ {ss : List SlotA}, (ss.map f).Nodup → ∀ {s t : SlotA}, s ∈ ss → t ∈ ss → f s = f t → s = t
 | [], _, _, _, h, _, _ => by simp at h
 | x :: ss, h, s, t, hs, ht, e => by
  rw [List.map_cons, List.nodup_cons] at h
  rcases List.mem_cons.1 hs with hs | hs
  · subst hs
    rcases List.mem_cons.1 ht with ht | ht
    · exact ht.symm
    · exact absurd (List.mem_map.2 ⟨t, ht, e.symm⟩) h.1
  · rcases List.mem_cons.1 ht with ht | ht
    · exact absurd (List.mem_map.2 ⟨s, hs, e.trans (by rw [ht])⟩) h.1
    · exact nodup_key h.2 hs ht e
section
variable {ops : Array Oper} {ss : List SlotA} {N k : Nat}
theorem slJ_step {a' : Act} {size : Nat} (hok : slotsOk ops (ss.map (·.key)) = true) (hfo : factsOk ops size = true) {i : Nat} {o : Oper} {listed : Array Bool} {v : Value} {w' w'' : World} (ho : ops[i]? = some o) (hsz : listed.size = ops.size) (hno : listed.getD i false = false) (hdep : ∀ e ∈ o.after, Region.binds .any e = true → listed.getD e.on false = true)
 (has : a'.tmps.size = size) (hN : N ≤ w'.heap.size) (hJ : SlJ ss N listed a' w') (hT : SlT ss i v (envOf a') w' w'') : SlJ ss N (listed.setIfInBounds i true) (a'.put o.dst v) w'' := by
 unfold slotsOk at hok
 simp only [Bool.and_eq_true, List.all_map, decide_eq_true_eq] at hok
 obtain ⟨⟨⟨h1, h2⟩, h3⟩, h4⟩ := hok
 simp only [List.map_map] at h2 h3
 have hi : i < ops.size := (Array.getElem?_eq_some_iff.1 ho).1
 have hdst : ∀ s ∈ ss, (ops[s.ia]?).bind (·.dst) = some s.d := fun s hs => by
  have := List.all_eq_true.1 h1 s hs
  simp only [Function.comp, SlotA.key, Bool.and_eq_true, beq_iff_eq] at this
  exact this.1.1.1
 have hafter : ∀ s ∈ ss, i = s.is → listed.getD s.ia false = true := fun s hs e => by
  have := List.all_eq_true.1 h1 s hs
  simp only [Function.comp, SlotA.key, Bool.and_eq_true, ← e, ho, Option.all_some, List.any_eq_true] at this
  obtain ⟨e, he, hb⟩ := this.2
  simp only [beq_iff_eq] at hb
  rw [← hb.2]
  exact hdep e (by simpa using he) hb.1
 have hia : ∀ s ∈ ss, ∀ t ∈ ss, s.ia = t.ia → s = t := fun s hs t ht e => nodup_key (f := fun s => s.ia) h2 hs ht e
 have his : ∀ s ∈ ss, ∀ t ∈ ss, s.is = t.is → s = t := fun s hs t ht e => nodup_key (f := fun s => s.is) h3 hs ht e
 have hx : ∀ s ∈ ss, ∀ t ∈ ss, s.is ≠ t.ia := fun s hs t ht => by
  have h5 := List.all_eq_true.1 h4 s hs
  simp only [Function.comp] at h5
  have h6 := List.all_eq_true.1 h5 t ht
  exact of_decide_eq_true h6
 have hown : ∀ s ∈ ss, i = s.ia → o.dst = some s.d := fun s hs e => by
  have := hdst s hs
  rw [← e, ho] at this
  exact this
 have hoth : ∀ s ∈ ss, i ≠ s.ia → (a'.put o.dst v).tmps[s.d]? = a'.tmps[s.d]? := fun s hs e => by
  refine put_other _ _ _ _ fun hd => ?_
  have h5 := hdst s hs
  cases h6 : ops[s.ia]? with
  | none => rw [h6] at h5; simp at h5
  | some o' =>
   rw [h6] at h5
   exact factsOk_once hfo ho h6 e hd h5
 have hset : ∀ j, i ≠ j → (listed.setIfInBounds i true).getD j false = listed.getD j false := fun j e => g7o _ _ _ _ e
 have hsame : (listed.setIfInBounds i true).getD i false = true := getD_set_same _ _ _ (by omega)
 have henv : ∀ s b, a'.tmps[s]? = some (ptrB b) → envOf a' s = ptrB b := fun s b h => by unfold envOf; rw [h]; rfl
 refine ⟨fun s hs hl => ?_, fun s hs t ht hne hls hlt => ?_, fun s hs hl => ?_⟩
 · by_cases e : i = s.ia
   · obtain ⟨e1, e2⟩ := hT.al s hs e
     refine ⟨w'.heap.size, hN, ?_, ?_⟩
     · rw [hown s hs e, put_same _ _ _ (by rw [has]; exact factsOk_dst hfo ho (hown s hs e)), e1]
     · have hne : i ≠ s.is := fun h => hx s hs s hs (h.symm.trans e)
       rw [hset _ hne]
       have : listed.getD s.is false = false := by
        cases hl2 : listed.getD s.is false with
        | false => rfl
        | true => have := hJ.bef s hs hl2; rw [← e, hno] at this; cases this
       rw [this]
       exact e2
   · rw [hset _ e] at hl
     obtain ⟨b, hb1, hb2, hb3⟩ := hJ.at_ s hs hl
     refine ⟨b, hb1, (hoth s hs e).trans hb2, ?_⟩
     by_cases e2 : i = s.is
     · rw [← e2, hsame]
       rw [← e2, hno] at hb3
       exact hT.sto s hs e2 b (henv _ _ hb2) hb3
     · rw [hset _ e2, ← hb3]
       refine hT.same b (b7t hb3) fun t ht e3 he => ?_
       have hst : s.ia ≠ t.ia := fun h => e2 (by rw [hia s hs t ht h]; exact e3)
       have hlt := hafter t ht e3
       obtain ⟨c, hc1, hc2, hc3⟩ := hJ.at_ t ht hlt
       rw [henv _ _ hc2] at he
       exact hJ.ne s hs t ht hst hl hlt (by rw [hb2, hc2, he])
 · by_cases e : i = s.ia
   · have e' : i ≠ t.ia := fun h => hne (e.symm.trans h)
     rw [hset _ e'] at hlt
     obtain ⟨c, hc1, hc2, hc3⟩ := hJ.at_ t ht hlt
     rw [hoth t ht e', hc2, hown s hs e, put_same _ _ _ (by rw [has]; exact factsOk_dst hfo ho (hown s hs e)), (hT.al s hs e).1]
     intro h
     have := ptrB_inj (Option.some.inj h)
     have := b7t hc3
     omega
   · rw [hset _ e] at hls
     by_cases e2 : i = t.ia
     · obtain ⟨c, hc1, hc2, hc3⟩ := hJ.at_ s hs hls
       rw [hoth s hs e, hc2, hown t ht e2, put_same _ _ _ (by rw [has]; exact factsOk_dst hfo ho (hown t ht e2)), (hT.al t ht e2).1]
       intro h
       have := ptrB_inj (Option.some.inj h)
       have := b7t hc3
       omega
     · rw [hset _ e2] at hlt
       rw [hoth s hs e, hoth t ht e2]
       exact hJ.ne s hs t ht hne hls hlt
 · by_cases e : i = s.is
   · have h5 := hafter s hs e
     by_cases e2 : i = s.ia
     · rw [← e2, hno] at h5; cases h5
     · rw [hset _ e2]; exact h5
   · rw [hset _ e] at hl
     have h5 := hJ.bef s hs hl
     by_cases e2 : i = s.ia
     · rw [← e2, hno] at h5; cases h5
     · rw [hset _ e2]; exact h5
theorem SlT.plain {i : Nat} {v : Value} {env : Nat → Value} {x y : World} (hi : ∀ s ∈ ss, i ≠ s.ia ∧ i ≠ s.is) (hb : Below x.heap.size x y) : SlT ss i v env x y :=
 ⟨fun s hs e => absurd e (hi s hs).1, fun s hs e => absurd e (hi s hs).2, fun k hk _ => hb.block k hk⟩
theorem slJ_start (w : World) (a : Act) (n : Nat) : SlJ ss N (Array.replicate n false) a w := by
 have h : ∀ j, (Array.replicate n false).getD j false = false := fun j => by
  rw [Array.getD_eq_getD_getElem?]
  by_cases hj : j < n
  · simp [hj]
  · simp [hj]
 refine ⟨fun s _ hl => ?_, fun s _ t _ _ hl => ?_, fun s _ hl => ?_⟩
 · rw [h] at hl; cases hl
 · rw [h] at hl; cases hl
 · rw [h] at hl; cases hl
end
section
variable {F : Fence} {n : Nat} {P : Program} {ops : Array Oper} {Q : Exit → Act → World → Prop}
def StepsFromS (F : Fence) (n : Nat) (P : Program) (ops : Array Oper) (ss : List SlotA) (N : Nat) (Rl : List (Value → World → Prop)) (Q : Exit → Act → World → Prop) (a : Act) (w : World) : Nat → List Oper → Prop
 | _, [] => True
 | i, o :: rest => (∀ (listed : Array Bool) (a' : Act) (w' : World), Agree ops Rl.length a a' → Below N w w' → SlJ ss N listed a' w' → listed.getD i false = false → (∀ e ∈ o.after, Region.binds .any e = true → listed.getD e.on false = true) → (∀ e ∈ o.after, Region.binds .any e = true → Known (fun i v _ w => factsAt Rl i v w) ops e.on a' w') → StepOkT F n P ops (fun i v _ w => factsAt Rl i v w) (fun x y => Below N x y) (SlT ss) Q i o a' w') ∧
  StepsFromS F n P ops ss N Rl Q a w (i + 1) rest
theorem stepsFromS_at {ss : List SlotA} {N : Nat} {Rl : List (Value → World → Prop)} {a : Act} {w : World} : ∀ (l : List Oper) (j : Nat), StepsFromS F n P ops ss N Rl Q a w j l → ∀ (i : Nat) (o : Oper), l[i]? = some o →
 ∀ (listed : Array Bool) (a' : Act) (w' : World), Agree ops Rl.length a a' → Below N w w' → SlJ ss N listed a' w' → listed.getD (j + i) false = false → (∀ e ∈ o.after, Region.binds .any e = true → listed.getD e.on false = true) → (∀ e ∈ o.after, Region.binds .any e = true → Known (fun i v _ w => factsAt Rl i v w) ops e.on a' w') → StepOkT F n P ops (fun i v _ w => factsAt Rl i v w) (fun x y => Below N x y) (SlT ss) Q (j + i) o a' w'
 | [], _, _, _, _, hi => by simp at hi
 | o :: rest, j, h, 0, o', hi => by
  simp only [List.getElem?_cons_zero, Option.some.injEq] at hi
  subst hi
  exact h.1
 | o :: rest, j, h, i + 1, o', hi => by
  have := stepsFromS_at rest (j + 1) h.2 i o' (by simpa using hi)
  rw [Nat.add_assoc, Nat.add_comm 1 i] at this
  exact this
/-- What the region leaves of its blocks. -/
def SlEnd (ss : List SlotA) (N : Nat) (a : Act) (w : World) : Prop :=
 (∀ s ∈ ss, ∃ b, N ≤ b ∧ a.tmps[s.d]? = some (ptrB b) ∧ w.heap[b]? = some s.o1) ∧ ∀ s ∈ ss, ∀ t ∈ ss, s.ia ≠ t.ia → a.tmps[s.d]? ≠ a.tmps[t.d]?
/-- A region that draws its order, allocates blocks and fills them, by facts. -/
theorem wp_region_slots {id : Nat} {a : Act} {w : World} (k : Nat) (ss : List SlotA) (N : Nat) (hm : P.follows .mixedOrders = true) (Rl : List (Value → World → Prop)) (hk : Rl.length = k)
 (hst : AllStable (fun x y => Below N x y) Rl)
 (hfo : factsOk ops a.tmps.size = true) (ht : tailOk ops k = true) (hN : N ≤ w.heap.size) (hok : slotsOk ops (ss.map (·.key)) = true) (hsk : ∀ s ∈ ss, s.ia < k ∧ s.is < k)
 (hsteps : StepsFromS F n P ops ss N Rl Q a w 0 (ops.toList.take k))
 (hend : ∀ w', Below N w w' → EndFrom (fun a' => SlEnd ss N a' w' → wpListIn F n P ops Q (ops.toList.drop k) a' w') w' ops.toList Rl a) :
 (Code.region id ops true).wpIn F n P Q a w := by
 subst hk
 refine wpIn_region_auto hm Rl.length (fun i v _ w => factsAt Rl i v w) (fun x y => Below N x y) (SlT ss) (SlJ ss N) (fun x => B7 _ x) (fun h k => h.trans k) (fun i v _ x y _ => hst.at i v x y) (fun _ _ _ _ _ _ _ _ _ h => h) hfo ht (B7 _ _).drew (slJ_start _ _ _) ?_ ?_ ?_
 · intro i o listed a' v w' w'' hik ho hsz hno hdep hA hC hJ hR hT
   exact slJ_step hok hfo ho hsz hno hdep hA.size (Nat.le_trans hN hC.size) hJ hT
 · intro i o hik hi listed a' w' hA hC hJ hno hdep hD
   have hi' : (ops.toList.take Rl.length)[i]? = some o := by
    rw [List.getElem?_take_of_lt hik]
    simpa using hi
   have := stepsFromS_at _ 0 hsteps i o hi' listed a' w' hA hC hJ (by rw [Nat.zero_add]; exact hno) hdep hD
   rw [Nat.zero_add] at this
   exact this
 · intro listed a' w' hA hC hJ hall hK
   have hok' := hok
   unfold slotsOk at hok'
   simp only [Bool.and_eq_true, List.all_map, decide_eq_true_eq] at hok'
   have hl : ∀ s ∈ ss, listed.getD s.ia false = true ∧ listed.getD s.is false = true := fun s hs => by
    have h1 := List.all_eq_true.1 hok'.1.1.1 s hs
    simp only [Function.comp, SlotA.key, Bool.and_eq_true, decide_eq_true_eq] at h1
    exact ⟨hall _ (hsk s hs).1 (of_decide_eq_true h1.1.2), hall _ (hsk s hs).2 (of_decide_eq_true h1.1.1.2)⟩
   have hE : SlEnd ss N a' w' := by
    refine ⟨fun s hs => ?_, fun s hs t ht hne => hJ.ne s hs t ht hne (hl s hs).1 (hl t ht).1⟩
    obtain ⟨b, h1, h2, h3⟩ := hJ.at_ s hs (hl s hs).1
    rw [(hl s hs).2] at h3
    exact ⟨b, h1, h2, h3⟩
   exact endFrom_of (K := fun a' => SlEnd ss N a' w' → wpListIn F n P ops Q (ops.toList.drop Rl.length) a' w') hfo hA.size 0 a rfl hA.defers.symm (by simpa using hend w' hC) hK (fun t ht => hA.slot t (fun i o hil hi => ht i o (Nat.zero_le _) hil hi)) hE
theorem o7t {R : Nat → Value → (Nat → Value) → World → Prop} {C : World → World → Prop} {T : Nat → Value → (Nat → Value) → World → World → Prop} {i : Nat} {o : Oper} {a' : Act} {w' : World} (hg : o.guard = none)
 (h : ∀ K : Act → World → Prop, (∀ v w'', R i v (envOf a') w'' → C w' w'' → T i v (envOf a') w' w'' → K (a'.put o.dst v) w'') → o.wpIn F n P a' w' K Q) : StepOkT F n P ops R C T Q i o a' w' := by
 unfold StepOkT
 simp only [Region.wanted, hg, if_true]
 exact h
end
section
variable {ss : List SlotA} {i : Nat} {v : Value} {env : Nat → Value} {x y : World}
theorem SlT.plainB (hi : (ss.all fun s => !(Nat.beq i s.ia) && !(Nat.beq i s.is)) = true) (hb : Below x.heap.size x y) : SlT ss i v env x y :=
 SlT.plain (fun s hs => by
  have := List.all_eq_true.1 hi s hs
  simp only [Bool.and_eq_true, Bool.not_eq_true'] at this
  exact ⟨fun e => by rw [e, Nat.beq_refl] at this; exact absurd this.1 (by decide), fun e => by rw [← e, Nat.beq_refl] at this; exact absurd this.2 (by decide)⟩) hb
theorem SlT.alloc {o : Obj} (ha : ∀ t ∈ ss, t.ia = i → t.o0 = o) (hn : ∀ t ∈ ss, t.is ≠ i) : SlT ss i (ptrB x.heap.size) env x (x.alloc o) :=
 ⟨fun s hs e => ⟨rfl, by rw [ha s hs e.symm]; exact newBlock _ _ _ rfl⟩, fun s hs e => absurd e.symm (hn s hs), fun k hk _ => Below.heap_alloc x o k hk⟩
theorem SlT.store (s : SlotA) (hu : ∀ t ∈ ss, t.is = i → t = s) (hna : ∀ t ∈ ss, t.ia ≠ i) (hm : s ∈ ss) (hsi : s.is = i) (b : Nat) (he : env s.d = ptrB b) (hy : y.heap[b]? = some s.o1) (ho : ∀ k, k ≠ b → y.heap[k]? = x.heap[k]?) : SlT ss i v env x y :=
 ⟨fun t ht e => absurd e.symm (hna t ht), fun t ht e c hc _ => by
  obtain rfl := hu t ht e.symm
  rw [he] at hc
  rw [← ptrB_inj hc]
  exact hy, fun k hk hn => ho k fun e => hn s hm hsi.symm (by rw [e]; exact he)⟩
end
/-- A block that lies there. -/
structure BlkAt (b : Nat) (o : Obj) (w : World) : Prop where
 at_ : w.heap[b]? = some o
theorem BlkAt.below {b : Nat} {o : Obj} {w w' : World} (h : BlkAt b o w) (hb : Below w.heap.size w w') : BlkAt b o w' := ⟨(hb.block b (b7t h.at_)).trans h.at_⟩
end Go.Proofs.YtgdcfkbimkclaaaGreatDoor
/- Layer 4: a pixel of a tile is put; a tile with one place. -/
namespace Go.Proofs.YtgdcfkbimkclaaaGreatDoor
open Go.RowKit Go.Shelf
attribute [local go_sem] Oper.semAt_some
theorem encT_get (t : TileT) (k r : Nat) (hr : r < 4) : (encT t)[k * 4 + r]? = (t.1[k]?).bind fun c => (encC c)[r]? := by
 unfold encT
 exact flat_get encC_len t.1 k r hr
theorem set4_get {l : List Value} {i : Nat} {a b c d : Value} (h : i + 4 ≤ l.length) (j : Nat) : ((((l.set i a).set (i + 1) b).set (i + 2) c).set (i + 3) d)[j]? = if j = i then some a else if j = i + 1 then some b else if j = i + 2 then some c else if j = i + 3 then some d else l[j]? := by
 simp only [List.getElem?_set, List.length_set]
 by_cases h0 : j = i
 · subst h0
   rw [if_neg (by omega), if_neg (by omega), if_neg (by omega), if_pos rfl, if_pos (by omega), if_pos rfl]
 · by_cases h1 : j = i + 1
   · subst h1
     rw [if_neg (by omega), if_neg (by omega), if_pos rfl, if_pos (by omega), if_neg h0, if_pos rfl]
   · by_cases h2 : j = i + 2
     · subst h2
       rw [if_neg (by omega), if_pos rfl, if_pos (by omega), if_neg h0, if_neg h1, if_pos rfl]
     · by_cases h3 : j = i + 3
       · subst h3
         rw [if_pos rfl, if_pos (by omega), if_neg h0, if_neg h1, if_neg h2, if_pos rfl]
       · rw [if_neg (by omega), if_neg (by omega), if_neg (by omega), if_neg (by omega), if_neg h0, if_neg h1, if_neg h2, if_neg h3]
theorem encT_set (t : TileT) (k : Nat) (hk : k < 64) (c : ColT) : ((((encT t).set (k * 4) (.int .u8 c.r)).set (k * 4 + 1) (.int .u8 c.g)).set (k * 4 + 2) (.int .u8 c.b)).set (k * 4 + 3) (.int .u8 c.a) = encT (setT t k c) := by
 refine List.ext_getElem? fun j => ?_
 rw [set4_get (by rw [encT_len]; omega)]
 have hj : j = j / 4 * 4 + j % 4 := by omega
 have hr : j % 4 < 4 := by omega
 have e1 := encT_get (setT t k c) (j / 4) (j % 4) hr
 have e2 := encT_get t (j / 4) (j % 4) hr
 rw [← hj] at e1 e2
 rw [e1, e2]
 have hs : (setT t k c).1[j / 4]? = if k = j / 4 then some c else t.1[j / 4]? := by
  simp only [setT]
  rw [List.getElem?_set]
  by_cases h : k = j / 4
  · rw [if_pos h, if_pos (by rw [t.2]; omega), if_pos h]
  · rw [if_neg h, if_neg h]
 rw [hs]
 by_cases h : k = j / 4
 · rw [if_pos h]
   simp only [Option.bind_some]
   rcases (by omega : j % 4 = 0 ∨ j % 4 = 1 ∨ j % 4 = 2 ∨ j % 4 = 3) with e | e | e | e
   · rw [if_pos (by omega), e]; rfl
   · rw [if_neg (by omega), if_pos (by omega), e]; rfl
   · rw [if_neg (by omega), if_neg (by omega), if_pos (by omega), e]; rfl
   · rw [if_neg (by omega), if_neg (by omega), if_neg (by omega), if_pos (by omega), e]; rfl
 · rw [if_neg h, if_neg (by omega), if_neg (by omega), if_neg (by omega), if_neg (by omega)]
/-- A pixel of a block is put. -/
theorem heap_setT {w : World} {S : Nat} {t : TypeId} {f : Nat × Nat} {T : TileT} (h : w.heap[S]? = some (.cells (encT T).toArray t f)) (k : Nat) (hk : k < 64) (c : ColT) :
 ((((w.setCell ⟨S, k * 4, none⟩ (.int .u8 c.r)).setCell ⟨S, k * 4 + 1, none⟩ (.int .u8 c.g)).setCell ⟨S, k * 4 + 2, none⟩ (.int .u8 c.b)).setCell ⟨S, k * 4 + 3, none⟩ (.int .u8 c.a)).heap[S]? = some (.cells (encT (setT T k c)).toArray t f) := by
 have h1 := h7s (h7s (h7s (h7s h (k := k * 4) (.int .u8 c.r)) (k := k * 4 + 1) (.int .u8 c.g)) (k := k * 4 + 2) (.int .u8 c.b)) (k := k * 4 + 3) (.int .u8 c.a)
 rw [List.setIfInBounds_toArray, List.setIfInBounds_toArray, List.setIfInBounds_toArray, List.setIfInBounds_toArray, encT_set T k hk c] at h1
 exact h1
set_option maxRecDepth 100000 in
set_option maxHeartbeats 1000000 in
theorem tilePut_any (S : Nat) (T : TileT) (x y : Nat) (hx : x < 8) (hy : y < 8) (c : ColT) (w : World) (hs : w.heap[S]? = some (.cells (encT T).toArray 278 (0, 0))) :
 Calls Tryz.prog 213 #[.pointer (some ⟨S, 0, none⟩), .int .i64 x, .int .i64 y, c.val] w fun e w' => e = .returned (.bool true) ∧ w'.heap[S]? = some (.cells (encT (setT T (y * 8 + x) c)).toArray 278 (0, 0)) ∧ Turned (fun j => j = S) w w' := by
 have his : isB x y = true := by unfold isB; simp; omega
 have e1 : wrap64 ((y : Int) * 8) = (y : Int) * 8 := by unfold wrap64; omega
 have e2 : wrap64 ((y : Int) * 8 + x) = ((y * 8 + x : Nat) : Int) := by unfold wrap64; omega
 obtain ⟨i, hi⟩ : ∃ i, y * 8 + x = i := ⟨_, rfl⟩
 have hi64 : i < 64 := by omega
 rw [hi] at e2 ⊢
 have HE := H7 (And.intro e1 e2)
 have HI := H7 hi64
 have HH := H7 hs
 have HS := H7 (St.start w)
 obtain ⟨cc, hcc⟩ : ∃ cc, cc = c := ⟨_, rfl⟩
 have HCC := H7 hcc
 rw [← hcc]
 obtain ⟨r, g, b, a⟩ := c
 have hcv : cc.val = .agg #[.int .u8 r, .int .u8 g, .int .u8 b, .int .u8 a] := by rw [hcc]; rfl
 rw [hcv]
 clear e1 e2 hi64 hs hcv hcc hi hx hy
 go_enter Tryz.func213, Tryz.ntmps213
 repeat ((fail_if_success (with_reducible refine stop_at (id := 1) ?_)); (first | go_values | go_skip | go_guarded | go_step | go_upon | go_back | (simp only [Int.not_lt, Int.not_le] at *; go_simp) | (go_values <;> (try go_simp)) | (go_ite <;> go_prune <;> (try go_simp)) | (split <;> (first | (rename_i hx; exact (hx _ rfl).elim) | go_prune))))
 have hs_ := (HS.out.alloc (.cells #[.int .u8 r, .int .u8 g, .int .u8 b, .int .u8 a] 26))
 obtain ⟨w1, hw_⟩ : ∃ w1 : World, (w.alloc (.cells #[.int .u8 r, .int .u8 g, .int .u8 b, .int .u8 a] 26)) = w1 := ⟨_, rfl⟩
 rw [hw_] at hs_
 try simp only [World.size_alloc] at hs_
 have HS := H7 hs_
 rw [hw_]
 clear hw_ hs_
 go_wp2_with fail
 refine (is_any _ _ _).mono ?_
 rintro e w2 ⟨rfl, hb_⟩
 have HS := H7 (HS.out.below hb_)
 clear hb_
 rw [his]
 repeat ((fail_if_success (with_reducible refine stop_at (id := 3) ?_)); (first | go_values | go_skip | go_guarded | go_step | go_upon | go_back | (simp only [Int.not_lt, Int.not_le] at *; go_simp) | (go_values <;> (try go_simp)) | (go_ite <;> go_prune <;> (try go_simp)) | (split <;> (first | (rename_i hx; exact (hx _ rfl).elim) | go_prune))))
 refine (wpIn_wide (n := 0)).1 ?_
 have e1 := HE.out.1
 have e2 := HE.out.2
 have hi64 := HI.out
 apply w7v 9 (Rl := [(eqv _), (eqv _), (eqv _), (eqv _), (eqv _), (eqv _), (eqv _), (eqv _), (eqv _)]) (C := (fun x y => Below x.heap.size x y))
 case hm => kernel_rfl
 case hk => rfl
 case hCr => exact (fun _ => B7 _ _)
 case hCt => intro _ _ _; exact (fun h k => g7t h k)
 case hst => repeat (first | exact trivial | refine ⟨fun _ _ _ _ h => h, ?_⟩)
 case hfo => kernel_rfl
 case ht => kernel_rfl
 case hC0 => exact (g7d _)
 case hsteps =>
  refine ⟨?_, ?_, ?_, ?_, ?_, ?_, ?_, ?_, ?_, trivial⟩
  · intro a' w' hA hC hD; have s0 := hA.to 0 (by kernel_rfl) rfl; clear hA hD; refine o7p rfl ?_; intro K hK; gi_wp2; exact hK _ _ rfl (B7 _ _)
  · intro a' w' hA hC hD; have s2 := hA.to 2 (by kernel_rfl) rfl; clear hA hD; refine o7p rfl ?_; intro K hK; gi_wp2; exact hK _ _ rfl (B7 _ _)
  · intro a' w' hA hC hD; obtain ⟨u14, s14, rfl⟩ := hD ⟨1, .data⟩ (by simp) rfl _ rfl; clear hA hD; refine o7p rfl ?_; intro K hK; gi_wp2; exact hK _ _ rfl (B7 _ _)
  · intro a' w' hA hC hD; have s1 := hA.to 1 (by kernel_rfl) rfl; clear hA hD; refine o7p rfl ?_; intro K hK; gi_wp2; exact hK _ _ rfl (B7 _ _)
  · intro a' w' hA hC hD; obtain ⟨u15, s15, rfl⟩ := hD ⟨2, .data⟩ (by simp) rfl _ rfl; obtain ⟨u16, s16, rfl⟩ := hD ⟨3, .data⟩ (by simp) rfl _ rfl; clear hA hD; refine o7p rfl ?_; intro K hK; gi_wp2; exact hK _ _ rfl (B7 _ _)
  · intro a' w' hA hC hD; have s7 := hA.to 7 (by kernel_rfl) rfl
    have h1_ := (HS.out.below hC).blockAt 0 rfl; have c1_0 := c7b (k := 0) h1_ rfl; have c1_1 := c7b (k := 1) h1_ rfl; have c1_2 := c7b (k := 2) h1_ rfl; have c1_3 := c7b (k := 3) h1_ rfl; clear h1_
    clear hA hD; refine o7p rfl ?_; intro K hK; gi_wp2; exact hK _ _ rfl (B7 _ _)
  · intro a' w' hA hC hD; obtain ⟨u13, s13, rfl⟩ := hD ⟨0, .data⟩ (by simp) rfl _ rfl; clear hA hD; refine o7p rfl ?_; intro K hK; gi_wp2; exact hK _ _ rfl (B7 _ _)
  · intro a' w' hA hC hD; obtain ⟨u19, s19, rfl⟩ := hD ⟨6, .data⟩ (by simp) rfl _ rfl; clear hA hD; refine o7p rfl ?_; intro K hK; gi_wp2; exact hK _ _ rfl (B7 _ _)
  · intro a' w' hA hC hD; obtain ⟨u20, s20, rfl⟩ := hD ⟨7, .data⟩ (by simp) rfl _ rfl; obtain ⟨u17, s17, rfl⟩ := hD ⟨4, .data⟩ (by simp) rfl _ rfl; clear hA hD; refine o7p rfl ?_; intro K hK; gi_wp2; exact hK _ _ rfl (B7 _ _)
 case hend =>
  intro w3 hC
  simp only [EndFrom, eqv, forall_eq, Act.put, List.length_cons, List.length_nil, List.drop_succ_cons, List.drop_zero, Nat.reduceAdd, List.setIfInBounds_toArray, List.set_cons_succ, List.set_cons_zero]
  have HS := H7 (HS.out.below hC)
  clear hC e1 e2 hi64
  have hb3 := (HS.out.low.block S (b7t HH.out)).trans HH.out
  obtain ⟨d, hd⟩ : ∃ d, T.1[i]? = some d := ⟨_, List.getElem?_eq_getElem (by rw [T.2]; exact HI.out)⟩
  have cl : ∀ r v, (encC d)[r]? = some v → w3.cell? ⟨S, i * 4 + r, none⟩ = some v := fun r v hv => c7b hb3 (by
   rw [List.getElem?_toArray, encT_get T i r (List.getElem?_eq_some_iff.1 hv).1, hd]; exact hv)
  have c0 := cl 0 _ rfl
  rw [Nat.add_zero] at c0
  have c1 := cl 1 _ rfl
  have c2 := cl 2 _ rfl
  have c3 := cl 3 _ rfl
  have f0 := f7b hb3
  have hend := heap_setT hb3 i HI.out cc
  rw [HCC.out] at hend
  have HEND := H7 hend
  clear cl hd hend hb3 his
  gi_wp2
  clear c0 c1 c2 c3
  go_wp2_with fail
  go_ret
  rw [HCC.out]
  refine ⟨rfl, HEND.out, ?_⟩
  have h1 : ∀ {z : World} (k : Nat) (v : Value), Turned (fun j => j = S) w z → Turned (fun j => j = S) w (z.setCell ⟨S, k, none⟩ v) := fun k v h =>
   (h.trans (Turned.of_grown (g7c _ S k v))).mono fun j _ hj => (by rcases hj with hj | hj; exact hj; exact Option.some.inj hj)
  exact h1 _ _ (h1 _ _ (h1 _ _ (h1 _ _ ((Turned.of_grown (below_grown HS.out.low)).mono fun j _ hj => (by cases hj)))))
theorem built_work {cs : Array Value} (h : cs.size = 256) : Tryz.prog.built 278 [(0, .agg cs)] = some cs := built_one' (n := 256) (by kernel_rfl) Tryz.underlying278 (by kernel_rfl) h
set_option maxRecDepth 100000 in
set_option maxHeartbeats 1000000 in
theorem tileWith_one (T : TileT) (x y : Nat) (hx : x < 8) (hy : y < 8) (c : ColT) (g cap : Nat) (w : World) (hg : w.heap[g]? = some (.cells #[.int .i64 x, .int .i64 y] 69 (0, 0))) :
 Calls Tryz.prog 203 #[.agg (encT T).toArray, c.val, .slice (some ⟨g, 0, none⟩) 1 cap] w (Gives (.tuple #[.agg (encT (setT T (y * 8 + x) c)).toArray, .int .i64 0]) w) := by
 have HP := H7 (fun S w' h => tilePut_any S T x y hx hy c w' h)
 have HG := H7 hg
 have HS := H7 (St.start w)
 obtain ⟨T2, hT2⟩ : ∃ T2, setT T (y * 8 + x) c = T2 := ⟨_, rfl⟩
 rw [hT2] at HP ⊢
 have HSZ := H7 (size_T T)
 have HSZ2 := H7 (size_T T2)
 have HZ := H7 (show (encT T2).toArray.all (·.oneCell') = true by
  rw [List.all_toArray, List.all_eq_true]
  intro u hu
  unfold encT at hu
  obtain ⟨d, -, hd⟩ := List.mem_flatMap.1 hu
  simp only [encC, List.mem_cons, List.not_mem_nil, or_false] at hd
  rcases hd with rfl | rfl | rfl | rfl <;> rfl)
 have HN := H7 (show (encT T).toArray.size = 256 by simp [encT_len])
 have HN2 := H7 (show (encT T2).toArray.size = 256 by simp [encT_len])
 obtain ⟨t1, ht1⟩ : ∃ t1, (encT T).toArray = t1 := ⟨_, rfl⟩
 obtain ⟨t2, ht2⟩ : ∃ t2, (encT T2).toArray = t2 := ⟨_, rfl⟩
 rw [ht1] at HP HSZ HN ⊢
 rw [ht2] at HP HSZ2 HZ HN2 ⊢
 obtain ⟨r, gr, b, a⟩ := c
 unfold ColT.val at HP ⊢
 simp only at HP ⊢
 clear hT2 hx hy hg ht1 ht2
 go_enter Tryz.func203, Tryz.ntmps203
 repeat ((fail_if_success (with_reducible refine stop_at (id := 1) ?_)); (first | go_values | go_skip | go_guarded | go_step | go_upon | go_back | (simp only [Int.not_lt, Int.not_le] at *; go_simp) | (go_values <;> (try go_simp)) | (go_ite <;> go_prune <;> (try go_simp)) | (split <;> (first | (rename_i hx; exact (hx _ rfl).elim) | go_prune))))
 have hs_ := (((HS.out.alloc (.cells t1 54)).alloc (.cells #[.int .u8 r, .int .u8 gr, .int .u8 b, .int .u8 a] 26)).alloc (.cells Tryz.zeroCells54 54))
 obtain ⟨w1, hw_⟩ : ∃ w1 : World, (((w.alloc (.cells t1 54)).alloc (.cells #[.int .u8 r, .int .u8 gr, .int .u8 b, .int .u8 a] 26)).alloc (.cells Tryz.zeroCells54 54)) = w1 := ⟨_, rfl⟩
 rw [hw_] at hs_
 try simp only [World.size_alloc] at hs_
 have HS := H7 hs_
 rw [hw_]
 clear hw_ hs_
 refine (wpIn_wide (n := 0)).1 ?_
 gi_wp2_with fail
 refine opIn_load 54 _ rfl w.heap.size rfl 54 t1 (0, 0) _ (HS.out.blockAt 2 rfl) Tryz.underlying54 rfl HSZ.out ?_
 simp only [Act.put, List.setIfInBounds_toArray, List.set_cons_succ, List.set_cons_zero]
 gi_step
 refine opIn_build 278 _ rfl t1 (by simpa [Act.eval] using built_work HN.out) ?_
 simp only [Act.put, List.setIfInBounds_toArray, List.set_cons_succ, List.set_cons_zero]
 gi_wp2_with fail
 have hs_ := (HS.out.alloc (.cells t1 278))
 obtain ⟨w2, hw_⟩ : ∃ w2 : World, (w1.alloc (.cells t1 278)) = w2 := ⟨_, rfl⟩
 rw [hw_] at hs_
 try simp only [World.size_alloc] at hs_
 have HS := H7 hs_
 rw [hw_]
 clear hw_ hs_
 go_wp2_with fail
 refine wp_loop_rounds 2 ?_
 rw [rounds_succ]
 have hg2 := (HS.out.low.block g (b7t HG.out)).trans HG.out
 have c0 := c7b (k := 0) hg2 rfl
 have c1 := c7b (k := 1) hg2 rfl
 clear hg2
 repeat ((fail_if_success (with_reducible refine stop_at (id := 6) ?_)); (first | go_values | go_skip | go_guarded | go_step | go_upon | go_back | (simp only [Int.not_lt, Int.not_le] at *; go_simp) | (go_values <;> (try go_simp)) | (go_ite <;> go_prune <;> (try go_simp)) | (split <;> (first | (rename_i hx; exact (hx _ rfl).elim) | go_prune))))
 clear c0 c1
 have hs_ := (HS.out.alloc (.cells #[.int .i64 x, .int .i64 y] 69))
 obtain ⟨w3, hw_⟩ : ∃ w3 : World, (w2.alloc (.cells #[.int .i64 x, .int .i64 y] 69)) = w3 := ⟨_, rfl⟩
 rw [hw_] at hs_
 try simp only [World.size_alloc] at hs_
 have HS := H7 hs_
 rw [hw_]
 clear hw_ hs_
 have p0 := h7c HS 0 0 rfl rfl
 have p1 := h7c HS 0 1 rfl rfl
 have q0 := h7c HS 3 0 rfl rfl
 have q1 := h7c HS 3 1 rfl rfl
 have q2 := h7c HS 3 2 rfl rfl
 have q3 := h7c HS 3 3 rfl rfl
 go_wp2_with fail
 clear p0 p1 q0 q1 q2 q3
 refine (HP.out _ _ (HS.out.blockAt 1 rfl)).mono ?_
 rintro e w4 ⟨rfl, hp4, ht4⟩
 have hs4 := HS.out.turn (pre := [.blk w2.heap.size (.cells #[.int .i64 x, .int .i64 y] 69 (0, 0))]) (by simp) hp4 ht4
 simp only [List.cons_append, List.nil_append] at hs4
 have HS := H7 hs4
 clear hs4 hp4 ht4 HP
 go_wp2_with fail
 rw [rounds_succ]
 repeat ((fail_if_success (with_reducible refine stop_at (id := 9) ?_)); (first | go_values | go_skip | go_guarded | go_step | go_upon | go_back | (simp only [Int.not_lt, Int.not_le] at *; go_simp) | (go_values <;> (try go_simp)) | (go_ite <;> go_prune <;> (try go_simp)) | (split <;> (first | (rename_i hx; exact (hx _ rfl).elim) | go_prune))))
 refine (wpIn_wide (n := 0)).1 ?_
 gi_wp2_with fail
 refine opIn_load 54 _ rfl w1.heap.size rfl 278 t2 (0, 0) _ (HS.out.blockAt 1 rfl) Tryz.underlying54 rfl HSZ2.out ?_
 simp only [Act.put, List.setIfInBounds_toArray, List.set_cons_succ, List.set_cons_zero]
 gi_step
 refine opIn_store 54 _ _ rfl (w.heap.size + 1 + 1) 54 _ t2 rfl rfl (HS.out.blockAt 2 rfl) HSZ2.out (HN2.out.symm ▸ (by kernel_rfl)) HZ.out ?_
 simp only [Act.put, List.setIfInBounds_toArray, List.set_cons_succ, List.set_cons_zero]
 have hs5 := HS.out.putRow (c' := t2) (pre := [.blk w2.heap.size (.cells #[.int .i64 x, .int .i64 y] 69 (0, 0)), .blk w1.heap.size (.cells t2 278 (0, 0))]) (by simp)
 simp only [List.cons_append, List.nil_append] at hs5
 obtain ⟨w5, hw5⟩ : ∃ w5, w4.setRow (w.heap.size + 1 + 1) t2 = w5 := ⟨_, rfl⟩
 rw [hw5] at hs5
 rw [hw5]
 have HS := H7 hs5
 clear hs5 hw5
 gi_wp2_with fail
 go_wp2_with fail
 have hl := run_loadVar_row (P := Tryz.prog) w5 (w.heap.size + 1 + 1) 54 54 t2 (0, 0) _ (HS.out.blockAt 2 rfl) Tryz.underlying54 rfl HSZ2.out
 refine bodyPost_ret (v := .tuple #[.agg t2, .int .i64 0]) (results_cell2 Tryz.results203 rfl rfl hl) rfl ⟨rfl, HS.out.low⟩
/- Layer 5: what tiles come to: pointers; what pointers come to: tiles. -/
section
variable {α : Type} {w0 x y : World} {its : List It} {base : Nat} {e : TypeId} {k : Nat} {enc : α → List Value} {v : Value} {L : List α} {P : Program} {t : TypeId} {bytes : Nat}
/-- An element's cells. -/
theorem elem_range (hk : ∀ q, (enc q).length = k) {b off n cap : Nat} (h : Elems x (.slice (some ⟨b, off, none⟩) n cap) n k (rowC enc L)) {i : Nat} {q : α} (hq : L[i]? = some q) (hn : L.length = n) : x.rangeAt b (off + i * k) (enc q) := by
 intro r u hu
 have hr : r < k := by rw [← hk q]; exact (List.getElem?_eq_some_iff.1 hu).1
 have hi : i < n := by rw [← hn]; exact (List.getElem?_eq_some_iff.1 hq).1
 rcases h with ⟨e, h⟩ | ⟨b', off', cap', e, -, hcs⟩
 · cases e
 · cases e
   have hlt : i * k + r < n * k := by
    calc i * k + r < i * k + k := by omega
     _ = (i + 1) * k := by rw [Nat.add_mul, Nat.one_mul]
     _ ≤ n * k := Nat.mul_le_mul_right _ hi
   have h1 := hcs (i * k + r) hlt
   unfold rowC at h1
   rw [flat_get hk L _ _ hr, hq] at h1
   simp only [Option.bind_some, hu] at h1
   rw [Nat.add_assoc]
   exact h1
/-- append(row, q) in a fence; where the row lies then. -/
theorem wpListIn_app1l {F : Fence} {N : Nat} {ops : Array Oper} {rest : List Oper} {o : Oper} {a : Act} {Q : Exit → Act → World → Prop} (R : RowT P t e k bytes) (hk : ∀ q, (enc q).length = k) (h1 : ∀ q, ∀ u ∈ enc q, u.oneCell' = true)
 (HO : StO w0 its base e k enc v L x) (hb : Below x.heap.size x y) (q : α) (n : Nat) (hn : L.length = n) (hmax : n < 1000000000) (hby : bytes ≤ 1000)
 (s u : Operand) (hgd : o.guard = none) (ho : o.op = .call { callee := .builtin .append, args := #[s, u], argTypes := #[t, t] })
 (hs : a.eval s = v) (g : Nat) (hu : a.eval u = .slice (some ⟨g, 0, none⟩) 1 1) (hg : y.heap.size = g)
 (h : ∀ v' w', StO w0 its base e k enc v' (L ++ [q]) w' → (∃ ad cap, v' = .slice (some ad) (n + 1) cap) → y.grownBy w' v.ownBlock → (v'.ownBlock = v.ownBlock ∨ ∃ b, v'.ownBlock = some b ∧ y.heap.size < b) → wpListIn F N P ops Q rest (a.put o.dst v') w') :
 wpListIn F N P ops Q (o :: rest) a (y.alloc (.cells (enc q).toArray e (0, 0))) := by
 obtain ⟨i, z, hi, hz0, hz1, hz2, hz3⟩ := R.info
 subst hn
 subst hg
 have HY := HO.below hb
 have hbytes : (L.length + 1) * bytes ≤ 140737488355328 := Nat.le_trans (Nat.mul_le_mul (show L.length + 1 ≤ 1000000000 by omega) hby) (by omega)
 refine wpListIn_append_own_at _ hgd s u t ho base e i z k bytes R.un hi hz0 hz1 hz2 hz3 R.pos v L.length _ hs (HY.row.alloc _) ⟨y.heap.size, 0, none⟩ 1 1 (enc q) hu (by rw [hk, Nat.one_mul])
  (fun j x hx => cells_of_block (newBlock y (.cells (enc q).toArray e (0, 0)) _ rfl) j x (by simpa using hx)) (h1 q) (by unfold maxLen; omega) hbytes (by have := HY.hi; simp; omega) ?_
 intro v' w' hown hgrow _ hloc
 refine h v' w' ⟨(HY.st.below ((B7 _ _).alloc (Nat.le_refl _) _)).grown (fun j e => (HY.row.lt j e).1) HY.low HY.top hgrow, ?_, HY.low, HY.top, ?_⟩ ?_ (grownTrans (World.grownBy_alloc y _ _) hgrow) ?_
 · rw [List.length_append, List.flatMap_append]; simpa using hown
 · have := hgrow.size; have := HY.hi; simp at *; omega
 · rcases hown.2 with ⟨_, h0⟩ | ⟨g, cap, cur, rfl, _⟩
   · omega
   · exact ⟨_, cap, rfl⟩
 · rcases hloc with h | h
   · exact .inl h
   · exact .inr ⟨_, h, by simp⟩
/-- A new block whose cells are written at once. -/
theorem St.allocRow (h : St w0 its x) (z c : Array Value) (t : TypeId) : St w0 (.blk x.heap.size (.cells c t (0, 0)) :: its) ((x.alloc (.cells z t (0, 0))).setRow x.heap.size c) := by
 have h1 := (h.alloc (.cells z t (0, 0))).putRow (c' := c) (pre := []) (by simp)
 exact h1
end
theorem encT_one (t : TileT) : ∀ u ∈ encT t, u.oneCell' = true := by
 intro u hu
 unfold encT at hu
 obtain ⟨d, -, hd⟩ := List.mem_flatMap.1 hu
 simp only [encC, List.mem_cons, List.not_mem_nil, or_false] at hd
 rcases hd with rfl | rfl | rfl | rfl <;> rfl
theorem encT_all (t : TileT) : (encT t).toArray.all (·.oneCell') = true := by
 rw [List.all_toArray, List.all_eq_true]
 exact encT_one t
/-- Pointers to tiles. -/
structure TP (w : World) (qs : List Nat) (ts : List TileT) : Prop where
 len : qs.length = ts.length
 at_ : ∀ (i q : Nat) (t : TileT), qs[i]? = some q → ts[i]? = some t → w.heap[q]? = some (Obj.cells (encT t).toArray 54 (0, 0))
theorem TP.get {w : World} {qs : List Nat} {ts : List TileT} (h : TP w qs ts) {i q : Nat} (hq : qs[i]? = some q) : ∃ t, ts[i]? = some t ∧ w.heap[q]? = some (Obj.cells (encT t).toArray 54 (0, 0)) := by
 have hi := (List.getElem?_eq_some_iff.1 hq).1
 have : i < ts.length := by rw [← h.len]; exact hi
 exact ⟨_, List.getElem?_eq_getElem this, h.at_ i q _ hq (List.getElem?_eq_getElem this)⟩
theorem TP.nil (w : World) : TP w [] [] := ⟨rfl, fun i q t h => by simp at h⟩
theorem TP.kept {w w' : World} {qs : List Nat} {ts : List TileT} {row : Option Nat} (h : TP w qs ts) (hg : w.grownBy w' row) (hr : ∀ b, row = some b → ∃ cs f, w.heap[b]? = some (.cells cs 103 f)) : TP w' qs ts := by
 refine ⟨h.len, fun i q t hq ht => ?_⟩
 have h1 := h.at_ i q t hq ht
 refine (hg.block q (b7t h1) fun e => ?_).trans h1
 obtain ⟨cs, f, h2⟩ := hr q e.symm
 rw [h2] at h1
 simp at h1
theorem TP.below {w w' : World} {qs : List Nat} {ts : List TileT} (h : TP w qs ts) (hb : Below w.heap.size w w') : TP w' qs ts := h.kept (below_grown hb) (fun _ e => by cases e)
theorem TP.snoc {w : World} {qs : List Nat} {ts : List TileT} {q : Nat} {t : TileT} (h : TP w qs ts) (hq : w.heap[q]? = some (Obj.cells (encT t).toArray 54 (0, 0))) : TP w (qs ++ [q]) (ts ++ [t]) := by
 refine ⟨by simp [h.len], fun i p u hp hu => ?_⟩
 rcases Nat.lt_or_ge i qs.length with hi | hi
 · rw [List.getElem?_append_left hi] at hp
   rw [List.getElem?_append_left (by rw [← h.len]; exact hi)] at hu
   exact h.at_ i p u hp hu
 · rw [List.getElem?_append_right hi] at hp
   rw [List.getElem?_append_right (by rw [← h.len]; exact hi)] at hu
   have e1 : i - qs.length = 0 := by have := (List.getElem?_eq_some_iff.1 hp).1; simp at this; omega
   have e2 : i - ts.length = 0 := by rw [← h.len]; exact e1
   rw [e1] at hp
   rw [e2] at hu
   simp at hp hu
   subst hp hu
   exact hq
theorem ownsRow_typed {w : World} {base : Nat} {e : TypeId} {k n : Nat} {v : Value} {xs : List Value} (h : w.ownsRow base e k v n xs) : ∀ b, v.ownBlock = some b → ∃ cs f, w.heap[b]? = some (.cells cs e f) := by
 intro b hb
 rcases h.2 with ⟨rfl, _⟩ | ⟨g, cap, cur, rfl, _, hg, _⟩
 · simp [Value.ownBlock] at hb
 · simp only [Value.ownBlock, Option.some.injEq] at hb
   subst hb
   exact ⟨cur, _, hg⟩
end Go.Proofs.YtgdcfkbimkclaaaGreatDoor
/- A row of the call's own that is held in a box: what rounds of an iterator do with it. -/
namespace Go.Proofs.YtgdcfkbimkclaaaGreatDoor
open Go.RowKit Go.Shelf
section
variable {α : Type}
structure BoxS (w0 : World) (its : List It) (N B : Nat) (tS e : TypeId) (k : Nat) (enc : α → List Value) (v : Value) (L : List α) (x : World) : Prop where
 o : StO w0 its N e k enc v L x
 at_ : x.heap[B]? = some (.cells #[v] tS (0, 0))
 lo : ∀ i ∈ its, i.top ≤ B
 hb : w0.heap.size ≤ B ∧ B < N
variable {w0 x y z : World} {its : List It} {N B : Nat} {tS e : TypeId} {k : Nat} {enc : α → List Value} {v v' : Value} {L L' : List α}
theorem StO.otherT {base : Nat} {M : List α} (h : StO w0 its base e k enc v M x) {T : Nat} (hT : w0.heap.size ≤ T) (ht : ∀ i ∈ its, i.top ≤ T) (hn : v.ownBlock ≠ some T) (hg : x.grownBy y (some T)) : StO w0 its base e k enc v M y :=
 ⟨h.st.grown (base := T) (row := some T) (fun j e => by cases e; exact Nat.le_refl _) hT ht hg, h.row.kept hg (.inr hn), h.low, h.top, Nat.le_trans h.hi hg.size⟩
theorem BoxS.below (h : BoxS w0 its N B tS e k enc v L x) (hb : Below x.heap.size x y) : BoxS w0 its N B tS e k enc v L y :=
 ⟨h.o.below hb, (hb.block B (b7t h.at_)).trans h.at_, h.lo, h.hb⟩
theorem BoxS.nb (h : BoxS w0 its N B tS e k enc v L x) : v.ownBlock ≠ some B := fun e => by
 have := (h.o.row.lt B e).1
 have := h.hb.2
 omega
theorem BoxS.push (h : BoxS w0 its N B tS e k enc v L x) (hy : Below x.heap.size x y) (ho : StO w0 its N e k enc v' L' z) (hg : y.grownBy z v.ownBlock) : BoxS w0 its N B tS e k enc v' L' (z.setCell ⟨B, 0, none⟩ v') := by
 have h2 := h.below hy
 have hz := (hg.block B (b7t h2.at_) (fun e => h.nb e.symm)).trans h2.at_
 refine ⟨ho.otherT h.hb.1 h.lo (fun e => ?_) (g7c z B 0 v'), h7s hz v', h.lo, h.hb⟩
 have := (ho.row.lt B e).1
 have := h.hb.2
 omega
/-- Which block the box's row lies in. -/
def ownBox (B : Nat) (tS : TypeId) (W : World) (q : Nat) : Prop := ∃ v : Value, W.heap[B]? = some (.cells #[v] tS (0, 0)) ∧ v.ownBlock = some q
theorem ownSt_box {N0 : Nat} (h : B < N0) : OwnSt (ownBox B tS) N0 := fun A C hk q => by
 unfold ownBox
 rw [hk B h]
theorem BoxS.own (h : BoxS w0 its N B tS e k enc v L x) (q : Nat) : ownBox B tS x q ↔ v.ownBlock = some q := by
 constructor
 · rintro ⟨u, hu, hq⟩
   rw [h.at_] at hu
   simp only [Option.some.injEq, Obj.cells.injEq, Array.mk.injEq, List.cons.injEq, and_true] at hu
   rw [hu]; exact hq
 · intro hq; exact ⟨v, h.at_, hq⟩
theorem BoxS.wf (h : BoxS w0 its N B tS e k enc v L x) : ∀ q, ownBox B tS x q → q < x.heap.size := fun q hq => (h.o.row.lt q ((h.own q).1 hq)).2
/-- What a round that appends keeps. -/
theorem BoxS.ko {bs : List Nat} {N0 : Nat} (h : BoxS w0 its N B tS e k enc v L x) (hy : Below x.heap.size x y) (ho : StO w0 its N e k enc v' L' z) (hg : y.grownBy z v.ownBlock) (hl : v'.ownBlock = v.ownBlock ∨ ∃ b, v'.ownBlock = some b ∧ y.heap.size ≤ b) (hB : B < N0) (hN : N0 ≤ N) (hx : N0 ≤ x.heap.size) (hbs : ∀ b ∈ bs, b < N0 ∧ b ≠ B) : KO (ownBox B tS) bs N0 x (z.setCell ⟨B, 0, none⟩ v') := by
 have hp := h.push hy ho hg
 have hne : ∀ q, q < x.heap.size → v.ownBlock ≠ some q → q ≠ B → (z.setCell ⟨B, 0, none⟩ v').heap[q]? = x.heap[q]? := fun q hq hn hqB =>
  (Below.heap_setCell z ⟨B, 0, none⟩ v' q (by simpa using hqB)).trans ((hg.block q (Nat.lt_of_lt_of_le hq hy.size) (fun e => hn e.symm)).trans (hy.block q hq))
 refine ⟨?_, fun b hb => ?_, fun _ => hp.wf, fun q o hq hqo _ hn => ?_⟩
 · rw [World.size_setCell]
   exact Nat.le_trans hy.size hg.size
 · refine hne b (Nat.lt_of_lt_of_le (hbs b hb).1 hx) (fun e => ?_) (hbs b hb).2
   have := (h.o.row.lt b e).1
   have := (hbs b hb).1
   omega
 · rw [h.own q] at hn
   refine ⟨?_, (hne q (b7t hqo) hn (by omega)).trans hqo⟩
   rw [hp.own q]
   rcases hl with e | ⟨b, e, hb⟩
   · rw [e]; exact hn
   · rw [e]
     intro h2
     cases h2
     have := b7t hqo
     have := hy.size
     omega
theorem BoxS.keepsFrom {N0 : Nat} (h : BoxS w0 its N B tS e k enc v L x) (hy : Below x.heap.size x y) (hg : y.grownBy z v.ownBlock) : KeepsFrom N0 x (z.setCell ⟨B, 0, none⟩ v') := by
 refine ((KeepsFrom.of_grownBy (row := none) (below_grown hy) (fun _ e => by cases e)).trans ((KeepsOthers.of_grownBy hg fun j o hj ho => ?_).from N0)).trans ((KeepsOthers.setCell z _ _).from N0)
 obtain ⟨cs, f, hc⟩ := ownsRow_typed (ownsRow_below h.o.row hy) j hj
 rw [hc] at ho
 cases ho
 rfl
theorem ownFrom_StO {β : Type} {N0 : Nat} (v : β → Value) (L : β → List α) (hB : w0.heap.size ≤ N0) (hc : ∀ b o, .blk b o ∈ its → o.isCells = true) : OwnFrom N0 (fun s W => StO w0 its N e k enc (v s) (L s) W) := by
 intro s W W' row h hg hr
 refine ⟨ownFrom_St (fun _ : β => its) hB (fun _ => hc) s W W' row h.st hg hr, h.row.kept hg ?_, h.low, h.top, Nat.le_trans h.hi hg.size⟩
 cases hv : (v s).ownBlock with
 | none => exact .inl rfl
 | some b =>
  refine .inr fun e => ?_
  obtain ⟨o, ho, hoc⟩ := (hr b e.symm).2
  obtain ⟨cs, f, hc⟩ := ownsRow_typed h.row b hv
  rw [hc] at ho
  cases ho
  cases hoc
theorem ownFrom_BoxS {β : Type} {N0 : Nat} (L : β → List α) (hB : w0.heap.size ≤ N0) (hc : ∀ b o, .blk b o ∈ its → o.isCells = true) : OwnFrom N0 (fun s W => ∃ v, BoxS w0 its N B tS e k enc v (L s) W) := by
 rintro s W W' row ⟨v, h⟩ hg hr
 refine ⟨v, ownFrom_StO (fun _ : β => v) L hB hc s W W' row h.o hg hr, (grownBy_keeps_cells hg (fun r e => (hr r e).2) h.at_ rfl).trans h.at_, h.lo, h.hb⟩
end
/-- A block that lies there. -/
structure BlkA (b : Nat) (o : Obj) (w : World) : Prop where
 at_ : w.heap[b]? = some o
theorem BlkA.below {b : Nat} {o : Obj} {w w' : World} (h : BlkA b o w) (hb : Below w.heap.size w w') : BlkA b o w' := ⟨(hb.block b (b7t h.at_)).trans h.at_⟩
end Go.Proofs.YtgdcfkbimkclaaaGreatDoor
