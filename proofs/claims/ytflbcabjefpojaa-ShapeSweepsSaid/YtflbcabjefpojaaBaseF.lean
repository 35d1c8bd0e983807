/- A region that draws its order, some of whose operations have been taken ahead; the free ones by facts; the last ones in the text's order. -/
import Derived.Test.YtflbcabjefpojaaBaseD
namespace Go.Proofs.Ytflbcabjefpojaa
set_option linter.unusedSimpArgs false
set_option linter.unusedVariables false
open Go.RowKit Go.Shelf
section
variable {F : Fence} {n : Nat} {P : Program} {ops : Array Oper} {Q : Exit → Act → World → Prop}

/-- fr: the free ones; tl: the last ones, in order; L: those that are done. -/
def splitOk (ops : Array Oper) (L : Array Bool) (fr tl : List Nat) : Bool :=
  let bs := befores ops.toList []
  decide (L.size = ops.size) && ((List.range ops.size).all fun i => L.getD i false || fr.contains i || tl.contains i) && (fr.all fun i => !L.getD i false && decide (i < ops.size) && !tl.contains i) &&
    (tl.all fun i => !L.getD i false && decide (i < ops.size) && fr.all fun j => (bs.getD i []).contains j) &&
    ((List.range ops.size).all fun i => !L.getD i false || ((ops[i]?).all fun o => o.after.all fun e => !Region.binds .any e || L.getD e.on false))
def chainOk (ops : Array Oper) : List Nat → Bool
  | [] => true
  | i :: r => (r.all fun j => decide (i ≠ j) && ((befores ops.toList []).getD j []).contains i) && chainOk ops r

/-- Slots that none of the free ones writes hold what they held. -/
structure AgreeL (ops : Array Oper) (fr : List Nat) (a a' : Act) : Prop where
  defers : a'.defers = a.defers
  size : a'.tmps.size = a.tmps.size
  slot : ∀ t, (∀ (i : Nat) (o : Oper), i ∈ fr → ops[i]? = some o → o.dst ≠ some t) → a'.tmps[t]? = a.tmps[t]?
theorem AgreeL.refl (fr : List Nat) (a : Act) : AgreeL ops fr a a := ⟨rfl, rfl, fun _ _ => rfl⟩
theorem AgreeL.put {fr : List Nat} {a a' : Act} (h : AgreeL ops fr a a') {i : Nat} (hik : i ∈ fr) {o : Oper} (hi : ops[i]? = some o) (v : Value) : AgreeL ops fr a (a'.put o.dst v) :=
  ⟨(put_defers _ _ _).trans h.defers, (put_size _ _ _).trans h.size, fun t ht => (put_other _ _ _ _ (ht i o hik hi)).trans (h.slot t ht)⟩
def notDstL (ops : Array Oper) (fr : List Nat) (t : Nat) : Bool := fr.all fun i => (ops[i]?).all fun o => o.dst != some t
theorem AgreeL.at {fr : List Nat} {a a' : Act} (h : AgreeL ops fr a a') (t : Nat) (ht : notDstL ops fr t = true) : a'.tmps[t]? = a.tmps[t]? :=
  h.slot t fun i o hik hi e => by
    have := List.all_eq_true.1 ht i hik
    simp [hi, e] at this

theorem befores_before {listed : Array Bool} (hs : Shut ops listed) {i : Nat} {o : Oper} (hi : ops[i]? = some o) (hd : ∀ e ∈ o.after, Region.binds .any e = true → listed.getD e.on false = true) : ∀ j ∈ (befores ops.toList []).getD i [], listed.getD j false = true :=
  befores_spec hs ops.toList [] (by simp) (fun i o _ hlt => by simp at hlt) i o hi hd

theorem shut_set {listed : Array Bool} {i : Nat} {o : Oper} (hs : Shut ops listed) (hlt : i < listed.size) (hi : ops[i]? = some o) (hd : ∀ e ∈ o.after, Region.binds .any e = true → listed.getD e.on false = true) : Shut ops (listed.setIfInBounds i true) := by
  intro j o' hj hlj e he hb
  by_cases e1 : i = e.on
  · rw [← e1, getD_set_same _ _ _ hlt]
  · rw [getD_set_other _ _ _ _ e1]
    by_cases e2 : i = j
    · subst e2; rw [hi] at hj; cases hj; exact hd e he hb
    · rw [getD_set_other _ _ _ _ e2] at hlj; exact hs j o' hj hlj e he hb

theorem least_not {listed : Array Bool} {n : Nat} (h : ∃ i, i < n ∧ listed.getD i false = false) : ∃ i, i < n ∧ listed.getD i false = false ∧ ∀ j, j < i → listed.getD j false = true := by
  have key : ∀ m, (∃ i, i < n ∧ i ≤ m ∧ listed.getD i false = false) → ∃ i, i < n ∧ listed.getD i false = false ∧ ∀ j, j < i → listed.getD j false = true := by
    intro m
    induction m with
    | zero => rintro ⟨i, hi, h0', hb⟩; exact ⟨i, hi, hb, fun j hj => by omega⟩
    | succ m ihm =>
      rintro ⟨i, hi, hle, hb⟩
      rcases Classical.em (∃ i, i < n ∧ i ≤ m ∧ listed.getD i false = false) with h | h
      · exact ihm h
      · refine ⟨i, hi, hb, fun j hj => ?_⟩
        cases hbj : listed.getD j false with
        | true => rfl
        | false => exact absurd ⟨j, by omega, by omega, hbj⟩ h
  obtain ⟨i, hi, hb⟩ := h
  exact key i ⟨i, hi, Nat.le_refl _, hb⟩
/-- While something is left, something is ready. -/
theorem ready_some {size : Nat} (hfo : factsOk ops size = true) {listed : Array Bool} (hsz : listed.size = ops.size) (h : ∃ i, i < ops.size ∧ listed.getD i false = false) : Region.ready .any ops listed ≠ [] := by
  obtain ⟨i, hi, hb, hbef⟩ := least_not h
  obtain ⟨o, ho⟩ : ∃ o, ops[i]? = some o := ⟨_, Array.getElem?_eq_getElem hi⟩
  have hin : i ∈ Region.ready .any ops listed := by
    simp only [Region.ready, List.mem_filter, List.mem_range, Bool.and_eq_true, Bool.not_eq_true']
    refine ⟨hi, by rw [getD_lt _ _ (by omega)]; exact hb, ?_⟩
    simp only [ho, Option.map_some, Option.getD_some, Array.all_eq_true_iff_forall_mem]
    intro e he
    by_cases hbn : Region.binds .any e = true
    · rw [hbef _ (factsOk_edge hfo ho he hbn)]; simp
    · simp [hbn]
  intro h0
  rw [h0] at hin
  cases hin
def left (ops : Array Oper) (listed : Array Bool) : Nat := (List.range ops.size).countP fun i => !listed.getD i false
theorem left_set {listed : Array Bool} {i : Nat} (hi : i < ops.size) (hsz : listed.size = ops.size) (hno : listed.getD i false = false) : left ops (listed.setIfInBounds i true) + 1 = left ops listed := by
  unfold left
  have same : ∀ m, m ≤ i → (List.range m).countP (fun j => !(listed.setIfInBounds i true).getD j false) = (List.range m).countP (fun j => !listed.getD j false) := by
    intro m hm
    refine List.countP_congr (fun j hj => ?_)
    rw [getD_set_other _ _ _ _ (by have := List.mem_range.1 hj; omega)]
  have key : ∀ m, i < m → m ≤ ops.size → (List.range m).countP (fun j => !(listed.setIfInBounds i true).getD j false) + 1 = (List.range m).countP (fun j => !listed.getD j false) := by
    intro m
    induction m with
    | zero => intro h _; omega
    | succ m ihm =>
      intro h hle
      simp only [List.range_succ, List.countP_append, List.countP_singleton]
      rcases Nat.lt_or_eq_of_le (Nat.lt_succ_iff.1 h) with h' | rfl
      · have := ihm h' (by omega); rw [getD_set_other _ _ _ _ (by omega)]; omega
      · rw [same i (Nat.le_refl _), getD_set_same _ _ _ (by omega), hno]; simp
  exact key ops.size hi (Nat.le_refl _)
theorem left_zero {listed : Array Bool} (h : left ops listed = 0) : ∀ i, i < ops.size → listed.getD i false = true := by
  intro i hi
  unfold left at h
  rw [List.countP_eq_zero] at h
  have := h i (List.mem_range.2 hi)
  simpa using this

/-- The last ones. -/
theorem wpAnyIn_chain {size : Nat} (hfo : factsOk ops size = true) : ∀ (tl : List Nat) (fuel : Nat) (listed : Array Bool) (a : Act) (w : World), chainOk ops tl = true → fuel = left ops listed → listed.size = ops.size → Shut ops listed →
    (∀ j, j < ops.size → (listed.getD j false = false ↔ j ∈ tl)) → (∀ j ∈ tl, j < ops.size) → wpListIn F n P ops Q (tl.filterMap fun i => ops[i]?) a w → wpAnyIn F n P .any ops Q fuel listed a w
  | [], fuel, listed, a, w, hc, hf, hsz, hs, hl, ht, h => by
    have hall : ∀ j, j < ops.size → listed.getD j false = true := fun j hj => by
      cases e : listed.getD j false with
      | true => rfl
      | false => have := (hl j hj).1 e; cases this
    have hready : Region.ready .any ops listed = [] := by
      apply List.eq_nil_iff_forall_not_mem.2
      intro j hj
      obtain ⟨hlt, hno, _⟩ := ready_mem hj
      rw [getD_lt _ _ (by omega), hall j hlt] at hno
      cases hno
    exact wpAnyIn_done hready h fuel
  | i :: r, fuel, listed, a, w, hc, hf, hsz, hs, hl, ht, h => by
    have hi : i < ops.size := ht i (by simp)
    obtain ⟨o, ho⟩ : ∃ o, ops[i]? = some o := ⟨_, Array.getElem?_eq_getElem hi⟩
    rw [chainOk, Bool.and_eq_true] at hc
    have hir : i ∉ r := fun hm => by have := List.all_eq_true.1 hc.1 i hm; simp at this
    have hready : ∀ j ∈ Region.ready .any ops listed, j = i := by
      intro j hj
      obtain ⟨hlt, hno, hdep⟩ := ready_mem hj
      rw [getD_lt _ _ (by omega)] at hno
      rcases List.mem_cons.1 ((hl j hlt).1 hno) with e | hm
      · exact e
      · exfalso
        obtain ⟨oj, hoj⟩ : ∃ o, ops[j]? = some o := ⟨_, Array.getElem?_eq_getElem hlt⟩
        have h1 := List.all_eq_true.1 hc.1 j hm
        simp only [Bool.and_eq_true] at h1
        have := befores_before hs hoj (hdep oj hoj) i (by simpa using h1.2)
        rw [(hl i hi).2 (by simp)] at this
        cases this
    have hno : listed.getD i false = false := (hl i hi).2 (by simp)
    have hne := ready_some hfo hsz ⟨i, hi, hno⟩
    have hin : i ∈ Region.ready .any ops listed := by
      obtain ⟨j, hj⟩ := List.exists_mem_of_ne_nil _ hne
      rw [← hready j hj]; exact hj
    have hdep := (ready_mem hin).2.2 o ho
    have hpos : fuel = (left ops (listed.setIfInBounds i true)) + 1 := by rw [left_set hi hsz hno]; exact hf
    subst hpos
    refine ⟨fun h0 => (hne h0).elim, fun j hj => ?_⟩
    obtain rfl := hready j hj
    have hnext : ∀ a w, wpListIn F n P ops Q (r.filterMap fun i => ops[i]?) a w → wpAnyIn F n P .any ops Q (left ops (listed.setIfInBounds j true)) (listed.setIfInBounds j true) a w := fun a w h =>
      wpAnyIn_chain hfo r _ _ a w hc.2 rfl (by simpa using hsz) (shut_set hs (by omega) ho hdep) (fun m hm => by
        by_cases e : j = m
        · subst e; rw [getD_set_same _ _ _ (by omega)]; simp [hir]
        · rw [getD_set_other _ _ _ _ e, hl m hm]; simp [Ne.symm e]) (fun m hm => ht m (by simp [hm])) h
    rw [List.filterMap_cons_some ho] at h
    unfold wpOpIn
    simp only [ho]
    unfold wpListIn at h
    split
    · rename_i hw
      simp only [hw, if_true] at h
      exact Oper.wpIn_mono hnext h
    · rename_i hw
      simp only [hw] at h
      exact ⟨h.1, hnext _ _ h.2⟩

/-- **THE LAW**: L: the operations that are done; fr: the free ones, each by a fact; tl: the last ones. -/
theorem wpAnyIn_facts {a : Act} {w : World} {L : Array Bool} {fr tl : List Nat} {fuel : Nat} (R : Nat → Value → World → Prop) (C : World → World → Prop)
    (hCr : ∀ x : World, C x x) (hCt : ∀ {x y z : World}, C x y → C y z → C x z) (hst : ∀ i v x y, i ∈ fr → C x y → R i v x → R i v y)
    (hfo : factsOk ops a.tmps.size = true) (hsp : splitOk ops L fr tl = true) (hch : chainOk ops tl = true) (hfuel : fuel = left ops L)
    (hstep : ∀ (i : Nat) (o : Oper), i ∈ fr → ops[i]? = some o → ∀ (a' : Act) (w' : World), AgreeL ops fr a a' → C w w' →
      (∀ e ∈ o.after, Region.binds .any e = true → e.on ∈ fr → Known (fun i v _ w => R i v w) ops e.on a' w') → StepOk F n P ops (fun i v _ w => R i v w) C Q i o a' w')
    (hend : ∀ (a' : Act) (w' : World), AgreeL ops fr a a' → C w w' → (∀ i ∈ fr, Known (fun i v _ w => R i v w) ops i a' w') → wpListIn F n P ops Q (tl.filterMap fun i => ops[i]?) a' w') :
    wpAnyIn F n P .any ops Q fuel L a w := by
  simp only [splitOk, Bool.and_eq_true, List.all_eq_true, Bool.or_eq_true, Bool.not_eq_true', decide_eq_true_iff, List.mem_range, List.contains_iff_mem, Option.all_eq_true, Array.all_eq_true_iff_forall_mem] at hsp
  obtain ⟨⟨⟨⟨hLs, hcov⟩, hfr⟩, htl⟩, hshut⟩ := hsp
  have hshut0 : Shut ops L := by
    intro i o hi hl e he hb
    have hlt : i < ops.size := (Array.getElem?_eq_some_iff.1 hi).1
    rcases hshut i hlt with h | h
    · rw [hl] at h; cases h
    · rcases h o hi e he with h | h
      · rw [hb] at h; cases h
      · exact h
  have main : ∀ (fuel : Nat) (listed : Array Bool) (a' : Act) (w' : World), fuel = left ops listed → listed.size = ops.size → Shut ops listed → (∀ i, i < ops.size → L.getD i false = true → listed.getD i false = true) →
      (∀ i ∈ tl, listed.getD i false = false) → AgreeL ops fr a a' → C w w' → (∀ i ∈ fr, listed.getD i false = true → Known (fun i v _ w => R i v w) ops i a' w') → wpAnyIn F n P .any ops Q fuel listed a' w' := by
    intro fuel
    induction fuel with
    | zero =>
      intro listed a' w' hf hsz hs hL ht hA hC hK
      have hall := left_zero hf.symm
      have htn : tl = [] := by
        rcases tl with _ | ⟨i, r⟩
        · rfl
        · have := ht i (by simp)
          rw [hall i (htl i (by simp)).1.2] at this
          cases this
      have h := hend a' w' hA hC (fun i hi => hK i hi (hall i (hfr i hi).1.2))
      subst htn
      exact wpAnyIn_chain hfo [] 0 listed a' w' rfl hf hsz hs (fun j hj => by rw [hall j hj]; simp) (by simp) h
    | succ fuel ih =>
      intro listed a' w' hf hsz hs hL ht hA hC hK
      have hex : ∃ i, i < ops.size ∧ listed.getD i false = false := by
        rcases Classical.em (∃ i, i < ops.size ∧ listed.getD i false = false) with h | h
        · exact h
        · exfalso
          have : left ops listed = 0 := by
            unfold left
            rw [List.countP_eq_zero]
            intro i hi
            cases hb : listed.getD i false with
            | true => simp
            | false => exact absurd ⟨i, List.mem_range.1 hi, hb⟩ h
          omega
      refine ⟨fun h0 => (ready_some hfo hsz hex h0).elim, fun i hi => ?_⟩
      obtain ⟨hlt, hno, hdep⟩ := ready_mem hi
      rw [getD_lt _ _ (by omega)] at hno
      obtain ⟨o, ho⟩ : ∃ o, ops[i]? = some o := ⟨_, Array.getElem?_eq_getElem hlt⟩
      rcases hcov i hlt with (h | hf') | ht'
      · rw [hL i hlt h] at hno; cases hno
      · -- a free one
        have hif : i ∈ fr := hf'
        have hso := hstep i o hif ho a' w' hA hC (fun e he hb hm => hK e.on hm (hdep o ho e he hb))
        have hnext : ∀ v w'', R i v w'' → C w' w'' → wpAnyIn F n P .any ops Q fuel (listed.setIfInBounds i true) (a'.put o.dst v) w'' := by
          intro v w'' hR hC'
          refine ih _ _ _ (by have := left_set hlt hsz hno; omega) (by simpa using hsz) (shut_set hs (by omega) ho (hdep o ho)) (fun j hj hl => ?_) (fun j hj => ?_) (hA.put hif ho v) (hCt hC hC') (fun j hj hlj => ?_)
          · by_cases e : i = j
            · subst e; rw [getD_set_same _ _ _ (by omega)]
            · rw [getD_set_other _ _ _ _ e]; exact hL j hj hl
          · have hne : i ≠ j := fun e => by subst e; have := (hfr i hif).2; simp at this; exact this hj
            rw [getD_set_other _ _ _ _ hne]; exact ht j hj
          · by_cases e1 : i = j
            · subst e1
              intro o' ho'
              rw [ho] at ho'; cases ho'
              cases hd : o.dst with
              | none => exact ⟨v, hR⟩
              | some d => exact ⟨v, by rw [put_same _ _ _ (by rw [hA.size]; exact factsOk_dst hfo ho hd)], hR⟩
            · rw [getD_set_other _ _ _ _ e1] at hlj
              have hk := hK j hj hlj
              intro o' ho'
              have hk' := hk o' ho'
              cases hd' : o'.dst with
              | none => rw [hd'] at hk'; obtain ⟨u, hu⟩ := hk'; exact ⟨u, hst j _ _ _ hj hC' hu⟩
              | some d =>
                rw [hd'] at hk'
                obtain ⟨u, hu, hRu⟩ := hk'
                exact ⟨u, by rw [put_other _ _ _ _ (fun hd => factsOk_once hfo ho ho' e1 hd hd')]; exact hu, hst j _ _ _ hj hC' hRu⟩
        unfold StepOk at hso
        unfold wpOpIn
        simp only [ho]
        split
        · rename_i hw
          simp only [hw, if_true] at hso
          exact hso _ hnext
        · rename_i hw
          simp only [hw] at hso
          exact ⟨hso.1, hnext _ _ hso.2 (hCr _)⟩
      · -- the first of the last ones
        have hit : i ∈ tl := ht'
        have hdone : ∀ j ∈ fr, listed.getD j false = true := fun j hj => befores_before hs ho (hdep o ho) j (by have := (htl i hit).2 j hj; simpa using this)
        have h := wpAnyIn_chain (F := F) (n := n) (P := P) (Q := Q) hfo tl (fuel + 1) listed a' w' hch hf hsz hs (fun j hj => ⟨fun hn => by
            rcases hcov j hj with (h | h) | h
            · rw [hL j hj h] at hn; cases hn
            · rw [hdone j h] at hn; cases hn
            · exact h, fun hm => ht j hm⟩) (fun j hj => (htl j hj).1.2) (hend a' w' hA hC (fun j hj => hK j hj (hdone j hj)))
        exact h.2 i hi
  exact main fuel L a w hfuel hLs hshut0 (fun i _ h => h) (fun i hi => (htl i hi).1.1) (AgreeL.refl fr a) (hCr w) (fun i hi hl => by rw [(hfr i hi).1.1] at hl; cases hl)

abbrev FactsT := List (Nat × (Value → World → Prop))
def factL (Rl : FactsT) (i : Nat) : Value → World → Prop := ((Rl.find? fun x => x.1 == i).map (·.2)).getD fun _ _ => True
def StableL (C : World → World → Prop) : FactsT → Prop
  | [] => True
  | r :: rs => (∀ v x y, C x y → r.2 v x → r.2 v y) ∧ StableL C rs
theorem StableL.of {C : World → World → Prop} : ∀ {Rl : FactsT} (_ : StableL C Rl) (r : Nat × (Value → World → Prop)), r ∈ Rl → ∀ v x y, C x y → r.2 v x → r.2 v y
  | [], _, r, h => by cases h
  | _ :: _, hs, r, h => by
    rcases List.mem_cons.1 h with rfl | h
    · exact hs.1
    · exact StableL.of hs.2 r h
theorem factL_stable {C : World → World → Prop} {Rl : FactsT} (hs : StableL C Rl) (i : Nat) (v : Value) (x y : World) (hC : C x y) (h : factL Rl i v x) : factL Rl i v y := by
  unfold factL at *
  cases e : Rl.find? fun x => x.1 == i with
  | none => trivial
  | some r => rw [e] at h; exact hs.of r (List.mem_of_find?_eq_some e) v x y hC h
theorem factL_mem : ∀ {Rl : FactsT}, (Rl.map (·.1)).Nodup → ∀ {i : Nat} {r : Value → World → Prop}, (i, r) ∈ Rl → factL Rl i = r
  | [], _, i, r, h => by cases h
  | x :: Rl, hn, i, r, h => by
    rw [List.map_cons, List.nodup_cons] at hn
    rcases List.mem_cons.1 h with rfl | h
    · simp [factL]
    · have hne : x.1 ≠ i := fun e => hn.1 (by rw [e]; exact List.mem_map.2 ⟨_, h, rfl⟩)
      have := factL_mem hn.2 h
      unfold factL at *
      rw [List.find?_cons_of_neg (by simpa using hne)]
      exact this
def StepsL (F : Fence) (n : Nat) (P : Program) (ops : Array Oper) (fr : List Nat) (Rl0 : FactsT) (C : World → World → Prop) (Q : Exit → Act → World → Prop) (a : Act) (w : World) : List Oper → FactsT → Prop
  | o :: os, r :: rs => (∀ (a' : Act) (w' : World), AgreeL ops fr a a' → C w w' → (∀ e ∈ o.after, Region.binds .any e = true → e.on ∈ fr → Known (fun i v _ w => factL Rl0 i v w) ops e.on a' w') → StepOk F n P ops (fun i v _ w => factL Rl0 i v w) C Q r.1 o a' w') ∧ StepsL F n P ops fr Rl0 C Q a w os rs
  | _, _ => True
theorem stepsL_at {fr : List Nat} {Rl0 : FactsT} {C : World → World → Prop} {a : Act} {w : World} : ∀ (rs : FactsT), (∀ r ∈ rs, ∃ o, ops[r.1]? = some o) → StepsL F n P ops fr Rl0 C Q a w (rs.filterMap fun r => ops[r.1]?) rs → ∀ (i : Nat) (o : Oper), i ∈ rs.map (·.1) → ops[i]? = some o →
    ∀ (a' : Act) (w' : World), AgreeL ops fr a a' → C w w' → (∀ e ∈ o.after, Region.binds .any e = true → e.on ∈ fr → Known (fun i v _ w => factL Rl0 i v w) ops e.on a' w') → StepOk F n P ops (fun i v _ w => factL Rl0 i v w) C Q i o a' w'
  | [], _, _, i, o, hm, _ => by cases hm
  | r :: rs, hs, h, i, o, hm, ho => by
    obtain ⟨o1, h1⟩ := hs r (by simp)
    rw [List.filterMap_cons_some (f := fun r : Nat × (Value → World → Prop) => ops[r.1]?) h1] at h
    rcases List.mem_cons.1 hm with e | hm
    · dsimp only at e
      subst e
      rw [h1] at ho; cases ho
      exact h.1
    · exact stepsL_at rs (fun r hr => hs r (by simp [hr])) h.2 i o hm ho
def EndL (K : Act → Prop) (w' : World) : List Oper → FactsT → Act → Prop
  | o :: os, r :: rs, a => ∀ v, r.2 v w' → EndL K w' os rs (a.put o.dst v)
  | _, _, a => K a
theorem endL_of {size : Nat} {K : Act → Prop} {w' : World} {a' : Act} {Rl0 : FactsT} (hfo : factsOk ops size = true) (hnd : (Rl0.map (·.1)).Nodup) :
    ∀ (rs : FactsT) (acur : Act), acur.tmps.size = size → acur.defers = a'.defers → (∀ r ∈ rs, r ∈ Rl0) → (∀ r ∈ rs, ∃ o, ops[r.1]? = some o) → EndL K w' (rs.filterMap fun r => ops[r.1]?) rs acur →
      (∀ r ∈ rs, Known (fun i v _ w => factL Rl0 i v w) ops r.1 a' w') → (∀ t, (∀ r ∈ rs, ∀ o, ops[r.1]? = some o → o.dst ≠ some t) → a'.tmps[t]? = acur.tmps[t]?) → K a'
  | [], acur, hc, hd, _, _, hE, _, hA => by
    have : a' = acur := act_ext hd.symm (fun t => hA t (fun r hr => by cases hr))
    rw [this]
    exact hE
  | r :: rs, acur, hc, hd, hm, hs, hE, hK, hA => by
    obtain ⟨o, ho⟩ := hs r (by simp)
    rw [List.filterMap_cons_some (f := fun r : Nat × (Value → World → Prop) => ops[r.1]?) ho] at hE
    have hk := hK r (by simp) o ho
    have hfr : factL Rl0 r.1 = r.2 := factL_mem hnd (hm r (by simp))
    cases hdst : o.dst with
    | none =>
      rw [hdst] at hk
      obtain ⟨v, hv⟩ := hk
      rw [hfr] at hv
      have h1 := hE v hv
      rw [hdst] at h1
      refine endL_of hfo hnd rs acur hc hd (fun r hr => hm r (by simp [hr])) (fun r hr => hs r (by simp [hr])) h1 (fun r hr => hK r (by simp [hr])) (fun t ht => hA t (fun r' hr' o' ho' e => ?_))
      rcases List.mem_cons.1 hr' with rfl | hr'
      · rw [ho] at ho'; cases ho'; rw [hdst] at e; cases e
      · exact ht r' hr' o' ho' e
    | some d =>
      rw [hdst] at hk
      obtain ⟨v, hv, hr⟩ := hk
      rw [hfr] at hr
      have h1 := hE v hr
      rw [hdst] at h1
      have hdlt : d < size := factsOk_dst hfo ho hdst
      refine endL_of hfo hnd rs _ (by rw [put_size]; exact hc) (by rw [put_defers]; exact hd) (fun r hr => hm r (by simp [hr])) (fun r hr => hs r (by simp [hr])) h1 (fun r hr => hK r (by simp [hr])) (fun t ht => ?_)
      by_cases e : d = t
      · subst e
        rw [hv, put_same acur d v (by rw [hc]; exact hdlt)]
      · rw [put_other _ _ _ _ (fun e' => e (by cases e'; rfl))]
        refine hA t (fun r' hr' o' ho' e' => ?_)
        rcases List.mem_cons.1 hr' with rfl | hr'
        · rw [ho] at ho'; cases ho'; rw [hdst] at e'; exact e (by cases e'; rfl)
        · exact ht r' hr' o' ho' e'

/-- **THE LAW, FOR A WALK.** -/
theorem wp_facts_taken {a : Act} {w : World} {L : Array Bool} {fuel : Nat} (fr tl : List Nat) (Rl : FactsT) (C : World → World → Prop) (hk : Rl.map (·.1) = fr) (hnd : fr.Nodup)
    (hCr : ∀ x : World, C x x) (hCt : ∀ {x y z : World}, C x y → C y z → C x z) (hst : StableL C Rl)
    (hfo : factsOk ops a.tmps.size = true) (hsp : splitOk ops L fr tl = true) (hch : chainOk ops tl = true) (hfuel : fuel = left ops L)
    (hsteps : StepsL F n P ops fr Rl C Q a w (Rl.filterMap fun r => ops[r.1]?) Rl)
    (hend : ∀ w', C w w' → EndL (fun a' => wpListIn F n P ops Q (tl.filterMap fun i => ops[i]?) a' w') w' (Rl.filterMap fun r => ops[r.1]?) Rl a) :
    wpAnyIn F n P .any ops Q fuel L a w := by
  have hin : ∀ r ∈ Rl, ∃ o, ops[r.1]? = some o := by
    intro r hr
    have h1 : r.1 ∈ fr := by rw [← hk]; exact List.mem_map.2 ⟨_, hr, rfl⟩
    have h2 := hsp
    simp only [splitOk, Bool.and_eq_true, List.all_eq_true, Bool.not_eq_true', decide_eq_true_iff] at h2
    exact ⟨_, Array.getElem?_eq_getElem (h2.1.1.2 r.1 h1).1.2⟩
  refine wpAnyIn_facts (fr := fr) (tl := tl) (fun i v w => factL Rl i v w) C hCr hCt (fun i v x y _ hC h => factL_stable hst i v x y hC h) hfo hsp hch hfuel ?_ ?_
  · intro i o hi ho
    exact stepsL_at Rl hin hsteps i o (by rw [hk]; exact hi) ho
  · intro a' w' hA hC hK
    exact endL_of (K := fun a' => wpListIn F n P ops Q (tl.filterMap fun i => ops[i]?) a' w') hfo (by rw [hk]; exact hnd) Rl a rfl hA.defers.symm (fun _ h => h) hin (hend w' hC) (fun r hr => hK r.1 (by rw [← hk]; exact List.mem_map.2 ⟨_, hr, rfl⟩)) (fun t ht => hA.slot t (fun i o hi ho => by
      rw [← hk] at hi
      obtain ⟨r, hr, rfl⟩ := List.mem_map.1 hi
      exact ht r hr o ho))

/-- Those of a list that are marked. -/
def pickM : List Oper → List Bool → List Oper
  | o :: os, true :: bs => o :: pickM os bs
  | _ :: os, false :: bs => pickM os bs
  | _, _ => []
/-- The law, for a walk: the lists as marks. -/
theorem wp_facts_marks {a : Act} {w : World} {L : Array Bool} {fuel : Nat} (fr tl : List Nat) (mfr mtl : List Bool) (Rl : FactsT) (C : World → World → Prop) (hk : Rl.map (·.1) = fr) (hnd : fr.Nodup)
    (hmf : (fr.filterMap fun i => ops[i]?) = pickM ops.toList mfr) (hmt : (tl.filterMap fun i => ops[i]?) = pickM ops.toList mtl)
    (hCr : ∀ x : World, C x x) (hCt : ∀ {x y z : World}, C x y → C y z → C x z) (hst : StableL C Rl)
    (hfo : factsOk ops a.tmps.size = true) (hsp : splitOk ops L fr tl = true) (hch : chainOk ops tl = true) (hfuel : fuel = left ops L)
    (hsteps : StepsL F n P ops fr Rl C Q a w (pickM ops.toList mfr) Rl)
    (hend : ∀ w', C w w' → EndL (fun a' => wpListIn F n P ops Q (pickM ops.toList mtl) a' w') w' (pickM ops.toList mfr) Rl a) :
    wpAnyIn F n P .any ops Q fuel L a w := by
  have e : (Rl.filterMap fun r => ops[r.1]?) = pickM ops.toList mfr := by rw [← hmf, ← hk, List.filterMap_map]; rfl
  refine wp_facts_taken fr tl Rl C hk hnd hCr hCt hst hfo hsp hch hfuel (by rw [e]; exact hsteps) (fun w' hC => ?_)
  rw [e, hmt]
  exact hend w' hC

/-- An operation that yields in whatever world is taken first; its slot said apart. -/
theorem take_first {i : Nat} {oi : Oper} (d : Option Tmp) {v : Value} {fuel : Nat} {listed : Array Bool} {a : Act} {w : World} (hro : F.round = none) (hi : ops[i]? = some oi) (hd : oi.dst = d)
    (hs : Region.noSelect ops = true) (hf : Region.free .any ops listed i = true) (hr : (Region.ready .any ops listed).contains i = true)
    (hQ : ∀ c a w, Q (.panic c) (a.put d v) w → Q (.panic c) a w) (hy : YieldsFenced P ops oi v a)
    (h : wpAnyIn F n P .any ops Q fuel (listed.setIfInBounds i true) (a.put d v) w) : wpAnyIn F n P .any ops Q (fuel + 1) listed a w := by
  subst hd
  exact wpAnyIn_take hro hi hs hf hr hQ hy h
end
end Go.Proofs.Ytflbcabjefpojaa
