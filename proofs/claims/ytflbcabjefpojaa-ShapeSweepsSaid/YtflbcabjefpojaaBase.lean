/- General lemmas of this seat's proofs: a law for a region that draws its order, by one fact for each operation. -/
import Derived.Test.YtflbcabjefpojaaProg
import Derived.RangeFuncNested
import Derived.RangeFuncBound
import Derived.RangeFuncCalls
import Derived.RangeFuncLeaves
import Derived.Shelf.Abstract
import Derived.Shelf.RegionOpen
import Derived.WalkKit
import Derived.WalkSpells
import Derived.WalkLawsBesides
import Derived.OwnWalkIn
import Derived.TacticsInMore
import Derived.LoopNIn
import Derived.LoopIn
import Derived.OrdersIn
import Derived.BigQuiet
import Derived.Lib.Hide
namespace Go.Proofs.Ytflbcabjefpojaa
set_option linter.unusedSimpArgs false
set_option linter.unusedVariables false
open Go.RowKit Go.Shelf

/-! ### A region that draws its order, by facts -/
section facts
variable {F : Fence} {n : Nat} {P : Program} {ops : Array Oper} {Q : Exit → Act → World → Prop}

/-- The edges that bind: they go back; temporaries are written once, and lie in the frame. -/
def factsOk (ops : Array Oper) (size : Nat) : Bool :=
  ((List.range ops.size).all fun i => ((ops[i]?).map fun o => (o.after.all fun e => !Region.binds .any e || decide (e.on < i)) && o.dst.all (fun d => decide (d < size)) &&
    ((List.range i).all fun j => (ops[j]?).all fun o' => o.dst.all fun d => o'.dst != some d)).getD true)

theorem factsOk_edge {size : Nat} (h : factsOk ops size = true) {i : Nat} {o : Oper} (hi : ops[i]? = some o) {e : Edge} (he : e ∈ o.after) (hb : Region.binds .any e = true) : e.on < i := by
  have hlt : i < ops.size := (Array.getElem?_eq_some_iff.1 hi).1
  have h1 := List.all_eq_true.1 h i (List.mem_range.2 hlt)
  simp only [hi, Option.map_some, Option.getD_some, Bool.and_eq_true, Array.all_eq_true_iff_forall_mem] at h1
  have := h1.1.1 e he
  simpa [hb] using this

theorem factsOk_dst {size : Nat} (h : factsOk ops size = true) {i : Nat} {o : Oper} (hi : ops[i]? = some o) {d : Tmp} (hd : o.dst = some d) : d < size := by
  have hlt : i < ops.size := (Array.getElem?_eq_some_iff.1 hi).1
  have h1 := List.all_eq_true.1 h i (List.mem_range.2 hlt)
  simp only [hi, Option.map_some, Option.getD_some, Bool.and_eq_true] at h1
  have := h1.1.2
  simpa [hd] using this

theorem factsOk_once {size : Nat} (h : factsOk ops size = true) {i j : Nat} {o o' : Oper} (hi : ops[i]? = some o) (hj : ops[j]? = some o') (hne : i ≠ j) {d : Tmp} (hd : o.dst = some d) : o'.dst ≠ some d := by
  intro hd'
  have key : ∀ (i j : Nat) (o o' : Oper), ops[i]? = some o → ops[j]? = some o' → j < i → o.dst = some d → o'.dst = some d → False := by
    intro i j o o' hi hj hlt hd hd'
    have hlt' : i < ops.size := (Array.getElem?_eq_some_iff.1 hi).1
    have h1 := List.all_eq_true.1 h i (List.mem_range.2 hlt')
    simp only [hi, Option.map_some, Option.getD_some, Bool.and_eq_true] at h1
    have h2 := List.all_eq_true.1 h1.2 j (List.mem_range.2 hlt)
    simp [hj, hd, hd'] at h2
  rcases Nat.lt_or_gt_of_ne hne with hlt | hlt
  · exact key j i o' o hj hi hlt hd' hd
  · exact key i j o o' hi hj hlt hd hd'

/-- The frame's slots. -/
def envOf (a : Act) (t : Nat) : Value := (a.tmps[t]?).getD undef
/-- What is known of operation i's value in the frame a. -/
def Known (R : Nat → Value → (Nat → Value) → World → Prop) (ops : Array Oper) (i : Nat) (a : Act) (w : World) : Prop :=
  ∀ o, ops[i]? = some o → match o.dst with
    | some d => ∃ v, a.tmps[d]? = some v ∧ R i v (envOf a) w
    | none => ∃ v, R i v (envOf a) w

/-- Slots that no operation of the region writes hold what they held. -/
structure Agree (ops : Array Oper) (k : Nat) (a a' : Act) : Prop where
  defers : a'.defers = a.defers
  size : a'.tmps.size = a.tmps.size
  slot : ∀ t, (∀ (i : Nat) (o : Oper), i < k → ops[i]? = some o → o.dst ≠ some t) → a'.tmps[t]? = a.tmps[t]?

theorem Agree.refl (k : Nat) (a : Act) : Agree ops k a a := ⟨rfl, rfl, fun _ _ => rfl⟩

theorem put_size (a : Act) (dst : Option Tmp) (v : Value) : (a.put dst v).tmps.size = a.tmps.size := by cases dst <;> simp [Act.put]
theorem put_defers (a : Act) (dst : Option Tmp) (v : Value) : (a.put dst v).defers = a.defers := by cases dst <;> simp [Act.put]
theorem put_same (a : Act) (d : Tmp) (v : Value) (h : d < a.tmps.size) : (a.put (some d) v).tmps[d]? = some v := by simp [Act.put, h]
theorem put_other (a : Act) (dst : Option Tmp) (v : Value) (t : Tmp) (h : dst ≠ some t) : (a.put dst v).tmps[t]? = a.tmps[t]? := by
  cases dst with
  | none => rfl
  | some d => simp only [Act.put]; rw [Array.getElem?_setIfInBounds_ne (fun e => h (by rw [e]))]

theorem Agree.put {k : Nat} {a a' : Act} (h : Agree ops k a a') {i : Nat} (hik : i < k) {o : Oper} (hi : ops[i]? = some o) (v : Value) : Agree ops k a (a'.put o.dst v) :=
  ⟨(put_defers _ _ _).trans h.defers, (put_size _ _ _).trans h.size, fun t ht => (put_other _ _ _ _ (ht i o hik hi)).trans (h.slot t ht)⟩

/-- No operation ahead of k writes slot t. -/
def notDst (ops : Array Oper) (k t : Nat) : Bool := (List.range k).all fun i => (ops[i]?).all fun o => o.dst != some t
theorem Agree.at {k : Nat} {a a' : Act} (h : Agree ops k a a') (t : Nat) (ht : notDst ops k t = true) : a'.tmps[t]? = a.tmps[t]? :=
  h.slot t fun i o hik hi e => by
    have := List.all_eq_true.1 ht i (List.mem_range.2 hik)
    simp [hi, e] at this

/-- What is owed for one operation. -/
def StepOk (F : Fence) (n : Nat) (P : Program) (ops : Array Oper) (R : Nat → Value → (Nat → Value) → World → Prop) (C : World → World → Prop) (Q : Exit → Act → World → Prop) (i : Nat) (o : Oper) (a' : Act) (w' : World) : Prop :=
  if Region.wanted o (yielded ops a'.tmps) then ∀ K : Act → World → Prop, (∀ v w'', R i v (envOf a') w'' → C w' w'' → K (a'.put o.dst v) w'') → o.wpIn F n P a' w' K Q
  else (∀ f, o.about P w' a'.eval = some f → F.fn f) ∧ R i undef (envOf a') w'

/-- Of each operation all that come ahead of it in every order. -/
def befores : List Oper → List (List Nat) → List (List Nat)
  | [], acc => acc
  | o :: rest, acc => befores rest (acc ++ [((o.after.toList.filter fun e => Region.binds .any e).flatMap fun e => e.on :: acc.getD e.on []).eraseDups])

/-- The operations from k on come last, in the text's order. -/
def tailOk (ops : Array Oper) (k : Nat) : Bool :=
  let bs := befores ops.toList []
  (List.range ops.size).all fun i => decide (i < k) || (List.range i).all fun j => (bs.getD i []).contains j

theorem ready_mem {listed : Array Bool} {i : Nat} (h : i ∈ Region.ready .any ops listed) :
    i < ops.size ∧ listed.getD i true = false ∧ ∀ o, ops[i]? = some o → ∀ e ∈ o.after, Region.binds .any e = true → listed.getD e.on false = true := by
  simp only [Region.ready, List.mem_filter, List.mem_range, Bool.and_eq_true, Bool.not_eq_true'] at h
  refine ⟨h.1, h.2.1, fun o ho e he hb => ?_⟩
  have h2 := h.2.2
  simp only [ho, Option.map_some, Option.getD_some, Array.all_eq_true_iff_forall_mem] at h2
  have := h2 e he
  simpa [hb] using this

/-- What has been carried out is shut under the edges that bind. -/
def Shut (ops : Array Oper) (listed : Array Bool) : Prop :=
  ∀ (i : Nat) (o : Oper), ops[i]? = some o → listed.getD i false = true → ∀ e ∈ o.after, Region.binds .any e = true → listed.getD e.on false = true

theorem befores_spec {listed : Array Bool} (hs : Shut ops listed) : ∀ (rest : List Oper) (acc : List (List Nat)),
    (∀ m, rest[m]? = ops[acc.length + m]?) →
    (∀ i o, ops[i]? = some o → i < acc.length → (∀ e ∈ o.after, Region.binds .any e = true → listed.getD e.on false = true) → ∀ j ∈ acc.getD i [], listed.getD j false = true) →
    ∀ i o, ops[i]? = some o → (∀ e ∈ o.after, Region.binds .any e = true → listed.getD e.on false = true) → ∀ j ∈ (befores rest acc).getD i [], listed.getD j false = true
  | [], acc, hr, hacc, i, o, hi, hd, j, hj => by
    rcases Nat.lt_or_ge i acc.length with h | h
    · exact hacc i o hi h hd j hj
    · have : (befores [] acc).getD i [] = [] := by simp [befores, List.getD_eq_getElem?_getD, List.getElem?_eq_none h]
      rw [this] at hj
      cases hj
  | o0 :: rest, acc, hr, hacc, i, o, hi, hd, j, hj => by
    refine befores_spec hs rest (acc ++ [((o0.after.toList.filter fun e => Region.binds .any e).flatMap fun e => e.on :: acc.getD e.on []).eraseDups]) ?_ ?_ i o hi hd j hj
    · intro m
      have := hr (m + 1)
      simp only [List.getElem?_cons_succ] at this
      rw [this, List.length_append, List.length_singleton]
      congr 1
      omega
    · intro i o hi hlt hd j hj
      have h0 : ops[acc.length]? = some o0 := by have := hr 0; simpa using this.symm
      rw [List.length_append, List.length_singleton] at hlt
      rcases Nat.lt_or_eq_of_le (Nat.lt_succ_iff.1 hlt) with h | h
      · rw [List.getD_eq_getElem?_getD, List.getElem?_append_left h, ← List.getD_eq_getElem?_getD] at hj
        exact hacc i o hi h hd j hj
      · subst h
        rw [h0] at hi; cases hi
        rw [List.getD_eq_getElem?_getD, List.getElem?_append_right (Nat.le_refl _), Nat.sub_self] at hj
        simp only [List.getElem?_cons_zero, Option.getD_some, List.mem_eraseDups, List.mem_flatMap, List.mem_filter] at hj
        obtain ⟨e, ⟨he, hb⟩, hj⟩ := hj
        have he' : e ∈ o0.after := by simpa using he
        have hl := hd e he' hb
        rcases List.mem_cons.1 hj with rfl | hj
        · exact hl
        · cases ho' : ops[e.on]? with
          | none =>
            exfalso
            rcases Nat.lt_or_ge e.on acc.length with hlt' | hge
            · have hz : e.on < ops.size := by have := (Array.getElem?_eq_some_iff.1 h0).1; omega
              rw [Array.getElem?_eq_getElem hz] at ho'; cases ho'
            · rw [List.getD_eq_getElem?_getD, List.getElem?_eq_none hge] at hj; cases hj
          | some o' =>
            rcases Nat.lt_or_ge e.on acc.length with hlt' | hge
            · exact hacc e.on o' ho' hlt' (fun e' he'' hb' => hs e.on o' ho' hl e' he'' hb') j hj
            · rw [List.getD_eq_getElem?_getD, List.getElem?_eq_none hge] at hj; cases hj

theorem tailOk_before {k : Nat} (h : tailOk ops k = true) {listed : Array Bool} (hs : Shut ops listed) {i : Nat} (hk : k ≤ i) {o : Oper} (hi : ops[i]? = some o)
    (hd : ∀ e ∈ o.after, Region.binds .any e = true → listed.getD e.on false = true) : ∀ j, j < i → listed.getD j false = true := by
  intro j hj
  have hlt : i < ops.size := (Array.getElem?_eq_some_iff.1 hi).1
  have h1 := List.all_eq_true.1 h i (List.mem_range.2 hlt)
  have hnk : decide (i < k) = false := by simp; omega
  rw [hnk, Bool.false_or] at h1
  have h2 := List.all_eq_true.1 h1 j (List.mem_range.2 hj)
  exact befores_spec hs ops.toList [] (by simp) (fun i o _ hlt => by simp at hlt) i o hi hd j (by simpa using h2)

theorem getD_set_same (l : Array Bool) (i : Nat) (d : Bool) (h : i < l.size) : (l.setIfInBounds i true).getD i d = true := by simp [Array.getD_eq_getD_getElem?, h]
theorem getD_set_other (l : Array Bool) (i j : Nat) (d : Bool) (h : i ≠ j) : (l.setIfInBounds i true).getD j d = l.getD j d := by
  simp [Array.getD_eq_getD_getElem?, Array.getElem?_setIfInBounds_ne h]
theorem getD_lt (l : Array Bool) (i : Nat) (h : i < l.size) : l.getD i true = l.getD i false := by simp [Array.getD_eq_getD_getElem?, h]

theorem wpOpIn_mono' {i : Nat} {a : Act} {w : World} {K K' : Act → World → Prop} (h : ∀ a w, K a w → K' a w)
    (hh : wpOpIn F n P ops Q i K a w) : wpOpIn F n P ops Q i K' a w := wpOpIn_mono h hh

/-- The rest in the text's order. -/
theorem wpAnyIn_tail {k : Nat} {size : Nat} (hfo : factsOk ops size = true) (ht : tailOk ops k = true) :
    ∀ (fuel : Nat) (listed : Array Bool) (i : Nat) (a : Act) (w : World), k ≤ i → fuel + i = ops.size → listed.size = ops.size → (∀ j, j < ops.size → listed.getD j false = decide (j < i)) →
      wpListIn F n P ops Q (ops.toList.drop i) a w → wpAnyIn F n P .any ops Q fuel listed a w := by
  intro fuel
  induction fuel with
  | zero =>
    intro listed i a w hk hf hsz hl h
    refine ⟨?_, ?_⟩
    · apply List.eq_nil_iff_forall_not_mem.2
      intro j hj
      obtain ⟨hlt, hno, _⟩ := ready_mem hj
      rw [getD_lt _ _ (by omega), hl j hlt] at hno
      simp at hno; omega
    · rw [List.drop_eq_nil_of_le (by simp; omega)] at h
      exact h
  | succ fuel ih =>
    intro listed i a w hk hf hsz hl h
    have hi : i < ops.size := by omega
    obtain ⟨o, ho⟩ : ∃ o, ops[i]? = some o := ⟨_, Array.getElem?_eq_getElem hi⟩
    have hshut : Shut ops listed := by
      intro j o' hj hlj e he hb
      have hjl : j < ops.size := (Array.getElem?_eq_some_iff.1 hj).1
      have := factsOk_edge hfo hj he hb
      rw [hl j hjl] at hlj
      rw [hl _ (by omega)]
      simp at hlj ⊢; omega
    have hready : ∀ j ∈ Region.ready .any ops listed, j = i := by
      intro j hj
      obtain ⟨hlt, hno, hdep⟩ := ready_mem hj
      rw [getD_lt _ _ (by omega), hl j hlt] at hno
      have hji : i ≤ j := by simp at hno; omega
      obtain ⟨oj, hoj⟩ : ∃ o, ops[j]? = some o := ⟨_, Array.getElem?_eq_getElem hlt⟩
      rcases Nat.lt_or_eq_of_le hji with hlt' | rfl
      · have := tailOk_before ht hshut (by omega : k ≤ j) hoj (hdep oj hoj) i hlt'
        rw [hl i hi] at this; simp at this
      · rfl
    have hdrop : ops.toList.drop i = o :: ops.toList.drop (i + 1) := by
      rw [List.drop_eq_getElem_cons (by simpa using hi)]
      have : ops.toList[i]'(by simpa using hi) = o := by
        have := (Array.getElem?_eq_some_iff.1 ho).2
        simpa using this
      rw [this]
    rw [hdrop] at h
    have hin : i ∈ Region.ready .any ops listed := by
      simp only [Region.ready, List.mem_filter, List.mem_range, Bool.and_eq_true, Bool.not_eq_true']
      refine ⟨hi, by rw [getD_lt _ _ (by omega), hl i hi]; simp, ?_⟩
      simp only [ho, Option.map_some, Option.getD_some, Array.all_eq_true_iff_forall_mem]
      intro e he
      by_cases hb : Region.binds .any e = true
      · have := factsOk_edge hfo ho he hb
        rw [hl _ (by omega)]; simp [this]
      · simp [hb]
    refine ⟨(fun h0 => by rw [h0] at hin; cases hin), ?_⟩
    intro j hj
    obtain rfl := hready j hj
    have hnext : ∀ a w, wpListIn F n P ops Q (ops.toList.drop (j + 1)) a w → wpAnyIn F n P .any ops Q fuel (listed.setIfInBounds j true) a w := fun a w h =>
      ih _ (j + 1) a w (by omega) (by omega) (by simpa using hsz) (fun m hm => by
        by_cases e : j = m
        · subst e; rw [getD_set_same _ _ _ (by omega)]; simp
        · rw [getD_set_other _ _ _ _ e, hl m hm]; simp; omega) h
    unfold wpOpIn
    simp only [ho]
    unfold wpListIn at h
    split
    · rename_i hw
      simp only [hw, if_true] at h
      exact Oper.wpIn_mono hnext h
    · rename_i hw
      simp only [hw] at h
      exact ⟨h.1, hnext _ _ h.2⟩

/-- **A REGION THAT DRAWS ITS ORDER**: R i: what is known of the value of operation i, in every later world; C: how the world may turn meanwhile; the operations from k on in the text's order. -/
theorem wpIn_region_facts {id : Nat} {a : Act} {w : World} (hm : P.follows .mixedOrders = true) (k : Nat) (R : Nat → Value → (Nat → Value) → World → Prop) (C : World → World → Prop)
    (hCr : ∀ x : World, C x x) (hCt : ∀ {x y z : World}, C x y → C y z → C x z) (hst : ∀ i v env x y, i < k → C x y → R i v env x → R i v env y)
    (hloc : ∀ i o v env env' x, i < k → ops[i]? = some o → (∀ e ∈ o.after, Region.binds .any e = true → ∀ o' d, ops[e.on]? = some o' → o'.dst = some d → env d = env' d) → R i v env x → R i v env' x)
    (hfo : factsOk ops a.tmps.size = true) (ht : tailOk ops k = true) (hC0 : C w w.drew)
    (hstep : ∀ (i : Nat) (o : Oper), i < k → ops[i]? = some o → ∀ (a' : Act) (w' : World), Agree ops k a a' → C w w' →
      (∀ e ∈ o.after, Region.binds .any e = true → Known R ops e.on a' w') → StepOk F n P ops R C Q i o a' w')
    (hend : ∀ (a' : Act) (w' : World), Agree ops k a a' → C w w' → (∀ i, i < k → i < ops.size → Known R ops i a' w') → wpListIn F n P ops Q (ops.toList.drop k) a' w') :
    (Code.region id ops true).wpIn F n P Q a w := by
  refine wpIn_region_any hm ?_
  have main : ∀ (fuel : Nat) (listed : Array Bool) (a' : Act) (w' : World), listed.size = ops.size → fuel + (List.range ops.size).countP (fun i => listed.getD i false) = ops.size → Shut ops listed →
      (∀ i, k ≤ i → i < ops.size → listed.getD i false = false) → Agree ops k a a' → C w w' → (∀ i, i < k → i < ops.size → listed.getD i false = true → Known R ops i a' w') →
      wpAnyIn F n P .any ops Q fuel listed a' w' := by
    intro fuel
    induction fuel with
    | zero =>
      intro listed a' w' hsz hf hs hlate hA hC hK
      have hall : ∀ i, i < ops.size → listed.getD i false = true := by
        intro i hi
        have h1 : (List.range ops.size).countP (fun i => listed.getD i false) = (List.range ops.size).length := by simp at hf ⊢; omega
        exact List.countP_eq_length.1 h1 i (List.mem_range.2 hi)
      have hk : ops.size ≤ k := by
        rcases Nat.lt_or_ge k ops.size with h | h
        · have := hlate k (Nat.le_refl _) h; rw [hall k h] at this; cases this
        · exact h
      have h := hend a' w' hA hC (fun i hik hi => hK i hik hi (hall i hi))
      rw [List.drop_eq_nil_of_le (by simpa using hk)] at h
      refine ⟨?_, h⟩
      apply List.eq_nil_iff_forall_not_mem.2
      intro j hj
      obtain ⟨hlt, hno, _⟩ := ready_mem hj
      rw [getD_lt _ _ (by omega), hall j hlt] at hno
      cases hno
    | succ fuel ih =>
      intro listed a' w' hsz hf hs hlate hA hC hK
      refine ⟨?_, ?_⟩
      · -- nothing is ready: all has been carried out
        intro h0
        exfalso
        have hex : ∃ i, i < ops.size ∧ listed.getD i false = false := by
          rcases Classical.em (∃ i, i < ops.size ∧ listed.getD i false = false) with h | h
          · exact h
          · exfalso
            have hall : ∀ i, i < ops.size → listed.getD i false = true := fun i hi => by
              cases hb : listed.getD i false with
              | true => rfl
              | false => exact absurd ⟨i, hi, hb⟩ h
            have h1 : (List.range ops.size).countP (fun i => listed.getD i false) = (List.range ops.size).length := List.countP_eq_length.2 (fun i hi => hall i (List.mem_range.1 hi))
            simp only [List.length_range] at h1
            rw [h1] at hf
            omega
        have least : ∀ m, (∃ i, i < ops.size ∧ i ≤ m ∧ listed.getD i false = false) → ∃ i, i < ops.size ∧ listed.getD i false = false ∧ ∀ j, j < i → listed.getD j false = true := by
          intro m
          induction m with
          | zero => rintro ⟨i, hi, h0', hb⟩; exact ⟨i, hi, hb, fun j hj => by omega⟩
          | succ m ihm =>
            rintro ⟨i, hi, hle, hb⟩
            rcases Classical.em (∃ i, i < ops.size ∧ i ≤ m ∧ listed.getD i false = false) with h | h
            · exact ihm h
            · refine ⟨i, hi, hb, fun j hj => ?_⟩
              cases hbj : listed.getD j false with
              | true => rfl
              | false => exact absurd ⟨j, by omega, by omega, hbj⟩ h
        obtain ⟨i0, hi0, hb0⟩ := hex
        obtain ⟨i, hi, hb, hbef⟩ := least i0 ⟨i0, hi0, Nat.le_refl _, hb0⟩
        obtain ⟨o, ho⟩ : ∃ o, ops[i]? = some o := ⟨_, Array.getElem?_eq_getElem hi⟩
        have hin : i ∈ Region.ready .any ops listed := by
          simp only [Region.ready, List.mem_filter, List.mem_range, Bool.and_eq_true, Bool.not_eq_true']
          refine ⟨hi, by rw [getD_lt _ _ (by omega)]; exact hb, ?_⟩
          simp only [ho, Option.map_some, Option.getD_some, Array.all_eq_true_iff_forall_mem]
          intro e he
          by_cases hbn : Region.binds .any e = true
          · rw [hbef _ (factsOk_edge hfo ho he hbn)]; simp
          · simp [hbn]
        rw [h0] at hin
        cases hin
      · intro i hi
        obtain ⟨hlt, hno, hdep⟩ := ready_mem hi
        rw [getD_lt _ _ (by omega)] at hno
        obtain ⟨o, ho⟩ : ∃ o, ops[i]? = some o := ⟨_, Array.getElem?_eq_getElem hlt⟩
        rcases Nat.lt_or_ge i k with hik | hik
        · -- one of the free ones
          have hso := hstep i o hik ho a' w' hA hC (fun e he hb => by
            have hl := hdep o ho e he hb
            have hlt' := factsOk_edge hfo ho he hb
            exact hK e.on (by omega) (by omega) hl)
          have henv : ∀ (m : Nat) (om : Oper), ops[m]? = some om → (∀ e ∈ om.after, Region.binds .any e = true → e.on ≠ i) → ∀ (v : Value), ∀ e ∈ om.after, Region.binds .any e = true → ∀ o' d, ops[e.on]? = some o' → o'.dst = some d → envOf a' d = envOf (a'.put o.dst v) d := by
            intro m om hom hne v e he hb o' d ho' hd
            unfold envOf
            rw [put_other _ _ _ _ (fun hd' => factsOk_once hfo ho ho' (fun e1 => hne e he hb e1.symm) hd' hd)]
          have hnext : ∀ v w'', R i v (envOf a') w'' → C w' w'' → wpAnyIn F n P .any ops Q fuel (listed.setIfInBounds i true) (a'.put o.dst v) w'' := by
            intro v w'' hR hC'
            refine ih _ _ _ (by simpa using hsz) ?_ ?_ ?_ (hA.put hik ho v) (hCt hC hC') ?_
            · have hc : (List.range ops.size).countP (fun j => (listed.setIfInBounds i true).getD j false) = (List.range ops.size).countP (fun j => listed.getD j false) + 1 := by
                have key : ∀ m, i < m → m ≤ ops.size → (List.range m).countP (fun j => (listed.setIfInBounds i true).getD j false) = (List.range m).countP (fun j => listed.getD j false) + 1 := by
                  intro m
                  induction m with
                  | zero => intro h _; omega
                  | succ m ihm =>
                    intro h hle
                    simp only [List.range_succ, List.countP_append, List.countP_singleton]
                    rcases Nat.lt_or_eq_of_le (Nat.lt_succ_iff.1 h) with h' | rfl
                    · rw [ihm h' (by omega), getD_set_other _ _ _ _ (by omega)]; omega
                    · have same : ∀ m, m ≤ i → (List.range m).countP (fun j => (listed.setIfInBounds i true).getD j false) = (List.range m).countP (fun j => listed.getD j false) := by
                        intro m hm
                        refine List.countP_congr (fun j hj => ?_)
                        rw [getD_set_other _ _ _ _ (by have := List.mem_range.1 hj; omega)]
                      rw [same i (Nat.le_refl _), getD_set_same _ _ _ (by omega), hno]
                      simp
                exact key ops.size hlt (Nat.le_refl _)
              rw [hc]; omega
            · intro j o' hj hlj e he hb
              by_cases e1 : i = e.on
              · rw [← e1, getD_set_same _ _ _ (by omega)]
              · rw [getD_set_other _ _ _ _ e1]
                by_cases e2 : i = j
                · subst e2
                  rw [ho] at hj; cases hj
                  exact hdep o ho e he hb
                · rw [getD_set_other _ _ _ _ e2] at hlj
                  exact hs j o' hj hlj e he hb
            · intro j hkj hj
              rw [getD_set_other _ _ _ _ (by omega)]
              exact hlate j hkj hj
            · intro j hjk hj hlj
              by_cases e1 : i = j
              · subst e1
                intro o' ho'
                rw [ho] at ho'; cases ho'
                cases hd : o.dst with
                | none => exact ⟨v, hR⟩
                | some d =>
                  refine ⟨v, by rw [put_same _ _ _ (by rw [hA.size]; exact factsOk_dst hfo ho hd)], ?_⟩
                  rw [← hd]
                  exact hloc i o v _ _ _ hik ho (henv i o ho (fun e he hb e1 => by have := factsOk_edge hfo ho he hb; omega) v) hR
              · rw [getD_set_other _ _ _ _ e1] at hlj
                have hk := hK j hjk hj hlj
                intro o' ho'
                have hk' := hk o' ho'
                have hen := henv j o' ho' (fun e he hb e2 => by
                  have := hs j o' ho' hlj e he hb
                  rw [e2, hno] at this
                  cases this) v
                cases hd' : o'.dst with
                | none => rw [hd'] at hk'; obtain ⟨u, hu⟩ := hk'; exact ⟨u, hloc j o' u _ _ _ hjk ho' hen (hst j _ _ _ _ hjk hC' hu)⟩
                | some d =>
                  rw [hd'] at hk'
                  obtain ⟨u, hu, hRu⟩ := hk'
                  exact ⟨u, by rw [put_other _ _ _ _ (fun hd => factsOk_once hfo ho ho' e1 hd hd')]; exact hu, hloc j o' u _ _ _ hjk ho' hen (hst j _ _ _ _ hjk hC' hRu)⟩
          unfold StepOk at hso
          unfold wpOpIn
          simp only [ho]
          split
          · rename_i hw
            simp only [hw, if_true] at hso
            exact hso _ hnext
          · rename_i hw
            simp only [hw] at hso
            exact ⟨hso.1, hnext _ _ hso.2 (hCr _)⟩
        · -- the first of the last ones
          have hbefore := tailOk_before ht hs hik ho (hdep o ho)
          have hik' : i = k := by
            rcases Nat.lt_or_eq_of_le hik with h | h
            · have := hbefore k h; rw [hlate k (Nat.le_refl _) (by omega)] at this; cases this
            · exact h.symm
          subst hik'
          have hl : ∀ j, j < ops.size → listed.getD j false = decide (j < i) := by
            intro j hj
            rcases Nat.lt_or_ge j i with h | h
            · rw [hbefore j h]; simp [h]
            · rw [hlate j h hj]; simp; omega
          have hf' : fuel + 1 + i = ops.size := by
            have : (List.range ops.size).countP (fun j => listed.getD j false) = i := by
              have key : ∀ m, m ≤ ops.size → (List.range m).countP (fun j => listed.getD j false) = min m i := by
                intro m
                induction m with
                | zero => simp
                | succ m ihm =>
                  intro hm
                  simp only [List.range_succ, List.countP_append, List.countP_singleton]
                  rw [ihm (by omega), hl m (by omega)]
                  by_cases h : m < i <;> simp [h] <;> omega
              rw [key _ (Nat.le_refl _)]; omega
            omega
          have h := wpAnyIn_tail (F := F) (n := n) (P := P) (Q := Q) hfo ht (fuel + 1) listed i a' w' (Nat.le_refl _) hf' hsz hl (hend a' w' hA hC (fun j hj hjs => hK j hj hjs (hbefore j hj)))
          exact h.2 i hi
  refine main ops.size _ a w.drew (by simp) ?_ ?_ ?_ (Agree.refl k a) hC0 ?_
  · have : (List.range ops.size).countP (fun i => (Array.replicate ops.size false).getD i false) = 0 := by
      rw [List.countP_eq_zero]
      intro i hi
      simp [Array.getD_eq_getD_getElem?, List.mem_range.1 hi]
    omega
  · intro i o hi hl
    exfalso
    have hlt : i < ops.size := (Array.getElem?_eq_some_iff.1 hi).1
    simp [Array.getD_eq_getD_getElem?, hlt] at hl
  · intro i _ hi
    simp [Array.getD_eq_getD_getElem?, hi]
  · intro i _ hi hl
    exfalso
    simp [Array.getD_eq_getD_getElem?, hi] at hl
/-- The facts, as a list. -/
def factsAt (Rl : List (Value → World → Prop)) (i : Nat) : Value → World → Prop := Rl.getD i (fun _ _ => True)
def AllStable (C : World → World → Prop) : List (Value → World → Prop) → Prop
  | [] => True
  | r :: rs => (∀ v x y, C x y → r v x → r v y) ∧ AllStable C rs
theorem AllStable.at {C : World → World → Prop} : ∀ {Rl : List (Value → World → Prop)} (_ : AllStable C Rl) (i : Nat) (v : Value) (x y : World), C x y → factsAt Rl i v x → factsAt Rl i v y
  | [], _, _, _, _, _, _, _ => trivial
  | _ :: _, h, 0, v, x, y, hC, hr => h.1 v x y hC hr
  | _ :: _, h, i + 1, v, x, y, hC, hr => AllStable.at h.2 i v x y hC hr
def StepsFrom (F : Fence) (n : Nat) (P : Program) (ops : Array Oper) (Rl : List (Value → World → Prop)) (C : World → World → Prop) (Q : Exit → Act → World → Prop) (a : Act) (w : World) : Nat → List Oper → Prop
  | _, [] => True
  | i, o :: rest => (∀ (a' : Act) (w' : World), Agree ops Rl.length a a' → C w w' → (∀ e ∈ o.after, Region.binds .any e = true → Known (fun i v _ w => factsAt Rl i v w) ops e.on a' w') → StepOk F n P ops (fun i v _ w => factsAt Rl i v w) C Q i o a' w') ∧
    StepsFrom F n P ops Rl C Q a w (i + 1) rest
def EndFrom (K : Act → Prop) (w' : World) : List Oper → List (Value → World → Prop) → Act → Prop
  | o :: os, r :: rs, a => ∀ v, r v w' → EndFrom K w' os rs (a.put o.dst v)
  | _, _, a => K a

theorem stepsFrom_at {Rl : List (Value → World → Prop)} {C : World → World → Prop} {a : Act} {w : World} : ∀ (l : List Oper) (j : Nat), StepsFrom F n P ops Rl C Q a w j l → ∀ (i : Nat) (o : Oper), l[i]? = some o →
    ∀ (a' : Act) (w' : World), Agree ops Rl.length a a' → C w w' → (∀ e ∈ o.after, Region.binds .any e = true → Known (fun i v _ w => factsAt Rl i v w) ops e.on a' w') → StepOk F n P ops (fun i v _ w => factsAt Rl i v w) C Q (j + i) o a' w'
  | [], _, _, _, _, hi => by simp at hi
  | o :: rest, j, h, 0, o', hi => by
    simp only [List.getElem?_cons_zero, Option.some.injEq] at hi
    subst hi
    exact h.1
  | o :: rest, j, h, i + 1, o', hi => by
    have := stepsFrom_at rest (j + 1) h.2 i o' (by simpa using hi)
    rw [Nat.add_assoc, Nat.add_comm 1 i] at this
    exact this

theorem act_ext {a b : Act} (hd : a.defers = b.defers) (h : ∀ t : Nat, a.tmps[t]? = b.tmps[t]?) : a = b := by
  obtain ⟨x, y⟩ := a
  obtain ⟨x', y'⟩ := b
  have : x = x' := Array.ext_getElem? h
  cases hd
  cases this
  rfl

theorem endFrom_of {size : Nat} {K : Act → Prop} {w' : World} {a' : Act} {Rl : List (Value → World → Prop)} (hfo : factsOk ops size = true) (_hsz : a'.tmps.size = size) :
    ∀ (m : Nat) (acur : Act), acur.tmps.size = size → acur.defers = a'.defers → EndFrom K w' (ops.toList.drop m) (Rl.drop m) acur →
      (∀ i, i < Rl.length → i < ops.size → Known (fun i v _ w => factsAt Rl i v w) ops i a' w') → (∀ t, (∀ (i : Nat) (o : Oper), m ≤ i → i < Rl.length → ops[i]? = some o → o.dst ≠ some t) → a'.tmps[t]? = acur.tmps[t]?) → K a' := by
  intro m
  generalize hf : ops.size - m = fuel
  induction fuel generalizing m with
  | zero =>
    intro acur hc hd hE hK hA
    rw [List.drop_eq_nil_of_le (by simp; omega)] at hE
    have : a' = acur := act_ext hd.symm (fun t => hA t (fun i o hmi hil hi => by
      have := (Array.getElem?_eq_some_iff.1 hi).1
      omega))
    rw [this]
    simpa [EndFrom] using hE
  | succ fuel ih =>
    intro acur hc hd hE hK hA
    have hm : m < ops.size := by omega
    obtain ⟨o, ho⟩ : ∃ o, ops[m]? = some o := ⟨_, Array.getElem?_eq_getElem hm⟩
    have hdrop : ops.toList.drop m = o :: ops.toList.drop (m + 1) := by
      rw [List.drop_eq_getElem_cons (by simpa using hm)]
      have : ops.toList[m]'(by simpa using hm) = o := by simpa using (Array.getElem?_eq_some_iff.1 ho).2
      rw [this]
    rcases Nat.lt_or_ge m Rl.length with hml | hml
    · have hrd : Rl.drop m = factsAt Rl m :: Rl.drop (m + 1) := by
        rw [List.drop_eq_getElem_cons hml]
        simp [factsAt, List.getD_eq_getElem?_getD, List.getElem?_eq_getElem hml]
      rw [hdrop, hrd] at hE
      have hk := hK m hml hm o ho
      cases hdst : o.dst with
      | none =>
        rw [hdst] at hk
        obtain ⟨v, hv⟩ := hk
        have h1 := hE v hv
        rw [hdst] at h1
        refine ih (m + 1) (by omega) acur hc hd h1 hK (fun t ht => hA t (fun i o' hmi hil hi e => ?_))
        rcases Nat.lt_or_eq_of_le hmi with hlt | rfl
        · exact ht i o' hlt hil hi e
        · rw [ho] at hi; cases hi; rw [hdst] at e; cases e
      | some d =>
        rw [hdst] at hk
        obtain ⟨v, hv, hr⟩ := hk
        have h1 := hE v hr
        rw [hdst] at h1
        have hdlt : d < size := factsOk_dst hfo ho hdst
        refine ih (m + 1) (by omega) _ (by rw [put_size]; exact hc) (by rw [put_defers]; exact hd) h1 hK (fun t ht => ?_)
        by_cases e : d = t
        · subst e
          rw [hv, put_same acur d v (by rw [hc]; exact hdlt)]
        · rw [put_other _ _ _ _ (fun e' => e (by cases e'; rfl))]
          refine hA t (fun i o' hmi hil hi e' => ?_)
          rcases Nat.lt_or_eq_of_le hmi with hlt | rfl
          · exact ht i o' hlt hil hi e'
          · rw [ho] at hi; cases hi; rw [hdst] at e'; exact e (by cases e'; rfl)
    · rw [List.drop_eq_nil_of_le hml, hdrop] at hE
      have : a' = acur := act_ext hd.symm (fun t => hA t (fun i o hmi hil hi => by omega))
      rw [this]
      simpa [EndFrom] using hE

theorem stepOk_plain {R : Nat → Value → (Nat → Value) → World → Prop} {C : World → World → Prop} {i : Nat} {o : Oper} {a' : Act} {w' : World} (hg : o.guard = none)
    (h : ∀ K : Act → World → Prop, (∀ v w'', R i v (envOf a') w'' → C w' w'' → K (a'.put o.dst v) w'') → o.wpIn F n P a' w' K Q) : StepOk F n P ops R C Q i o a' w' := by
  unfold StepOk
  simp only [Region.wanted, hg, if_true]
  exact h
theorem yielded_at {j d : Nat} {t : Array Value} {b : Bool} (hj : (ops[j]?).bind (·.dst) = some d) (hd : t[d]? = some (.bool b)) : yielded ops t j = some b := by
  unfold yielded
  rw [hj]
  simp [hd]
theorem stepOk_want {R : Nat → Value → (Nat → Value) → World → Prop} {C : World → World → Prop} {i : Nat} {o : Oper} {a' : Act} {w' : World} {j d : Nat} {b : Bool} (hg : o.guard = some (j, b)) (hj : (ops[j]?).bind (·.dst) = some d) (hd : a'.tmps[d]? = some (.bool b))
    (h : ∀ K : Act → World → Prop, (∀ v w'', R i v (envOf a') w'' → C w' w'' → K (a'.put o.dst v) w'') → o.wpIn F n P a' w' K Q) : StepOk F n P ops R C Q i o a' w' := by
  unfold StepOk
  simp only [Region.wanted, hg, yielded_at hj hd, beq_self_eq_true, if_true]
  exact h
theorem stepOk_skip {R : Nat → Value → (Nat → Value) → World → Prop} {C : World → World → Prop} {i : Nat} {o : Oper} {a' : Act} {w' : World} {j d : Nat} {b : Bool} (hg : o.guard = some (j, b)) (hj : (ops[j]?).bind (·.dst) = some d) (hd : a'.tmps[d]? = some (.bool (!b)))
    (hR : R i undef (envOf a') w') (hF : ∀ f, F.fn f := by exact fun _ => trivial) : StepOk F n P ops R C Q i o a' w' := by
  unfold StepOk
  have : (some (!b) == some b) = false := by cases b <;> rfl
  simp only [Region.wanted, hg, yielded_at hj hd, this]
  exact ⟨fun f _ => hF f, hR⟩
/-- A guard whose own operation was passed over. -/
theorem stepOk_skip' {R : Nat → Value → (Nat → Value) → World → Prop} {C : World → World → Prop} {i : Nat} {o : Oper} {a' : Act} {w' : World} {j d : Nat} {b : Bool} (hg : o.guard = some (j, b)) (hj : (ops[j]?).bind (·.dst) = some d) (hd : a'.tmps[d]? = some undef)
    (hR : R i undef (envOf a') w') (hF : ∀ f, F.fn f := by exact fun _ => trivial) : StepOk F n P ops R C Q i o a' w' := by
  unfold StepOk
  have hy : yielded ops a'.tmps j = none := by
    unfold yielded
    rw [hj]
    simp [hd, undef]
  have : (none == some b) = false := rfl
  simp only [Region.wanted, hg, hy, this]
  exact ⟨fun f _ => hF f, hR⟩

/-- **The law, for a walk**: Rl: what is known of each operation's value; those behind come in the text's order. -/
theorem wp_region_facts {id : Nat} {a : Act} {w : World} (hm : P.follows .mixedOrders = true) (Rl : List (Value → World → Prop)) (C : World → World → Prop)
    (hCr : ∀ x : World, C x x) (hCt : ∀ {x y z : World}, C x y → C y z → C x z) (hst : AllStable C Rl)
    (hfo : factsOk ops a.tmps.size = true) (ht : tailOk ops Rl.length = true) (hC0 : C w w.drew)
    (hsteps : StepsFrom F n P ops Rl C Q a w 0 (ops.toList.take Rl.length))
    (hend : ∀ w', C w w' → EndFrom (fun a' => wpListIn F n P ops Q (ops.toList.drop Rl.length) a' w') w' ops.toList Rl a) :
    (Code.region id ops true).wpIn F n P Q a w := by
  refine wpIn_region_facts hm Rl.length (fun i v _ w => factsAt Rl i v w) C hCr hCt (fun i v _ x y _ => hst.at i v x y) (fun _ _ _ _ _ _ _ _ _ h => h) hfo ht hC0 ?_ ?_
  · intro i o hik hi a' w' hA hC hD
    have hi' : (ops.toList.take Rl.length)[i]? = some o := by
      rw [List.getElem?_take_of_lt hik]
      simpa using hi
    have := stepsFrom_at _ 0 hsteps i o hi' a' w' hA hC hD
    rw [Nat.zero_add] at this
    exact this
  · intro a' w' hA hC hK
    exact endFrom_of (K := fun a' => wpListIn F n P ops Q (ops.toList.drop Rl.length) a' w') hfo hA.size 0 a rfl hA.defers.symm (by simpa using hend w' hC) hK (fun t ht => hA.slot t (fun i o hil hi => ht i o (Nat.zero_le _) hil hi))

/-- The facts, as a list, on an operation's value beside those of the operations that it hangs on. -/
def factsAtE (Rl : List (Value → (Nat → Value) → World → Prop)) (i : Nat) : Value → (Nat → Value) → World → Prop := Rl.getD i (fun _ _ _ => True)
def AllStableE (C : World → World → Prop) : List (Value → (Nat → Value) → World → Prop) → Prop
  | [] => True
  | r :: rs => (∀ v env x y, C x y → r v env x → r v env y) ∧ AllStableE C rs
theorem AllStableE.at {C : World → World → Prop} : ∀ {Rl : List (Value → (Nat → Value) → World → Prop)} (_ : AllStableE C Rl) (i : Nat) (v : Value) (env : Nat → Value) (x y : World), C x y → factsAtE Rl i v env x → factsAtE Rl i v env y
  | [], _, _, _, _, _, _, _, _ => trivial
  | _ :: _, h, 0, v, env, x, y, hC, hr => h.1 v env x y hC hr
  | _ :: _, h, i + 1, v, env, x, y, hC, hr => AllStableE.at h.2 i v env x y hC hr
/-- A fact looks at the slots of the operations that its own one hangs on, alone. -/
def LocalFrom (ops : Array Oper) : List Oper → List (Value → (Nat → Value) → World → Prop) → Prop
  | o :: os, r :: rs => (∀ v env env' x, (∀ e ∈ o.after, Region.binds .any e = true → ∀ o' d, ops[e.on]? = some o' → o'.dst = some d → env d = env' d) → r v env x → r v env' x) ∧ LocalFrom ops os rs
  | _, _ => True
theorem LocalFrom.at : ∀ {os : List Oper} {rs : List (Value → (Nat → Value) → World → Prop)} (_ : LocalFrom ops os rs) (i : Nat) (o : Oper), i < rs.length → os[i]? = some o →
    ∀ v env env' x, (∀ e ∈ o.after, Region.binds .any e = true → ∀ o' d, ops[e.on]? = some o' → o'.dst = some d → env d = env' d) → factsAtE rs i v env x → factsAtE rs i v env' x
  | [], _, _, _, _, _, hi, _, _, _, _, _, _ => by simp at hi
  | _ :: _, [], _, _, _, hl, _, _, _, _, _, _, _ => by simp at hl
  | o :: os, r :: rs, h, 0, o', _, hi, v, env, env', x, he, hr => by
    simp only [List.getElem?_cons_zero, Option.some.injEq] at hi
    subst hi
    exact h.1 v env env' x he hr
  | o :: os, r :: rs, h, i + 1, o', hl, hi, v, env, env', x, he, hr => LocalFrom.at h.2 i o' (by simpa using hl) (by simpa using hi) v env env' x he hr
def StepsFromE (F : Fence) (n : Nat) (P : Program) (ops : Array Oper) (Rl : List (Value → (Nat → Value) → World → Prop)) (C : World → World → Prop) (Q : Exit → Act → World → Prop) (a : Act) (w : World) : Nat → List Oper → Prop
  | _, [] => True
  | i, o :: rest => (∀ (a' : Act) (w' : World), Agree ops Rl.length a a' → C w w' → (∀ e ∈ o.after, Region.binds .any e = true → Known (factsAtE Rl) ops e.on a' w') → StepOk F n P ops (factsAtE Rl) C Q i o a' w') ∧
    StepsFromE F n P ops Rl C Q a w (i + 1) rest
def EndFromE (K : Act → Prop) (w' : World) (env : Nat → Value) : List Oper → List (Value → (Nat → Value) → World → Prop) → Act → Prop
  | o :: os, r :: rs, a => ∀ v, r v env w' → (∀ d, o.dst = some d → env d = v) → EndFromE K w' env os rs (a.put o.dst v)
  | _, _, a => K a

theorem stepsFromE_at {Rl : List (Value → (Nat → Value) → World → Prop)} {C : World → World → Prop} {a : Act} {w : World} : ∀ (l : List Oper) (j : Nat), StepsFromE F n P ops Rl C Q a w j l → ∀ (i : Nat) (o : Oper), l[i]? = some o →
    ∀ (a' : Act) (w' : World), Agree ops Rl.length a a' → C w w' → (∀ e ∈ o.after, Region.binds .any e = true → Known (factsAtE Rl) ops e.on a' w') → StepOk F n P ops (factsAtE Rl) C Q (j + i) o a' w'
  | [], _, _, _, _, hi => by simp at hi
  | o :: rest, j, h, 0, o', hi => by
    simp only [List.getElem?_cons_zero, Option.some.injEq] at hi
    subst hi
    exact h.1
  | o :: rest, j, h, i + 1, o', hi => by
    have := stepsFromE_at rest (j + 1) h.2 i o' (by simpa using hi)
    rw [Nat.add_assoc, Nat.add_comm 1 i] at this
    exact this

theorem endFromE_of {size : Nat} {K : Act → Prop} {w' : World} {a' : Act} {Rl : List (Value → (Nat → Value) → World → Prop)} (hfo : factsOk ops size = true) :
    ∀ (m : Nat) (acur : Act), acur.tmps.size = size → acur.defers = a'.defers → EndFromE K w' (envOf a') (ops.toList.drop m) (Rl.drop m) acur →
      (∀ i, i < Rl.length → i < ops.size → Known (factsAtE Rl) ops i a' w') → (∀ t, (∀ (i : Nat) (o : Oper), m ≤ i → i < Rl.length → ops[i]? = some o → o.dst ≠ some t) → a'.tmps[t]? = acur.tmps[t]?) → K a' := by
  intro m
  generalize hf : ops.size - m = fuel
  induction fuel generalizing m with
  | zero =>
    intro acur hc hd hE hK hA
    rw [List.drop_eq_nil_of_le (by simp; omega)] at hE
    have : a' = acur := act_ext hd.symm (fun t => hA t (fun i o hmi hil hi => by
      have := (Array.getElem?_eq_some_iff.1 hi).1
      omega))
    rw [this]
    simpa [EndFromE] using hE
  | succ fuel ih =>
    intro acur hc hd hE hK hA
    have hm : m < ops.size := by omega
    obtain ⟨o, ho⟩ : ∃ o, ops[m]? = some o := ⟨_, Array.getElem?_eq_getElem hm⟩
    have hdrop : ops.toList.drop m = o :: ops.toList.drop (m + 1) := by
      rw [List.drop_eq_getElem_cons (by simpa using hm)]
      have : ops.toList[m]'(by simpa using hm) = o := by simpa using (Array.getElem?_eq_some_iff.1 ho).2
      rw [this]
    rcases Nat.lt_or_ge m Rl.length with hml | hml
    · have hrd : Rl.drop m = factsAtE Rl m :: Rl.drop (m + 1) := by
        rw [List.drop_eq_getElem_cons hml]
        simp [factsAtE, List.getD_eq_getElem?_getD, List.getElem?_eq_getElem hml]
      rw [hdrop, hrd] at hE
      have hk := hK m hml hm o ho
      cases hdst : o.dst with
      | none =>
        rw [hdst] at hk
        obtain ⟨v, hv⟩ := hk
        have h1 := hE v hv (fun d e => by rw [hdst] at e; cases e)
        rw [hdst] at h1
        refine ih (m + 1) (by omega) acur hc hd h1 hK (fun t ht => hA t (fun i o' hmi hil hi e => ?_))
        rcases Nat.lt_or_eq_of_le hmi with hlt | rfl
        · exact ht i o' hlt hil hi e
        · rw [ho] at hi; cases hi; rw [hdst] at e; cases e
      | some d =>
        rw [hdst] at hk
        obtain ⟨v, hv, hr⟩ := hk
        have h1 := hE v hr (fun d' e => by rw [hdst] at e; cases e; unfold envOf; rw [hv]; rfl)
        rw [hdst] at h1
        have hdlt : d < size := factsOk_dst hfo ho hdst
        refine ih (m + 1) (by omega) _ (by rw [put_size]; exact hc) (by rw [put_defers]; exact hd) h1 hK (fun t ht => ?_)
        by_cases e : d = t
        · subst e
          rw [hv, put_same acur d v (by rw [hc]; exact hdlt)]
        · rw [put_other _ _ _ _ (fun e' => e (by cases e'; rfl))]
          refine hA t (fun i o' hmi hil hi e' => ?_)
          rcases Nat.lt_or_eq_of_le hmi with hlt | rfl
          · exact ht i o' hlt hil hi e'
          · rw [ho] at hi; cases hi; rw [hdst] at e'; exact e (by cases e'; rfl)
    · rw [List.drop_eq_nil_of_le hml, hdrop] at hE
      have : a' = acur := act_ext hd.symm (fun t => hA t (fun i o hmi hil hi => by omega))
      rw [this]
      simpa [EndFromE] using hE

/-- **The law, for a walk**, where a fact may speak of other operations' values. -/
theorem wp_region_factsE {id : Nat} {a : Act} {w : World} (hm : P.follows .mixedOrders = true) (Rl : List (Value → (Nat → Value) → World → Prop)) (C : World → World → Prop)
    (hCr : ∀ x : World, C x x) (hCt : ∀ {x y z : World}, C x y → C y z → C x z) (hst : AllStableE C Rl)
    (hfo : factsOk ops a.tmps.size = true) (ht : tailOk ops Rl.length = true) (hC0 : C w w.drew) (hlo : LocalFrom ops ops.toList Rl)
    (hsteps : StepsFromE F n P ops Rl C Q a w 0 (ops.toList.take Rl.length))
    (hend : ∀ w' env, C w w' → EndFromE (fun a' => wpListIn F n P ops Q (ops.toList.drop Rl.length) a' w') w' env ops.toList Rl a) :
    (Code.region id ops true).wpIn F n P Q a w := by
  refine wpIn_region_facts hm Rl.length (factsAtE Rl) C hCr hCt (fun i v env x y _ => hst.at i v env x y) (fun i o v env env' x hik hi => hlo.at i o hik (by simpa using hi) v env env' x) hfo ht hC0 ?_ ?_
  · intro i o hik hi a' w' hA hC hD
    have hi' : (ops.toList.take Rl.length)[i]? = some o := by
      rw [List.getElem?_take_of_lt hik]
      simpa using hi
    have := stepsFromE_at _ 0 hsteps i o hi' a' w' hA hC hD
    rw [Nat.zero_add] at this
    exact this
  · intro a' w' hA hC hK
    exact endFromE_of (K := fun a' => wpListIn F n P ops Q (ops.toList.drop Rl.length) a' w') hfo 0 a rfl hA.defers.symm (by simpa using hend w' (envOf a') hC) hK (fun t ht => hA.slot t (fun i o hil hi => ht i o (Nat.zero_le _) hil hi))

theorem grows_trans {x y z : World} (h : Below x.heap.size x y) (k : Below y.heap.size y z) : Below x.heap.size x z := h.trans (k.mono h.size)
theorem grows_drew (w : World) : Below w.heap.size w w.drew := (Below.refl _ _).drew
end facts

@[go_sem] theorem wide_fn (f : FuncId) : Fence.wide.fn f = True := rfl
@[go_sem] theorem wide_depth : Fence.wide.depth = none := rfl

theorem wpIn_scope {n : Nat} {P : Program} {c : Code} {Q : Exit → Act → World → Prop} {a : Act} {w : World} (h : c.wpIn Fence.wide n P (Exit.noGoto Q) a w) : (Code.scope c).wpIn Fence.wide n P Q a w :=
  wpIn_wide.2 (wp_scope_straight (wpIn_wide.1 h))

/-- It returns v, and nothing that was there has changed. -/
def Gives (v : Value) (w : World) (e : Ending) (w' : World) : Prop := e = .returned v ∧ Below w.heap.size w w'

/-- No error, or one. -/
def errOf (ok : Bool) (e : Int) : Int := if ok = true then 0 else e
theorem errOf_true (e : Int) : errOf true e = 0 := rfl
theorem errOf_false (e : Int) : errOf false e = e := rfl

theorem ret_int {k : IntKind} {a b : Int} (h : a = b) : Ending.returned (.int k a) = .returned (.int k b) := by rw [h]
theorem ret_bool {a b : Bool} (h : a = b) : Ending.returned (.bool a) = .returned (.bool b) := by rw [h]

/-- The first k of N places. -/
def firsts (N k : Nat) : List (Fin N) := (List.finRange N).take k
theorem firsts_zero (N : Nat) : firsts N 0 = [] := rfl
theorem firsts_succ {N k : Nat} (h : k < N) : firsts N k ++ [⟨k, h⟩] = firsts N (k + 1) := by
  unfold firsts
  rw [List.take_succ_eq_append_getElem (by simpa using h)]
  simp
theorem firsts_length {N k : Nat} (h : k ≤ N) : (firsts N k).length = k := by simp [firsts, h]
theorem firsts_all (N : Nat) : firsts N N = List.finRange N := List.take_of_length_le (by simp)
theorem firsts_prefix (N k : Nat) : firsts N k <+: List.finRange N := List.take_prefix _ _

/-- The blocks of a list lie as they lay. -/
def KeepsAt (bs : List Nat) (W W' : World) : Prop := ∀ b ∈ bs, W'.heap[b]? = W.heap[b]?
theorem KeepsAt.refl (bs : List Nat) (W : World) : KeepsAt bs W W := fun _ _ => rfl
theorem KeepsAt.trans {bs : List Nat} {A B C : World} (h : KeepsAt bs A B) (k : KeepsAt bs B C) : KeepsAt bs A C := fun b hb => (k b hb).trans (h b hb)
theorem KeepsAt.of_below {bs : List Nat} {n₀ : Nat} {W W' : World} (h : Below n₀ W W') (hb : ∀ b ∈ bs, b < n₀) : KeepsAt bs W W' := fun b hm => h.block b (hb b hm)
theorem keepsAt_b {bs : List Nat} {w : World} (hn : ∀ b ∈ bs, b < w.heap.size) (W : World) (l : Nat) (o o' : Obj) (hl : w.heap.size ≤ l) (h : W.heap[l]? = some o) (_ : o.isCells = false) (_ : o.isWalk = false) : KeepsAt bs W (W.putObj l o') := fun b hb => by
  have h1 := (Array.getElem?_eq_some_iff.1 h).1
  have h2 := hn b hb
  exact (grownBy_putObj' W l o').block b (by omega) (fun e => by cases e; omega)

/-- An iterator that hands out N values, whatever the loop's body does to other blocks. -/
def Iter (P : Program) (g : Nat) (lb : Array Value) (N : Nat) (encs : Fin N → Array Value) (bs : List Nat) (w : World) : Prop :=
  ∀ n, 1 ≤ n → SeqStopsK Fence.wide n P g lb encs (KeepsAt bs) (fun ys => ys = List.finRange N) (fun pre => pre <+: List.finRange N) N w

theorem ownFrom_cell {β : Type} {B : Nat} (a : Addr) (v : Value) : OwnFrom B (fun (_ : β) W => W.cell? a = some v) :=
  Own.from (fun _ _ _ _ hs hg hr => cell_kept hs hg hr) _
theorem ownFrom_free {β : Type} {B : Nat} (a : Addr) (v : Value) : OwnFrom B (fun (_ : β) W => W.cell? a = some v ∧ W.frozen? a = false) :=
  Own.from (fun _ _ _ _ hs hg hr => ⟨cell_kept hs.1 hg hr, (frozen_kept hs.1 hg hr).trans hs.2⟩) _

theorem ownFrom_size {β : Type} {B : Nat} (k : Nat) : OwnFrom B (fun (_ : β) W => k ≤ W.heap.size) := fun _ _ _ _ hs hg _ => Nat.le_trans hs hg.size

/-- The frame behind the assignments to the loop's left sides. -/
def loopAct (a : Act) (sets : List (Tmp × Value)) : Act := { tmps := sets.foldl (fun t (p, v) => t.setIfInBounds p v) a.tmps, defers := [] }

/-- 'for x := range seq { .. }' over an iterator's contract. -/
theorem range_iter {P : Program} {n : Nat} {g : Operand} {ps : Array Tmp} {assign body : Code} {Q : Exit → Act → World → Prop} {a : Act} {w : World}
    {gf : Nat} {lb : Array Value} {N : Nat} {bs : List Nat} {encs : Fin N → Array Value} {w0 : World} (hit : Iter P gf lb N encs bs w0) (hn : 2 ≤ n)
    (hg : a.eval g = .func (.func gf) #[] lb) (eg : ∀ args w, (callFunc gf args).run P w = .ok (.enter gf args) w)
    (hn0 : ∀ b ∈ bs, b < w.heap.size) (hb0 : Below w0.heap.size w0 w) (hps : ∀ x, (encs x).size = ps.size) (pargs : Fin N → List (Tmp × Value)) (hpa : ∀ x, (ps.zip (encs x)).toList = pargs x)
    (I : List (Fin N) → World → Prop) (Ix : Code → List (Fin N) → World → Prop) (hI : OwnFrom w.heap.size I) (hIx : ∀ c, OwnFrom w.heap.size (Ix c)) (h0 : I [] w) (sets : Fin N → List (Tmp × Value))
    (hassign : ∀ (l : Nat) (x : Fin N) (W : World) (K : Act → World → Prop), K (loopAct a (pargs x ++ sets x)) W →
      assign.wpIn (Fence.wide.inRound l) (n - 1 - 1) P (Exit.then K (fun _ _ _ => False)) (loopAct a (pargs x)) W)
    (hbody : ∀ (l : Nat) (pre : List (Fin N)) (x : Fin N) (W : World), I pre W → pre.length < N → body.wpIn (Fence.wide.inRound l) (n - 1 - 1) P (ownPostK (KeepsAt bs) I Ix (pre ++ [x]) W) (loopAct a (pargs x ++ sets x)) W)
    (hdone : ∀ (D : Nat) (W : World), w.heap.size ≤ D → I (List.finRange N) W → W.heap[D]? = some (.deferred (some [])) → Q .normal { a with defers := { target := .collected D, args := #[] } :: a.defers } W)
    (hstop : ∀ (D : Nat) (c : Code) (pre : List (Fin N)) (W : World), w.heap.size ≤ D → pre <+: List.finRange N → Ix c pre W → W.heap[D]? = some (.deferred (some [])) → c.wpIn Fence.wide n P Q { a with defers := { target := .collected D, args := #[] } :: a.defers } W) :
    (Code.rangeFunc g ps assign body).wpIn Fence.wide n P Q a w :=
  wpIn_rangeFunc_ownF rfl (by omega) hg trivial eg (hit (n - 1) (by omega)) (fun h k => h.trans k) (keepsAt_b hn0) hb0 hps I Ix hI hIx h0 (fun x => loopAct a (pargs x ++ sets x)) (fun l x W K hK => by
    have h := hassign l x W K hK
    unfold loopAct at h
    rw [← Array.foldl_toList, hpa x]
    exact h) hbody (fun D xs W h e => by subst e; exact hdone D W h) hstop

theorem putObj_cell {W : World} {D : Nat} {a : Addr} {v : Value} {x : Option (List Deferred)} (h : W.cell? a = some v) (hK : W.heap[D]? = some (.deferred x)) (o : Obj) : (W.putObj D o).cell? a = some v :=
  cell_kept h (grownBy_putObj' _ D o) (fun r e => by cases e; exact ⟨_, hK, rfl⟩)
theorem below_putObj {n₀ D : Nat} {w W : World} (h : Below n₀ w W) {x : Option (List Deferred)} (hK : W.heap[D]? = some (.deferred x)) (hD : n₀ ≤ D) (o : Obj) : Below n₀ w (W.putObj D o) :=
  h.trans ⟨rfl, rfl, rfl, (grownBy_putObj' W D o).size, fun k hk => (grownBy_putObj' W D o).block k (by have := (Array.getElem?_eq_some_iff.1 hK).1; omega) (fun e => by cases e; omega)⟩

/-- A function that ranged over a function returns. -/
theorem ret_marked {n : Nat} {P : Program} {fn : Func} {a : Act} {W : World} {D : Nat} {R : Ending → World → Prop} {v : Value} (hd : a.defers = [{ target := .collected D, args := #[] }]) (hK : W.heap[D]? = some (.deferred (some [])))
    (hres : (results fn a.tmps).run P (W.putObj D (.deferred none)) = .ok v (W.putObj D (.deferred none))) (hR : R (.returned v) (W.putObj D (.deferred none))) : bodyPostM Fence.wide n P fn R .ret a W := by
  obtain ⟨t, ds⟩ := a
  cases hd
  exact ⟨by simp, .inl ⟨_, _, rfl, run_takeDeferred hK, ⟨_, hres, hR⟩⟩⟩

theorem run_index_int {P : Program} (w : World) (t e n : Nat) (kd : IntKind) (i0 : TypeInfo) (h : P.underlying t = some (.array n e)) (hu : P.underlying e = some (.int kd)) (hi : P.info? e = some i0) (hs : i0.size = 1)
    (cs : Array Value) (k : Nat) (v : Value) (hk : k < n) (hc : cs[k]? = some v) : (Instr.index t (.agg cs) (.int .i64 (k : Int))).run P w = .ok v w := by
  have hn : (0 : Int) ≤ (k : Int) ∧ (k : Int) < (n : Int) := by omega
  simp [Instr.index, run_underlying h, run_underlying hu, asIntOf, hn, part, isAgg, sizeOf, typeInfo, hi, hs, hc, go_sem]
  intro h'
  omega

theorem heap_set_same {w : World} {b k : Nat} {c : Array Value} {t : TypeId} {f : Nat × Nat} (h : w.heap[b]? = some (.cells c t f)) (v : Value) : (w.setCell ⟨b, k, none⟩ v).heap[b]? = some (.cells (c.setIfInBounds k v) t f) := by
  simp [World.setCell, Array.getElem?_modify, h]
theorem heap_set_other {w : World} {b b' k : Nat} {o : Obj} (h : w.heap[b]? = some o) (hne : b' ≠ b) (v : Value) : (w.setCell ⟨b', k, none⟩ v).heap[b]? = some o :=
  (Below.heap_setCell w ⟨b', k, none⟩ v b (by simpa using fun e => hne e.symm)).trans h
theorem heap_alloc_keeps {w : World} {b : Nat} {o : Obj} (h : w.heap[b]? = some o) (x : Obj) : (w.alloc x).heap[b]? = some o :=
  (Below.heap_alloc w x b (Array.getElem?_eq_some_iff.1 h).1).trans h
theorem cell_of_block {w : World} {b k : Nat} {c : Array Value} {t : TypeId} {f : Nat × Nat} {v : Value} (h : w.heap[b]? = some (.cells c t f)) (hk : c[k]? = some v) : w.cell? ⟨b, k, none⟩ = some v := by
  simp [World.cell?, h, hk]
theorem free_of_block {w : World} {b : Nat} {c : Array Value} {t : TypeId} (h : w.heap[b]? = some (.cells c t (0, 0))) (k : Nat) : w.frozen? ⟨b, k, none⟩ = false := by
  simp [World.frozen?, h]
theorem block_lt {w : World} {b : Nat} {o : Obj} (h : w.heap[b]? = some o) : b < w.heap.size := (Array.getElem?_eq_some_iff.1 h).1

/-- The slice value sv has n elements of so many cells, which read so. -/
def Elems (w : World) (sv : Value) (n size : Nat) (c : Nat → Value) : Prop :=
  (sv = .slice none 0 0 ∧ n = 0) ∨ ∃ b off cap, sv = .slice (some ⟨b, off, none⟩) n cap ∧ b < w.heap.size ∧ ∀ j, j < n * size → w.cell? ⟨b, off + j, none⟩ = some (c j)
theorem Elems.below {w w' : World} {sv : Value} {n size : Nat} {c : Nat → Value} (h : Elems w sv n size c) (hb : Below w.heap.size w w') : Elems w' sv n size c := by
  rcases h with h | ⟨b, off, cap, e, hlt, hc⟩
  · exact .inl h
  · exact .inr ⟨b, off, cap, e, Nat.lt_of_lt_of_le hlt hb.size, fun j hj => (hb.cell (p := ⟨b, off + j, none⟩) hlt).trans (hc j hj)⟩

theorem run_equalIn_array {P : Program} (w : World) (m t e n : Nat) (kd : IntKind) (i0 : TypeInfo) (h : P.underlying t = some (.array n e)) (hu : P.underlying e = some (.int kd)) (hi : P.info? e = some i0) (hs : i0.size = 1)
    (xs ys : Array Value) (f g : Nat → Int) (hx : ∀ i, i < n → xs[i]? = some (.int kd (f i))) (hy : ∀ i, i < n → ys[i]? = some (.int kd (g i))) (hm : 0 < m) :
    (Op.equalIn (m + 1) t (.agg xs) (.agg ys)).run P w = .ok ((List.range n).all fun k => f k == g k) w := by
  have he : ∀ a b : Int, (Op.equalIn m e (.int kd a) (.int kd b)).run P w = .ok (a == b) w := fun a b => by
    obtain ⟨d, rfl⟩ : ∃ d, m = d + 1 := ⟨m - 1, by omega⟩
    exact run_equalIn_int w d e kd kd a b hu
  have hp : ∀ (cs : Array Value) (k : Nat) (v : Int), cs[k]? = some (.int kd v) → (part e cs k).run P w = .ok (.int kd v) w := fun cs k v hc => by
    simp [part, isAgg, run_underlying hu, hc, go_sem]
  simp only [Op.equalIn, Sem.run_bind, run_underlying h, Result.andThen_ok, sizeOf, typeInfo, run_program, hi, Sem.run_pure, hs, Nat.mul_one]
  rw [Std.Legacy.Range.forIn_eq_forIn_range']
  simp only [Std.Legacy.Range.size, Nat.sub_zero, Nat.add_sub_cancel, Nat.div_one]
  rw [← List.range_eq_range']
  have key : ∀ l : List Nat, (∀ i ∈ l, i < n) → (forIn l ((none, ()) : Option Bool × Unit) fun i __s => do
            let a ← part e xs i
            let b ← part e ys i
            let r ← Op.equalIn m e a b
            if (!r) = true then pure (ForInStep.done (some false, ())) else pure (ForInStep.yield (none, ()))).run P w = .ok (if (l.all fun k => f k == g k) = true then (none, ()) else (some false, ())) w := by
    intro l
    induction l with
    | nil => intro _; rfl
    | cons i l ih =>
      intro hl
      simp only [List.forIn_cons, Sem.run_bind, hp xs i _ (hx i (hl i (by simp))), hp ys i _ (hy i (hl i (by simp))), Result.andThen_ok, he]
      cases hfg : (f i == g i)
      · simp [hfg]
      · simp only [Bool.not_true, Bool.false_eq_true, if_false, Sem.run_pure, Result.andThen_ok]
        rw [ih (fun j hj => hl j (by simp [hj]))]
        simp [hfg]
  rw [key (List.range n) (fun i hi => List.mem_range.1 hi)]
  cases (List.range n).all fun k => f k == g k <;> simp

theorem run_eql_array {P : Program} (w : World) (t e n : Nat) (kd : IntKind) (i0 : TypeInfo) (h : P.underlying t = some (.array n e)) (hu : P.underlying e = some (.int kd)) (hi : P.info? e = some i0) (hs : i0.size = 1)
    (xs ys : Array Value) (f g : Nat → Int) (hx : ∀ i, i < n → xs[i]? = some (.int kd (f i))) (hy : ∀ i, i < n → ys[i]? = some (.int kd (g i))) :
    (binOp .eql t (.agg xs) (.agg ys)).run P w = .ok (.bool ((List.range n).all fun k => f k == g k)) w := by
  simp only [binOp]
  simp [Op.equal, Op.maxDepth, run_equalIn_array w 9999 t e n kd i0 h hu hi hs xs ys f g hx hy (by omega)]
theorem run_neq_array {P : Program} (w : World) (t e n : Nat) (kd : IntKind) (i0 : TypeInfo) (h : P.underlying t = some (.array n e)) (hu : P.underlying e = some (.int kd)) (hi : P.info? e = some i0) (hs : i0.size = 1)
    (xs ys : Array Value) (f g : Nat → Int) (hx : ∀ i, i < n → xs[i]? = some (.int kd (f i))) (hy : ∀ i, i < n → ys[i]? = some (.int kd (g i))) :
    (binOp .neq t (.agg xs) (.agg ys)).run P w = .ok (.bool (!(List.range n).all fun k => f k == g k)) w := by
  simp only [binOp]
  simp [Op.equal, Op.maxDepth, run_equalIn_array w 9999 t e n kd i0 h hu hi hs xs ys f g hx hy (by omega)]

theorem newBlock (W : World) (o : Obj) (k : Nat) (hk : W.heap.size = k) : (W.alloc o).heap[k]? = some o := by
  subst hk
  exact World.alloc_heap_new W o

theorem Elems.shape {w : World} {sv : Value} {n size : Nat} {c : Nat → Value} (h : Elems w sv n size c) :
    ∃ a cap, sv = .slice a n cap ∧ (n = 0 ∨ ∃ b off, a = some ⟨b, off, none⟩ ∧ b < w.heap.size ∧ ∀ j, j < n * size → w.cell? ⟨b, off + j, none⟩ = some (c j)) := by
  rcases h with ⟨rfl, rfl⟩ | ⟨b, off, cap, rfl, hlt, hc⟩
  · exact ⟨none, 0, rfl, .inl rfl⟩
  · exact ⟨_, cap, rfl, .inr ⟨b, off, rfl, hlt, hc⟩⟩

theorem ownsRow_below {w w' : World} {base : Nat} {e : TypeId} {size : Nat} {v : Value} {n : Nat} {xs : List Value} (h : w.ownsRow base e size v n xs) (hb : Below w.heap.size w w') : w'.ownsRow base e size v n xs := by
  refine ⟨h.1, ?_⟩
  rcases h.2 with hn | ⟨g, cap, cur, rfl, hg, hgg, rest⟩
  · exact .inl hn
  · exact .inr ⟨g, cap, cur, rfl, hg, (hb.block g (block_lt hgg)).trans hgg, rest⟩
theorem ownsRow_mono {w : World} {base base' : Nat} {e : TypeId} {size : Nat} {v : Value} {n : Nat} {xs : List Value} (h : w.ownsRow base e size v n xs) (hb : base' ≤ base) : w.ownsRow base' e size v n xs := by
  refine ⟨h.1, ?_⟩
  rcases h.2 with hn | ⟨g, cap, cur, rfl, hg, rest⟩
  · exact .inl hn
  · exact .inr ⟨g, cap, cur, rfl, Nat.le_trans hb hg, rest⟩
theorem ownsRow_elems {w : World} {base : Nat} {e : TypeId} {size : Nat} {v : Value} {n : Nat} {xs : List Value} (h : w.ownsRow base e size v n xs) {c : Nat → Value} (hc : ∀ j, j < n * size → xs[j]? = some (c j)) : Elems w v n size c := by
  rcases h.2 with ⟨e1, e2⟩ | ⟨g, cap, cur, rfl, hg, hgg, hle, hcap, hsz, htk⟩
  · exact .inl ⟨e1, e2⟩
  · refine .inr ⟨g, 0, cap, rfl, block_lt hgg, fun j hj => ?_⟩
    rw [Nat.zero_add]
    refine cell_of_block hgg ?_
    have h1 := hc j hj
    rw [← htk, List.getElem?_take_of_lt hj] at h1
    simpa using h1
theorem cells_of_block {w : World} {q : Nat} {c : Array Value} {t : TypeId} {f : Nat × Nat} (h : w.heap[q]? = some (.cells c t f)) : ∀ j u, c.toList[j]? = some u → w.cell? ((⟨q, 0, none⟩ : Addr).add j) = some u := by
  intro j u hu
  have hadd : (⟨q, 0, none⟩ : Addr).add j = ⟨q, j, none⟩ := by unfold Addr.add; split <;> simp_all
  rw [hadd]
  exact cell_of_block h (by simpa using hu)

/-- Behind an append to a row in a box, in a world that has only grown meanwhile. -/
theorem append_step {W w3 w4 : World} {B base : Nat} {t e : TypeId} {size : Nat} {v v' : Value} {k m : Nat} {xs ys : List Value} (hb : Below W.heap.size W w3) (hbx : Boxed W B t v) (hte : t ≠ e) (hrow : W.ownsRow base e size v k xs)
    (hown' : w4.ownsRow base e size v' m ys) (hgrow : w3.grownBy w4 v.ownBlock) :
    Boxed w4 B t v ∧ Boxed (w4.setCell ⟨B, 0, none⟩ v') B t v' ∧ (w4.setCell ⟨B, 0, none⟩ v').ownsRow base e size v' m ys ∧ (∀ j, j < W.heap.size → j ≠ B → j < base → (w4.setCell ⟨B, 0, none⟩ v').heap[j]? = W.heap[j]?) ∧
    KeepsOthers W (w4.setCell ⟨B, 0, none⟩ v') ∧ ∀ n₀, n₀ ≤ base → n₀ ≤ B → Below n₀ W (w4.setCell ⟨B, 0, none⟩ v') := by
  have hv3 : Boxed w3 B t v := (hb.block _ hbx.lt).trans hbx
  have hr3 := ownsRow_below hrow hb
  have hv4 : Boxed w4 B t v := hv3.kept hgrow (hv3.not_row hte hr3)
  have hlt : ∀ j, v.ownBlock = some j → base ≤ j := fun j e => (hrow.lt j e).1
  have hz3 := hb.size
  refine ⟨hv4, hv4.set v', hown'.kept (grownBy_setCell' w4 B v') (.inr (hv4.not_row hte hown').symm), ?_, ?_, ?_⟩
  · intro j hj hne hjb
    rw [Below.heap_setCell _ _ _ _ hne, hgrow.block j (by omega) (fun e => by have := hlt j e.symm; omega)]
    exact hb.block j hj
  · have h1 : KeepsOthers W w3 := ⟨hz3, fun j o hj _ => (hb.block j (block_lt hj)).trans hj⟩
    refine (h1.trans (KeepsOthers.of_grownBy hgrow fun j o ej hj => ?_)).trans (KeepsOthers.setCell _ _ _)
    rcases hr3.2 with ⟨rfl, _⟩ | ⟨g, cap, cur, rfl, _, hgb, _⟩
    · simp [Value.ownBlock] at ej
    · obtain rfl : g = j := by simpa [Value.ownBlock] using ej
      rw [hgb] at hj; cases hj; rfl
  · intro n₀ h1 h2
    refine Below.setCell ?_ (p := ⟨B, 0, none⟩) h2 v'
    have hbl := hbx.lt
    exact (hb.mono (by omega : n₀ ≤ W.heap.size)).grown hgrow (by omega) (fun j e => Nat.le_trans h1 (hlt j e))

/-- Old cells read as they did. -/
theorem bcell {W w1 : World} (hb : Below W.heap.size W w1) : (∀ b o, b < W.heap.size → w1.cell? ⟨b, o, none⟩ = W.cell? ⟨b, o, none⟩) ∧ (∀ b o, b < W.heap.size → w1.frozen? ⟨b, o, none⟩ = W.frozen? ⟨b, o, none⟩) :=
  ⟨fun b o h => hb.cell (p := ⟨b, o, none⟩) h, fun b o h => hb.frozen (p := ⟨b, o, none⟩) h⟩
end Go.Proofs.Ytflbcabjefpojaa
