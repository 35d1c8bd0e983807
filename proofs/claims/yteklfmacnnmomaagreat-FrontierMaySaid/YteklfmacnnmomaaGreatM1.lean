/- Merged texts: Base. -/
import Derived.Test.YteklfmacnnmomaaGreatProg
import Derived.RangeFuncNested
import Derived.RangeFuncBound
import Derived.RangeFuncCalls
import Derived.RangeFuncLeaves
import Derived.Shelf.Abstract
import Derived.Shelf.RegionOpen
import Derived.WalkKit
import Derived.WalkSpells
import Derived.WalkLawsBesides
import Derived.OwnWalkIn
import Derived.TacticsInMore
import Derived.LoopNIn
import Derived.LoopIn
import Derived.OrdersIn
import Derived.BigQuiet
import Derived.Lib.Hide
import Derived.Shelf.SlicesQ.Equal
import Derived.Shelf.SlicesE.Clone
import Derived.ArgAppend
set_option linter.unusedSimpArgs false
set_option linter.unusedVariables false
/- What is common to all: merged from several texts. -/
/- General lemmas of this seat's proofs: a law for a region that draws its order, by one fact for each operation. -/
namespace Go.Proofs.YteklfmacnnmomaaGreat
open Go.RowKit Go.Shelf
/-! ### A region that draws its order, by facts -/
section facts
variable {F : Fence} {n : Nat} {P : Program} {ops : Array Oper} {Q : Exit → Act → World → Prop}
/-- The edges that bind: they go back; temporaries are written once, and lie in the frame. -/
def factsOk (ops : Array Oper) (size : Nat) : Bool :=
 ((
  List.range ops.size).all fun i => ((ops[i]?).map fun o => (o.after.all fun e => !Region.binds .any e || decide (e.on < i)) && o.dst.all (fun d => decide (d < size)) &&
  ((List.range i).all fun j => (ops[j]?).all fun o' => o.dst.all fun d => o'.dst != some d)).getD true)
theorem factsOk_edge {size : Nat} (h : factsOk ops size = true) {i : Nat} {o : Oper} (hi : ops[i]? = some o) {e : Edge} (he : e ∈ o.after) (hb : Region.binds .any e = true) : e.on < i := by
 have hlt : i < ops.size := (Array.getElem?_eq_some_iff.1 hi).1
 have h1 := List.all_eq_true.1 h i (List.mem_range.2 hlt)
 simp only [hi, Option.map_some, Option.getD_some, Bool.and_eq_true, Array.all_eq_true_iff_forall_mem] at h1
 have := h1.1.1 e he
 simpa [hb] using this
theorem factsOk_dst {size : Nat} (h : factsOk ops size = true) {i : Nat} {o : Oper} (hi : ops[i]? = some o) {d : Tmp} (hd : o.dst = some d) : d < size := by
 have hlt : i < ops.size := (Array.getElem?_eq_some_iff.1 hi).1
 have h1 := List.all_eq_true.1 h i (List.mem_range.2 hlt)
 simp only [hi, Option.map_some, Option.getD_some, Bool.and_eq_true] at h1
 have := h1.1.2
 simpa [hd] using this
theorem factsOk_once {size : Nat} (h : factsOk ops size = true) {i j : Nat} {o o' : Oper} (hi : ops[i]? = some o) (hj : ops[j]? = some o') (hne : i ≠ j) {d : Tmp} (hd : o.dst = some d) : o'.dst ≠ some d := by
 intro hd'
 have key : ∀ (i j : Nat) (o o' : Oper), ops[i]? = some o → ops[j]? = some o' → j < i → o.dst = some d → o'.dst = some d → False := by
  intro i j o o' hi hj hlt hd hd'
  have hlt' : i < ops.size := (Array.getElem?_eq_some_iff.1 hi).1
  have h1 := List.all_eq_true.1 h i (List.mem_range.2 hlt')
  simp only [hi, Option.map_some, Option.getD_some, Bool.and_eq_true] at h1
  have h2 := List.all_eq_true.1 h1.2 j (List.mem_range.2 hlt)
  simp [hj, hd, hd'] at h2
 rcases Nat.lt_or_gt_of_ne hne with hlt | hlt
 · exact key j i o' o hj hi hlt hd' hd
 · exact key i j o o' hi hj hlt hd hd'
/-- The frame's slots. -/
def envOf (a : Act) (t : Nat) : Value := (a.tmps[t]?).getD undef
/-- What is known of operation i's value in the frame a. -/
def Known (R : Nat → Value → (Nat → Value) → World → Prop) (ops : Array Oper) (i : Nat) (a : Act) (w : World) : Prop :=
 ∀ o, ops[i]? = some o → match o.dst with
  | some d => ∃ v, a.tmps[d]? = some v ∧ R i v (envOf a) w
  | none => ∃ v, R i v (envOf a) w
/-- Slots that no operation of the region writes hold what they held. -/
structure Agree (ops : Array Oper) (k : Nat) (a a' : Act) : Prop where
 defers : a'.defers = a.defers
 size : a'.tmps.size = a.tmps.size
 slot : ∀ t, (∀ (i : Nat) (o : Oper), i < k → ops[i]? = some o → o.dst ≠ some t) → a'.tmps[t]? = a.tmps[t]?
theorem Agree.refl (k : Nat) (a : Act) : Agree ops k a a := ⟨rfl, rfl, fun _ _ => rfl⟩
theorem put_size (a : Act) (dst : Option Tmp) (v : Value) : (a.put dst v).tmps.size = a.tmps.size := by cases dst <;> simp [Act.put]
theorem put_defers (a : Act) (dst : Option Tmp) (v : Value) : (a.put dst v).defers = a.defers := by cases dst <;> simp [Act.put]
theorem put_same (a : Act) (d : Tmp) (v : Value) (h : d < a.tmps.size) : (a.put (some d) v).tmps[d]? = some v := by simp [Act.put, h]
theorem put_other (a : Act) (dst : Option Tmp) (v : Value) (t : Tmp) (h : dst ≠ some t) : (a.put dst v).tmps[t]? = a.tmps[t]? := by
 cases dst with
 | none => rfl
 | some d => simp only [Act.put]; rw [Array.getElem?_setIfInBounds_ne (fun e => h (by rw [e]))]
theorem Agree.put {k : Nat} {a a' : Act} (h : Agree ops k a a') {i : Nat} (hik : i < k) {o : Oper} (hi : ops[i]? = some o) (v : Value) : Agree ops k a (a'.put o.dst v) :=
 ⟨(put_defers _ _ _).trans h.defers, (put_size _ _ _).trans h.size, fun t ht => (put_other _ _ _ _ (ht i o hik hi)).trans (h.slot t ht)⟩
/-- No operation ahead of k writes slot t. -/
def notDst (ops : Array Oper) (k t : Nat) : Bool := (List.range k).all fun i => (ops[i]?).all fun o => o.dst != some t
theorem Agree.at {k : Nat} {a a' : Act} (h : Agree ops k a a') (t : Nat) (ht : notDst ops k t = true) : a'.tmps[t]? = a.tmps[t]? :=
 h.slot t fun i o hik hi e => by
  have := List.all_eq_true.1 ht i (List.mem_range.2 hik)
  simp [hi, e] at this
/-- What is owed for one operation. -/
def StepOk (F : Fence) (n : Nat) (P : Program) (ops : Array Oper) (R : Nat → Value → (Nat → Value) → World → Prop) (C : World → World → Prop) (Q : Exit → Act → World → Prop) (i : Nat) (o : Oper) (a' : Act) (w' : World) : Prop :=
 if Region.wanted o (yielded ops a'.tmps) then ∀ K : Act → World → Prop, (∀ v w'', R i v (envOf a') w'' → C w' w'' → K (a'.put o.dst v) w'') → o.wpIn F n P a' w' K Q
 else (∀ f, o.about P w' a'.eval = some f → F.fn f) ∧ R i undef (envOf a') w'
/-- Of each operation all that come ahead of it in every order. -/
def befores : List Oper → List (List Nat) → List (List Nat)
 | [], acc => acc
 | o :: rest, acc => befores rest (acc ++ [((o.after.toList.filter fun e => Region.binds .any e).flatMap fun e => e.on :: acc.getD e.on []).eraseDups])
/-- The operations from k on come last, in the text's order. -/
def tailOk (ops : Array Oper) (k : Nat) : Bool :=
 let bs := befores ops.toList []
 (List.range ops.size).all fun i => decide (i < k) || (List.range i).all fun j => (bs.getD i []).contains j
theorem ready_mem {listed : Array Bool} {i : Nat} (h : i ∈ Region.ready .any ops listed) :
 i < ops.size ∧ listed.getD i true = false ∧ ∀ o, ops[i]? = some o → ∀ e ∈ o.after, Region.binds .any e = true → listed.getD e.on false = true := by
 simp only [Region.ready, List.mem_filter, List.mem_range, Bool.and_eq_true, Bool.not_eq_true'] at h
 refine ⟨h.1, h.2.1, fun o ho e he hb => ?_⟩
 have h2 := h.2.2
 simp only [ho, Option.map_some, Option.getD_some, Array.all_eq_true_iff_forall_mem] at h2
 have := h2 e he
 simpa [hb] using this
/-- What has been carried out is shut under the edges that bind. -/
def Shut (ops : Array Oper) (listed : Array Bool) : Prop :=
 ∀ (i : Nat) (o : Oper), ops[i]? = some o → listed.getD i false = true → ∀ e ∈ o.after, Region.binds .any e = true → listed.getD e.on false = true
theorem befores_spec {listed : Array Bool} (hs : Shut ops listed) : ∀ (rest : List Oper) (acc : List (List Nat)),
 (∀ m, rest[m]? = ops[acc.length + m]?) →
 (∀ i o, ops[i]? = some o → i < acc.length → (∀ e ∈ o.after, Region.binds .any e = true → listed.getD e.on false = true) → ∀ j ∈ acc.getD i [], listed.getD j false = true) →
 ∀ i o, ops[i]? = some o → (∀ e ∈ o.after, Region.binds .any e = true → listed.getD e.on false = true) → ∀ j ∈ (befores rest acc).getD i [], listed.getD j false = true
 | [], acc, hr, hacc, i, o, hi, hd, j, hj => by
  rcases Nat.lt_or_ge i acc.length with h | h
  · exact hacc i o hi h hd j hj
  · have : (befores [] acc).getD i [] = [] := by simp [befores, List.getD_eq_getElem?_getD, List.getElem?_eq_none h]
    rw [this] at hj
    cases hj
 | o0 :: rest, acc, hr, hacc, i, o, hi, hd, j, hj => by
  refine befores_spec hs rest (acc ++ [((o0.after.toList.filter fun e => Region.binds .any e).flatMap fun e => e.on :: acc.getD e.on []).eraseDups]) ?_ ?_ i o hi hd j hj
  · intro m
    have := hr (m + 1)
    simp only [List.getElem?_cons_succ] at this
    rw [this, List.length_append, List.length_singleton]
    congr 1
    omega
  · intro i o hi hlt hd j hj
    have h0 : ops[acc.length]? = some o0 := by have := hr 0; simpa using this.symm
    rw [List.length_append, List.length_singleton] at hlt
    rcases Nat.lt_or_eq_of_le (Nat.lt_succ_iff.1 hlt) with h | h
    · rw [List.getD_eq_getElem?_getD, List.getElem?_append_left h, ← List.getD_eq_getElem?_getD] at hj
      exact hacc i o hi h hd j hj
    · subst h
      rw [h0] at hi; cases hi
      rw [List.getD_eq_getElem?_getD, List.getElem?_append_right (Nat.le_refl _), Nat.sub_self] at hj
      simp only [List.getElem?_cons_zero, Option.getD_some, List.mem_eraseDups, List.mem_flatMap, List.mem_filter] at hj
      obtain ⟨e, ⟨he, hb⟩, hj⟩ := hj
      have he' : e ∈ o0.after := by simpa using he
      have hl := hd e he' hb
      rcases List.mem_cons.1 hj with rfl | hj
      · exact hl
      · cases ho' : ops[e.on]? with
        | none =>
         exfalso
         rcases Nat.lt_or_ge e.on acc.length with hlt' | hge
         · have hz : e.on < ops.size := by have := (Array.getElem?_eq_some_iff.1 h0).1; omega
           rw [Array.getElem?_eq_getElem hz] at ho'; cases ho'
         · rw [List.getD_eq_getElem?_getD, List.getElem?_eq_none hge] at hj; cases hj
        | some o' =>
         rcases Nat.lt_or_ge e.on acc.length with hlt' | hge
         · exact hacc e.on o' ho' hlt' (fun e' he'' hb' => hs e.on o' ho' hl e' he'' hb') j hj
         · rw [List.getD_eq_getElem?_getD, List.getElem?_eq_none hge] at hj; cases hj
theorem tailOk_before {k : Nat} (h : tailOk ops k = true) {listed : Array Bool} (hs : Shut ops listed) {i : Nat} (hk : k ≤ i) {o : Oper} (hi : ops[i]? = some o)
 (hd : ∀ e ∈ o.after, Region.binds .any e = true → listed.getD e.on false = true) : ∀ j, j < i → listed.getD j false = true := by
 intro j hj
 have hlt : i < ops.size := (Array.getElem?_eq_some_iff.1 hi).1
 have h1 := List.all_eq_true.1 h i (List.mem_range.2 hlt)
 have hnk : decide (i < k) = false := by simp; omega
 rw [hnk, Bool.false_or] at h1
 have h2 := List.all_eq_true.1 h1 j (List.mem_range.2 hj)
 exact befores_spec hs ops.toList [] (by simp) (fun i o _ hlt => by simp at hlt) i o hi hd j (by simpa using h2)
theorem getD_set_same (l : Array Bool) (i : Nat) (d : Bool) (h : i < l.size) : (l.setIfInBounds i true).getD i d = true := by simp [Array.getD_eq_getD_getElem?, h]
theorem g7o (l : Array Bool) (i j : Nat) (d : Bool) (h : i ≠ j) : (l.setIfInBounds i true).getD j d = l.getD j d := by
 simp [Array.getD_eq_getD_getElem?, Array.getElem?_setIfInBounds_ne h]
theorem getD_lt (l : Array Bool) (i : Nat) (h : i < l.size) : l.getD i true = l.getD i false := by simp [Array.getD_eq_getD_getElem?, h]
/-- The rest in the text's order. -/
theorem wpAnyIn_tail {k : Nat} {size : Nat} (hfo : factsOk ops size = true) (ht : tailOk ops k = true) :
 ∀ (fuel : Nat) (listed : Array Bool) (i : Nat) (a : Act) (w : World), k ≤ i → fuel + i = ops.size → listed.size = ops.size → (∀ j, j < ops.size → listed.getD j false = decide (j < i)) →
  wpListIn F n P ops Q (ops.toList.drop i) a w → wpAnyIn F n P .any ops Q fuel listed a w := by
 intro fuel
 induction fuel with
 | zero =>
  intro listed i a w hk hf hsz hl h
  refine ⟨?_, ?_⟩
  · apply List.eq_nil_iff_forall_not_mem.2
    intro j hj
    obtain ⟨hlt, hno, _⟩ := ready_mem hj
    rw [getD_lt _ _ (by omega), hl j hlt] at hno
    simp at hno; omega
  · rw [List.drop_eq_nil_of_le (by simp; omega)] at h
    exact h
 | succ fuel ih =>
  intro listed i a w hk hf hsz hl h
  have hi : i < ops.size := by omega
  obtain ⟨o, ho⟩ : ∃ o, ops[i]? = some o := ⟨_, Array.getElem?_eq_getElem hi⟩
  have hshut : Shut ops listed := by
   intro j o' hj hlj e he hb
   have hjl : j < ops.size := (Array.getElem?_eq_some_iff.1 hj).1
   have := factsOk_edge hfo hj he hb
   rw [hl j hjl] at hlj
   rw [hl _ (by omega)]
   simp at hlj ⊢; omega
  have hready : ∀ j ∈ Region.ready .any ops listed, j = i := by
   intro j hj
   obtain ⟨hlt, hno, hdep⟩ := ready_mem hj
   rw [getD_lt _ _ (by omega), hl j hlt] at hno
   have hji : i ≤ j := by simp at hno; omega
   obtain ⟨oj, hoj⟩ : ∃ o, ops[j]? = some o := ⟨_, Array.getElem?_eq_getElem hlt⟩
   rcases Nat.lt_or_eq_of_le hji with hlt' | rfl
   · have := tailOk_before ht hshut (by omega : k ≤ j) hoj (hdep oj hoj) i hlt'
     rw [hl i hi] at this; simp at this
   · rfl
  have hdrop : ops.toList.drop i = o :: ops.toList.drop (i + 1) := by
   rw [List.drop_eq_getElem_cons (by simpa using hi)]
   have : ops.toList[i]'(by simpa using hi) = o := by
    have := (Array.getElem?_eq_some_iff.1 ho).2
    simpa using this
   rw [this]
  rw [hdrop] at h
  have hin : i ∈ Region.ready .any ops listed := by
   simp only [Region.ready, List.mem_filter, List.mem_range, Bool.and_eq_true, Bool.not_eq_true']
   refine ⟨hi, by rw [getD_lt _ _ (by omega), hl i hi]; simp, ?_⟩
   simp only [ho, Option.map_some, Option.getD_some, Array.all_eq_true_iff_forall_mem]
   intro e he
   by_cases hb : Region.binds .any e = true
   · have := factsOk_edge hfo ho he hb
     rw [hl _ (by omega)]; simp [this]
   · simp [hb]
  refine ⟨(fun h0 => by rw [h0] at hin; cases hin), ?_⟩
  intro j hj
  obtain rfl := hready j hj
  have hnext : ∀ a w, wpListIn F n P ops Q (ops.toList.drop (j + 1)) a w → wpAnyIn F n P .any ops Q fuel (listed.setIfInBounds j true) a w := fun a w h =>
   ih _ (j + 1) a w (by omega) (by omega) (by simpa using hsz) (fun m hm => by
    by_cases e : j = m
    · subst e; rw [getD_set_same _ _ _ (by omega)]; simp
    · rw [g7o _ _ _ _ e, hl m hm]; simp; omega) h
  unfold wpOpIn
  simp only [ho]
  unfold wpListIn at h
  split
  · rename_i hw
    simp only [hw, if_true] at h
    exact Oper.wpIn_mono hnext h
  · rename_i hw
    simp only [hw] at h
    exact ⟨h.1, hnext _ _ h.2⟩
/-- **A REGION THAT DRAWS ITS ORDER**: R i: what is known of the value of operation i, in every later world; C: how the world may turn meanwhile; the operations from k on in the text's order. -/
theorem wpIn_region_facts {id : Nat} {a : Act} {w : World} (hm : P.follows .mixedOrders = true) (k : Nat) (R : Nat → Value → (Nat → Value) → World → Prop) (C : World → World → Prop)
 (hCr : ∀ x : World, C x x) (hCt : ∀ {x y z : World}, C x y → C y z → C x z) (hst : ∀ i v env x y, i < k → C x y → R i v env x → R i v env y)
 (hloc : ∀ i o v env env' x, i < k → ops[i]? = some o → (∀ e ∈ o.after, Region.binds .any e = true → ∀ o' d, ops[e.on]? = some o' → o'.dst = some d → env d = env' d) → R i v env x → R i v env' x)
 (hfo : factsOk ops a.tmps.size = true) (ht : tailOk ops k = true) (hC0 : C w w.drew)
 (hstep : ∀ (i : Nat) (o : Oper), i < k → ops[i]? = some o → ∀ (a' : Act) (w' : World), Agree ops k a a' → C w w' →
  (∀ e ∈ o.after, Region.binds .any e = true → Known R ops e.on a' w') → StepOk F n P ops R C Q i o a' w')
 (hend : ∀ (a' : Act) (w' : World), Agree ops k a a' → C w w' → (∀ i, i < k → i < ops.size → Known R ops i a' w') → wpListIn F n P ops Q (ops.toList.drop k) a' w') :
 (Code.region id ops true).wpIn F n P Q a w := by
 refine wpIn_region_any hm ?_
 have main : ∀ (fuel : Nat) (listed : Array Bool) (a' : Act) (w' : World), listed.size = ops.size → fuel + (List.range ops.size).countP (fun i => listed.getD i false) = ops.size → Shut ops listed →
  (∀ i, k ≤ i → i < ops.size → listed.getD i false = false) → Agree ops k a a' → C w w' → (∀ i, i < k → i < ops.size → listed.getD i false = true → Known R ops i a' w') →
  wpAnyIn F n P .any ops Q fuel listed a' w' := by
  intro fuel
  induction fuel with
  | zero =>
   intro listed a' w' hsz hf hs hlate hA hC hK
   have hall : ∀ i, i < ops.size → listed.getD i false = true := by
    intro i hi
    have h1 : (List.range ops.size).countP (fun i => listed.getD i false) = (List.range ops.size).length := by simp at hf ⊢; omega
    exact List.countP_eq_length.1 h1 i (List.mem_range.2 hi)
   have hk : ops.size ≤ k := by
    rcases Nat.lt_or_ge k ops.size with h | h
    · have := hlate k (Nat.le_refl _) h; rw [hall k h] at this; cases this
    · exact h
   have h := hend a' w' hA hC (fun i hik hi => hK i hik hi (hall i hi))
   rw [List.drop_eq_nil_of_le (by simpa using hk)] at h
   refine ⟨?_, h⟩
   apply List.eq_nil_iff_forall_not_mem.2
   intro j hj
   obtain ⟨hlt, hno, _⟩ := ready_mem hj
   rw [getD_lt _ _ (by omega), hall j hlt] at hno
   cases hno
  | succ fuel ih =>
   intro listed a' w' hsz hf hs hlate hA hC hK
   refine ⟨?_, ?_⟩
   · -- nothing is ready: all has been carried out
     intro h0
     exfalso
     have hex : ∃ i, i < ops.size ∧ listed.getD i false = false := by
      rcases Classical.em (∃ i, i < ops.size ∧ listed.getD i false = false) with h | h
      · exact h
      · exfalso
        have hall : ∀ i, i < ops.size → listed.getD i false = true := fun i hi => by
         cases hb : listed.getD i false with
         | true => rfl
         | false => exact absurd ⟨i, hi, hb⟩ h
        have h1 : (List.range ops.size).countP (fun i => listed.getD i false) = (List.range ops.size).length := List.countP_eq_length.2 (fun i hi => hall i (List.mem_range.1 hi))
        simp only [List.length_range] at h1
        rw [h1] at hf
        omega
     have least : ∀ m, (∃ i, i < ops.size ∧ i ≤ m ∧ listed.getD i false = false) → ∃ i, i < ops.size ∧ listed.getD i false = false ∧ ∀ j, j < i → listed.getD j false = true := by
      intro m
      induction m with
      | zero => rintro ⟨i, hi, h0', hb⟩; exact ⟨i, hi, hb, fun j hj => by omega⟩
      | succ m ihm =>
       rintro ⟨i, hi, hle, hb⟩
       rcases Classical.em (∃ i, i < ops.size ∧ i ≤ m ∧ listed.getD i false = false) with h | h
       · exact ihm h
       · refine ⟨i, hi, hb, fun j hj => ?_⟩
         cases hbj : listed.getD j false with
         | true => rfl
         | false => exact absurd ⟨j, by omega, by omega, hbj⟩ h
     obtain ⟨i0, hi0, hb0⟩ := hex
     obtain ⟨i, hi, hb, hbef⟩ := least i0 ⟨i0, hi0, Nat.le_refl _, hb0⟩
     obtain ⟨o, ho⟩ : ∃ o, ops[i]? = some o := ⟨_, Array.getElem?_eq_getElem hi⟩
     have hin : i ∈ Region.ready .any ops listed := by
      simp only [Region.ready, List.mem_filter, List.mem_range, Bool.and_eq_true, Bool.not_eq_true']
      refine ⟨hi, by rw [getD_lt _ _ (by omega)]; exact hb, ?_⟩
      simp only [ho, Option.map_some, Option.getD_some, Array.all_eq_true_iff_forall_mem]
      intro e he
      by_cases hbn : Region.binds .any e = true
      · rw [hbef _ (factsOk_edge hfo ho he hbn)]; simp
      · simp [hbn]
     rw [h0] at hin
     cases hin
   · intro i hi
     obtain ⟨hlt, hno, hdep⟩ := ready_mem hi
     rw [getD_lt _ _ (by omega)] at hno
     obtain ⟨o, ho⟩ : ∃ o, ops[i]? = some o := ⟨_, Array.getElem?_eq_getElem hlt⟩
     rcases Nat.lt_or_ge i k with hik | hik
     · -- one of the free ones
       have hso := hstep i o hik ho a' w' hA hC (fun e he hb => by
        have hl := hdep o ho e he hb
        have hlt' := factsOk_edge hfo ho he hb
        exact hK e.on (by omega) (by omega) hl)
       have henv : ∀ (m : Nat) (om : Oper), ops[m]? = some om → (∀ e ∈ om.after, Region.binds .any e = true → e.on ≠ i) → ∀ (v : Value), ∀ e ∈ om.after, Region.binds .any e = true → ∀ o' d, ops[e.on]? = some o' → o'.dst = some d → envOf a' d = envOf (a'.put o.dst v) d := by
        intro m om hom hne v e he hb o' d ho' hd
        unfold envOf
        rw [put_other _ _ _ _ (fun hd' => factsOk_once hfo ho ho' (fun e1 => hne e he hb e1.symm) hd' hd)]
       have hnext : ∀ v w'', R i v (envOf a') w'' → C w' w'' → wpAnyIn F n P .any ops Q fuel (listed.setIfInBounds i true) (a'.put o.dst v) w'' := by
        intro v w'' hR hC'
        refine ih _ _ _ (by simpa using hsz) ?_ ?_ ?_ (hA.put hik ho v) (hCt hC hC') ?_
        · have hc : (List.range ops.size).countP (fun j => (listed.setIfInBounds i true).getD j false) = (List.range ops.size).countP (fun j => listed.getD j false) + 1 := by
           have key : ∀ m, i < m → m ≤ ops.size → (List.range m).countP (fun j => (listed.setIfInBounds i true).getD j false) = (List.range m).countP (fun j => listed.getD j false) + 1 := by
            intro m
            induction m with
            | zero => intro h _; omega
            | succ m ihm =>
             intro h hle
             simp only [List.range_succ, List.countP_append, List.countP_singleton]
             rcases Nat.lt_or_eq_of_le (Nat.lt_succ_iff.1 h) with h' | rfl
             · rw [ihm h' (by omega), g7o _ _ _ _ (by omega)]; omega
             · have same : ∀ m, m ≤ i → (List.range m).countP (fun j => (listed.setIfInBounds i true).getD j false) = (List.range m).countP (fun j => listed.getD j false) := by
                intro m hm
                refine List.countP_congr (fun j hj => ?_)
                rw [g7o _ _ _ _ (by have := List.mem_range.1 hj; omega)]
               rw [same i (Nat.le_refl _), getD_set_same _ _ _ (by omega), hno]
               simp
           exact key ops.size hlt (Nat.le_refl _)
          rw [hc]; omega
        · intro j o' hj hlj e he hb
          by_cases e1 : i = e.on
          · rw [← e1, getD_set_same _ _ _ (by omega)]
          · rw [g7o _ _ _ _ e1]
            by_cases e2 : i = j
            · subst e2
              rw [ho] at hj; cases hj
              exact hdep o ho e he hb
            · rw [g7o _ _ _ _ e2] at hlj
              exact hs j o' hj hlj e he hb
        · intro j hkj hj
          rw [g7o _ _ _ _ (by omega)]
          exact hlate j hkj hj
        · intro j hjk hj hlj
          by_cases e1 : i = j
          · subst e1
            intro o' ho'
            rw [ho] at ho'; cases ho'
            cases hd : o.dst with
            | none => exact ⟨v, hR⟩
            | some d =>
             refine ⟨v, by rw [put_same _ _ _ (by rw [hA.size]; exact factsOk_dst hfo ho hd)], ?_⟩
             rw [← hd]
             exact hloc i o v _ _ _ hik ho (henv i o ho (fun e he hb e1 => by have := factsOk_edge hfo ho he hb; omega) v) hR
          · rw [g7o _ _ _ _ e1] at hlj
            have hk := hK j hjk hj hlj
            intro o' ho'
            have hk' := hk o' ho'
            have hen := henv j o' ho' (fun e he hb e2 => by
             have := hs j o' ho' hlj e he hb
             rw [e2, hno] at this
             cases this) v
            cases hd' : o'.dst with
            | none => rw [hd'] at hk'; obtain ⟨u, hu⟩ := hk'; exact ⟨u, hloc j o' u _ _ _ hjk ho' hen (hst j _ _ _ _ hjk hC' hu)⟩
            | some d =>
             rw [hd'] at hk'
             obtain ⟨u, hu, hRu⟩ := hk'
             exact ⟨u, by rw [put_other _ _ _ _ (fun hd => factsOk_once hfo ho ho' e1 hd hd')]; exact hu, hloc j o' u _ _ _ hjk ho' hen (hst j _ _ _ _ hjk hC' hRu)⟩
       unfold StepOk at hso
       unfold wpOpIn
       simp only [ho]
       split
       · rename_i hw
         simp only [hw, if_true] at hso
         exact hso _ hnext
       · rename_i hw
         simp only [hw] at hso
         exact ⟨hso.1, hnext _ _ hso.2 (hCr _)⟩
     · -- the first of the last ones
       have hbefore := tailOk_before ht hs hik ho (hdep o ho)
       have hik' : i = k := by
        rcases Nat.lt_or_eq_of_le hik with h | h
        · have := hbefore k h; rw [hlate k (Nat.le_refl _) (by omega)] at this; cases this
        · exact h.symm
       subst hik'
       have hl : ∀ j, j < ops.size → listed.getD j false = decide (j < i) := by
        intro j hj
        rcases Nat.lt_or_ge j i with h | h
        · rw [hbefore j h]; simp [h]
        · rw [hlate j h hj]; simp; omega
       have hf' : fuel + 1 + i = ops.size := by
        have : (List.range ops.size).countP (fun j => listed.getD j false) = i := by
         have key : ∀ m, m ≤ ops.size → (List.range m).countP (fun j => listed.getD j false) = min m i := by
          intro m
          induction m with
          | zero => simp
          | succ m ihm =>
           intro hm
           simp only [List.range_succ, List.countP_append, List.countP_singleton]
           rw [ihm (by omega), hl m (by omega)]
           by_cases h : m < i <;> simp [h] <;> omega
         rw [key _ (Nat.le_refl _)]; omega
        omega
       have h := wpAnyIn_tail (F := F) (n := n) (P := P) (Q := Q) hfo ht (fuel + 1) listed i a' w' (Nat.le_refl _) hf' hsz hl (hend a' w' hA hC (fun j hj hjs => hK j hj hjs (hbefore j hj)))
       exact h.2 i hi
 refine main ops.size _ a w.drew (by simp) ?_ ?_ ?_ (Agree.refl k a) hC0 ?_
 · have : (List.range ops.size).countP (fun i => (Array.replicate ops.size false).getD i false) = 0 := by
    rw [List.countP_eq_zero]
    intro i hi
    simp [Array.getD_eq_getD_getElem?, List.mem_range.1 hi]
   omega
 · intro i o hi hl
   exfalso
   have hlt : i < ops.size := (Array.getElem?_eq_some_iff.1 hi).1
   simp [Array.getD_eq_getD_getElem?, hlt] at hl
 · intro i _ hi
   simp [Array.getD_eq_getD_getElem?, hi]
 · intro i _ hi hl
   exfalso
   simp [Array.getD_eq_getD_getElem?, hi] at hl
/-- The facts, as a list. -/
def factsAt (Rl : List (Value → World → Prop)) (i : Nat) : Value → World → Prop := Rl.getD i (fun _ _ => True)
def AllStable (C : World → World → Prop) : List (Value → World → Prop) → Prop
 | [] => True
 | r :: rs => (∀ v x y, C x y → r v x → r v y) ∧ AllStable C rs
theorem AllStable.at {C : World → World → Prop} : ∀ {Rl : List (Value → World → Prop)} (_ : AllStable C Rl) (i : Nat) (v : Value) (x y : World), C x y → factsAt Rl i v x → factsAt Rl i v y
 | [], _, _, _, _, _, _, _ => trivial
 | _ :: _, h, 0, v, x, y, hC, hr => h.1 v x y hC hr
 | _ :: _, h, i + 1, v, x, y, hC, hr => AllStable.at h.2 i v x y hC hr
def StepsFrom (F : Fence) (n : Nat) (P : Program) (ops : Array Oper) (Rl : List (Value → World → Prop)) (C : World → World → Prop) (Q : Exit → Act → World → Prop) (a : Act) (w : World) : Nat → List Oper → Prop
 | _, [] => True
 | i, o :: rest => (∀ (a' : Act) (w' : World), Agree ops Rl.length a a' → C w w' → (∀ e ∈ o.after, Region.binds .any e = true → Known (fun i v _ w => factsAt Rl i v w) ops e.on a' w') → StepOk F n P ops (fun i v _ w => factsAt Rl i v w) C Q i o a' w') ∧
  StepsFrom F n P ops Rl C Q a w (i + 1) rest
def EndFrom (K : Act → Prop) (w' : World) : List Oper → List (Value → World → Prop) → Act → Prop
 | o :: os, r :: rs, a => ∀ v, r v w' → EndFrom K w' os rs (a.put o.dst v)
 | _, _, a => K a
theorem stepsFrom_at {Rl : List (Value → World → Prop)} {C : World → World → Prop} {a : Act} {w : World} : ∀ (l : List Oper) (j : Nat), StepsFrom F n P ops Rl C Q a w j l → ∀ (i : Nat) (o : Oper), l[i]? = some o →
 ∀ (a' : Act) (w' : World), Agree ops Rl.length a a' → C w w' → (∀ e ∈ o.after, Region.binds .any e = true → Known (fun i v _ w => factsAt Rl i v w) ops e.on a' w') → StepOk F n P ops (fun i v _ w => factsAt Rl i v w) C Q (j + i) o a' w'
 | [], _, _, _, _, hi => by simp at hi
 | o :: rest, j, h, 0, o', hi => by
  simp only [List.getElem?_cons_zero, Option.some.injEq] at hi
  subst hi
  exact h.1
 | o :: rest, j, h, i + 1, o', hi => by
  have := stepsFrom_at rest (j + 1) h.2 i o' (by simpa using hi)
  rw [Nat.add_assoc, Nat.add_comm 1 i] at this
  exact this
theorem act_ext {a b : Act} (hd : a.defers = b.defers) (h : ∀ t : Nat, a.tmps[t]? = b.tmps[t]?) : a = b := by
 obtain ⟨x, y⟩ := a
 obtain ⟨x', y'⟩ := b
 have : x = x' := Array.ext_getElem? h
 cases hd
 cases this
 rfl
theorem endFrom_of {size : Nat} {K : Act → Prop} {w' : World} {a' : Act} {Rl : List (Value → World → Prop)} (hfo : factsOk ops size = true) (_hsz : a'.tmps.size = size) :
 ∀ (m : Nat) (acur : Act), acur.tmps.size = size → acur.defers = a'.defers → EndFrom K w' (ops.toList.drop m) (Rl.drop m) acur →
  (∀ i, i < Rl.length → i < ops.size → Known (fun i v _ w => factsAt Rl i v w) ops i a' w') → (∀ t, (∀ (i : Nat) (o : Oper), m ≤ i → i < Rl.length → ops[i]? = some o → o.dst ≠ some t) → a'.tmps[t]? = acur.tmps[t]?) → K a' := by
 intro m
 generalize hf : ops.size - m = fuel
 induction fuel generalizing m with
 | zero =>
  intro acur hc hd hE hK hA
  rw [List.drop_eq_nil_of_le (by simp; omega)] at hE
  have : a' = acur := act_ext hd.symm (fun t => hA t (fun i o hmi hil hi => by
   have := (Array.getElem?_eq_some_iff.1 hi).1
   omega))
  rw [this]
  simpa [EndFrom] using hE
 | succ fuel ih =>
  intro acur hc hd hE hK hA
  have hm : m < ops.size := by omega
  obtain ⟨o, ho⟩ : ∃ o, ops[m]? = some o := ⟨_, Array.getElem?_eq_getElem hm⟩
  have hdrop : ops.toList.drop m = o :: ops.toList.drop (m + 1) := by
   rw [List.drop_eq_getElem_cons (by simpa using hm)]
   have : ops.toList[m]'(by simpa using hm) = o := by simpa using (Array.getElem?_eq_some_iff.1 ho).2
   rw [this]
  rcases Nat.lt_or_ge m Rl.length with hml | hml
  · have hrd : Rl.drop m = factsAt Rl m :: Rl.drop (m + 1) := by
     rw [List.drop_eq_getElem_cons hml]
     simp [factsAt, List.getD_eq_getElem?_getD, List.getElem?_eq_getElem hml]
    rw [hdrop, hrd] at hE
    have hk := hK m hml hm o ho
    cases hdst : o.dst with
    | none =>
     rw [hdst] at hk
     obtain ⟨v, hv⟩ := hk
     have h1 := hE v hv
     rw [hdst] at h1
     refine ih (m + 1) (by omega) acur hc hd h1 hK (fun t ht => hA t (fun i o' hmi hil hi e => ?_))
     rcases Nat.lt_or_eq_of_le hmi with hlt | rfl
     · exact ht i o' hlt hil hi e
     · rw [ho] at hi; cases hi; rw [hdst] at e; cases e
    | some d =>
     rw [hdst] at hk
     obtain ⟨v, hv, hr⟩ := hk
     have h1 := hE v hr
     rw [hdst] at h1
     have hdlt : d < size := factsOk_dst hfo ho hdst
     refine ih (m + 1) (by omega) _ (by rw [put_size]; exact hc) (by rw [put_defers]; exact hd) h1 hK (fun t ht => ?_)
     by_cases e : d = t
     · subst e
       rw [hv, put_same acur d v (by rw [hc]; exact hdlt)]
     · rw [put_other _ _ _ _ (fun e' => e (by cases e'; rfl))]
       refine hA t (fun i o' hmi hil hi e' => ?_)
       rcases Nat.lt_or_eq_of_le hmi with hlt | rfl
       · exact ht i o' hlt hil hi e'
       · rw [ho] at hi; cases hi; rw [hdst] at e'; exact e (by cases e'; rfl)
  · rw [List.drop_eq_nil_of_le hml, hdrop] at hE
    have : a' = acur := act_ext hd.symm (fun t => hA t (fun i o hmi hil hi => by omega))
    rw [this]
    simpa [EndFrom] using hE
theorem o7p {R : Nat → Value → (Nat → Value) → World → Prop} {C : World → World → Prop} {i : Nat} {o : Oper} {a' : Act} {w' : World} (hg : o.guard = none)
 (h : ∀ K : Act → World → Prop, (∀ v w'', R i v (envOf a') w'' → C w' w'' → K (a'.put o.dst v) w'') → o.wpIn F n P a' w' K Q) : StepOk F n P ops R C Q i o a' w' := by
 unfold StepOk
 simp only [Region.wanted, hg, if_true]
 exact h
theorem yielded_at {j d : Nat} {t : Array Value} {b : Bool} (hj : (ops[j]?).bind (·.dst) = some d) (hd : t[d]? = some (.bool b)) : yielded ops t j = some b := by
 unfold yielded
 rw [hj]
 simp [hd]
theorem o7w {R : Nat → Value → (Nat → Value) → World → Prop} {C : World → World → Prop} {i : Nat} {o : Oper} {a' : Act} {w' : World} {j d : Nat} {b : Bool} (hg : o.guard = some (j, b)) (hj : (ops[j]?).bind (·.dst) = some d) (hd : a'.tmps[d]? = some (.bool b))
 (h : ∀ K : Act → World → Prop, (∀ v w'', R i v (envOf a') w'' → C w' w'' → K (a'.put o.dst v) w'') → o.wpIn F n P a' w' K Q) : StepOk F n P ops R C Q i o a' w' := by
 unfold StepOk
 simp only [Region.wanted, hg, yielded_at hj hd, beq_self_eq_true, if_true]
 exact h
theorem o7s {R : Nat → Value → (Nat → Value) → World → Prop} {C : World → World → Prop} {i : Nat} {o : Oper} {a' : Act} {w' : World} {j d : Nat} {b : Bool} (hg : o.guard = some (j, b)) (hj : (ops[j]?).bind (·.dst) = some d) (hd : a'.tmps[d]? = some (.bool (!b)))
 (hR : R i undef (envOf a') w') (hF : ∀ f, F.fn f := by exact fun _ => trivial) : StepOk F n P ops R C Q i o a' w' := by
 unfold StepOk
 have : (some (!b) == some b) = false := by cases b <;> rfl
 simp only [Region.wanted, hg, yielded_at hj hd, this]
 exact ⟨fun f _ => hF f, hR⟩
/-- A guard whose own operation was passed over. -/
theorem stepOk_skip' {R : Nat → Value → (Nat → Value) → World → Prop} {C : World → World → Prop} {i : Nat} {o : Oper} {a' : Act} {w' : World} {j d : Nat} {b : Bool} (hg : o.guard = some (j, b)) (hj : (ops[j]?).bind (·.dst) = some d) (hd : a'.tmps[d]? = some undef)
 (hR : R i undef (envOf a') w') (hF : ∀ f, F.fn f := by exact fun _ => trivial) : StepOk F n P ops R C Q i o a' w' := by
 unfold StepOk
 have hy : yielded ops a'.tmps j = none := by
  unfold yielded
  rw [hj]
  simp [hd, undef]
 have : (none == some b) = false := rfl
 simp only [Region.wanted, hg, hy, this]
 exact ⟨fun f _ => hF f, hR⟩
/-- **The law, for a walk**: Rl: what is known of each operation's value; those behind come in the text's order. -/
theorem wp_region_facts {id : Nat} {a : Act} {w : World} (hm : P.follows .mixedOrders = true) (Rl : List (Value → World → Prop)) (C : World → World → Prop)
 (hCr : ∀ x : World, C x x) (hCt : ∀ {x y z : World}, C x y → C y z → C x z) (hst : AllStable C Rl)
 (hfo : factsOk ops a.tmps.size = true) (ht : tailOk ops Rl.length = true) (hC0 : C w w.drew)
 (hsteps : StepsFrom F n P ops Rl C Q a w 0 (ops.toList.take Rl.length))
 (hend : ∀ w', C w w' → EndFrom (fun a' => wpListIn F n P ops Q (ops.toList.drop Rl.length) a' w') w' ops.toList Rl a) :
 (Code.region id ops true).wpIn F n P Q a w := by
 refine wpIn_region_facts hm Rl.length (fun i v _ w => factsAt Rl i v w) C hCr hCt (fun i v _ x y _ => hst.at i v x y) (fun _ _ _ _ _ _ _ _ _ h => h) hfo ht hC0 ?_ ?_
 · intro i o hik hi a' w' hA hC hD
   have hi' : (ops.toList.take Rl.length)[i]? = some o := by
    rw [List.getElem?_take_of_lt hik]
    simpa using hi
   have := stepsFrom_at _ 0 hsteps i o hi' a' w' hA hC hD
   rw [Nat.zero_add] at this
   exact this
 · intro a' w' hA hC hK
   exact endFrom_of (K := fun a' => wpListIn F n P ops Q (ops.toList.drop Rl.length) a' w') hfo hA.size 0 a rfl hA.defers.symm (by simpa using hend w' hC) hK (fun t ht => hA.slot t (fun i o hil hi => ht i o (Nat.zero_le _) hil hi))
/-- The facts, as a list, on an operation's value beside those of the operations that it hangs on. -/
def factsAtE (Rl : List (Value → (Nat → Value) → World → Prop)) (i : Nat) : Value → (Nat → Value) → World → Prop := Rl.getD i (fun _ _ _ => True)
def AllStableE (C : World → World → Prop) : List (Value → (Nat → Value) → World → Prop) → Prop
 | [] => True
 | r :: rs => (∀ v env x y, C x y → r v env x → r v env y) ∧ AllStableE C rs
theorem AllStableE.at {C : World → World → Prop} : ∀ {Rl : List (Value → (Nat → Value) → World → Prop)} (_ : AllStableE C Rl) (i : Nat) (v : Value) (env : Nat → Value) (x y : World), C x y → factsAtE Rl i v env x → factsAtE Rl i v env y
 | [], _, _, _, _, _, _, _, _ => trivial
 | _ :: _, h, 0, v, env, x, y, hC, hr => h.1 v env x y hC hr
 | _ :: _, h, i + 1, v, env, x, y, hC, hr => AllStableE.at h.2 i v env x y hC hr
/-- A fact looks at the slots of the operations that its own one hangs on, alone. -/
def LocalFrom (ops : Array Oper) : List Oper → List (Value → (Nat → Value) → World → Prop) → Prop
 | o :: os, r :: rs => (∀ v env env' x, (∀ e ∈ o.after, Region.binds .any e = true → ∀ o' d, ops[e.on]? = some o' → o'.dst = some d → env d = env' d) → r v env x → r v env' x) ∧ LocalFrom ops os rs
 | _, _ => True
theorem LocalFrom.at : ∀ {os : List Oper} {rs : List (Value → (Nat → Value) → World → Prop)} (_ : LocalFrom ops os rs) (i : Nat) (o : Oper), i < rs.length → os[i]? = some o →
 ∀ v env env' x, (∀ e ∈ o.after, Region.binds .any e = true → ∀ o' d, ops[e.on]? = some o' → o'.dst = some d → env d = env' d) → factsAtE rs i v env x → factsAtE rs i v env' x
 | [], _, _, _, _, _, hi, _, _, _, _, _, _ => by simp at hi
 | _ :: _, [], _, _, _, hl, _, _, _, _, _, _, _ => by simp at hl
 | o :: os, r :: rs, h, 0, o', _, hi, v, env, env', x, he, hr => by
  simp only [List.getElem?_cons_zero, Option.some.injEq] at hi
  subst hi
  exact h.1 v env env' x he hr
 | o :: os, r :: rs, h, i + 1, o', hl, hi, v, env, env', x, he, hr => LocalFrom.at h.2 i o' (by simpa using hl) (by simpa using hi) v env env' x he hr
theorem g7t {x y z : World} (h : Below x.heap.size x y) (k : Below y.heap.size y z) : Below x.heap.size x z := h.trans (k.mono h.size)
theorem g7d (w : World) : Below w.heap.size w w.drew := (Below.refl _ _).drew
end facts
@[go_sem] theorem wide_fn (f : FuncId) : Fence.wide.fn f = True := rfl
@[go_sem] theorem wide_depth : Fence.wide.depth = none := rfl
theorem wpIn_scope {n : Nat} {P : Program} {c : Code} {Q : Exit → Act → World → Prop} {a : Act} {w : World} (h : c.wpIn Fence.wide n P (Exit.noGoto Q) a w) : (Code.scope c).wpIn Fence.wide n P Q a w :=
 wpIn_wide.2 (wp_scope_straight (wpIn_wide.1 h))
/-- It returns v, and nothing that was there has changed. -/
def Gives (v : Value) (w : World) (e : Ending) (w' : World) : Prop := e = .returned v ∧ Below w.heap.size w w'
/-- No error, or one. -/
def errOf (ok : Bool) (e : Int) : Int := if ok = true then 0 else e
theorem ret_int {k : IntKind} {a b : Int} (h : a = b) : Ending.returned (.int k a) = .returned (.int k b) := by rw [h]
theorem ret_bool {a b : Bool} (h : a = b) : Ending.returned (.bool a) = .returned (.bool b) := by rw [h]
/-- The first k of N places. -/
def firsts (N k : Nat) : List (Fin N) := (List.finRange N).take k
theorem firsts_succ {N k : Nat} (h : k < N) : firsts N k ++ [⟨k, h⟩] = firsts N (k + 1) := by
 unfold firsts
 rw [List.take_succ_eq_append_getElem (by simpa using h)]
 simp
theorem firsts_length {N k : Nat} (h : k ≤ N) : (firsts N k).length = k := by simp [firsts, h]
theorem firsts_all (N : Nat) : firsts N N = List.finRange N := List.take_of_length_le (by simp)
theorem firsts_prefix (N k : Nat) : firsts N k <+: List.finRange N := List.take_prefix _ _
/-- The blocks of a list lie as they lay. -/
def KeepsAt (bs : List Nat) (W W' : World) : Prop := ∀ b ∈ bs, W'.heap[b]? = W.heap[b]?
theorem KeepsAt.refl (bs : List Nat) (W : World) : KeepsAt bs W W := fun _ _ => rfl
theorem KeepsAt.trans {bs : List Nat} {A B C : World} (h : KeepsAt bs A B) (k : KeepsAt bs B C) : KeepsAt bs A C := fun b hb => (k b hb).trans (h b hb)
theorem keepsAt_b {bs : List Nat} {w : World} (hn : ∀ b ∈ bs, b < w.heap.size) (W : World) (l : Nat) (o o' : Obj) (hl : w.heap.size ≤ l) (h : W.heap[l]? = some o) (_ : o.isCells = false) (_ : o.isWalk = false) : KeepsAt bs W (W.putObj l o') := fun b hb => by
 have h1 := (Array.getElem?_eq_some_iff.1 h).1
 have h2 := hn b hb
 exact (grownBy_putObj' W l o').block b (by omega) (fun e => by cases e; omega)
/-- An iterator that hands out N values, whatever the loop's body does to other blocks. -/
def Iter (P : Program) (g : Nat) (lb : Array Value) (N : Nat) (encs : Fin N → Array Value) (bs : List Nat) (w : World) : Prop :=
 ∀ n, 1 ≤ n → SeqStopsK Fence.wide n P g lb encs (KeepsAt bs) (fun ys => ys = List.finRange N) (fun pre => pre <+: List.finRange N) N w
theorem ownFrom_cell {β : Type} {B : Nat} (a : Addr) (v : Value) : OwnFrom B (fun (_ : β) W => W.cell? a = some v) :=
 Own.from (fun _ _ _ _ hs hg hr => cell_kept hs hg hr) _
theorem ownFrom_free {β : Type} {B : Nat} (a : Addr) (v : Value) : OwnFrom B (fun (_ : β) W => W.cell? a = some v ∧ W.frozen? a = false) :=
 Own.from (fun _ _ _ _ hs hg hr => ⟨cell_kept hs.1 hg hr, (frozen_kept hs.1 hg hr).trans hs.2⟩) _
/-- The frame behind the assignments to the loop's left sides. -/
def loopAct (a : Act) (sets : List (Tmp × Value)) : Act := { tmps := sets.foldl (fun t (p, v) => t.setIfInBounds p v) a.tmps, defers := [] }
/-- 'for x := range seq { .. }' over an iterator's contract. -/
theorem range_iter {P : Program} {n : Nat} {g : Operand} {ps : Array Tmp} {assign body : Code} {Q : Exit → Act → World → Prop} {a : Act} {w : World}
 {gf : Nat} {lb : Array Value} {N : Nat} {bs : List Nat} {encs : Fin N → Array Value} {w0 : World} (hit : Iter P gf lb N encs bs w0) (hn : 2 ≤ n)
 (hg : a.eval g = .func (.func gf) #[] lb) (eg : ∀ args w, (callFunc gf args).run P w = .ok (.enter gf args) w)
 (hn0 : ∀ b ∈ bs, b < w.heap.size) (hb0 : Below w0.heap.size w0 w) (hps : ∀ x, (encs x).size = ps.size) (pargs : Fin N → List (Tmp × Value)) (hpa : ∀ x, (ps.zip (encs x)).toList = pargs x)
 (I : List (Fin N) → World → Prop) (Ix : Code → List (Fin N) → World → Prop) (hI : OwnFrom w.heap.size I) (hIx : ∀ c, OwnFrom w.heap.size (Ix c)) (h0 : I [] w) (sets : Fin N → List (Tmp × Value))
 (hassign : ∀ (l : Nat) (x : Fin N) (W : World) (K : Act → World → Prop), K (loopAct a (pargs x ++ sets x)) W →
  assign.wpIn (Fence.wide.inRound l) (n - 1 - 1) P (Exit.then K (fun _ _ _ => False)) (loopAct a (pargs x)) W)
 (hbody : ∀ (l : Nat) (pre : List (Fin N)) (x : Fin N) (W : World), I pre W → pre.length < N → body.wpIn (Fence.wide.inRound l) (n - 1 - 1) P (ownPostK (KeepsAt bs) I Ix (pre ++ [x]) W) (loopAct a (pargs x ++ sets x)) W)
 (hdone : ∀ (D : Nat) (W : World), w.heap.size ≤ D → I (List.finRange N) W → W.heap[D]? = some (.deferred (some [])) → Q .normal { a with defers := { target := .collected D, args := #[] } :: a.defers } W)
 (hstop : ∀ (D : Nat) (c : Code) (pre : List (Fin N)) (W : World), w.heap.size ≤ D → pre <+: List.finRange N → Ix c pre W → W.heap[D]? = some (.deferred (some [])) → c.wpIn Fence.wide n P Q { a with defers := { target := .collected D, args := #[] } :: a.defers } W) :
 (Code.rangeFunc g ps assign body).wpIn Fence.wide n P Q a w :=
 wpIn_rangeFunc_ownF rfl (by omega) hg trivial eg (hit (n - 1) (by omega)) (fun h k => h.trans k) (keepsAt_b hn0) hb0 hps I Ix hI hIx h0 (fun x => loopAct a (pargs x ++ sets x)) (fun l x W K hK => by
  have h := hassign l x W K hK
  unfold loopAct at h
  rw [← Array.foldl_toList, hpa x]
  exact h) hbody (fun D xs W h e => by subst e; exact hdone D W h) hstop
theorem putObj_cell {W : World} {D : Nat} {a : Addr} {v : Value} {x : Option (List Deferred)} (h : W.cell? a = some v) (hK : W.heap[D]? = some (.deferred x)) (o : Obj) : (W.putObj D o).cell? a = some v :=
 cell_kept h (grownBy_putObj' _ D o) (fun r e => by cases e; exact ⟨_, hK, rfl⟩)
theorem below_putObj {n₀ D : Nat} {w W : World} (h : Below n₀ w W) {x : Option (List Deferred)} (hK : W.heap[D]? = some (.deferred x)) (hD : n₀ ≤ D) (o : Obj) : Below n₀ w (W.putObj D o) :=
 h.trans ⟨rfl, rfl, rfl, (grownBy_putObj' W D o).size, fun k hk => (grownBy_putObj' W D o).block k (by have := (Array.getElem?_eq_some_iff.1 hK).1; omega) (fun e => by cases e; omega)⟩
/-- A function that ranged over a function returns. -/
theorem ret_marked {n : Nat} {P : Program} {fn : Func} {a : Act} {W : World} {D : Nat} {R : Ending → World → Prop} {v : Value} (hd : a.defers = [{ target := .collected D, args := #[] }]) (hK : W.heap[D]? = some (.deferred (some [])))
 (hres : (results fn a.tmps).run P (W.putObj D (.deferred none)) = .ok v (W.putObj D (.deferred none))) (hR : R (.returned v) (W.putObj D (.deferred none))) : bodyPostM Fence.wide n P fn R .ret a W := by
 obtain ⟨t, ds⟩ := a
 cases hd
 exact ⟨by simp, .inl ⟨_, _, rfl, run_takeDeferred hK, ⟨_, hres, hR⟩⟩⟩
theorem run_index_int {P : Program} (w : World) (t e n : Nat) (kd : IntKind) (i0 : TypeInfo) (h : P.underlying t = some (.array n e)) (hu : P.underlying e = some (.int kd)) (hi : P.info? e = some i0) (hs : i0.size = 1)
 (cs : Array Value) (k : Nat) (v : Value) (hk : k < n) (hc : cs[k]? = some v) : (Instr.index t (.agg cs) (.int .i64 (k : Int))).run P w = .ok v w := by
 have hn : (0 : Int) ≤ (k : Int) ∧ (k : Int) < (n : Int) := by omega
 simp [Instr.index, run_underlying h, run_underlying hu, asIntOf, hn, part, isAgg, sizeOf, typeInfo, hi, hs, hc, go_sem]
 intro h'
 omega
theorem h7s {w : World} {b k : Nat} {c : Array Value} {t : TypeId} {f : Nat × Nat} (h : w.heap[b]? = some (.cells c t f)) (v : Value) : (w.setCell ⟨b, k, none⟩ v).heap[b]? = some (.cells (c.setIfInBounds k v) t f) := by
 simp [World.setCell, Array.getElem?_modify, h]
theorem h7o {w : World} {b b' k : Nat} {o : Obj} (h : w.heap[b]? = some o) (hne : b' ≠ b) (v : Value) : (w.setCell ⟨b', k, none⟩ v).heap[b]? = some o :=
 (Below.heap_setCell w ⟨b', k, none⟩ v b (by simpa using fun e => hne e.symm)).trans h
theorem heap_alloc_keeps {w : World} {b : Nat} {o : Obj} (h : w.heap[b]? = some o) (x : Obj) : (w.alloc x).heap[b]? = some o :=
 (Below.heap_alloc w x b (Array.getElem?_eq_some_iff.1 h).1).trans h
theorem c7b {w : World} {b k : Nat} {c : Array Value} {t : TypeId} {f : Nat × Nat} {v : Value} (h : w.heap[b]? = some (.cells c t f)) (hk : c[k]? = some v) : w.cell? ⟨b, k, none⟩ = some v := by
 simp [World.cell?, h, hk]
theorem f7b {w : World} {b : Nat} {c : Array Value} {t : TypeId} (h : w.heap[b]? = some (.cells c t (0, 0))) (k : Nat) : w.frozen? ⟨b, k, none⟩ = false := by
 simp [World.frozen?, h]
theorem b7t {w : World} {b : Nat} {o : Obj} (h : w.heap[b]? = some o) : b < w.heap.size := (Array.getElem?_eq_some_iff.1 h).1
/-- The slice value sv has n elements of so many cells, which read so. -/
def Elems (w : World) (sv : Value) (n size : Nat) (c : Nat → Value) : Prop :=
 (sv = .slice none 0 0 ∧ n = 0) ∨ ∃ b off cap, sv = .slice (some ⟨b, off, none⟩) n cap ∧ b < w.heap.size ∧ ∀ j, j < n * size → w.cell? ⟨b, off + j, none⟩ = some (c j)
theorem Elems.below {w w' : World} {sv : Value} {n size : Nat} {c : Nat → Value} (h : Elems w sv n size c) (hb : Below w.heap.size w w') : Elems w' sv n size c := by
 rcases h with h | ⟨b, off, cap, e, hlt, hc⟩
 · exact .inl h
 · exact .inr ⟨b, off, cap, e, Nat.lt_of_lt_of_le hlt hb.size, fun j hj => (hb.cell (p := ⟨b, off + j, none⟩) hlt).trans (hc j hj)⟩
theorem run_equalIn_array {P : Program} (w : World) (m t e n : Nat) (kd : IntKind) (i0 : TypeInfo) (h : P.underlying t = some (.array n e)) (hu : P.underlying e = some (.int kd)) (hi : P.info? e = some i0) (hs : i0.size = 1)
 (xs ys : Array Value) (f g : Nat → Int) (hx : ∀ i, i < n → xs[i]? = some (.int kd (f i))) (hy : ∀ i, i < n → ys[i]? = some (.int kd (g i))) (hm : 0 < m) :
 (Op.equalIn (m + 1) t (.agg xs) (.agg ys)).run P w = .ok ((List.range n).all fun k => f k == g k) w := by
 have he : ∀ a b : Int, (Op.equalIn m e (.int kd a) (.int kd b)).run P w = .ok (a == b) w := fun a b => by
  obtain ⟨d, rfl⟩ : ∃ d, m = d + 1 := ⟨m - 1, by omega⟩
  exact run_equalIn_int w d e kd kd a b hu
 have hp : ∀ (cs : Array Value) (k : Nat) (v : Int), cs[k]? = some (.int kd v) → (part e cs k).run P w = .ok (.int kd v) w := fun cs k v hc => by
  simp [part, isAgg, run_underlying hu, hc, go_sem]
 simp only [Op.equalIn, Sem.run_bind, run_underlying h, Result.andThen_ok, sizeOf, typeInfo, run_program, hi, Sem.run_pure, hs, Nat.mul_one]
 rw [Std.Legacy.Range.forIn_eq_forIn_range']
 simp only [Std.Legacy.Range.size, Nat.sub_zero, Nat.add_sub_cancel, Nat.div_one]
 rw [← List.range_eq_range']
 have key : ∀ l : List Nat, (∀ i ∈ l, i < n) → (forIn l ((none, ()) : Option Bool × Unit) fun i __s => do
  let a ← part e xs i
  let b ← part e ys i
  let r ← Op.equalIn m e a b
  if (!r) = true then pure (ForInStep.done (some false, ())) else pure (ForInStep.yield (none, ()))).run P w = .ok (if (l.all fun k => f k == g k) = true then (none, ()) else (some false, ())) w := by
  intro l
  induction l with
  | nil => intro _; rfl
  | cons i l ih =>
   intro hl
   simp only [List.forIn_cons, Sem.run_bind, hp xs i _ (hx i (hl i (by simp))), hp ys i _ (hy i (hl i (by simp))), Result.andThen_ok, he]
   cases hfg : (f i == g i)
   · simp [hfg]
   · simp only [Bool.not_true, Bool.false_eq_true, if_false, Sem.run_pure, Result.andThen_ok]
     rw [ih (fun j hj => hl j (by simp [hj]))]
     simp [hfg]
 rw [key (List.range n) (fun i hi => List.mem_range.1 hi)]
 cases (List.range n).all fun k => f k == g k <;> simp
theorem run_eql_array {P : Program} (w : World) (t e n : Nat) (kd : IntKind) (i0 : TypeInfo) (h : P.underlying t = some (.array n e)) (hu : P.underlying e = some (.int kd)) (hi : P.info? e = some i0) (hs : i0.size = 1)
 (xs ys : Array Value) (f g : Nat → Int) (hx : ∀ i, i < n → xs[i]? = some (.int kd (f i))) (hy : ∀ i, i < n → ys[i]? = some (.int kd (g i))) :
 (binOp .eql t (.agg xs) (.agg ys)).run P w = .ok (.bool ((List.range n).all fun k => f k == g k)) w := by
 simp only [binOp]
 simp [Op.equal, Op.maxDepth, run_equalIn_array w 9999 t e n kd i0 h hu hi hs xs ys f g hx hy (by omega)]
theorem newBlock (W : World) (o : Obj) (k : Nat) (hk : W.heap.size = k) : (W.alloc o).heap[k]? = some o := by
 subst hk
 exact World.alloc_heap_new W o
theorem Elems.shape {w : World} {sv : Value} {n size : Nat} {c : Nat → Value} (h : Elems w sv n size c) :
 ∃ a cap, sv = .slice a n cap ∧ (n = 0 ∨ ∃ b off, a = some ⟨b, off, none⟩ ∧ b < w.heap.size ∧ ∀ j, j < n * size → w.cell? ⟨b, off + j, none⟩ = some (c j)) := by
 rcases h with ⟨rfl, rfl⟩ | ⟨b, off, cap, rfl, hlt, hc⟩
 · exact ⟨none, 0, rfl, .inl rfl⟩
 · exact ⟨_, cap, rfl, .inr ⟨b, off, rfl, hlt, hc⟩⟩
theorem ownsRow_below {w w' : World} {base : Nat} {e : TypeId} {size : Nat} {v : Value} {n : Nat} {xs : List Value} (h : w.ownsRow base e size v n xs) (hb : Below w.heap.size w w') : w'.ownsRow base e size v n xs := by
 refine ⟨h.1, ?_⟩
 rcases h.2 with hn | ⟨g, cap, cur, rfl, hg, hgg, rest⟩
 · exact .inl hn
 · exact .inr ⟨g, cap, cur, rfl, hg, (hb.block g (b7t hgg)).trans hgg, rest⟩
theorem ownsRow_mono {w : World} {base base' : Nat} {e : TypeId} {size : Nat} {v : Value} {n : Nat} {xs : List Value} (h : w.ownsRow base e size v n xs) (hb : base' ≤ base) : w.ownsRow base' e size v n xs := by
 refine ⟨h.1, ?_⟩
 rcases h.2 with hn | ⟨g, cap, cur, rfl, hg, rest⟩
 · exact .inl hn
 · exact .inr ⟨g, cap, cur, rfl, Nat.le_trans hb hg, rest⟩
theorem ownsRow_elems {w : World} {base : Nat} {e : TypeId} {size : Nat} {v : Value} {n : Nat} {xs : List Value} (h : w.ownsRow base e size v n xs) {c : Nat → Value} (hc : ∀ j, j < n * size → xs[j]? = some (c j)) : Elems w v n size c := by
 rcases h.2 with ⟨e1, e2⟩ | ⟨g, cap, cur, rfl, hg, hgg, hle, hcap, hsz, htk⟩
 · exact .inl ⟨e1, e2⟩
 · refine .inr ⟨g, 0, cap, rfl, b7t hgg, fun j hj => ?_⟩
   rw [Nat.zero_add]
   refine c7b hgg ?_
   have h1 := hc j hj
   rw [← htk, List.getElem?_take_of_lt hj] at h1
   simpa using h1
theorem cells_of_block {w : World} {q : Nat} {c : Array Value} {t : TypeId} {f : Nat × Nat} (h : w.heap[q]? = some (.cells c t f)) : ∀ j u, c.toList[j]? = some u → w.cell? ((⟨q, 0, none⟩ : Addr).add j) = some u := by
 intro j u hu
 have hadd : (⟨q, 0, none⟩ : Addr).add j = ⟨q, j, none⟩ := by unfold Addr.add; split <;> simp_all
 rw [hadd]
 exact c7b h (by simpa using hu)
/-- Old cells read as they did. -/
theorem bcell {W w1 : World} (hb : Below W.heap.size W w1) : (∀ b o, b < W.heap.size → w1.cell? ⟨b, o, none⟩ = W.cell? ⟨b, o, none⟩) ∧ (∀ b o, b < W.heap.size → w1.frozen? ⟨b, o, none⟩ = W.frozen? ⟨b, o, none⟩) :=
 ⟨fun b o h => hb.cell (p := ⟨b, o, none⟩) h, fun b o h => hb.frozen (p := ⟨b, o, none⟩) h⟩
end Go.Proofs.YteklfmacnnmomaaGreat
/- General lemmas, more: a box that is filled in whatever order. -/
namespace Go.Proofs.YteklfmacnnmomaaGreat
open Go.RowKit Go.Shelf
/-- Nothing that was there changes, but for a block that is Z, which may become S. -/
def FillC (n₀ : Nat) (Z S : Obj) (x y : World) : Prop := Below n₀ x y ∧ ∀ (j : Nat) (ob : Obj), x.heap[j]? = some ob → (y.heap[j]? = some ob ∨ (ob = Z ∧ y.heap[j]? = some S))
theorem FillC.refl (n₀ : Nat) (Z S : Obj) (x : World) : FillC n₀ Z S x x := ⟨Below.refl _ _, fun _ _ h => .inl h⟩
theorem FillC.trans {n₀ : Nat} {Z S : Obj} {x y z : World} (h : FillC n₀ Z S x y) (k : FillC n₀ Z S y z) : FillC n₀ Z S x z :=
 ⟨h.1.trans k.1, fun j ob hj => by
  rcases h.2 j ob hj with h1 | ⟨e, h1⟩
  · exact k.2 j ob h1
  · rcases k.2 j S h1 with h2 | ⟨_, h2⟩
    · exact .inr ⟨e, h2⟩
    · exact .inr ⟨e, h2⟩⟩
theorem FillC.grow {n₀ : Nat} {Z S : Obj} {x y : World} (h : Below x.heap.size x y) (hn : n₀ ≤ x.heap.size) : FillC n₀ Z S x y :=
 ⟨h.mono hn, fun j _ hj => .inl ((h.block j (b7t hj)).trans hj)⟩
theorem FillC.keep {n₀ : Nat} {Z S : Obj} {x y : World} (h : FillC n₀ Z S x y) {j : Nat} {ob : Obj} (hj : x.heap[j]? = some ob) (hne : ob ≠ Z) : y.heap[j]? = some ob := by
 rcases h.2 j ob hj with h1 | ⟨e, _⟩
 · exact h1
 · exact absurd e hne
theorem FillC.filled {n₀ : Nat} {Z S : Obj} {x y : World} (h : FillC n₀ Z S x y) {j : Nat} (hj : x.heap[j]? = some S) : y.heap[j]? = some S := by
 rcases h.2 j S hj with h1 | ⟨_, h1⟩
 · exact h1
 · exact h1
theorem FillC.fill {n₀ : Nat} {Z S : Obj} {x y : World} (h : Below n₀ x y) {q : Nat} (hx : x.heap[q]? = some Z ∨ x.heap[q]? = some S) (hy : y.heap[q]? = some S) (ho : ∀ (j : Nat) (ob : Obj), x.heap[j]? = some ob → j ≠ q → y.heap[j]? = some ob) : FillC n₀ Z S x y :=
 ⟨h, fun j ob hj => by
  by_cases e : j = q
  · subst e
    rcases hx with hx | hx
    · rw [hx] at hj; cases hj; exact .inr ⟨rfl, hy⟩
    · rw [hx] at hj; cases hj; exact .inl hy
  · exact .inl (ho j ob hj e)⟩
theorem FillC.size {n₀ : Nat} {Z S : Obj} {x y : World} (h : FillC n₀ Z S x y) : x.heap.size ≤ y.heap.size := h.1.size
/-- It returns a new row. -/
def GivesRow (E size n : Nat) (xs : List Value) (w : World) (e : Ending) (w' : World) : Prop := ∃ v, e = .returned v ∧ w'.ownsRow w.heap.size E size v n xs ∧ Below w.heap.size w w'
/- General lemmas, more: a region in the text's order, by one fact for each operation. -/
section text
variable {F : Fence} {n : Nat} {P : Program} {ops : Array Oper} {Q : Exit → Act → World → Prop}
end text
/-- To see that the walk stands at a region. -/
theorem stop_at {P : Program} {id : Nat} {ops : Array Oper} {d : Bool} {Q : Exit → Act → World → Prop} {a : Act} {w : World} (h : (Code.region id ops d).wp P Q a w) : (Code.region id ops d).wp P Q a w := h
end Go.Proofs.YteklfmacnnmomaaGreat
/- A region that draws its order, by facts that the walk itself finds. -/
namespace Go.Proofs.YteklfmacnnmomaaGreat
open Go.RowKit Go.Shelf
section
variable {F : Fence} {n : Nat} {P : Program} {ops : Array Oper} {Q : Exit → Act → World → Prop}
/-- The value is this one. -/
def eqv (e : Value) : Value → World → Prop := fun v _ => v = e
/-- 'wp_region_facts', the number of facts said apart. -/
theorem w7v {id : Nat} {a : Act} {w : World} (k : Nat) (hm : P.follows .mixedOrders = true) (Rl : List (Value → World → Prop)) (C : World → World → Prop) (hk : Rl.length = k)
 (hCr : ∀ x : World, C x x) (hCt : ∀ {x y z : World}, C x y → C y z → C x z) (hst : AllStable C Rl)
 (hfo : factsOk ops a.tmps.size = true) (ht : tailOk ops k = true) (hC0 : C w w.drew)
 (hsteps : StepsFrom F n P ops Rl C Q a w 0 (ops.toList.take k))
 (hend : ∀ w', C w w' → EndFrom (fun a' => wpListIn F n P ops Q (ops.toList.drop k) a' w') w' ops.toList Rl a) :
 (Code.region id ops true).wpIn F n P Q a w := by
 subst hk
 exact wp_region_facts hm Rl C hCr hCt hst hfo ht hC0 hsteps hend
end
end Go.Proofs.YteklfmacnnmomaaGreat
/- A region that draws its order, some of whose operations have been taken ahead; the free ones by facts; the last ones in the text's order. -/
namespace Go.Proofs.YteklfmacnnmomaaGreat
open Go.RowKit Go.Shelf
section
variable {F : Fence} {n : Nat} {P : Program} {ops : Array Oper} {Q : Exit → Act → World → Prop}
/-- fr: the free ones; tl: the last ones, in order; L: those that are done. -/
def splitOk (ops : Array Oper) (L : Array Bool) (fr tl : List Nat) : Bool :=
 let bs := befores ops.toList []
 decide (L.size = ops.size) && ((List.range ops.size).all fun i => L.getD i false || fr.contains i || tl.contains i) && (fr.all fun i => !L.getD i false && decide (i < ops.size) && !tl.contains i) &&
  (tl.all fun i => !L.getD i false && decide (i < ops.size) && fr.all fun j => (bs.getD i []).contains j) &&
  ((List.range ops.size).all fun i => !L.getD i false || ((ops[i]?).all fun o => o.after.all fun e => !Region.binds .any e || L.getD e.on false))
def chainOk (ops : Array Oper) : List Nat → Bool
 | [] => true
 | i :: r => (r.all fun j => decide (i ≠ j) && ((befores ops.toList []).getD j []).contains i) && chainOk ops r
/-- Slots that none of the free ones writes hold what they held. -/
structure AgreeL (ops : Array Oper) (fr : List Nat) (a a' : Act) : Prop where
 defers : a'.defers = a.defers
 size : a'.tmps.size = a.tmps.size
 slot : ∀ t, (∀ (i : Nat) (o : Oper), i ∈ fr → ops[i]? = some o → o.dst ≠ some t) → a'.tmps[t]? = a.tmps[t]?
theorem AgreeL.refl (fr : List Nat) (a : Act) : AgreeL ops fr a a := ⟨rfl, rfl, fun _ _ => rfl⟩
theorem AgreeL.put {fr : List Nat} {a a' : Act} (h : AgreeL ops fr a a') {i : Nat} (hik : i ∈ fr) {o : Oper} (hi : ops[i]? = some o) (v : Value) : AgreeL ops fr a (a'.put o.dst v) :=
 ⟨(put_defers _ _ _).trans h.defers, (put_size _ _ _).trans h.size, fun t ht => (put_other _ _ _ _ (ht i o hik hi)).trans (h.slot t ht)⟩
def notDstL (ops : Array Oper) (fr : List Nat) (t : Nat) : Bool := fr.all fun i => (ops[i]?).all fun o => o.dst != some t
theorem AgreeL.at {fr : List Nat} {a a' : Act} (h : AgreeL ops fr a a') (t : Nat) (ht : notDstL ops fr t = true) : a'.tmps[t]? = a.tmps[t]? :=
 h.slot t fun i o hik hi e => by
  have := List.all_eq_true.1 ht i hik
  simp [hi, e] at this
theorem befores_before {listed : Array Bool} (hs : Shut ops listed) {i : Nat} {o : Oper} (hi : ops[i]? = some o) (hd : ∀ e ∈ o.after, Region.binds .any e = true → listed.getD e.on false = true) : ∀ j ∈ (befores ops.toList []).getD i [], listed.getD j false = true :=
 befores_spec hs ops.toList [] (by simp) (fun i o _ hlt => by simp at hlt) i o hi hd
theorem shut_set {listed : Array Bool} {i : Nat} {o : Oper} (hs : Shut ops listed) (hlt : i < listed.size) (hi : ops[i]? = some o) (hd : ∀ e ∈ o.after, Region.binds .any e = true → listed.getD e.on false = true) : Shut ops (listed.setIfInBounds i true) := by
 intro j o' hj hlj e he hb
 by_cases e1 : i = e.on
 · rw [← e1, getD_set_same _ _ _ hlt]
 · rw [g7o _ _ _ _ e1]
   by_cases e2 : i = j
   · subst e2; rw [hi] at hj; cases hj; exact hd e he hb
   · rw [g7o _ _ _ _ e2] at hlj; exact hs j o' hj hlj e he hb
theorem least_not {listed : Array Bool} {n : Nat} (h : ∃ i, i < n ∧ listed.getD i false = false) : ∃ i, i < n ∧ listed.getD i false = false ∧ ∀ j, j < i → listed.getD j false = true := by
 have key : ∀ m, (∃ i, i < n ∧ i ≤ m ∧ listed.getD i false = false) → ∃ i, i < n ∧ listed.getD i false = false ∧ ∀ j, j < i → listed.getD j false = true := by
  intro m
  induction m with
  | zero => rintro ⟨i, hi, h0', hb⟩; exact ⟨i, hi, hb, fun j hj => by omega⟩
  | succ m ihm =>
   rintro ⟨i, hi, hle, hb⟩
   rcases Classical.em (∃ i, i < n ∧ i ≤ m ∧ listed.getD i false = false) with h | h
   · exact ihm h
   · refine ⟨i, hi, hb, fun j hj => ?_⟩
     cases hbj : listed.getD j false with
     | true => rfl
     | false => exact absurd ⟨j, by omega, by omega, hbj⟩ h
 obtain ⟨i, hi, hb⟩ := h
 exact key i ⟨i, hi, Nat.le_refl _, hb⟩
/-- While something is left, something is ready. -/
theorem ready_some {size : Nat} (hfo : factsOk ops size = true) {listed : Array Bool} (hsz : listed.size = ops.size) (h : ∃ i, i < ops.size ∧ listed.getD i false = false) : Region.ready .any ops listed ≠ [] := by
 obtain ⟨i, hi, hb, hbef⟩ := least_not h
 obtain ⟨o, ho⟩ : ∃ o, ops[i]? = some o := ⟨_, Array.getElem?_eq_getElem hi⟩
 have hin : i ∈ Region.ready .any ops listed := by
  simp only [Region.ready, List.mem_filter, List.mem_range, Bool.and_eq_true, Bool.not_eq_true']
  refine ⟨hi, by rw [getD_lt _ _ (by omega)]; exact hb, ?_⟩
  simp only [ho, Option.map_some, Option.getD_some, Array.all_eq_true_iff_forall_mem]
  intro e he
  by_cases hbn : Region.binds .any e = true
  · rw [hbef _ (factsOk_edge hfo ho he hbn)]; simp
  · simp [hbn]
 intro h0
 rw [h0] at hin
 cases hin
def left (ops : Array Oper) (listed : Array Bool) : Nat := (List.range ops.size).countP fun i => !listed.getD i false
theorem left_set {listed : Array Bool} {i : Nat} (hi : i < ops.size) (hsz : listed.size = ops.size) (hno : listed.getD i false = false) : left ops (listed.setIfInBounds i true) + 1 = left ops listed := by
 unfold left
 have same : ∀ m, m ≤ i → (List.range m).countP (fun j => !(listed.setIfInBounds i true).getD j false) = (List.range m).countP (fun j => !listed.getD j false) := by
  intro m hm
  refine List.countP_congr (fun j hj => ?_)
  rw [g7o _ _ _ _ (by have := List.mem_range.1 hj; omega)]
 have key : ∀ m, i < m → m ≤ ops.size → (List.range m).countP (fun j => !(listed.setIfInBounds i true).getD j false) + 1 = (List.range m).countP (fun j => !listed.getD j false) := by
  intro m
  induction m with
  | zero => intro h _; omega
  | succ m ihm =>
   intro h hle
   simp only [List.range_succ, List.countP_append, List.countP_singleton]
   rcases Nat.lt_or_eq_of_le (Nat.lt_succ_iff.1 h) with h' | rfl
   · have := ihm h' (by omega); rw [g7o _ _ _ _ (by omega)]; omega
   · rw [same i (Nat.le_refl _), getD_set_same _ _ _ (by omega), hno]; simp
 exact key ops.size hi (Nat.le_refl _)
theorem left_zero {listed : Array Bool} (h : left ops listed = 0) : ∀ i, i < ops.size → listed.getD i false = true := by
 intro i hi
 unfold left at h
 rw [List.countP_eq_zero] at h
 have := h i (List.mem_range.2 hi)
 simpa using this
/-- The last ones. -/
theorem wpAnyIn_chain {size : Nat} (hfo : factsOk ops size = true) : ∀ (tl : List Nat) (fuel : Nat) (listed : Array Bool) (a : Act) (w : World), chainOk ops tl = true → fuel = left ops listed → listed.size = ops.size → Shut ops listed →
 (∀ j, j < ops.size → (listed.getD j false = false ↔ j ∈ tl)) → (∀ j ∈ tl, j < ops.size) → wpListIn F n P ops Q (tl.filterMap fun i => ops[i]?) a w → wpAnyIn F n P .any ops Q fuel listed a w
 | [], fuel, listed, a, w, hc, hf, hsz, hs, hl, ht, h => by
  have hall : ∀ j, j < ops.size → listed.getD j false = true := fun j hj => by
   cases e : listed.getD j false with
   | true => rfl
   | false => have := (hl j hj).1 e; cases this
  have hready : Region.ready .any ops listed = [] := by
   apply List.eq_nil_iff_forall_not_mem.2
   intro j hj
   obtain ⟨hlt, hno, _⟩ := ready_mem hj
   rw [getD_lt _ _ (by omega), hall j hlt] at hno
   cases hno
  exact wpAnyIn_done hready h fuel
 | i :: r, fuel, listed, a, w, hc, hf, hsz, hs, hl, ht, h => by
  have hi : i < ops.size := ht i (by simp)
  obtain ⟨o, ho⟩ : ∃ o, ops[i]? = some o := ⟨_, Array.getElem?_eq_getElem hi⟩
  rw [chainOk, Bool.and_eq_true] at hc
  have hir : i ∉ r := fun hm => by have := List.all_eq_true.1 hc.1 i hm; simp at this
  have hready : ∀ j ∈ Region.ready .any ops listed, j = i := by
   intro j hj
   obtain ⟨hlt, hno, hdep⟩ := ready_mem hj
   rw [getD_lt _ _ (by omega)] at hno
   rcases List.mem_cons.1 ((hl j hlt).1 hno) with e | hm
   · exact e
   · exfalso
     obtain ⟨oj, hoj⟩ : ∃ o, ops[j]? = some o := ⟨_, Array.getElem?_eq_getElem hlt⟩
     have h1 := List.all_eq_true.1 hc.1 j hm
     simp only [Bool.and_eq_true] at h1
     have := befores_before hs hoj (hdep oj hoj) i (by simpa using h1.2)
     rw [(hl i hi).2 (by simp)] at this
     cases this
  have hno : listed.getD i false = false := (hl i hi).2 (by simp)
  have hne := ready_some hfo hsz ⟨i, hi, hno⟩
  have hin : i ∈ Region.ready .any ops listed := by
   obtain ⟨j, hj⟩ := List.exists_mem_of_ne_nil _ hne
   rw [← hready j hj]; exact hj
  have hdep := (ready_mem hin).2.2 o ho
  have hpos : fuel = (left ops (listed.setIfInBounds i true)) + 1 := by rw [left_set hi hsz hno]; exact hf
  subst hpos
  refine ⟨fun h0 => (hne h0).elim, fun j hj => ?_⟩
  obtain rfl := hready j hj
  have hnext : ∀ a w, wpListIn F n P ops Q (r.filterMap fun i => ops[i]?) a w → wpAnyIn F n P .any ops Q (left ops (listed.setIfInBounds j true)) (listed.setIfInBounds j true) a w := fun a w h =>
   wpAnyIn_chain hfo r _ _ a w hc.2 rfl (by simpa using hsz) (shut_set hs (by omega) ho hdep) (fun m hm => by
    by_cases e : j = m
    · subst e; rw [getD_set_same _ _ _ (by omega)]; simp [hir]
    · rw [g7o _ _ _ _ e, hl m hm]; simp [Ne.symm e]) (fun m hm => ht m (by simp [hm])) h
  rw [List.filterMap_cons_some ho] at h
  unfold wpOpIn
  simp only [ho]
  unfold wpListIn at h
  split
  · rename_i hw
    simp only [hw, if_true] at h
    exact Oper.wpIn_mono hnext h
  · rename_i hw
    simp only [hw] at h
    exact ⟨h.1, hnext _ _ h.2⟩
/-- **THE LAW**: L: the operations that are done; fr: the free ones, each by a fact; tl: the last ones. -/
theorem wpAnyIn_facts {a : Act} {w : World} {L : Array Bool} {fr tl : List Nat} {fuel : Nat} (R : Nat → Value → World → Prop) (C : World → World → Prop)
 (hCr : ∀ x : World, C x x) (hCt : ∀ {x y z : World}, C x y → C y z → C x z) (hst : ∀ i v x y, i ∈ fr → C x y → R i v x → R i v y)
 (hfo : factsOk ops a.tmps.size = true) (hsp : splitOk ops L fr tl = true) (hch : chainOk ops tl = true) (hfuel : fuel = left ops L)
 (hstep : ∀ (i : Nat) (o : Oper), i ∈ fr → ops[i]? = some o → ∀ (a' : Act) (w' : World), AgreeL ops fr a a' → C w w' →
  (∀ e ∈ o.after, Region.binds .any e = true → e.on ∈ fr → Known (fun i v _ w => R i v w) ops e.on a' w') → StepOk F n P ops (fun i v _ w => R i v w) C Q i o a' w')
 (hend : ∀ (a' : Act) (w' : World), AgreeL ops fr a a' → C w w' → (∀ i ∈ fr, Known (fun i v _ w => R i v w) ops i a' w') → wpListIn F n P ops Q (tl.filterMap fun i => ops[i]?) a' w') :
 wpAnyIn F n P .any ops Q fuel L a w := by
 simp only [splitOk, Bool.and_eq_true, List.all_eq_true, Bool.or_eq_true, Bool.not_eq_true', decide_eq_true_iff, List.mem_range, List.contains_iff_mem, Option.all_eq_true, Array.all_eq_true_iff_forall_mem] at hsp
 obtain ⟨⟨⟨⟨hLs, hcov⟩, hfr⟩, htl⟩, hshut⟩ := hsp
 have hshut0 : Shut ops L := by
  intro i o hi hl e he hb
  have hlt : i < ops.size := (Array.getElem?_eq_some_iff.1 hi).1
  rcases hshut i hlt with h | h
  · rw [hl] at h; cases h
  · rcases h o hi e he with h | h
    · rw [hb] at h; cases h
    · exact h
 have main : ∀ (fuel : Nat) (listed : Array Bool) (a' : Act) (w' : World), fuel = left ops listed → listed.size = ops.size → Shut ops listed → (∀ i, i < ops.size → L.getD i false = true → listed.getD i false = true) →
  (∀ i ∈ tl, listed.getD i false = false) → AgreeL ops fr a a' → C w w' → (∀ i ∈ fr, listed.getD i false = true → Known (fun i v _ w => R i v w) ops i a' w') → wpAnyIn F n P .any ops Q fuel listed a' w' := by
  intro fuel
  induction fuel with
  | zero =>
   intro listed a' w' hf hsz hs hL ht hA hC hK
   have hall := left_zero hf.symm
   have htn : tl = [] := by
    rcases tl with _ | ⟨i, r⟩
    · rfl
    · have := ht i (by simp)
      rw [hall i (htl i (by simp)).1.2] at this
      cases this
   have h := hend a' w' hA hC (fun i hi => hK i hi (hall i (hfr i hi).1.2))
   subst htn
   exact wpAnyIn_chain hfo [] 0 listed a' w' rfl hf hsz hs (fun j hj => by rw [hall j hj]; simp) (by simp) h
  | succ fuel ih =>
   intro listed a' w' hf hsz hs hL ht hA hC hK
   have hex : ∃ i, i < ops.size ∧ listed.getD i false = false := by
    rcases Classical.em (∃ i, i < ops.size ∧ listed.getD i false = false) with h | h
    · exact h
    · exfalso
      have : left ops listed = 0 := by
       unfold left
       rw [List.countP_eq_zero]
       intro i hi
       cases hb : listed.getD i false with
       | true => simp
       | false => exact absurd ⟨i, List.mem_range.1 hi, hb⟩ h
      omega
   refine ⟨fun h0 => (ready_some hfo hsz hex h0).elim, fun i hi => ?_⟩
   obtain ⟨hlt, hno, hdep⟩ := ready_mem hi
   rw [getD_lt _ _ (by omega)] at hno
   obtain ⟨o, ho⟩ : ∃ o, ops[i]? = some o := ⟨_, Array.getElem?_eq_getElem hlt⟩
   rcases hcov i hlt with (h | hf') | ht'
   · rw [hL i hlt h] at hno; cases hno
   · -- a free one
     have hif : i ∈ fr := hf'
     have hso := hstep i o hif ho a' w' hA hC (fun e he hb hm => hK e.on hm (hdep o ho e he hb))
     have hnext : ∀ v w'', R i v w'' → C w' w'' → wpAnyIn F n P .any ops Q fuel (listed.setIfInBounds i true) (a'.put o.dst v) w'' := by
      intro v w'' hR hC'
      refine ih _ _ _ (by have := left_set hlt hsz hno; omega) (by simpa using hsz) (shut_set hs (by omega) ho (hdep o ho)) (fun j hj hl => ?_) (fun j hj => ?_) (hA.put hif ho v) (hCt hC hC') (fun j hj hlj => ?_)
      · by_cases e : i = j
        · subst e; rw [getD_set_same _ _ _ (by omega)]
        · rw [g7o _ _ _ _ e]; exact hL j hj hl
      · have hne : i ≠ j := fun e => by subst e; have := (hfr i hif).2; simp at this; exact this hj
        rw [g7o _ _ _ _ hne]; exact ht j hj
      · by_cases e1 : i = j
        · subst e1
          intro o' ho'
          rw [ho] at ho'; cases ho'
          cases hd : o.dst with
          | none => exact ⟨v, hR⟩
          | some d => exact ⟨v, by rw [put_same _ _ _ (by rw [hA.size]; exact factsOk_dst hfo ho hd)], hR⟩
        · rw [g7o _ _ _ _ e1] at hlj
          have hk := hK j hj hlj
          intro o' ho'
          have hk' := hk o' ho'
          cases hd' : o'.dst with
          | none => rw [hd'] at hk'; obtain ⟨u, hu⟩ := hk'; exact ⟨u, hst j _ _ _ hj hC' hu⟩
          | some d =>
           rw [hd'] at hk'
           obtain ⟨u, hu, hRu⟩ := hk'
           exact ⟨u, by rw [put_other _ _ _ _ (fun hd => factsOk_once hfo ho ho' e1 hd hd')]; exact hu, hst j _ _ _ hj hC' hRu⟩
     unfold StepOk at hso
     unfold wpOpIn
     simp only [ho]
     split
     · rename_i hw
       simp only [hw, if_true] at hso
       exact hso _ hnext
     · rename_i hw
       simp only [hw] at hso
       exact ⟨hso.1, hnext _ _ hso.2 (hCr _)⟩
   · -- the first of the last ones
     have hit : i ∈ tl := ht'
     have hdone : ∀ j ∈ fr, listed.getD j false = true := fun j hj => befores_before hs ho (hdep o ho) j (by have := (htl i hit).2 j hj; simpa using this)
     have h := wpAnyIn_chain (F := F) (n := n) (P := P) (Q := Q) hfo tl (fuel + 1) listed a' w' hch hf hsz hs (fun j hj => ⟨fun hn => by
      rcases hcov j hj with (h | h) | h
      · rw [hL j hj h] at hn; cases hn
      · rw [hdone j h] at hn; cases hn
      · exact h, fun hm => ht j hm⟩) (fun j hj => (htl j hj).1.2) (hend a' w' hA hC (fun j hj => hK j hj (hdone j hj)))
     exact h.2 i hi
 exact main fuel L a w hfuel hLs hshut0 (fun i _ h => h) (fun i hi => (htl i hi).1.1) (AgreeL.refl fr a) (hCr w) (fun i hi hl => by rw [(hfr i hi).1.1] at hl; cases hl)
abbrev FactsT := List (Nat × (Value → World → Prop))
def factL (Rl : FactsT) (i : Nat) : Value → World → Prop := ((Rl.find? fun x => x.1 == i).map (·.2)).getD fun _ _ => True
def StableL (C : World → World → Prop) : FactsT → Prop
 | [] => True
 | r :: rs => (∀ v x y, C x y → r.2 v x → r.2 v y) ∧ StableL C rs
theorem StableL.of {C : World → World → Prop} : ∀ {Rl : FactsT} (_ : StableL C Rl) (r : Nat × (Value → World → Prop)), r ∈ Rl → ∀ v x y, C x y → r.2 v x → r.2 v y
 | [], _, r, h => by cases h
 | _ :: _, hs, r, h => by
  rcases List.mem_cons.1 h with rfl | h
  · exact hs.1
  · exact StableL.of hs.2 r h
theorem factL_stable {C : World → World → Prop} {Rl : FactsT} (hs : StableL C Rl) (i : Nat) (v : Value) (x y : World) (hC : C x y) (h : factL Rl i v x) : factL Rl i v y := by
 unfold factL at *
 cases e : Rl.find? fun x => x.1 == i with
 | none => trivial
 | some r => rw [e] at h; exact hs.of r (List.mem_of_find?_eq_some e) v x y hC h
theorem factL_mem : ∀ {Rl : FactsT}, (Rl.map (·.1)).Nodup → ∀ {i : Nat} {r : Value → World → Prop}, (i, r) ∈ Rl → factL Rl i = r
 | [], _, i, r, h => by cases h
 | x :: Rl, hn, i, r, h => by
  rw [List.map_cons, List.nodup_cons] at hn
  rcases List.mem_cons.1 h with rfl | h
  · simp [factL]
  · have hne : x.1 ≠ i := fun e => hn.1 (by rw [e]; exact List.mem_map.2 ⟨_, h, rfl⟩)
    have := factL_mem hn.2 h
    unfold factL at *
    rw [List.find?_cons_of_neg (by simpa using hne)]
    exact this
def StepsL (F : Fence) (n : Nat) (P : Program) (ops : Array Oper) (fr : List Nat) (Rl0 : FactsT) (C : World → World → Prop) (Q : Exit → Act → World → Prop) (a : Act) (w : World) : List Oper → FactsT → Prop
 | o :: os, r :: rs => (∀ (a' : Act) (w' : World), AgreeL ops fr a a' → C w w' → (∀ e ∈ o.after, Region.binds .any e = true → e.on ∈ fr → Known (fun i v _ w => factL Rl0 i v w) ops e.on a' w') → StepOk F n P ops (fun i v _ w => factL Rl0 i v w) C Q r.1 o a' w') ∧ StepsL F n P ops fr Rl0 C Q a w os rs
 | _, _ => True
theorem stepsL_at {fr : List Nat} {Rl0 : FactsT} {C : World → World → Prop} {a : Act} {w : World} : ∀ (rs : FactsT), (∀ r ∈ rs, ∃ o, ops[r.1]? = some o) → StepsL F n P ops fr Rl0 C Q a w (rs.filterMap fun r => ops[r.1]?) rs → ∀ (i : Nat) (o : Oper), i ∈ rs.map (·.1) → ops[i]? = some o →
 ∀ (a' : Act) (w' : World), AgreeL ops fr a a' → C w w' → (∀ e ∈ o.after, Region.binds .any e = true → e.on ∈ fr → Known (fun i v _ w => factL Rl0 i v w) ops e.on a' w') → StepOk F n P ops (fun i v _ w => factL Rl0 i v w) C Q i o a' w'
 | [], _, _, i, o, hm, _ => by cases hm
 | r :: rs, hs, h, i, o, hm, ho => by
  obtain ⟨o1, h1⟩ := hs r (by simp)
  rw [List.filterMap_cons_some (f := fun r : Nat × (Value → World → Prop) => ops[r.1]?) h1] at h
  rcases List.mem_cons.1 hm with e | hm
  · dsimp only at e
    subst e
    rw [h1] at ho; cases ho
    exact h.1
  · exact stepsL_at rs (fun r hr => hs r (by simp [hr])) h.2 i o hm ho
def EndL (K : Act → Prop) (w' : World) : List Oper → FactsT → Act → Prop
 | o :: os, r :: rs, a => ∀ v, r.2 v w' → EndL K w' os rs (a.put o.dst v)
 | _, _, a => K a
theorem endL_of {size : Nat} {K : Act → Prop} {w' : World} {a' : Act} {Rl0 : FactsT} (hfo : factsOk ops size = true) (hnd : (Rl0.map (·.1)).Nodup) :
 ∀ (rs : FactsT) (acur : Act), acur.tmps.size = size → acur.defers = a'.defers → (∀ r ∈ rs, r ∈ Rl0) → (∀ r ∈ rs, ∃ o, ops[r.1]? = some o) → EndL K w' (rs.filterMap fun r => ops[r.1]?) rs acur →
  (∀ r ∈ rs, Known (fun i v _ w => factL Rl0 i v w) ops r.1 a' w') → (∀ t, (∀ r ∈ rs, ∀ o, ops[r.1]? = some o → o.dst ≠ some t) → a'.tmps[t]? = acur.tmps[t]?) → K a'
 | [], acur, hc, hd, _, _, hE, _, hA => by
  have : a' = acur := act_ext hd.symm (fun t => hA t (fun r hr => by cases hr))
  rw [this]
  exact hE
 | r :: rs, acur, hc, hd, hm, hs, hE, hK, hA => by
  obtain ⟨o, ho⟩ := hs r (by simp)
  rw [List.filterMap_cons_some (f := fun r : Nat × (Value → World → Prop) => ops[r.1]?) ho] at hE
  have hk := hK r (by simp) o ho
  have hfr : factL Rl0 r.1 = r.2 := factL_mem hnd (hm r (by simp))
  cases hdst : o.dst with
  | none =>
   rw [hdst] at hk
   obtain ⟨v, hv⟩ := hk
   rw [hfr] at hv
   have h1 := hE v hv
   rw [hdst] at h1
   refine endL_of hfo hnd rs acur hc hd (fun r hr => hm r (by simp [hr])) (fun r hr => hs r (by simp [hr])) h1 (fun r hr => hK r (by simp [hr])) (fun t ht => hA t (fun r' hr' o' ho' e => ?_))
   rcases List.mem_cons.1 hr' with rfl | hr'
   · rw [ho] at ho'; cases ho'; rw [hdst] at e; cases e
   · exact ht r' hr' o' ho' e
  | some d =>
   rw [hdst] at hk
   obtain ⟨v, hv, hr⟩ := hk
   rw [hfr] at hr
   have h1 := hE v hr
   rw [hdst] at h1
   have hdlt : d < size := factsOk_dst hfo ho hdst
   refine endL_of hfo hnd rs _ (by rw [put_size]; exact hc) (by rw [put_defers]; exact hd) (fun r hr => hm r (by simp [hr])) (fun r hr => hs r (by simp [hr])) h1 (fun r hr => hK r (by simp [hr])) (fun t ht => ?_)
   by_cases e : d = t
   · subst e
     rw [hv, put_same acur d v (by rw [hc]; exact hdlt)]
   · rw [put_other _ _ _ _ (fun e' => e (by cases e'; rfl))]
     refine hA t (fun r' hr' o' ho' e' => ?_)
     rcases List.mem_cons.1 hr' with rfl | hr'
     · rw [ho] at ho'; cases ho'; rw [hdst] at e'; exact e (by cases e'; rfl)
     · exact ht r' hr' o' ho' e'
/-- **THE LAW, FOR A WALK.** -/
theorem wp_facts_taken {a : Act} {w : World} {L : Array Bool} {fuel : Nat} (fr tl : List Nat) (Rl : FactsT) (C : World → World → Prop) (hk : Rl.map (·.1) = fr) (hnd : fr.Nodup)
 (hCr : ∀ x : World, C x x) (hCt : ∀ {x y z : World}, C x y → C y z → C x z) (hst : StableL C Rl)
 (hfo : factsOk ops a.tmps.size = true) (hsp : splitOk ops L fr tl = true) (hch : chainOk ops tl = true) (hfuel : fuel = left ops L)
 (hsteps : StepsL F n P ops fr Rl C Q a w (Rl.filterMap fun r => ops[r.1]?) Rl)
 (hend : ∀ w', C w w' → EndL (fun a' => wpListIn F n P ops Q (tl.filterMap fun i => ops[i]?) a' w') w' (Rl.filterMap fun r => ops[r.1]?) Rl a) :
 wpAnyIn F n P .any ops Q fuel L a w := by
 have hin : ∀ r ∈ Rl, ∃ o, ops[r.1]? = some o := by
  intro r hr
  have h1 : r.1 ∈ fr := by rw [← hk]; exact List.mem_map.2 ⟨_, hr, rfl⟩
  have h2 := hsp
  simp only [splitOk, Bool.and_eq_true, List.all_eq_true, Bool.not_eq_true', decide_eq_true_iff] at h2
  exact ⟨_, Array.getElem?_eq_getElem (h2.1.1.2 r.1 h1).1.2⟩
 refine wpAnyIn_facts (fr := fr) (tl := tl) (fun i v w => factL Rl i v w) C hCr hCt (fun i v x y _ hC h => factL_stable hst i v x y hC h) hfo hsp hch hfuel ?_ ?_
 · intro i o hi ho
   exact stepsL_at Rl hin hsteps i o (by rw [hk]; exact hi) ho
 · intro a' w' hA hC hK
   exact endL_of (K := fun a' => wpListIn F n P ops Q (tl.filterMap fun i => ops[i]?) a' w') hfo (by rw [hk]; exact hnd) Rl a rfl hA.defers.symm (fun _ h => h) hin (hend w' hC) (fun r hr => hK r.1 (by rw [← hk]; exact List.mem_map.2 ⟨_, hr, rfl⟩)) (fun t ht => hA.slot t (fun i o hi ho => by
    rw [← hk] at hi
    obtain ⟨r, hr, rfl⟩ := List.mem_map.1 hi
    exact ht r hr o ho))
/-- Those of a list that are marked. -/
def pickM : List Oper → List Bool → List Oper
 | o :: os, true :: bs => o :: pickM os bs
 | _ :: os, false :: bs => pickM os bs
 | _, _ => []
/-- The law, for a walk: the lists as marks. -/
theorem wp_facts_marks {a : Act} {w : World} {L : Array Bool} {fuel : Nat} (fr tl : List Nat) (mfr mtl : List Bool) (Rl : FactsT) (C : World → World → Prop) (hk : Rl.map (·.1) = fr) (hnd : fr.Nodup)
 (hmf : (fr.filterMap fun i => ops[i]?) = pickM ops.toList mfr) (hmt : (tl.filterMap fun i => ops[i]?) = pickM ops.toList mtl)
 (hCr : ∀ x : World, C x x) (hCt : ∀ {x y z : World}, C x y → C y z → C x z) (hst : StableL C Rl)
 (hfo : factsOk ops a.tmps.size = true) (hsp : splitOk ops L fr tl = true) (hch : chainOk ops tl = true) (hfuel : fuel = left ops L)
 (hsteps : StepsL F n P ops fr Rl C Q a w (pickM ops.toList mfr) Rl)
 (hend : ∀ w', C w w' → EndL (fun a' => wpListIn F n P ops Q (pickM ops.toList mtl) a' w') w' (pickM ops.toList mfr) Rl a) :
 wpAnyIn F n P .any ops Q fuel L a w := by
 have e : (Rl.filterMap fun r => ops[r.1]?) = pickM ops.toList mfr := by rw [← hmf, ← hk, List.filterMap_map]; rfl
 refine wp_facts_taken fr tl Rl C hk hnd hCr hCt hst hfo hsp hch hfuel (by rw [e]; exact hsteps) (fun w' hC => ?_)
 rw [e, hmt]
 exact hend w' hC
/-- An operation that yields in whatever world is taken first; its slot said apart. -/
theorem take_first {i : Nat} {oi : Oper} (d : Option Tmp) {v : Value} {fuel : Nat} {listed : Array Bool} {a : Act} {w : World} (hro : F.round = none) (hi : ops[i]? = some oi) (hd : oi.dst = d)
 (hs : Region.noSelect ops = true) (hf : Region.free .any ops listed i = true) (hr : (Region.ready .any ops listed).contains i = true)
 (hQ : ∀ c a w, Q (.panic c) (a.put d v) w → Q (.panic c) a w) (hy : YieldsFenced P ops oi v a)
 (h : wpAnyIn F n P .any ops Q fuel (listed.setIfInBounds i true) (a.put d v) w) : wpAnyIn F n P .any ops Q (fuel + 1) listed a w := by
 subst hd
 exact wpAnyIn_take hro hi hs hf hr hQ hy h
end
end Go.Proofs.YteklfmacnnmomaaGreat
/- A region that draws its order, one of whose free operations stores. -/
namespace Go.Proofs.YteklfmacnnmomaaGreat
open Go.RowKit Go.Shelf
section
variable {F : Fence} {n : Nat} {P : Program} {ops : Array Oper} {Q : Exit → Act → World → Prop}
/-- i comes ahead of s in every order. -/
def aheadB (ops : Array Oper) (s i : Nat) : Bool := ((befores ops.toList []).getD s []).contains i
/-- **A REGION THAT DRAWS ITS ORDER, ONE OF WHOSE FREE OPERATIONS STORES**: J b: what holds of the memory before (false) and behind (true) operation s. -/
theorem wpIn_region_store {id : Nat} {a : Act} {w : World} (hm : P.follows .mixedOrders = true) (k : Nat) (R : Nat → Value → (Nat → Value) → World → Prop) (C : World → World → Prop)
 (hCr : ∀ x : World, C x x) (hCt : ∀ {x y z : World}, C x y → C y z → C x z) (C0 : World → World → Prop) (h00 : ∀ x, C0 x x) (h0C : ∀ {x y : World}, C0 x y → C x y) (s : Nat) (hst : ∀ i v env x y, i < k → i ≠ s → C x y → R i v env x → R i v env y) (hst0 : ∀ v env x y, C0 x y → R s v env x → R s v env y)
 (hloc : ∀ i o v env env' x, i < k → ops[i]? = some o → (∀ e ∈ o.after, Region.binds .any e = true → ∀ o' d, ops[e.on]? = some o' → o'.dst = some d → env d = env' d) → R i v env x → R i v env' x)
 (hfo : factsOk ops a.tmps.size = true) (ht : tailOk ops k = true) (hC0 : C w w.drew)
 (hsk : s < k) (hso : s < ops.size) (J : Bool → World → Prop) (hJ0 : J false w.drew) (hsg : ∀ o, ops[s]? = some o → o.guard = none)
 (hstep : ∀ (i : Nat) (o : Oper), i < k → ops[i]? = some o → ∀ (a' : Act) (w' : World) (b : Bool), Agree ops k a a' → C w w' → J b w' → (aheadB ops s i = true → b = false) → (i = s → b = false) →
  (∀ e ∈ o.after, Region.binds .any e = true → Known R ops e.on a' w') → StepOk F n P ops R (fun x y => (if i = s then C x y else C0 x y) ∧ J (if i = s then true else b) y) Q i o a' w')
 (hend : ∀ (a' : Act) (w' : World), Agree ops k a a' → C w w' → J true w' → (∀ i, i < k → i < ops.size → Known R ops i a' w') → wpListIn F n P ops Q (ops.toList.drop k) a' w') :
 (Code.region id ops true).wpIn F n P Q a w := by
 refine wpIn_region_any hm ?_
 have main : ∀ (fuel : Nat) (listed : Array Bool) (a' : Act) (w' : World), listed.size = ops.size → fuel + (List.range ops.size).countP (fun i => listed.getD i false) = ops.size → Shut ops listed →
  (∀ i, k ≤ i → i < ops.size → listed.getD i false = false) → Agree ops k a a' → C w w' → J (listed.getD s false) w' → (∀ i, i < k → i < ops.size → listed.getD i false = true → Known R ops i a' w') →
  wpAnyIn F n P .any ops Q fuel listed a' w' := by
  intro fuel
  induction fuel with
  | zero =>
   intro listed a' w' hsz hf hs hlate hA hC hJ hK
   have hall : ∀ i, i < ops.size → listed.getD i false = true := by
    intro i hi
    have h1 : (List.range ops.size).countP (fun i => listed.getD i false) = (List.range ops.size).length := by simp at hf ⊢; omega
    exact List.countP_eq_length.1 h1 i (List.mem_range.2 hi)
   have hk : ops.size ≤ k := by
    rcases Nat.lt_or_ge k ops.size with h | h
    · have := hlate k (Nat.le_refl _) h; rw [hall k h] at this; cases this
    · exact h
   rw [hall s hso] at hJ
   have h := hend a' w' hA hC hJ (fun i hik hi => hK i hik hi (hall i hi))
   rw [List.drop_eq_nil_of_le (by simpa using hk)] at h
   refine ⟨?_, h⟩
   apply List.eq_nil_iff_forall_not_mem.2
   intro j hj
   obtain ⟨hlt, hno, _⟩ := ready_mem hj
   rw [getD_lt _ _ (by omega), hall j hlt] at hno
   cases hno
  | succ fuel ih =>
   intro listed a' w' hsz hf hs hlate hA hC hJ hK
   refine ⟨?_, ?_⟩
   · -- nothing is ready: all has been carried out
     intro h0
     exfalso
     have hex : ∃ i, i < ops.size ∧ listed.getD i false = false := by
      rcases Classical.em (∃ i, i < ops.size ∧ listed.getD i false = false) with h | h
      · exact h
      · exfalso
        have hall : ∀ i, i < ops.size → listed.getD i false = true := fun i hi => by
         cases hb : listed.getD i false with
         | true => rfl
         | false => exact absurd ⟨i, hi, hb⟩ h
        have h1 : (List.range ops.size).countP (fun i => listed.getD i false) = (List.range ops.size).length := List.countP_eq_length.2 (fun i hi => hall i (List.mem_range.1 hi))
        simp only [List.length_range] at h1
        rw [h1] at hf
        omega
     have least : ∀ m, (∃ i, i < ops.size ∧ i ≤ m ∧ listed.getD i false = false) → ∃ i, i < ops.size ∧ listed.getD i false = false ∧ ∀ j, j < i → listed.getD j false = true := by
      intro m
      induction m with
      | zero => rintro ⟨i, hi, h0', hb⟩; exact ⟨i, hi, hb, fun j hj => by omega⟩
      | succ m ihm =>
       rintro ⟨i, hi, hle, hb⟩
       rcases Classical.em (∃ i, i < ops.size ∧ i ≤ m ∧ listed.getD i false = false) with h | h
       · exact ihm h
       · refine ⟨i, hi, hb, fun j hj => ?_⟩
         cases hbj : listed.getD j false with
         | true => rfl
         | false => exact absurd ⟨j, by omega, by omega, hbj⟩ h
     obtain ⟨i0, hi0, hb0⟩ := hex
     obtain ⟨i, hi, hb, hbef⟩ := least i0 ⟨i0, hi0, Nat.le_refl _, hb0⟩
     obtain ⟨o, ho⟩ : ∃ o, ops[i]? = some o := ⟨_, Array.getElem?_eq_getElem hi⟩
     have hin : i ∈ Region.ready .any ops listed := by
      simp only [Region.ready, List.mem_filter, List.mem_range, Bool.and_eq_true, Bool.not_eq_true']
      refine ⟨hi, by rw [getD_lt _ _ (by omega)]; exact hb, ?_⟩
      simp only [ho, Option.map_some, Option.getD_some, Array.all_eq_true_iff_forall_mem]
      intro e he
      by_cases hbn : Region.binds .any e = true
      · rw [hbef _ (factsOk_edge hfo ho he hbn)]; simp
      · simp [hbn]
     rw [h0] at hin
     cases hin
   · intro i hi
     obtain ⟨hlt, hno, hdep⟩ := ready_mem hi
     rw [getD_lt _ _ (by omega)] at hno
     obtain ⟨o, ho⟩ : ∃ o, ops[i]? = some o := ⟨_, Array.getElem?_eq_getElem hlt⟩
     rcases Nat.lt_or_ge i k with hik | hik
     · -- one of the free ones
       have hso := hstep i o hik ho a' w' (listed.getD s false) hA hC hJ (fun hab => by
        cases hls : listed.getD s false with
        | false => rfl
        | true =>
         exfalso
         obtain ⟨os, hos⟩ : ∃ o, ops[s]? = some o := ⟨_, Array.getElem?_eq_getElem hso⟩
         have h2 := befores_spec hs ops.toList [] (by simp) (fun i o _ hlt => by simp at hlt) s os hos (fun e he hb => hs s os hos hls e he hb) i (by simpa [aheadB] using hab)
         rw [hno] at h2
         cases h2) (fun e => by rw [← e]; exact hno) (fun e he hb => by
        have hl := hdep o ho e he hb
        have hlt' := factsOk_edge hfo ho he hb
        exact hK e.on (by omega) (by omega) hl)
       have henv : ∀ (m : Nat) (om : Oper), ops[m]? = some om → (∀ e ∈ om.after, Region.binds .any e = true → e.on ≠ i) → ∀ (v : Value), ∀ e ∈ om.after, Region.binds .any e = true → ∀ o' d, ops[e.on]? = some o' → o'.dst = some d → envOf a' d = envOf (a'.put o.dst v) d := by
        intro m om hom hne v e he hb o' d ho' hd
        unfold envOf
        rw [put_other _ _ _ _ (fun hd' => factsOk_once hfo ho ho' (fun e1 => hne e he hb e1.symm) hd' hd)]
       have hnext : ∀ v w'', R i v (envOf a') w'' → ((if i = s then C w' w'' else C0 w' w'') ∧ J (if i = s then true else listed.getD s false) w'') → wpAnyIn F n P .any ops Q fuel (listed.setIfInBounds i true) (a'.put o.dst v) w'' := by
        intro v w'' hR hCJ
        have hC' : C w' w'' := by
         have h := hCJ.1
         by_cases e : i = s
         · simpa [e] using h
         · exact h0C (by simpa [e] using h)
        have hsj : ∀ j v env, j < k → j ≠ i → R j v env w' → R j v env w'' := fun j v env hj hji hr => by
         by_cases e : j = s
         · subst e
           refine hst0 v env _ _ ?_ hr
           have h := hCJ.1
           rw [if_neg (fun e => hji e.symm)] at h
           exact h
         · exact hst j v env _ _ hj e hC' hr
        refine ih _ _ _ (by simpa using hsz) ?_ ?_ ?_ (hA.put hik ho v) (hCt hC hC') ?_ ?_
        · have hc : (List.range ops.size).countP (fun j => (listed.setIfInBounds i true).getD j false) = (List.range ops.size).countP (fun j => listed.getD j false) + 1 := by
           have key : ∀ m, i < m → m ≤ ops.size → (List.range m).countP (fun j => (listed.setIfInBounds i true).getD j false) = (List.range m).countP (fun j => listed.getD j false) + 1 := by
            intro m
            induction m with
            | zero => intro h _; omega
            | succ m ihm =>
             intro h hle
             simp only [List.range_succ, List.countP_append, List.countP_singleton]
             rcases Nat.lt_or_eq_of_le (Nat.lt_succ_iff.1 h) with h' | rfl
             · rw [ihm h' (by omega), g7o _ _ _ _ (by omega)]; omega
             · have same : ∀ m, m ≤ i → (List.range m).countP (fun j => (listed.setIfInBounds i true).getD j false) = (List.range m).countP (fun j => listed.getD j false) := by
                intro m hm
                refine List.countP_congr (fun j hj => ?_)
                rw [g7o _ _ _ _ (by have := List.mem_range.1 hj; omega)]
               rw [same i (Nat.le_refl _), getD_set_same _ _ _ (by omega), hno]
               simp
           exact key ops.size hlt (Nat.le_refl _)
          rw [hc]; omega
        · intro j o' hj hlj e he hb
          by_cases e1 : i = e.on
          · rw [← e1, getD_set_same _ _ _ (by omega)]
          · rw [g7o _ _ _ _ e1]
            by_cases e2 : i = j
            · subst e2
              rw [ho] at hj; cases hj
              exact hdep o ho e he hb
            · rw [g7o _ _ _ _ e2] at hlj
              exact hs j o' hj hlj e he hb
        · intro j hkj hj
          rw [g7o _ _ _ _ (by omega)]
          exact hlate j hkj hj
        · have hJ' := hCJ.2
          by_cases e : i = s
          · subst e
            rw [getD_set_same _ _ _ (by omega)]
            simpa using hJ'
          · rw [g7o _ _ _ _ e]
            simpa [e] using hJ'
        · intro j hjk hj hlj
          by_cases e1 : i = j
          · subst e1
            intro o' ho'
            rw [ho] at ho'; cases ho'
            cases hd : o.dst with
            | none => exact ⟨v, hR⟩
            | some d =>
             refine ⟨v, by rw [put_same _ _ _ (by rw [hA.size]; exact factsOk_dst hfo ho hd)], ?_⟩
             rw [← hd]
             exact hloc i o v _ _ _ hik ho (henv i o ho (fun e he hb e1 => by have := factsOk_edge hfo ho he hb; omega) v) hR
          · rw [g7o _ _ _ _ e1] at hlj
            have hk := hK j hjk hj hlj
            intro o' ho'
            have hk' := hk o' ho'
            have hen := henv j o' ho' (fun e he hb e2 => by
             have := hs j o' ho' hlj e he hb
             rw [e2, hno] at this
             cases this) v
            cases hd' : o'.dst with
            | none => rw [hd'] at hk'; obtain ⟨u, hu⟩ := hk'; exact ⟨u, hloc j o' u _ _ _ hjk ho' hen (hsj j _ _ hjk (fun e => e1 e.symm) hu)⟩
            | some d =>
             rw [hd'] at hk'
             obtain ⟨u, hu, hRu⟩ := hk'
             exact ⟨u, by rw [put_other _ _ _ _ (fun hd => factsOk_once hfo ho ho' e1 hd hd')]; exact hu, hloc j o' u _ _ _ hjk ho' hen (hsj j _ _ hjk (fun e => e1 e.symm) hRu)⟩
       unfold StepOk at hso
       unfold wpOpIn
       simp only [ho]
       split
       · rename_i hw
         simp only [hw, if_true] at hso
         exact hso _ hnext
       · rename_i hw
         simp only [hw] at hso
         exact ⟨hso.1, hnext _ _ hso.2 ⟨(by by_cases e : i = s; exact (by simpa [e] using hCr _); exact (by simpa [e] using h00 _)), by
          by_cases e : i = s
          · subst e; exfalso; exact hw (by simp [Region.wanted, hsg o ho])
          · simpa [e] using hJ⟩⟩
     · -- the first of the last ones
       have hbefore := tailOk_before ht hs hik ho (hdep o ho)
       have hik' : i = k := by
        rcases Nat.lt_or_eq_of_le hik with h | h
        · have := hbefore k h; rw [hlate k (Nat.le_refl _) (by omega)] at this; cases this
        · exact h.symm
       subst hik'
       have hl : ∀ j, j < ops.size → listed.getD j false = decide (j < i) := by
        intro j hj
        rcases Nat.lt_or_ge j i with h | h
        · rw [hbefore j h]; simp [h]
        · rw [hlate j h hj]; simp; omega
       have hf' : fuel + 1 + i = ops.size := by
        have : (List.range ops.size).countP (fun j => listed.getD j false) = i := by
         have key : ∀ m, m ≤ ops.size → (List.range m).countP (fun j => listed.getD j false) = min m i := by
          intro m
          induction m with
          | zero => simp
          | succ m ihm =>
           intro hm
           simp only [List.range_succ, List.countP_append, List.countP_singleton]
           rw [ihm (by omega), hl m (by omega)]
           by_cases h : m < i <;> simp [h] <;> omega
         rw [key _ (Nat.le_refl _)]; omega
        omega
       have h := wpAnyIn_tail (F := F) (n := n) (P := P) (Q := Q) hfo ht (fuel + 1) listed i a' w' (Nat.le_refl _) hf' hsz hl (hend a' w' hA hC (by rw [hbefore s hsk] at hJ; exact hJ) (fun j hj hjs => hK j hj hjs (hbefore j hj)))
       exact h.2 i hi
 refine main ops.size _ a w.drew (by simp) ?_ ?_ ?_ (Agree.refl k a) hC0 ?_ ?_
 · have : (List.range ops.size).countP (fun i => (Array.replicate ops.size false).getD i false) = 0 := by
    rw [List.countP_eq_zero]
    intro i hi
    simp [Array.getD_eq_getD_getElem?, List.mem_range.1 hi]
   omega
 · intro i o hi hl
   exfalso
   have hlt : i < ops.size := (Array.getElem?_eq_some_iff.1 hi).1
   simp [Array.getD_eq_getD_getElem?, hlt] at hl
 · intro i _ hi
   simp [Array.getD_eq_getD_getElem?, hi]
 · have : (Array.replicate ops.size false).getD s false = false := by simp [Array.getD_eq_getD_getElem?, hso]
   rw [this]; exact hJ0
 · intro i _ hi hl
   exfalso
   simp [Array.getD_eq_getD_getElem?, hi] at hl
def StepsFromJ (F : Fence) (n : Nat) (P : Program) (ops : Array Oper) (Rl : List (Value → World → Prop)) (C C0 : World → World → Prop) (Q : Exit → Act → World → Prop) (a : Act) (w : World) (s : Nat) (J : Bool → World → Prop) : Nat → List Oper → Prop
 | _, [] => True
 | i, o :: rest => (∀ (a' : Act) (w' : World) (b : Bool), Agree ops Rl.length a a' → C w w' → J b w' → (aheadB ops s i = true → b = false) → (i = s → b = false) → (∀ e ∈ o.after, Region.binds .any e = true → Known (fun i v _ w => factsAt Rl i v w) ops e.on a' w') →
  StepOk F n P ops (fun i v _ w => factsAt Rl i v w) (fun x y => (if i = s then C x y else C0 x y) ∧ J (if i = s then true else b) y) Q i o a' w') ∧
  StepsFromJ F n P ops Rl C C0 Q a w s J (i + 1) rest
theorem stepsFromJ_at {Rl : List (Value → World → Prop)} {C C0 : World → World → Prop} {a : Act} {w : World} {s : Nat} {J : Bool → World → Prop} : ∀ (l : List Oper) (j : Nat), StepsFromJ F n P ops Rl C C0 Q a w s J j l → ∀ (i : Nat) (o : Oper), l[i]? = some o →
 ∀ (a' : Act) (w' : World) (b : Bool), Agree ops Rl.length a a' → C w w' → J b w' → (aheadB ops s (j + i) = true → b = false) → (j + i = s → b = false) → (∀ e ∈ o.after, Region.binds .any e = true → Known (fun i v _ w => factsAt Rl i v w) ops e.on a' w') →
  StepOk F n P ops (fun i v _ w => factsAt Rl i v w) (fun x y => (if j + i = s then C x y else C0 x y) ∧ J (if j + i = s then true else b) y) Q (j + i) o a' w'
 | [], _, _, _, _, hi => by simp at hi
 | o :: rest, j, h, 0, o', hi => by
  simp only [List.getElem?_cons_zero, Option.some.injEq] at hi
  subst hi
  exact h.1
 | o :: rest, j, h, i + 1, o', hi => by
  have := stepsFromJ_at rest (j + 1) h.2 i o' (by simpa using hi)
  rw [Nat.add_assoc, Nat.add_comm 1 i] at this
  exact this
/-- All but fact s are stable under C. -/
def AllStableBut (C C0 : World → World → Prop) (s : Nat) : Nat → List (Value → World → Prop) → Prop
 | _, [] => True
 | i, r :: rs => (∀ v x y, (if i = s then C0 x y else C x y) → r v x → r v y) ∧ AllStableBut C C0 s (i + 1) rs
theorem AllStableBut.at {C C0 : World → World → Prop} {s : Nat} : ∀ {Rl : List (Value → World → Prop)} {m : Nat} (_ : AllStableBut C C0 s m Rl) (i : Nat) (v : Value) (x y : World), (if m + i = s then C0 x y else C x y) → factsAt Rl i v x → factsAt Rl i v y
 | [], _, _, _, _, _, _, _, _ => trivial
 | _ :: _, _, h, 0, v, x, y, hC, hr => h.1 v x y hC hr
 | _ :: _, m, h, i + 1, v, x, y, hC, hr => AllStableBut.at h.2 i v x y (by rw [Nat.add_assoc, Nat.add_comm 1 i]; exact hC) hr
/-- The law, for a walk. -/
theorem wp_region_store {id : Nat} {a : Act} {w : World} (k : Nat) (s : Nat) (J : Bool → World → Prop) (hm : P.follows .mixedOrders = true) (Rl : List (Value → World → Prop)) (C : World → World → Prop) (hk : Rl.length = k)
 (hCr : ∀ x : World, C x x) (hCt : ∀ {x y z : World}, C x y → C y z → C x z) (C0 : World → World → Prop) (h00 : ∀ x, C0 x x) (h0C : ∀ {x y : World}, C0 x y → C x y) (hst : AllStableBut C C0 s 0 Rl)
 (hfo : factsOk ops a.tmps.size = true) (ht : tailOk ops k = true) (hC0 : C w w.drew) (hsk : s < k) (hso : s < ops.size) (hJ0 : J false w.drew) (hsg : (ops[s]?).map (·.guard) = some none)
 (hsteps : StepsFromJ F n P ops Rl C C0 Q a w s J 0 (ops.toList.take k))
 (hend : ∀ w', C w w' → J true w' → EndFrom (fun a' => wpListIn F n P ops Q (ops.toList.drop k) a' w') w' ops.toList Rl a) :
 (Code.region id ops true).wpIn F n P Q a w := by
 subst hk
 refine wpIn_region_store hm Rl.length (fun i v _ w => factsAt Rl i v w) C hCr hCt C0 h00 h0C s (fun i v _ x y _ hne hC => hst.at i v x y (by rw [Nat.zero_add, if_neg hne]; exact hC)) (fun v _ x y hC => hst.at s v x y (by rw [Nat.zero_add, if_pos rfl]; exact hC)) (fun _ _ _ _ _ _ _ _ _ h => h) hfo ht hC0 hsk hso J hJ0 (fun o ho => by rw [ho] at hsg; simpa using hsg) ?_ ?_
 · intro i o hik hi a' w' b hA hC hJ hb1 hb2 hD
   have hi' : (ops.toList.take Rl.length)[i]? = some o := by
    rw [List.getElem?_take_of_lt hik]
    simpa using hi
   have := stepsFromJ_at _ 0 hsteps i o hi' a' w' b hA hC hJ (by rw [Nat.zero_add]; exact hb1) (by rw [Nat.zero_add]; exact hb2) hD
   rw [Nat.zero_add] at this
   exact this
 · intro a' w' hA hC hJ hK
   exact endFrom_of (K := fun a' => wpListIn F n P ops Q (ops.toList.drop Rl.length) a' w') hfo hA.size 0 a rfl hA.defers.symm (by simpa using hend w' hC hJ) hK (fun t ht => hA.slot t (fun i o hil hi => ht i o (Nat.zero_le _) hil hi))
end
end Go.Proofs.YteklfmacnnmomaaGreat
/- The shelf's generic functions at rows of structs, in this seat's words: slices.Equal, slices.Clone. -/
namespace Go.Proofs.YteklfmacnnmomaaGreat
open Go.RowKit Go.Shelf
section rows
variable {α : Type}
/-- The cells of a row. -/
def rowC (enc : α → List Value) (l : List α) (j : Nat) : Value := ((l.flatMap enc)[j]?).getD undef
theorem flat_length {enc : α → List Value} {k : Nat} (hk : ∀ x, (enc x).length = k) (l : List α) : (l.flatMap enc).length = l.length * k := by
 induction l with
 | nil => simp
 | cons x l ih => rw [List.flatMap_cons, List.length_append, ih, hk, List.length_cons, Nat.succ_mul]; omega
theorem flat_get {enc : α → List Value} {k : Nat} (hk : ∀ x, (enc x).length = k) : ∀ (l : List α) (i r : Nat), r < k → (l.flatMap enc)[i * k + r]? = (l[i]?).bind fun x => (enc x)[r]?
 | [], i, r, _ => by simp
 | x :: l, 0, r, hr => by
  rw [List.flatMap_cons, Nat.zero_mul, Nat.zero_add, List.getElem?_append_left (by rw [hk]; exact hr)]
  simp
 | x :: l, i + 1, r, hr => by
  have e : (i + 1) * k + r - k = i * k + r := by rw [Nat.succ_mul]; omega
  rw [List.flatMap_cons, List.getElem?_append_right (by rw [hk, Nat.succ_mul]; omega), hk, e, flat_get hk l i r hr]
  simp
theorem rowElem {enc : α → List Value} {k : Nat} (hk : ∀ x, (enc x).length = k) {w : World} {b off : Nat} {l : List α} (hc : ∀ j, j < l.length * k → w.cell? ⟨b, off + j, none⟩ = some (rowC enc l j)) {i : Nat} {x : α} (hi : l[i]? = some x) :
 ∀ r u, (enc x)[r]? = some u → w.cell? ⟨b, off + i * k + r, none⟩ = some u := by
 intro r u hr
 have hlt : i < l.length := (List.getElem?_eq_some_iff.1 hi).1
 have hrk : r < k := by have := (List.getElem?_eq_some_iff.1 hr).1; rw [hk] at this; exact this
 have hm : i * k + r < l.length * k := by
  have : (i + 1) * k ≤ l.length * k := Nat.mul_le_mul_right k hlt
  rw [Nat.succ_mul] at this
  omega
 have h := hc (i * k + r) hm
 rw [← Nat.add_assoc] at h
 rw [h]
 unfold rowC
 rw [flat_get hk l i r hrk, hi]
 show some (((enc x)[r]?).getD undef) = some u
 rw [hr]
 rfl
theorem ownsRow_rows {enc : α → List Value} {k : Nat} (hk : ∀ x, (enc x).length = k) {w : World} {base : Nat} {e : TypeId} {v : Value} {l : List α} (h : w.ownsRow base e k v l.length (l.flatMap enc)) : Elems w v l.length k (rowC enc l) :=
 ownsRow_elems h fun j hj => by
  unfold rowC
  rw [List.getElem?_eq_getElem (by rw [flat_length hk]; exact hj)]
  rfl
theorem allEq_iff (eq : α → α → Bool) (h : ∀ x y, eq x y = true ↔ x = y) : ∀ l m : List α, Lib.allEq eq l m = true ↔ l = m
 | [], [] => by simp [Lib.allEq]
 | [], _ :: _ => by simp [Lib.allEq]
 | _ :: _, [] => by simp [Lib.allEq]
 | x :: l, y :: m => by simp [Lib.allEq, h, allEq_iff eq h l m]
/-- Whether two rows are alike, where '==' is equality. -/
def sameB [DecidableEq α] (l m : List α) : Bool := decide (l = m)
theorem allEq_sameB [DecidableEq α] (eq : α → α → Bool) (h : ∀ x y, eq x y = true ↔ x = y) (l m : List α) : Lib.allEq eq l m = sameB l m := by
 unfold sameB
 rw [Bool.eq_iff_iff, allEq_iff eq h, decide_eq_true_iff]
theorem below_drewN {n₀ : Nat} {w w' : World} (h : Below n₀ w w') : ∀ q, Below n₀ w (w'.drewN q)
 | 0 => h
 | q + 1 => (below_drewN h q).drew
variable {P : Program} {ρ : Ren}
set_option maxHeartbeats 1000000 in
set_option maxRecDepth 100000 in
theorem eqRows_lens (L : SlLaysQ.n8 P ρ) (a1 a2 : Option Addr) (n c m d : Nat) (w : World) (hne : n ≠ m) : Calls P (ρ.f 8) #[.slice a1 n c, .slice a2 m d] w (Gives (.bool false) w) := by
 have mixed := L.mixed; have t0 := L.t0; have a0 := L.a0; have z0 := L.z0; have v0 := L.v0; have t3 := L.t3; have a3 := L.a3; have z3 := L.z3; have v3 := L.v3; have t4 := L.t4; have a4 := L.a4; have z4 := L.z4; have v4 := L.v4; have t22 := L.t22; have a22 := L.a22; have z22 := L.z22; have v22 := L.v22
 have hnm' : ¬ (n : Int) = (m : Int) := by omega
 obtain ⟨_, _, FG⟩ := L.f8
 go_enter FG, SlBodyQ.n8_ntmps ρ
 go_wp2
 go_ret
 exact ⟨rfl, Below.refl _ _⟩
set_option maxHeartbeats 1000000 in
set_option maxRecDepth 100000 in
theorem eqRows_none (L : SlLaysQ.n8 P ρ) (a1 a2 : Option Addr) (c d : Nat) (w : World) : Calls P (ρ.f 8) #[.slice a1 0 c, .slice a2 0 d] w (Gives (.bool true) w) := by
 have mixed := L.mixed; have t0 := L.t0; have a0 := L.a0; have z0 := L.z0; have v0 := L.v0; have t3 := L.t3; have a3 := L.a3; have z3 := L.z3; have v3 := L.v3; have t4 := L.t4; have a4 := L.a4; have z4 := L.z4; have v4 := L.v4; have t22 := L.t22; have a22 := L.a22; have z22 := L.z22; have v22 := L.v22
 obtain ⟨_, _, FG⟩ := L.f8
 go_enter FG, SlBodyQ.n8_ntmps ρ
 go_wp2
 go_loopw [13] (fun i wr => i = .int .i64 0 ∧ w = wr) (fun _ _ => 0)
 case atStart => exact ⟨rfl, rfl⟩
 case round =>
  obtain ⟨rfl, rfl⟩ := hrel
  go_wp2
  go_ret
  exact ⟨rfl, Below.refl _ _⟩
/-- slices.Equal at rows of structs. -/
theorem eqRows [Inhabited α] (L : SlLaysQ.n8 P ρ) (k : Nat) (aE : ∀ w, (isAgg (ρ.t 24)).run P w = .ok true w) (zE : ∀ w, (Go.sizeOf (ρ.t 24)).run P w = .ok k w) (enc : α → List Value) (hk : ∀ x, (enc x).length = k) (eq : α → α → Bool) (hne : NeqAt P (ρ.t 24) (fun x => .agg (enc x).toArray) eq)
 (s1 s2 : Value) (l m : List α) (w : World) (h1 : Elems w s1 l.length k (rowC enc l)) (h2 : Elems w s2 m.length k (rowC enc m)) (hl : l.length ≤ 1000000000) : Calls P (ρ.f 8) #[s1, s2] w (Gives (.bool (Lib.allEq eq l m)) w) := by
 obtain ⟨a1, c1, rfl, g1⟩ := h1.shape
 obtain ⟨a2, c2, rfl, g2⟩ := h2.shape
 by_cases hlen : l.length = m.length
 · by_cases h0 : l.length = 0
   · have e1 : l = [] := List.length_eq_zero_iff.1 h0
     have e2 : m = [] := List.length_eq_zero_iff.1 (hlen ▸ h0)
     subst e1; subst e2
     exact eqRows_none L a1 a2 c1 c2 w
   · obtain ⟨b1, o1, rfl, hl1, hc1⟩ := g1.resolve_left h0
     obtain ⟨b2, o2, rfl, hl2, hc2⟩ := g2.resolve_left (by omega)
     have key : ∀ (b off : Nat) (l : List α), (∀ j, j < l.length * k → w.cell? ⟨b, off + j, none⟩ = some (rowC enc l j)) → ∀ j, j < l.length → ∀ i v, (enc l[j]!)[i]? = some v → w.cell? ⟨b, off + j * k + i, none⟩ = some v := by
      intro b off l hc j hj
      exact rowElem hk hc (x := l[j]!) (by rw [getElem!_pos l j hj, List.getElem?_eq_getElem hj])
     refine (AnyQ.slices_Equal L k aE zE enc hk eq hne b1 o1 l.length c1 b2 o2 m.length c2 l m w (Nat.le_refl _) (Nat.le_refl _) (by omega) (by omega) (key _ _ _ hc1) (key _ _ _ hc2)).mono ?_
     rintro e w' ⟨rfl, q, rfl⟩
     refine ⟨by rw [List.take_length, List.take_length], ?_⟩
     exact below_drewN (Below.refl _ _) q
 · rw [Lib.allEq_len eq l m hlen]
   exact eqRows_lens L a1 a2 _ _ _ _ w hlen
/-- A slice that is a new row, nil just where the old one was. -/
def Cloned (E size n : Nat) (xs : List Value) (sv : Value) (w : World) (e : Ending) (w' : World) : Prop := ∃ v, e = .returned v ∧ w'.ownsRow w.heap.size E size v n xs ∧ (sv = .slice none 0 0 → v = .slice none 0 0) ∧ Below w.heap.size w w'
/-- slices.Clone. -/
theorem cloneRows (L : SlLaysE0.n41 P ρ) (i0 : TypeInfo) (z : Value) (k bytes : Nat) (hi : P.info? (ρ.t 23) = some i0) (hz0 : i0.zero = some z) (hz1 : i0.size = k) (hz2 : i0.bytes = bytes) (hzs : z.cells.size = k) (hsz : 0 < k)
 (z23 : ∀ w, (Go.sizeOf (ρ.t 23)).run P w = .ok k w) (enc : α → List Value) (hk : ∀ x, (enc x).length = k) (h1 : ∀ x, ∀ u ∈ enc x, u.oneCell' = true) (sv : Value) (l : List α) (w : World) (he : Elems w sv l.length k (rowC enc l)) (hl : l.length ≤ 1000000000) (hb : l.length * bytes ≤ 140737488355328) :
 Calls P (ρ.f 41) #[sv] w (Cloned (ρ.t 23) k l.length (l.flatMap enc) sv w) := by
 rcases he with ⟨rfl, h0⟩ | ⟨b, off, cap, rfl, hlt, hc⟩
 · refine (AnyE.slices_Clone_nil L 0 0 w).mono ?_
   rintro e w' ⟨rfl, rfl⟩
   have e1 : l = [] := List.length_eq_zero_iff.1 h0
   subst e1
   exact ⟨_, rfl, World.ownsRow_nil _ _ _ _, fun _ => rfl, Below.refl _ _⟩
 · refine (AnyE.slices_Clone L i0 z k bytes hi hz0 hz1 hz2 hzs hsz z23 b off l.length cap (l.flatMap enc) w (flat_length hk l) (by unfold maxLen; omega) hb ?_ ?_).mono ?_
   · intro j u hj
     have hjl : j < l.length * k := by rw [← flat_length hk l]; exact (List.getElem?_eq_some_iff.1 hj).1
     rw [hc j hjl]
     unfold rowC
     rw [hj]
     rfl
   · intro u hu
     obtain ⟨x, _, hx⟩ := List.mem_flatMap.1 hu
     exact h1 x u hx
   · rintro e w' ⟨v', rfl, hown, hnn, hbl⟩
     exact ⟨v', rfl, hown, fun e => by simp at e, hbl⟩
end rows
end Go.Proofs.YteklfmacnnmomaaGreat
/- What a walk keeps: blocks of its own, and rows that it reads. -/
namespace Go.Proofs.YteklfmacnnmomaaGreat
open Go.RowKit Go.Shelf
/-- A thing that is kept: a block, or a row that is read, whose block lies below a place. -/
inductive It where
 | blk (b : Nat) (o : Obj)
 | row (v : Value) (n size : Nat) (c : Nat → Value) (hi : Nat)
/-- The slice's block lies below. -/
def InB (v : Value) (hi : Nat) : Prop := ∀ ad n c, v = .slice (some ad) n c → n = 0 ∨ ad.block < hi
def It.ok (w : World) : It → Prop
 | .blk b o => w.heap[b]? = some o
 | .row v n size c hi => Elems w v n size c ∧ InB v hi
def It.top : It → Nat
 | .blk b _ => b + 1
 | .row _ _ _ _ hi => hi
/-- A block lies behind all that came ahead of it. -/
def ItOrd (w0 : World) : List It → Prop
 | [] => True
 | .blk b _ :: r => w0.heap.size ≤ b ∧ (∀ j ∈ r, j.top ≤ b) ∧ ItOrd w0 r
 | .row _ _ _ _ _ :: r => ItOrd w0 r
/-- Below w0 nothing has changed; these things are kept, the newest first. -/
structure St (w0 : World) (its : List It) (w : World) : Prop where
 low : Below w0.heap.size w0 w
 ok : ∀ i ∈ its, i.ok w
 ord : ItOrd w0 its
 top : ∀ i ∈ its, i.top ≤ w.heap.size
theorem It.ok_below {i : It} {x y : World} (h : i.ok x) (k : Below x.heap.size x y) : i.ok y := by
 cases i with
 | blk b o => exact (k.block _ (b7t h)).trans h
 | row v n size c hi => exact ⟨h.1.below k, h.2⟩
theorem InB.of {w : World} {v : Value} {n size : Nat} {c : Nat → Value} (h : Elems w v n size c) : InB v w.heap.size := by
 intro ad m cc e
 rcases h with ⟨rfl, _⟩ | ⟨b, off, cap, rfl, hlt, _⟩
 · cases e
 · cases e; exact .inr hlt
namespace St
variable {w0 x y : World} {its : List It}
theorem start (w : World) : St w [] w := ⟨Below.refl _ _, by simp, trivial, by simp⟩
theorem below (h : St w0 its x) (k : Below x.heap.size x y) : St w0 its y :=
 ⟨h.low.trans (k.mono h.low.size), fun i hi => It.ok_below (h.ok i hi) k, h.ord, fun i hi => Nat.le_trans (h.top i hi) k.size⟩
theorem alloc (h : St w0 its x) (o : Obj) : St w0 (.blk x.heap.size o :: its) (x.alloc o) := by
 have h' := h.below ((Below.refl _ _).alloc (Nat.le_refl _) o)
 refine ⟨h'.low, fun i hi => ?_, ⟨h.low.size, h.top, h.ord⟩, fun i hi => ?_⟩
 · rcases List.mem_cons.1 hi with rfl | hi
   · exact World.alloc_heap_new x o
   · exact h'.ok i hi
 · rcases List.mem_cons.1 hi with rfl | hi
   · simp [It.top]
   · exact h'.top i hi
theorem addRow (h : St w0 its x) {v : Value} {n size : Nat} {c : Nat → Value} (he : Elems x v n size c) : St w0 (.row v n size c x.heap.size :: its) x := by
 refine ⟨h.low, fun i hi => ?_, h.ord, fun i hi => ?_⟩
 · rcases List.mem_cons.1 hi with rfl | hi
   · exact ⟨he, InB.of he⟩
   · exact h.ok i hi
 · rcases List.mem_cons.1 hi with rfl | hi
   · exact Nat.le_refl _
   · exact h.top i hi
theorem blockAt (h : St w0 its x) (i : Nat) {b : Nat} {o : Obj} (hi : its[i]? = some (.blk b o)) : x.heap[b]? = some o := h.ok _ (List.mem_of_getElem? hi)
theorem elems (h : St w0 its x) (i : Nat) {v : Value} {n size : Nat} {c : Nat → Value} {hi' : Nat} (hi : its[i]? = some (.row v n size c hi')) : Elems x v n size c := (h.ok _ (List.mem_of_getElem? hi)).1
theorem lt (h : St w0 its x) (i : Nat) {b : Nat} {o : Obj} (hi : its[i]? = some (.blk b o)) : b < x.heap.size := b7t (h.blockAt i hi)
theorem size (h : St w0 its x) : w0.heap.size ≤ x.heap.size := h.low.size
theorem drop1 {i : It} (h : St w0 (i :: its) x) : St w0 its x := ⟨h.low, fun j hj => h.ok j (by simp [hj]), by have := h.ord; cases i with | blk b o => exact this.2.2 | row v n s c hi => exact this, fun j hj => h.top j (by simp [hj])⟩
theorem ord_low : ∀ {pre post : List It} {p : Nat} {o : Obj}, ItOrd w0 (pre ++ .blk p o :: post) → w0.heap.size ≤ p ∧ (∀ j ∈ post, j.top ≤ p) ∧ (∀ b ob, .blk b ob ∈ pre → p < b)
 | [], _, _, _, h => ⟨h.1, h.2.1, by simp⟩
 | .blk b ob :: pre, post, p, o, h => by
  obtain ⟨h1, h2, h3⟩ := ord_low (pre := pre) h.2.2
  refine ⟨h1, h2, fun b' ob' hm => ?_⟩
  rcases List.mem_cons.1 hm with e | hm
  · cases e
    have := h.2.1 (.blk p o) (by simp)
    simp [It.top] at this
    omega
  · exact h3 b' ob' hm
 | .row _ _ _ _ _ :: pre, post, p, o, h => by
  obtain ⟨h1, h2, h3⟩ := ord_low (pre := pre) h
  refine ⟨h1, h2, fun b' ob' hm => ?_⟩
  rcases List.mem_cons.1 hm with e | hm
  · cases e
  · exact h3 b' ob' hm
theorem ord_set {p : Nat} {o o' : Obj} : ∀ {pre post : List It}, ItOrd w0 (pre ++ .blk p o :: post) → ItOrd w0 (pre ++ .blk p o' :: post)
 | [], _, h => h
 | .blk b ob :: pre, post, h => by
  refine ⟨h.1, fun j hj => ?_, ord_set (pre := pre) h.2.2⟩
  rcases List.mem_append.1 hj with hj | hj
  · exact h.2.1 j (List.mem_append.2 (.inl hj))
  · rcases List.mem_cons.1 hj with rfl | hj
    · exact h.2.1 (.blk p o) (by simp)
    · exact h.2.1 j (List.mem_append.2 (.inr (by simp [hj])))
 | .row _ _ _ _ _ :: pre, post, h => ord_set (pre := pre) h
/-- A block is written; what came behind it are blocks. -/
theorem set {pre post : List It} {p : Nat} {o o' : Obj} (h : St w0 (pre ++ .blk p o :: post) x) (hpre : ∀ i ∈ pre, ∃ b ob, i = .blk b ob) (hp : y.heap[p]? = some o') (hne : ∀ k, k ≠ p → y.heap[k]? = x.heap[k]?) (hl : Below p x y) :
 St w0 (pre ++ .blk p o' :: post) y := by
 obtain ⟨h1, h2, h3⟩ := ord_low h.ord
 refine ⟨h.low.trans (hl.mono h1), fun i hi => ?_, ord_set h.ord, fun i hi => ?_⟩
 · rcases List.mem_append.1 hi with hi | hi
   · obtain ⟨b, ob, rfl⟩ := hpre i hi
     have := h3 b ob hi
     exact (hne b (by omega)).trans (h.ok _ (List.mem_append.2 (.inl hi)))
   · rcases List.mem_cons.1 hi with rfl | hi
     · exact hp
     · have ht := h2 i hi
       have hok := h.ok i (List.mem_append.2 (.inr (by simp [hi])))
       cases i with
       | blk b ob => exact (hne b (by simp [It.top] at ht; omega)).trans hok
       | row v n size c hi' =>
        refine ⟨?_, hok.2⟩
        rcases hok.1 with e | ⟨b, off, cap, rfl, hlt, hc⟩
        · exact .inl e
        · by_cases hn : n = 0
          · subst hn
            exact .inr ⟨b, off, cap, rfl, Nat.lt_of_lt_of_le hlt hl.size, fun j hj => by omega⟩
          · have hb := (hok.2 _ _ _ rfl).resolve_left hn
            simp [It.top] at ht
            exact .inr ⟨b, off, cap, rfl, Nat.lt_of_lt_of_le hlt hl.size, fun j hj => (hl.cell (p := ⟨b, off + j, none⟩) (show b < p by simp at hb; omega)).trans (hc j hj)⟩
 · have : i.top ≤ x.heap.size := by
    rcases List.mem_append.1 hi with hi | hi
    · exact h.top i (List.mem_append.2 (.inl hi))
    · rcases List.mem_cons.1 hi with rfl | hi
      · exact h.top (.blk p o) (by simp)
      · exact h.top i (List.mem_append.2 (.inr (by simp [hi])))
   exact Nat.le_trans this hl.size
end St
/-- The first ones of a row. -/
theorem Elems.take {α : Type} {enc : α → List Value} {k : Nat} (hk : ∀ x, (enc x).length = k) {w : World} {a : Option Addr} {n m cap : Nat} {l : List α} (hn : l.length = n) (h : Elems w (.slice a n cap) n k (rowC enc l)) (hm : m ≤ n) : Elems w (.slice a m cap) m k (rowC enc (l.take m)) := by
 rcases h with ⟨e, h0⟩ | ⟨b, off, cap', e, hlt, hc⟩
 · cases e
   obtain rfl : m = 0 := by omega
   exact .inl ⟨rfl, rfl⟩
 · cases e
   refine .inr ⟨b, off, cap, rfl, hlt, fun j hj => ?_⟩
   have hjn : j < n * k := Nat.lt_of_lt_of_le hj (Nat.mul_le_mul_right k hm)
   rw [hc j hjn]
   unfold rowC
   have e1 : (l.take m).flatMap enc = (l.flatMap enc).take (m * k) := by
    have h1 : l.flatMap enc = (l.take m).flatMap enc ++ (l.drop m).flatMap enc := by rw [← List.flatMap_append, List.take_append_drop]
    have h2 : ((l.take m).flatMap enc).length = m * k := by rw [flat_length hk, List.length_take, Nat.min_eq_left (by omega)]
    rw [h1, ← h2, List.take_left]
   rw [e1, List.getElem?_take_of_lt hj]
/- Iterators that keep blocks of their own between two rounds: what a body must keep. -/
/-- Which blocks a body writes hangs on what lies below N0 alone. -/
def OwnSt (own : World → Nat → Prop) (N0 : Nat) : Prop := ∀ (A B : World), (∀ k, k < N0 → B.heap[k]? = A.heap[k]?) → ∀ q, own B q ↔ own A q
/-- What a round keeps: the blocks of a list, and whatever cells of N0 and above are not the body's. -/
structure KO (own : World → Nat → Prop) (bs : List Nat) (N0 : Nat) (A B : World) : Prop where
 size : A.heap.size ≤ B.heap.size
 at_ : KeepsAt bs A B
 wf : (∀ q, own A q → q < A.heap.size) → ∀ q, own B q → q < B.heap.size
 rest : ∀ (q : Nat) (o : Obj), N0 ≤ q → A.heap[q]? = some o → o.isCells = true → ¬ own A q → ¬ own B q ∧ B.heap[q]? = some o
theorem KO.trans {own : World → Nat → Prop} {bs : List Nat} {N0 : Nat} {A B C : World} (h : KO own bs N0 A B) (k : KO own bs N0 B C) : KO own bs N0 A C :=
 ⟨Nat.le_trans h.size k.size, h.at_.trans k.at_, fun hw => k.wf (h.wf hw), fun q o hq ho hc hn => by
  obtain ⟨h1, h2⟩ := h.rest q o hq ho hc hn
  exact k.rest q o hq h2 hc h1⟩
theorem KO.refl (own : World → Nat → Prop) (bs : List Nat) (N0 : Nat) (A : World) : KO own bs N0 A A := ⟨Nat.le_refl _, KeepsAt.refl _ _, fun h => h, fun _ _ _ ho _ hn => ⟨hn, ho⟩⟩
theorem below_grown {x y : World} (h : Below x.heap.size x y) : x.grownBy y none := ⟨h.os, h.tape, h.output, h.size, fun k hk _ => h.block k hk⟩
theorem cell_lt {w : World} {a : Addr} {v : Value} (h : w.cell? a = some v) : a.block < w.heap.size := by
 rcases Nat.lt_or_ge a.block w.heap.size with h1 | h1
 · exact h1
 · simp [World.cell?, Array.getElem?_eq_none h1] at h
/-- A body that writes one block below N0, and grows. -/
theorem KO.of_fixed {bs : List Nat} {N0 : Nat} {A B : World} (hs : A.heap.size ≤ B.heap.size) (hb : KeepsAt bs A B) (h : ∀ (q : Nat) (o : Obj), N0 ≤ q → A.heap[q]? = some o → B.heap[q]? = some o) : KO (fun _ _ => False) bs N0 A B :=
 ⟨hs, hb, fun _ _ h => h.elim, fun q o hq ho _ hn => ⟨hn, h q o hq ho⟩⟩
theorem KO.putObj {own : World → Nat → Prop} {bs : List Nat} {N0 n : Nat} (ho : OwnSt own N0) (hN : N0 ≤ n) (hbs : ∀ b ∈ bs, b < n) (W : World) (l : Nat) (o o' : Obj) (hl : n ≤ l) (h : W.heap[l]? = some o) (hc : o.isCells = false) : KO own bs N0 W (W.putObj l o') := by
 have hg := grownBy_putObj' W l o'
 have h1 := (Array.getElem?_eq_some_iff.1 h).1
 have e := ho W (W.putObj l o') (fun k hk => hg.block k (by omega) (fun e => by cases e; omega))
 refine ⟨hg.size, fun b hb => hg.block b (by have := hbs b hb; omega) (fun e => by have := hbs b hb; cases e; omega), fun hw q hq => Nat.lt_of_lt_of_le (hw q ((e q).1 hq)) hg.size, fun q ob _ hq hqc hn => ⟨fun h => hn ((e q).1 h), ?_⟩⟩
 by_cases eq : q = l
 · subst eq; rw [h] at hq; cases hq; rw [hc] at hqc; cases hqc
 · exact (hg.block q (b7t hq) (fun e => eq (by cases e; rfl))).trans hq
/-- A block that is written, behind blocks alone. -/
theorem St.putAt {w0 x : World} {p : Nat} {c c' : Array Value} {t : TypeId} {f : Nat × Nat} {pre post : List It} (h : St w0 (pre ++ .blk p (.cells c t f) :: post) x) (hpre : ∀ i ∈ pre, ∃ b ob, i = .blk b ob) (k : Nat) (v : Value) (hc : c.setIfInBounds k v = c') :
 St w0 (pre ++ .blk p (.cells c' t f) :: post) (x.setCell ⟨p, k, none⟩ v) := by
 subst hc
 have hp : x.heap[p]? = some (.cells c t f) := h.ok (.blk p (.cells c t f)) (List.mem_append.2 (.inr (by simp)))
 exact St.set h hpre (h7s hp v) (fun j hj => Below.heap_setCell x ⟨p, k, none⟩ v j hj) ((Below.refl _ _).setCell (p := ⟨p, k, none⟩) (Nat.le_refl _) v)
theorem KO.setCell {bs : List Nat} {N0 : Nat} (W : World) (p k : Nat) (v : Value) (hp : p < N0) (hb : p ∉ bs) : KO (fun _ _ => False) bs N0 W (W.setCell ⟨p, k, none⟩ v) :=
 KO.of_fixed (by rw [World.size_setCell]; exact Nat.le_refl _) (fun b hb' => Below.heap_setCell W ⟨p, k, none⟩ v b (fun e => hb (by rw [← show b = p from e]; exact hb'))) (fun q o hq ho => (Below.heap_setCell W ⟨p, k, none⟩ v q (by simp only; omega)).trans ho)
/-- What is kept abides the iterator. -/
theorem ownFrom_St {β : Type} {B : Nat} {w0 : World} (its : β → List It) (hB : w0.heap.size ≤ B) (hc : ∀ s b o, .blk b o ∈ its s → o.isCells = true) : OwnFrom B (fun s W => St w0 (its s) W) := by
 intro s W W' row h hg hr
 have hr' : ∀ r, row = some r → ∃ o : Obj, W.heap[r]? = some o ∧ o.isCells = false := fun r e => (hr r e).2
 refine ⟨h.low.grown hg h.low.size (fun j e => Nat.le_trans hB (hr j e).1), fun i hi => ?_, h.ord, fun i hi => Nat.le_trans (h.top i hi) hg.size⟩
 have hok := h.ok i hi
 cases i with
 | blk b o => exact (grownBy_keeps_cells hg hr' hok (hc s b o hi)).trans hok
 | row v n size c hi' =>
  refine ⟨?_, hok.2⟩
  rcases hok.1 with e | ⟨b, off, cap, rfl, hlt, hcs⟩
  · exact .inl e
  · exact .inr ⟨b, off, cap, rfl, Nat.lt_of_lt_of_le hlt hg.size, fun j hj => cell_kept (hcs j hj) hg hr'⟩
/-- Nothing that was there has turned, but for some blocks. -/
structure Turned (S : Nat → Prop) (x y : World) : Prop where
 os : y.os = x.os
 tape : y.tape = x.tape
 output : y.output = x.output
 size : x.heap.size ≤ y.heap.size
 block : ∀ k, k < x.heap.size → ¬ S k → y.heap[k]? = x.heap[k]?
theorem Turned.of_grown {x y : World} {row : Option Nat} (h : x.grownBy y row) : Turned (fun k => some k = row) x y := ⟨h.os, h.tape, h.output, h.size, fun k hk hn => h.block k hk hn⟩
theorem Turned.trans {S S' : Nat → Prop} {x y z : World} (h : Turned S x y) (k : Turned S' y z) : Turned (fun i => S i ∨ S' i) x z :=
 ⟨k.os.trans h.os, k.tape.trans h.tape, k.output.trans h.output, Nat.le_trans h.size k.size, fun i hi hn => (k.block i (Nat.lt_of_lt_of_le hi h.size) (fun h => hn (.inr h))).trans (h.block i hi (fun h => hn (.inl h)))⟩
theorem Turned.below {S : Nat → Prop} {x y : World} (h : Turned S x y) {n : Nat} (hn : n ≤ x.heap.size) (hS : ∀ k, S k → n ≤ k) : Below n x y := ⟨h.os, h.tape, h.output, h.size, fun k hk => h.block k (by omega) (fun hs => by have := hS k hs; omega)⟩
theorem Turned.mono {S S' : Nat → Prop} {x y : World} (h : Turned S x y) (hs : ∀ k, k < x.heap.size → S k → S' k) : Turned S' x y := ⟨h.os, h.tape, h.output, h.size, fun k hk hn => h.block k hk (fun h => hn (hs k hk h))⟩
theorem Turned.refl (S : Nat → Prop) (x : World) : Turned S x x := ⟨rfl, rfl, rfl, Nat.le_refl _, fun _ _ _ => rfl⟩
/- append, of a source that may be nil; onto an empty row without room. -/
section
variable {P : Program} {w : World}
end
end Go.Proofs.YteklfmacnnmomaaGreat
/- A row of the call's own that grows, beside the things that are kept. -/
namespace Go.Proofs.YteklfmacnnmomaaGreat
open Go.RowKit Go.Shelf
/-- What append asks of a slice type. -/
structure RowT (P : Program) (t e : TypeId) (k bytes : Nat) : Prop where
 un : P.underlying t = some (.slice e)
 info : ∃ i z, P.info? e = some i ∧ i.zero = some z ∧ i.size = k ∧ i.bytes = bytes ∧ z.cells.size = k
 pos : 0 < k
theorem RowT.of {P : Program} {t e : TypeId} {k bytes : Nat} {z : Value} (un : P.underlying t = some (.slice e)) (inf : (P.info? e).map (fun i => (i.zero, i.size, i.bytes)) = some (some z, k, bytes)) (hz : z.cells.size = k) (pos : 0 < k) : RowT P t e k bytes := by
 obtain ⟨i, h1, h2, h3, h4⟩ := info_parts inf
 exact ⟨un, ⟨i, z, h1, h2, h3, h4, hz⟩, pos⟩
theorem St.grown {w0 x y : World} {its : List It} (h : St w0 its x) {base : Nat} {row : Option Nat} (hrow : ∀ j, row = some j → base ≤ j) (hb : w0.heap.size ≤ base) (ht : ∀ i ∈ its, i.top ≤ base) (hg : x.grownBy y row) : St w0 its y := by
 have hblk : ∀ j, j < x.heap.size → j < base → y.heap[j]? = x.heap[j]? := fun j hj hjb => hg.block j hj (fun e => by have := hrow j e.symm; omega)
 refine ⟨h.low.grown hg h.low.size (fun j e => by have := hrow j e; omega), fun i hi => ?_, h.ord, fun i hi => Nat.le_trans (h.top i hi) hg.size⟩
 have hok := h.ok i hi
 have hti := ht i hi
 have htx := h.top i hi
 cases i with
 | blk b o =>
  simp only [It.top] at hti htx
  exact (hblk b (by omega) (by omega)).trans hok
 | row v n size c hi' =>
  refine ⟨?_, hok.2⟩
  rcases hok.1 with e | ⟨b, off, cap, rfl, hlt, hc⟩
  · exact .inl e
  · refine .inr ⟨b, off, cap, rfl, Nat.lt_of_lt_of_le hlt hg.size, fun j hj => ?_⟩
    by_cases hn : n = 0
    · subst hn; omega
    · have hbb := (hok.2 _ _ _ rfl).resolve_left hn
      simp only [It.top] at hti hbb
      rw [← hc j hj]
      exact World.cell?_of_block (hblk b hlt (by omega))
section
variable {α : Type}
/-- Things that are kept, and a row of the call's own that grows. -/
structure StO (w0 : World) (its : List It) (base : Nat) (e : TypeId) (k : Nat) (enc : α → List Value) (v : Value) (L : List α) (x : World) : Prop where
 st : St w0 its x
 row : x.ownsRow base e k v L.length (L.flatMap enc)
 low : w0.heap.size ≤ base
 top : ∀ i ∈ its, i.top ≤ base
 hi : base ≤ x.heap.size
variable {w0 x y : World} {its : List It} {base : Nat} {e : TypeId} {k : Nat} {enc : α → List Value} {v : Value} {L : List α}
theorem StO.start (h : St w0 its x) (e : TypeId) (k : Nat) (enc : α → List Value) : StO w0 its x.heap.size e k enc (.slice none 0 0) [] x :=
 ⟨h, World.ownsRow_nil _ _ _ _, h.size, h.top, Nat.le_refl _⟩
theorem StO.below (h : StO w0 its base e k enc v L x) (hb : Below x.heap.size x y) : StO w0 its base e k enc v L y :=
 ⟨h.st.below hb, ownsRow_below h.row hb, h.low, h.top, Nat.le_trans h.hi hb.size⟩
theorem StO.shape (h : StO w0 its base e k enc v L x) : ∃ a cap, v = .slice a L.length cap ∧ (L.length = 0 ∨ ∃ g, a = some ⟨g, 0, none⟩) := by
 rcases h.row.2 with ⟨rfl, h0⟩ | ⟨g, cap, cur, rfl, _⟩
 · exact ⟨none, 0, by rw [h0], .inl h0⟩
 · exact ⟨_, cap, rfl, .inr ⟨g, rfl⟩⟩
theorem StO.elems (h : StO w0 its base e k enc v L x) (hk : ∀ q, (enc q).length = k) : Elems x v L.length k (rowC enc L) := ownsRow_rows hk h.row
variable {P : Program} {t : TypeId} {bytes : Nat}
end
end Go.Proofs.YteklfmacnnmomaaGreat
/- Rows of the call's own, more: what append leaves alone; an element that is written. -/
namespace Go.Proofs.YteklfmacnnmomaaGreat
open Go.RowKit Go.Shelf
theorem g7c (W : World) (b k : Nat) (v : Value) : W.grownBy (W.setCell ⟨b, k, none⟩ v) (some b) :=
 ⟨rfl, rfl, rfl, by rw [World.size_setCell]; exact Nat.le_refl _, fun j _ hj => Below.heap_setCell _ _ _ j (fun e => hj (by rw [e]))⟩
theorem grownTrans {a b c : World} {row : Option Nat} (h : a.grownBy b row) (k : b.grownBy c row) : a.grownBy c row :=
 ⟨k.os.trans h.os, k.tape.trans h.tape, k.output.trans h.output, Nat.le_trans h.size k.size, fun i hi hr => (k.block i (Nat.lt_of_lt_of_le hi h.size) hr).trans (h.block i hi hr)⟩
section
variable {w : World} {base : Nat} {e : TypeId} {size : Nat} {g n cap : Nat} {xs : List Value}
theorem ownsRow_set (h : w.ownsRow base e size (.slice (some ⟨g, 0, none⟩) n cap) n xs) (j : Nat) (hj : j < n * size) (u : Value) : (w.setCell ⟨g, j, none⟩ u).ownsRow base e size (.slice (some ⟨g, 0, none⟩) n cap) n (xs.set j u) := by
 refine ⟨by rw [List.length_set]; exact h.1, ?_⟩
 rcases h.2 with ⟨e1, _⟩ | ⟨g', cap', cur, e1, hb, hg, h1, h2, h3, h4⟩
 · cases e1
 · cases e1
   refine .inr ⟨g, cap, cur.setIfInBounds j u, rfl, hb, h7s hg u, h1, h2, by simpa using h3, ?_⟩
   rw [← h4, Array.toList_setIfInBounds, List.take_set]
theorem ownsRow_free (h : w.ownsRow base e size (.slice (some ⟨g, 0, none⟩) n cap) n xs) (j : Nat) : w.frozen? ⟨g, j, none⟩ = false := by
 rcases h.2 with ⟨e1, _⟩ | ⟨g', cap', cur, e1, hb, hg, _⟩
 · cases e1
 · cases e1; exact f7b hg j
theorem ownsRow_cell (h : w.ownsRow base e size (.slice (some ⟨g, 0, none⟩) n cap) n xs) {j : Nat} {u : Value} (hu : xs[j]? = some u) : w.cell? ⟨g, j, none⟩ = some u := by
 rcases h.2 with ⟨e1, _⟩ | ⟨g', cap', cur, e1, hb, hg, h1, h2, h3, h4⟩
 · cases e1
 · cases e1
   refine c7b hg ?_
   rw [← h4] at hu
   have hlt : j < n * size := by
    have := (List.getElem?_eq_some_iff.1 hu).1
    simp at this
    omega
   rw [List.getElem?_take_of_lt hlt] at hu
   simpa using hu
theorem ownsRow_block (h : w.ownsRow base e size (.slice (some ⟨g, 0, none⟩) n cap) n xs) : base ≤ g ∧ g < w.heap.size ∧ ∃ cur, w.heap[g]? = some (.cells cur e (0, 0)) := by
 rcases h.2 with ⟨e1, _⟩ | ⟨g', cap', cur, e1, hb, hg, _⟩
 · cases e1
 · cases e1; exact ⟨hb, b7t hg, cur, hg⟩
end
theorem flatMap_set {α : Type} {enc : α → List Value} {k : Nat} (hk : ∀ q, (enc q).length = k) : ∀ (L : List α) (j : Nat) (q q' : α) (c : Nat) (u : Value), L[j]? = some q → c < k → (enc q).set c u = enc q' → (L.set j q').flatMap enc = (L.flatMap enc).set (j * k + c) u
 | [], _, _, _, _, _, h, _, _ => by simp at h
 | x :: L, 0, q, q', c, u, h, hc, hs => by
  simp only [List.getElem?_cons_zero, Option.some.injEq] at h
  subst h
  simp only [List.set_cons_zero, List.flatMap_cons, Nat.zero_mul, Nat.zero_add]
  rw [← hs, List.set_append_left _ _ (by rw [hk]; exact hc)]
 | x :: L, j + 1, q, q', c, u, h, hc, hs => by
  simp only [List.getElem?_cons_succ] at h
  simp only [List.set_cons_succ, List.flatMap_cons]
  rw [flatMap_set hk L j q q' c u h hc hs, List.set_append_right _ _ (by rw [hk, Nat.add_one_mul]; omega), hk]
  congr 2
  rw [Nat.add_one_mul]; omega
section
variable {α : Type} {w0 x y : World} {its : List It} {base : Nat} {e : TypeId} {k : Nat} {enc : α → List Value} {v : Value} {L : List α}
/-- An element's cell is written. -/
theorem StO.set {g n cap : Nat} (h : StO w0 its base e k enc (.slice (some ⟨g, 0, none⟩) n cap) L x) (hk : ∀ q, (enc q).length = k) (j : Nat) (q q' : α) (c : Nat) (u : Value) (hq : L[j]? = some q) (hc : c < k) (hs : (enc q).set c u = enc q') :
 StO w0 its base e k enc (.slice (some ⟨g, 0, none⟩) n cap) (L.set j q') (x.setCell ⟨g, j * k + c, none⟩ u) := by
 have hn : n = L.length := by
  rcases h.row.2 with ⟨e1, _⟩ | ⟨g', cap', cur, e1, _⟩
  · cases e1
  · cases e1; rfl
 subst hn
 have hb := ownsRow_block h.row
 have hj := (List.getElem?_eq_some_iff.1 hq).1
 have hlt : j * k + c < L.length * k := by
  have : (j + 1) * k ≤ L.length * k := Nat.mul_le_mul_right k hj
  rw [Nat.add_one_mul] at this
  omega
 refine ⟨h.st.grown (base := base) (row := some g) (fun j e => by cases e; exact hb.1) h.low h.top (g7c x g _ u), ?_, h.low, h.top, by rw [World.size_setCell]; exact h.hi⟩
 rw [List.length_set, flatMap_set hk L j q q' c u hq hc hs]
 exact ownsRow_set h.row _ hlt u
theorem StO.free {g n cap : Nat} (h : StO w0 its base e k enc (.slice (some ⟨g, 0, none⟩) n cap) L x) (j : Nat) : x.frozen? ⟨g, j, none⟩ = false := by
 have hn : n = L.length := by
  rcases h.row.2 with ⟨e1, _⟩ | ⟨g', cap', cur, e1, _⟩
  · cases e1
  · cases e1; rfl
 subst hn
 exact ownsRow_free h.row j
theorem StO.cell {g n cap : Nat} (h : StO w0 its base e k enc (.slice (some ⟨g, 0, none⟩) n cap) L x) (hk : ∀ q, (enc q).length = k) (j : Nat) (q : α) (c : Nat) (u : Value) (hq : L[j]? = some q) (hu : (enc q)[c]? = some u) : x.cell? ⟨g, j * k + c, none⟩ = some u := by
 have hn : n = L.length := by
  rcases h.row.2 with ⟨e1, _⟩ | ⟨g', cap', cur, e1, _⟩
  · cases e1
  · cases e1; rfl
 subst hn
 refine ownsRow_cell h.row ?_
 rw [flat_get hk L j c (by rw [← hk q]; exact (List.getElem?_eq_some_iff.1 hu).1), hq]
 exact hu
theorem StO.head {ad : Addr} {n cap : Nat} (h : StO w0 its base e k enc (.slice (some ad) n cap) L x) : ∃ g, ad = ⟨g, 0, none⟩ ∧ n = L.length := by
 rcases h.row.2 with ⟨e1, _⟩ | ⟨g', cap', cur, e1, _⟩
 · cases e1
 · cases e1; exact ⟨g', rfl, rfl⟩
variable {P : Program} {t : TypeId} {bytes : Nat}
end
theorem Agree.to {ops : Array Oper} {k : Nat} {a a' : Act} (h : Agree ops k a a') (t : Nat) (ht : notDst ops k t = true) {v : Value} (hv : a.tmps[t]? = some v) : a'.tmps[t]? = some v := (h.at t ht).trans hv
theorem AgreeL.to {ops : Array Oper} {fr : List Nat} {a a' : Act} (h : AgreeL ops fr a a') (t : Nat) (ht : notDstL ops fr t = true) {v : Value} (hv : a.tmps[t]? = some v) : a'.tmps[t]? = some v := (h.at t ht).trans hv
theorem H7 {p : Prop} (h : p) : Hid p := Lib.hid h
theorem B7 (n : Nat) (w : World) : Below n w w := Below.refl n w
theorem h7c {w0 w : World} {its : List It} (h : Hid (St w0 its w)) (i k : Nat) {b : Nat} {c : Array Value} {t : TypeId} {f : Nat × Nat} {v : Value} (h1 : its[i]? = some (.blk b (.cells c t f))) (h2 : c[k]? = some v) : w.cell? ⟨b, k, none⟩ = some v := c7b (h.out.blockAt i h1) h2
end Go.Proofs.YteklfmacnnmomaaGreat
