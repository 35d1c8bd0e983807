/- Merged texts: RowG Row FrRow. -/
import Derived.Test.YteklfmacnnmomaaGreatRows
import Derived.Test.YteklfmacnnmomaaGreatM1
import Derived.ProofKit
import Derived.OpenShut
import Derived.Deep.Slices
import Derived.Carry
import Derived.Test.YteklfmacnnmomaaGreatM2
import Derived.Test.YteklfmacnnmomaaGreatM3
set_option linter.unusedSimpArgs false
set_option linter.unusedVariables false
/- Rows, in general: arguments taken apart to their cells; a call that returns true and has only made blocks of its own. -/
namespace Go.Proofs.YteklfmacnnmomaaGreat
open Go.ChangeShapes Go.WideShapes Go.ChangeAt Go.RowKit Go.Deep
/-- 'post', of a call that has only made blocks of its own. -/
theorem post_of_below {H : Type} {enc : TypeId × Value → H} {P : Program} {f : Func} {s : ChangeSpec} {apart fresh handsOn again : Bool} {W W' : World} {args : Array Value} {v : Value} {ds gs : List (DataW H)} {before pa pv : List MemPlace}
 (hW : DataW.Whole enc P f.params.toList s.vars apart W args.toList ds gs before)
 (hres : ∀ (b : Nat) (sp : Nat → Bool) (hd : Bool), DataW.TrodAll enc P W' b sp hd f.resultTypes.toList (v.resultList f.resultTypes.size) (s.fn H (ds ++ gs)).results [])
 (hargs : ∀ sp : Nat → Bool, (∀ p ∈ before, sp p.block = true) → DataW.TrodAll enc P W' 0 sp true f.params.toList args.toList (s.fn H (ds ++ gs)).args pa)
 (hvars : ∀ sp : Nat → Bool, (∀ p ∈ before, sp p.block = true) → DataW.TrodVars enc P W' sp s.vars (s.fn H (ds ++ gs)).vars pv)
 (hps : before = pa ++ pv) (hb : Below W.heap.size W W')
 (hok : ∀ (j : Nat) (t : TypeId) (r : Value), f.resultTypes[j]? = some t → (v.resultList f.resultTypes.size)[j]? = some r → Value.okWide P W' .any 0 t r) :
 s.post enc P f apart fresh handsOn again W args v W' := by
 have hlt := fun p hp => hW.lt p hp
 have hold : ∀ p ∈ before, (fun b => decide (b < W.heap.size)) p.block = true := fun p hp => by simpa using hW.lt p hp
 refine ⟨ds, gs, before, [], pa, pv, hW, hres _ _ _, hargs _ hold, hvars _ hold, World.keptBut_mono (fun p hp => ⟨hp, ?_⟩) (hb.frame (· ∈ before)), fun _ => ?_⟩
 · rw [hps, List.mem_append] at hp
   exact Or.inr hp
 · obtain ⟨_, _, _, _, _, hz, hn⟩ := hW
   refine ⟨hok, _, _, ([] ++ pa) ++ pv, ⟨[] ++ pa, pv, trodAll_append (hargs _ (fun _ _ => rfl)) (hres _ _ _), hvars _ (fun _ _ => rfl), rfl, ?_, ?_⟩, ?_⟩
   · intro b off hp
     have hp' : MemPlace.cell b off ∈ before := by rw [hps]; simpa using hp
     rw [hb.frozen (p := ⟨b, off, none⟩) (hlt _ hp')]
     exact hz b off hp'
   · intro ha
     have := hn ha
     rw [hps] at this
     simpa using this
   · intro p hp _
     rw [hps]
     simpa using hp
/-- A cell's kind. -/
inductive Leaf where
 | int (k : IntKind)
 | bool
 | string
def leafOk : Leaf → Value → Prop
 | .int k, v => ∃ n, v = .int k n ∧ (Lit.int k n).wf = true
 | .bool, v => ∃ b, v = .bool b
 | .string, v => ∃ s : ByteArray, v = .string s ∧ s.size ≤ maxLen
def flatFields (P : Program) (g : TypeId → Option (List Leaf)) : Nat → List Field → Option (List Leaf)
 | _, [] => some []
 | off, f :: fs => (g f.type).bind fun l => if f.offset = off ∧ l.length = P.cellsOf f.type then (flatFields P g (off + l.length) fs).map (l ++ ·) else none
/-- The kinds of a type's cells, where it is made of numbers, truths and texts alone. -/
def flat (P : Program) : Nat → TypeId → Option (List Leaf)
 | 0, _ => none
 | n + 1, t => match P.underlying t with
  | some (.int k) => some [.int k]
  | some .bool => some [.bool]
  | some .string => some [.string]
  | some (.array m e) => (flat P n e).bind fun l => if l.length = P.cellsOf e then some (List.replicate m l).flatten else none
  | some (.struct fs) => flatFields P (flat P n) 0 fs.toList
  | _ => none
/-- The cells are of these kinds. -/
def Leaves (ls : List Leaf) (cs : List Value) : Prop := ∀ (i : Nat) (l : Leaf), ls[i]? = some l → ∃ v, cs[i]? = some v ∧ leafOk l v
theorem leaves_take {ls : List Leaf} {cs : List Value} {a k : Nat} (h : Leaves ls ((cs.drop a).take k)) : ∀ i l, ls[i]? = some l → ∃ v, cs[a + i]? = some v ∧ leafOk l v := by
 intro i l hl
 obtain ⟨v, hv, hk⟩ := h i l hl
 refine ⟨v, ?_, hk⟩
 rw [List.getElem?_take] at hv
 split at hv
 · rwa [List.getElem?_drop] at hv
 · cases hv
theorem getElem?_rep {l : List Leaf} {m i : Nat} {x : Leaf} (h : (List.replicate m l).flatten[i]? = some x) : i / l.length < m ∧ l[i % l.length]? = some x := by
 induction m generalizing i with
 | zero => simp at h
 | succ m ih =>
  rw [List.replicate_succ, List.flatten_cons] at h
  by_cases hi : i < l.length
  · rw [List.getElem?_append_left hi] at h
    rw [Nat.div_eq_of_lt hi, Nat.mod_eq_of_lt hi]
    exact ⟨by omega, h⟩
  · rw [List.getElem?_append_right (by omega)] at h
    obtain ⟨h1, h2⟩ := ih h
    have hp : 0 < l.length := by
     rcases Nat.eq_zero_or_pos l.length with e | e
     · rw [List.length_eq_zero_iff.1 e] at h2; simp at h2
     · exact e
    have e : i = (i - l.length) + l.length := by omega
    rw [e, Nat.add_div_right _ hp, Nat.add_mod_right]
    exact ⟨by omega, h2⟩
theorem list_of_ex {α : Type} {p : Nat → α → Prop} : ∀ (n : Nat), (∀ i, i < n → ∃ x, p i x) → ∃ l : List α, l.length = n ∧ ∀ i (h : i < l.length), p i l[i]
 | 0, _ => ⟨[], rfl, fun i h => absurd h (Nat.not_lt_zero _)⟩
 | n + 1, h => by
  obtain ⟨l, hl, hp⟩ := list_of_ex n (fun i hi => h i (by omega))
  obtain ⟨x, hx⟩ := h n (by omega)
  refine ⟨l ++ [x], by simp [hl], fun i hi => ?_⟩
  by_cases hi' : i < l.length
  · rw [List.getElem_append_left hi']; exact hp i hi'
  · have e : i = l.length := by simp at hi; omega
    subst e
    rw [List.getElem_append_right (Nat.le_refl _)]
    simp only [Nat.sub_self, List.getElem_cons_zero, hl]
    exact hx
section
variable {H : Type} {enc : TypeId × Value → H} {P : Program} {w : World} {base : Nat} {spare : Nat → Bool} {held : Bool}
theorem fields_leaves {g : TypeId → Option (List Leaf)} {fuel : Nat} {cs : List Value}
 (hg : ∀ (t : TypeId) ls cs x, g t = some ls → DataW.trod enc P w base spare held fuel t cs = some x → x.2 = [] ∧ Leaves ls cs) :
 ∀ (fs : List Field) (off : Nat) (ls : List Leaf), flatFields P g off fs = some ls → (∀ f ∈ fs, ∃ x, DataW.trod enc P w base spare held fuel f.type ((cs.drop f.offset).take (P.cellsOf f.type)) = some x) →
  ∀ i l, ls[i]? = some l → ∃ v, cs[off + i]? = some v ∧ leafOk l v
 | [], off, ls, h, _, i, l, hl => by simp [flatFields] at h; subst h; simp at hl
 | f :: fs, off, ls, h, hx, i, l, hl => by
  unfold flatFields at h
  obtain ⟨lf, h1, h2⟩ := Option.bind_eq_some_iff.1 h
  split at h2
  · rename_i hc
    obtain ⟨ls', h3, rfl⟩ := Option.map_eq_some_iff.1 h2
    by_cases hi : i < lf.length
    · rw [List.getElem?_append_left hi] at hl
      obtain ⟨x, hxf⟩ := hx f (by simp)
      have := leaves_take (hg f.type lf _ x h1 hxf).2 i l hl
      rw [hc.1] at this
      exact this
    · rw [List.getElem?_append_right (by omega)] at hl
      have := fields_leaves hg fs (off + lf.length) ls' h3 (fun f' hf' => hx f' (by simp [hf'])) (i - lf.length) l hl
      rw [show off + lf.length + (i - lf.length) = off + i from by omega] at this
      exact this
  · cases h2
theorem open_flat : ∀ (n : Nat) (t : TypeId) (ls : List Leaf) (fuel : Nat) (cs : List Value) (x : DataW H × List MemPlace), flat P n t = some ls → DataW.trod enc P w base spare held fuel t cs = some x → x.2 = [] ∧ Leaves ls cs
 | 0, _, _, _, _, _, h, _ => by simp [flat] at h
 | n + 1, t, ls, fuel, cs, x, h, hd => by
  unfold flat at h
  split at h
  · rename_i k hu
    obtain ⟨v, rfl, rfl, hwf⟩ := DataW.trod_int hu hd
    cases h
    exact ⟨rfl, fun i l hl => by match i, hl with | 0, hl => cases hl; exact ⟨_, rfl, _, rfl, hwf⟩⟩
  · rename_i hu
    obtain ⟨b, rfl, rfl⟩ := DataW.trod_bool hu hd
    cases h
    exact ⟨rfl, fun i l hl => by match i, hl with | 0, hl => cases hl; exact ⟨_, rfl, _, rfl⟩⟩
  · rename_i hu
    obtain ⟨s, rfl, rfl, hs⟩ := DataW.trod_string hu hd
    cases h
    exact ⟨rfl, fun i l hl => by match i, hl with | 0, hl => cases hl; exact ⟨_, rfl, _, rfl, hs⟩⟩
  · rename_i m e hu
    obtain ⟨xs, m', rfl, rfl, hlen, hxl, hx⟩ := DataW.trod_array hu hd
    obtain ⟨le, h1, h2⟩ := Option.bind_eq_some_iff.1 h
    split at h2
    · rename_i hc
      cases h2
      have key : ∀ i, i < m → ∃ y, xs[i]? = some y ∧ y.2 = [] ∧ Leaves le ((cs.drop (i * P.cellsOf e)).take (P.cellsOf e)) := by
       intro i hi
       have he := hx i hi
       rw [List.getElem?_eq_getElem (by omega)] at he
       obtain ⟨a, b⟩ := open_flat n e le m' _ _ h1 he
       exact ⟨_, List.getElem?_eq_getElem (by omega), a, b⟩
      refine ⟨?_, fun i l hl => ?_⟩
      · apply List.flatMap_eq_nil_iff.2
        intro y hy
        obtain ⟨i, hi, rfl⟩ := List.mem_iff_getElem.1 hy
        obtain ⟨y', e1, e2, _⟩ := key i (by omega)
        rw [List.getElem?_eq_getElem hi] at e1
        cases e1
        exact e2
      · obtain ⟨g1, g2⟩ := getElem?_rep hl
        obtain ⟨_, _, _, h3⟩ := key _ g1
        obtain ⟨v, hv, hk⟩ := leaves_take h3 _ l g2
        refine ⟨v, ?_, hk⟩
        have : i / le.length * P.cellsOf e + i % le.length = i := by rw [← hc, Nat.mul_comm]; exact Nat.div_add_mod i le.length
        rw [this] at hv
        exact hv
    · cases h2
  · rename_i fs hu
    obtain ⟨xs, m', rfl, rfl, hlen, hxl, hx⟩ := DataW.trod_struct hu hd
    have hall : ∀ f ∈ fs.toList, ∃ x, DataW.trod enc P w base spare held m' f.type ((cs.drop f.offset).take (P.cellsOf f.type)) = some x := by
     intro f hf
     obtain ⟨i, hi, rfl⟩ := List.mem_iff_getElem.1 hf
     have hi' : i < fs.size := by simpa using hi
     have he := hx i fs[i] (Array.getElem?_eq_getElem hi')
     rw [List.getElem?_eq_getElem (by omega)] at he
     exact ⟨_, he⟩
    refine ⟨?_, fun i l hl => ?_⟩
    · apply List.flatMap_eq_nil_iff.2
      intro y hy
      obtain ⟨i, hi, rfl⟩ := List.mem_iff_getElem.1 hy
      have hi' : i < fs.size := by omega
      have he := hx i fs[i] (Array.getElem?_eq_getElem hi')
      rw [List.getElem?_eq_getElem hi] at he
      have hsome : ∀ (fs' : List Field) (off : Nat) (ls : List Leaf), flatFields P (flat P n) off fs' = some ls → ∀ f ∈ fs', ∃ l, flat P n f.type = some l := by
       intro fs'
       induction fs' with
       | nil => intro _ _ _ f hf; cases hf
       | cons g fs' ih =>
        intro off ls hfl f hf
        unfold flatFields at hfl
        obtain ⟨lf, h1, h2⟩ := Option.bind_eq_some_iff.1 hfl
        split at h2
        · obtain ⟨ls', h3, _⟩ := Option.map_eq_some_iff.1 h2
          rcases List.mem_cons.1 hf with rfl | hf
          · exact ⟨lf, h1⟩
          · exact ih _ _ h3 f hf
        · cases h2
      obtain ⟨l, hl⟩ := hsome _ _ _ h fs[i] (by simp)
      exact (open_flat n _ l m' _ _ hl he).1
    · have := fields_leaves (fun t ls cs x a b => open_flat n t ls m' cs x a b) fs.toList 0 ls h hall i l hl
      rw [Nat.zero_add] at this
      exact this
  · cases h
/-- A value that is told by cells alone. -/
theorem trod_flat {n : Nat} {t : TypeId} {ls : List Leaf} (hf : flat P n t = some ls) {v : Value} {d : DataW H} {ps : List MemPlace} (h : DataW.Trod enc P w base spare held t v d ps) : ps = [] ∧ Leaves ls v.cells.toList := by
 obtain ⟨fuel, h⟩ := h
 exact open_flat n t ls fuel _ _ hf h
theorem slice_okWide {t e : TypeId} (ht : P.underlying t = some (.slice e)) {r : Reach} {b0 : Nat} {v : Value} (hval : Value.okWide P w r b0 t v) :
 v = .slice none 0 0 ∨ ∃ a len cap, v = .slice (some a) len cap ∧ a.spot = none ∧ a.block < w.heap.size := by
 unfold Value.okWide Cell.okWide Cell.ok at hval
 simp only [ht] at hval
 split at hval <;> simp_all
 · obtain ⟨_, _, _, hs, row, cells, hsh, _⟩ := hval
   refine ⟨hs, ?_⟩
   unfold World.shape? at hsh
   split at hsh
   · rename_i hh
     exact (Array.getElem?_eq_some_iff.1 hh).1
   · cases hsh
/-- A row of such elements. -/
theorem open_rows {α : Type} {n : Nat} {t e : TypeId} {ls : List Leaf} {k : Nat} (ht : P.underlying t = some (.slice e)) (hf : flat P n e = some ls) (hk : P.cellsOf e = k) (hkl : ls.length = k) (encA : α → List Value) (good : α → Prop)
 (hlen : ∀ x, (encA x).length = k) (hdec : ∀ vs : List Value, vs.length = k → Leaves ls vs → ∃ x, encA x = vs ∧ good x)
 {v : Value} {d : DataW H} {ps : List MemPlace} {r : Reach} {b0 : Nat} (hval : Value.okWide P w r b0 t v) (h : DataW.Trod enc P w 0 (fun _ => true) true t v d ps) (hk0 : 0 < k) :
 ∃ l : List α, ∃ a cap, v = .slice a l.length cap ∧ Elems w v l.length k (rowC encA l) ∧ (∀ x ∈ l, good x) ∧ l.length ≤ maxLen ∧ l.length ≤ cap := by
 obtain ⟨fuel, h⟩ := h
 rcases open_slice ht h with ⟨hcs, _⟩ | ⟨a, len, cap, m, n', D, Pl, hcs, hb, hl, hm, hmm, hx, hi⟩
 · rcases slice_okWide ht hval with rfl | ⟨a, len, cap, rfl, hs, hb⟩
   · exact ⟨[], none, 0, rfl, .inl ⟨rfl, rfl⟩, by simp, by simp, by simp⟩
   · simp [Value.cells] at hcs
 · rcases slice_okWide ht hval with rfl | ⟨a', len', cap', rfl, hspot, hblk⟩
   · simp [Value.cells] at hcs
   simp only [Value.cells, List.cons.injEq, Value.slice.injEq, Option.some.injEq, and_true] at hcs
   obtain ⟨rfl, rfl, rfl⟩ := hcs
   simp only [if_true] at hmm
   subst hmm
   obtain ⟨b, off, spot⟩ := a'
   dsimp only at hspot hblk
   subst hspot
   have hex : ∀ i, i < len' → ∃ x : α, (∀ r u, (encA x)[r]? = some u → w.cell? ⟨b, off + (i * k + r), none⟩ = some u) ∧ good x := fun i hil => by
    obtain ⟨cs', h1, h2⟩ := hi i (by omega)
    obtain ⟨_, hcl, hcg⟩ := World.cells?_some h1
    obtain ⟨x, hx1, hx2⟩ := hdec cs' (by rw [hcl, hk]) (open_flat n e ls n' cs' _ hf h2).2
    refine ⟨x, fun r u hr => ?_, hx2⟩
    rw [hx1] at hr
    have hrl : r < cs'.length := (List.getElem?_eq_some_iff.1 hr).1
    have := hcg r (by omega)
    rw [Go.Deep.add_add, hk, hr] at this
    rwa [show (⟨b, off, none⟩ : Addr).add (i * k + r) = ⟨b, off + (i * k + r), none⟩ from by unfold Addr.add; split <;> simp_all] at this
   obtain ⟨l, hl1, hl2⟩ := list_of_ex len' hex
   subst hl1
   refine ⟨l, some ⟨b, off, none⟩, m, rfl, .inr ⟨b, off, m, rfl, hblk, fun j hj => ?_⟩, fun x hx => ?_, by omega, hl⟩
   · have hdiv : j / k < l.length := Nat.div_lt_of_lt_mul (by rw [Nat.mul_comm]; exact hj)
     have hmod : j % k < k := Nat.mod_lt _ hk0
     have hjk : j / k * k + j % k = j := by rw [Nat.mul_comm]; exact Nat.div_add_mod j k
     have h1 := (hl2 (j / k) hdiv).1 (j % k)
     rw [hjk] at h1
     refine h1 _ ?_
     unfold rowC
     have h2 := flat_get hlen l (j / k) (j % k) hmod
     rw [hjk, List.getElem?_eq_getElem hdiv] at h2
     rw [h2]
     show (encA l[j / k])[j % k]? = some (((encA l[j / k])[j % k]?).getD undef)
     rw [List.getElem?_eq_getElem (by rw [hlen]; exact hmod)]
     rfl
   · obtain ⟨i, hi', rfl⟩ := List.mem_iff_getElem.1 hx
     exact (hl2 i hi').2
/-- Arguments read as they did, behind a call that has only made blocks of its own. -/
theorem args_stay (hl : laidOutB P = true) {W W' : World} {sp : Nat → Bool} (hb : Below W.heap.size W W') : ∀ {ts : List TypeId} {vs : List Value} {ds : List (DataW H)} {ps : List MemPlace},
 DataW.TrodAll enc P W 0 (fun _ => true) true ts vs ds ps → (ts.all fun t => P.readableRec t && decide (t < P.types.size)) = true → (∀ x ∈ ps, x.block < W.heap.size) → (∀ x ∈ ps, sp x.block = true) → DataW.TrodAll enc P W' 0 sp true ts vs ds ps
 | [], vs, ds, ps, h, _, _, _ => by obtain ⟨rfl, rfl, rfl⟩ := trodAll_nil h; exact trodAll_mk0
 | t :: ts, vs, ds, ps, h, hr, hlt, hsp => by
  obtain ⟨v, vs', d, ds', p, q, rfl, rfl, rfl, h1, h2⟩ := trodAll_cons h
  rw [List.all_cons, Bool.and_eq_true, Bool.and_eq_true, decide_eq_true_iff] at hr
  exact trodAll_cons_mk (WideElems.Trod_stays hl hr.1.1 hr.1.2 h1 (fun x hx => hb.same (hlt x (by simp [hx]))) (fun x hx => hsp x (by simp [hx]))) (args_stay hl hb h2 hr.2 (fun x hx => hlt x (by simp [hx])) (fun x hx => hsp x (by simp [hx])))
/-- 'post' of a row that says: true; the arguments as they were. -/
theorem post_true {f : Func} {s : ChangeSpec} {apart fresh handsOn again : Bool} {W W' : World} {args : Array Value} {ds gs : List (DataW H)} {before : List MemPlace} (hl : laidOutB P = true) {tb : TypeId} (hu : P.underlying tb = some .bool) (hc : P.cellsOf tb = 1) (hf : f.resultTypes = #[tb])
 (hr : (f.params.toList.all fun t => P.readableRec t && decide (t < P.types.size)) = true) (hvars : s.vars = [])
 (hspec : s.fn H ds = { results := [.lit (.bool true)], args := ds })
 (hW : DataW.Whole enc P f.params.toList s.vars apart W args.toList ds gs before) (hb : Below W.heap.size W W') : s.post enc P f apart fresh handsOn again W args (.bool true) W' := by
 have hW' := hW
 obtain ⟨p, q, hA, hV, rfl, hz, hn⟩ := hW
 rw [hvars] at hV
 obtain ⟨rfl, rfl⟩ := trodVars_none hV
 have hlt := fun x hx => hW'.lt x hx
 have hs : s.fn H (ds ++ []) = { results := [.lit (.bool true)], args := ds } := by rw [List.append_nil]; exact hspec
 refine post_of_below (pa := p) (pv := []) hW' ?_ ?_ ?_ rfl hb ?_
 · intro b sp hd
   rw [hs, hf]
   exact trodAll_cons_mk (shut_bool hu _) trodAll_mk0
 · intro sp hsp
   rw [hs]
   exact args_stay hl hb hA hr (fun x hx => hlt x (by simp [hx])) (fun x hx => hsp x (by simp [hx]))
 · intro sp hsp
   rw [hs, hvars]
   exact rfl
 · exact ok_one hf rfl (okWide_bool_mk hu _)
end
end Go.Proofs.YteklfmacnnmomaaGreat
/- A row's argument that is a vector: taken apart, and put together. -/
namespace Go.Proofs.YteklfmacnnmomaaGreat
open Go.ChangeShapes Go.WideShapes Go.ChangeAt Go.RowKit
section
variable {H : Type} {enc : TypeId × Value → H} {P : Program} {w : World} {base : Nat} {spare : Nat → Bool} {held : Bool}
/-- The nine numbers, as a function. -/
def nine (x0 x1 x2 x3 x4 x5 x6 x7 x8 : Int) : Nat → Int | 0 => x0 | 1 => x1 | 2 => x2 | 3 => x3 | 4 => x4 | 5 => x5 | 6 => x6 | 7 => x7 | 8 => x8 | _ => 0
end
end Go.Proofs.YteklfmacnnmomaaGreat
/- Rows: a frontier as an argument, and rows of pledges. -/
namespace Go.Proofs.YteklfmacnnmomaaGreat
open Go.ChangeShapes Go.WideShapes Go.ChangeAt Go.RowKit
def intC : Value → Int
 | .int _ n => n
 | _ => 0
def boolC : Value → Bool
 | .bool b => b
 | _ => false
/-- A pledge's leaves; a frontier's. -/
def plLf : List Leaf := .bool :: List.replicate 11 (.int .u64)
def frLf : List Leaf := List.replicate 11 (.int .u64) ++ (List.replicate 9 plLf).flatten
theorem flatFr : flat Tryz.prog 7 29 = some frLf := by kernel_rfl
theorem rep12_get {l : List Leaf} (hl : l.length = 12) : ∀ (n k r : Nat), k < n → r < 12 → ((List.replicate n l).flatten)[k * 12 + r]? = l[r]?
 | 0, _, _, h, _ => by omega
 | n + 1, 0, r, _, hr => by
  rw [List.replicate_succ, List.flatten_cons, List.getElem?_append_left (by omega), Nat.zero_mul, Nat.zero_add]
 | n + 1, k + 1, r, h, hr => by
  rw [List.replicate_succ, List.flatten_cons, List.getElem?_append_right (by omega), hl, show (k + 1) * 12 + r - 12 = k * 12 + r by omega]
  exact rep12_get hl n k r (by omega) hr
/-- A pledge out of its cells. -/
def plOf (g : Nat → Value) : Plg := ⟨boolC (g 0), intC (g 1), intC (g 2), fun k => intC (g (k + 3))⟩
def frOf (cs : List Value) : Frt := ⟨intC (cs[0]?.getD undef), fun k => intC (cs[k + 1]?.getD undef), intC (cs[10]?.getD undef), fun k => plOf fun r => cs[11 + (k * 12 + r)]?.getD undef⟩
theorem intC_of {cs : List Value} {i : Nat} (h : ∃ v, cs[i]? = some v ∧ leafOk (.int .u64) v) : cs[i]? = some (.int .u64 (intC (cs[i]?.getD undef))) ∧ 0 ≤ intC (cs[i]?.getD undef) ∧ intC (cs[i]?.getD undef) ≤ 18446744073709551615 := by
 obtain ⟨v, hv, n, rfl, hw⟩ := h
 rw [hv]
 exact ⟨rfl, bounds_u64 hw⟩
theorem boolC_of {cs : List Value} {i : Nat} (h : ∃ v, cs[i]? = some v ∧ leafOk .bool v) : cs[i]? = some (.bool (boolC (cs[i]?.getD undef))) := by
 obtain ⟨v, hv, b, rfl⟩ := h
 rw [hv]
 rfl
/-- The numbers of a pledge, of a frontier. -/
def u64B (n : Int) : Prop := 0 ≤ n ∧ n ≤ 18446744073709551615
structure PlgW (p : Plg) : Prop where
 floor : u64B p.floor
 seq : u64B p.seq
 has : ∀ k, k < 9 → u64B (p.has k)
structure FrtW (f : Frt) : Prop where
 folded : u64B f.folded
 by_ : ∀ k, k < 9 → u64B (f.by_ k)
 prop : u64B f.prop
 site : ∀ k, k < 9 → PlgW (f.site k)
theorem plLf_get {r : Nat} (h0 : r ≠ 0) (h : r < 12) : plLf[r]? = some (.int .u64) := by
 match r, h0, h with
 | 1, _, _ | 2, _, _ | 3, _, _ | 4, _, _ | 5, _, _ | 6, _, _ | 7, _, _ | 8, _, _ | 9, _, _ | 10, _, _ | 11, _, _ => rfl
theorem leaves_frt (vs : List Value) (hl : vs.length = 119) (h : Leaves frLf vs) : ∃ x : Frt, x.l = vs ∧ FrtW x := by
 have kh := fun r (hr : r < 11) => intC_of (h r (.int .u64) (by
  unfold frLf
  rw [List.getElem?_append_left (by rw [List.length_replicate]; exact hr), List.getElem?_replicate, if_pos hr]))
 have ks : ∀ k r x, k < 9 → r < 12 → plLf[r]? = some x → ∃ v, vs[11 + (k * 12 + r)]? = some v ∧ leafOk x v := fun k r x hk hr hx => h _ _ (by
  unfold frLf
  rw [List.getElem?_append_right (by rw [List.length_replicate]; omega), List.length_replicate, show 11 + (k * 12 + r) - 11 = k * 12 + r by omega, rep12_get rfl 9 k r hk hr]
  exact hx)
 refine ⟨frOf vs, ?_, (kh 0 (by decide)).2, fun i hi => (kh (i + 1) (by omega)).2, (kh 10 (by decide)).2, fun i hi => ?_⟩
 · have e : vs.toArray = (frOf vs).cells := by
    refine Frt.ext_cells (by simpa using hl) (fun k hk => ?_) (fun k r hk hr => ?_)
    · rw [List.getElem?_toArray]
      match k, hk with
      | 0, _ => exact (kh 0 (by decide)).1
      | 1, _ => exact (kh 1 (by decide)).1
      | 2, _ => exact (kh 2 (by decide)).1
      | 3, _ => exact (kh 3 (by decide)).1
      | 4, _ => exact (kh 4 (by decide)).1
      | 5, _ => exact (kh 5 (by decide)).1
      | 6, _ => exact (kh 6 (by decide)).1
      | 7, _ => exact (kh 7 (by decide)).1
      | 8, _ => exact (kh 8 (by decide)).1
      | 9, _ => exact (kh 9 (by decide)).1
      | 10, _ => exact (kh 10 (by decide)).1
    · rw [List.getElem?_toArray]
      match r, hr with
      | 0, _ => exact boolC_of (ks k 0 _ hk (by decide) rfl)
      | 1, _ => exact (intC_of (ks k 1 _ hk (by decide) rfl)).1
      | 2, _ => exact (intC_of (ks k 2 _ hk (by decide) rfl)).1
      | 3, _ => exact (intC_of (ks k 3 _ hk (by decide) rfl)).1
      | 4, _ => exact (intC_of (ks k 4 _ hk (by decide) rfl)).1
      | 5, _ => exact (intC_of (ks k 5 _ hk (by decide) rfl)).1
      | 6, _ => exact (intC_of (ks k 6 _ hk (by decide) rfl)).1
      | 7, _ => exact (intC_of (ks k 7 _ hk (by decide) rfl)).1
      | 8, _ => exact (intC_of (ks k 8 _ hk (by decide) rfl)).1
      | 9, _ => exact (intC_of (ks k 9 _ hk (by decide) rfl)).1
      | 10, _ => exact (intC_of (ks k 10 _ hk (by decide) rfl)).1
      | 11, _ => exact (intC_of (ks k 11 _ hk (by decide) rfl)).1
   have e2 := congrArg Array.toList e
   exact e2.symm
 · exact ⟨(intC_of (ks i 1 _ hi (by decide) rfl)).2, (intC_of (ks i 2 _ hi (by decide) rfl)).2, fun j hj => (intC_of (ks i (j + 3) _ hi (by omega) (plLf_get (by omega) (by omega)))).2⟩
set_option maxRecDepth 100000 in
theorem open_frt {H : Type} {enc : TypeId × Value → H} {w : World} {r : Reach} {b0 : Nat} {v : Value} {d : DataW H} {ps : List MemPlace} (hv : Value.okWide Tryz.prog w r b0 29 v) (h : DataW.Trod enc Tryz.prog w 0 (fun _ => true) true 29 v d ps) :
 ∃ f : Frt, v = .agg f.cells ∧ FrtW f := by
 obtain ⟨⟨cs⟩, rfl, hz, -⟩ : ∃ cs, v = .agg cs ∧ cs.size = Tryz.prog.cellsOf 29 ∧ Row.okWide Tryz.prog w r b0 29 cs := by simpa [Value.okWide, Tryz.underlying29] using hv
 rw [show Tryz.prog.cellsOf 29 = 119 by kernel_rfl] at hz
 obtain ⟨f, hf, hw⟩ := leaves_frt cs (by simpa using hz) (trod_flat flatFr h).2
 subst hf
 exact ⟨f, rfl, hw⟩
end Go.Proofs.YteklfmacnnmomaaGreat
