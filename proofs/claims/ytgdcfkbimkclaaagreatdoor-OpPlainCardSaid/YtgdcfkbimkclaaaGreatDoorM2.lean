/- Merged texts: RowG ShA Bfs Col Pix Can RowT RowI RowC Big. -/
import Derived.Test.YtgdcfkbimkclaaaGreatDoorRows
import Derived.Test.YtgdcfkbimkclaaaGreatDoorM1
import Derived.ProofKit
import Derived.OpenShut
import Derived.Deep.Slices
import Derived.Carry
import Derived.Deep.MidRow
import Derived.Lib.SmallJoins
set_option linter.unusedSimpArgs false
set_option linter.unusedVariables false
/- Rows, in general: arguments taken apart to their cells; a call that returns true and has only made blocks of its own. -/
namespace Go.Proofs.YtgdcfkbimkclaaaGreatDoor
open Go.ChangeShapes Go.WideShapes Go.ChangeAt Go.RowKit Go.Deep
/-- 'post', of a call that has only made blocks of its own. -/
theorem post_of_below {H : Type} {enc : TypeId × Value → H} {P : Program} {f : Func} {s : ChangeSpec} {apart fresh handsOn again : Bool} {W W' : World} {args : Array Value} {v : Value} {ds gs : List (DataW H)} {before pa pv : List MemPlace}
 (hW : DataW.Whole enc P f.params.toList s.vars apart W args.toList ds gs before)
 (hres : ∀ (b : Nat) (sp : Nat → Bool) (hd : Bool), DataW.TrodAll enc P W' b sp hd f.resultTypes.toList (v.resultList f.resultTypes.size) (s.fn H (ds ++ gs)).results [])
 (hargs : ∀ sp : Nat → Bool, (∀ p ∈ before, sp p.block = true) → DataW.TrodAll enc P W' 0 sp true f.params.toList args.toList (s.fn H (ds ++ gs)).args pa)
 (hvars : ∀ sp : Nat → Bool, (∀ p ∈ before, sp p.block = true) → DataW.TrodVars enc P W' sp s.vars (s.fn H (ds ++ gs)).vars pv)
 (hps : before = pa ++ pv) (hb : Below W.heap.size W W')
 (hok : ∀ (j : Nat) (t : TypeId) (r : Value), f.resultTypes[j]? = some t → (v.resultList f.resultTypes.size)[j]? = some r → Value.okWide P W' .any 0 t r) :
 s.post enc P f apart fresh handsOn again W args v W' := by
 have hlt := fun p hp => hW.lt p hp
 have hold : ∀ p ∈ before, (fun b => decide (b < W.heap.size)) p.block = true := fun p hp => by simpa using hW.lt p hp
 refine ⟨ds, gs, before, [], pa, pv, hW, hres _ _ _, hargs _ hold, hvars _ hold, World.keptBut_mono (fun p hp => ⟨hp, ?_⟩) (hb.frame (· ∈ before)), fun _ => ?_⟩
 · rw [hps, List.mem_append] at hp
   exact Or.inr hp
 · obtain ⟨_, _, _, _, _, hz, hn⟩ := hW
   refine ⟨hok, _, _, ([] ++ pa) ++ pv, ⟨[] ++ pa, pv, trodAll_append (hargs _ (fun _ _ => rfl)) (hres _ _ _), hvars _ (fun _ _ => rfl), rfl, ?_, ?_⟩, ?_⟩
   · intro b off hp
     have hp' : MemPlace.cell b off ∈ before := by rw [hps]; simpa using hp
     rw [hb.frozen (p := ⟨b, off, none⟩) (hlt _ hp')]
     exact hz b off hp'
   · intro ha
     have := hn ha
     rw [hps] at this
     simpa using this
   · intro p hp _
     rw [hps]
     simpa using hp
/-- A cell's kind. -/
inductive Leaf where
 | int (k : IntKind)
 | bool
 | string
def leafOk : Leaf → Value → Prop
 | .int k, v => ∃ n, v = .int k n ∧ (Lit.int k n).wf = true
 | .bool, v => ∃ b, v = .bool b
 | .string, v => ∃ s : ByteArray, v = .string s ∧ s.size ≤ maxLen
def flatFields (P : Program) (g : TypeId → Option (List Leaf)) : Nat → List Field → Option (List Leaf)
 | _, [] => some []
 | off, f :: fs => (g f.type).bind fun l => if f.offset = off ∧ l.length = P.cellsOf f.type then (flatFields P g (off + l.length) fs).map (l ++ ·) else none
/-- The kinds of a type's cells, where it is made of numbers, truths and texts alone. -/
def flat (P : Program) : Nat → TypeId → Option (List Leaf)
 | 0, _ => none
 | n + 1, t => match P.underlying t with
  | some (.int k) => some [.int k]
  | some .bool => some [.bool]
  | some .string => some [.string]
  | some (.array m e) => (flat P n e).bind fun l => if l.length = P.cellsOf e then some (List.replicate m l).flatten else none
  | some (.struct fs) => flatFields P (flat P n) 0 fs.toList
  | _ => none
/-- The cells are of these kinds. -/
def Leaves (ls : List Leaf) (cs : List Value) : Prop := ∀ (i : Nat) (l : Leaf), ls[i]? = some l → ∃ v, cs[i]? = some v ∧ leafOk l v
theorem leaves_take {ls : List Leaf} {cs : List Value} {a k : Nat} (h : Leaves ls ((cs.drop a).take k)) : ∀ i l, ls[i]? = some l → ∃ v, cs[a + i]? = some v ∧ leafOk l v := by
 intro i l hl
 obtain ⟨v, hv, hk⟩ := h i l hl
 refine ⟨v, ?_, hk⟩
 rw [List.getElem?_take] at hv
 split at hv
 · rwa [List.getElem?_drop] at hv
 · cases hv
theorem getElem?_rep {l : List Leaf} {m i : Nat} {x : Leaf} (h : (List.replicate m l).flatten[i]? = some x) : i / l.length < m ∧ l[i % l.length]? = some x := by
 induction m generalizing i with
 | zero => simp at h
 | succ m ih =>
  rw [List.replicate_succ, List.flatten_cons] at h
  by_cases hi : i < l.length
  · rw [List.getElem?_append_left hi] at h
    rw [Nat.div_eq_of_lt hi, Nat.mod_eq_of_lt hi]
    exact ⟨by omega, h⟩
  · rw [List.getElem?_append_right (by omega)] at h
    obtain ⟨h1, h2⟩ := ih h
    have hp : 0 < l.length := by
     rcases Nat.eq_zero_or_pos l.length with e | e
     · rw [List.length_eq_zero_iff.1 e] at h2; simp at h2
     · exact e
    have e : i = (i - l.length) + l.length := by omega
    rw [e, Nat.add_div_right _ hp, Nat.add_mod_right]
    exact ⟨by omega, h2⟩
theorem list_of_ex {α : Type} {p : Nat → α → Prop} : ∀ (n : Nat), (∀ i, i < n → ∃ x, p i x) → ∃ l : List α, l.length = n ∧ ∀ i (h : i < l.length), p i l[i]
 | 0, _ => ⟨[], rfl, fun i h => absurd h (Nat.not_lt_zero _)⟩
 | n + 1, h => by
  obtain ⟨l, hl, hp⟩ := list_of_ex n (fun i hi => h i (by omega))
  obtain ⟨x, hx⟩ := h n (by omega)
  refine ⟨l ++ [x], by simp [hl], fun i hi => ?_⟩
  by_cases hi' : i < l.length
  · rw [List.getElem_append_left hi']; exact hp i hi'
  · have e : i = l.length := by simp at hi; omega
    subst e
    rw [List.getElem_append_right (Nat.le_refl _)]
    simp only [Nat.sub_self, List.getElem_cons_zero, hl]
    exact hx
section
variable {H : Type} {enc : TypeId × Value → H} {P : Program} {w : World} {base : Nat} {spare : Nat → Bool} {held : Bool}
theorem fields_leaves {g : TypeId → Option (List Leaf)} {fuel : Nat} {cs : List Value}
 (hg : ∀ (t : TypeId) ls cs x, g t = some ls → DataW.trod enc P w base spare held fuel t cs = some x → x.2 = [] ∧ Leaves ls cs) :
 ∀ (fs : List Field) (off : Nat) (ls : List Leaf), flatFields P g off fs = some ls → (∀ f ∈ fs, ∃ x, DataW.trod enc P w base spare held fuel f.type ((cs.drop f.offset).take (P.cellsOf f.type)) = some x) →
  ∀ i l, ls[i]? = some l → ∃ v, cs[off + i]? = some v ∧ leafOk l v
 | [], off, ls, h, _, i, l, hl => by simp [flatFields] at h; subst h; simp at hl
 | f :: fs, off, ls, h, hx, i, l, hl => by
  unfold flatFields at h
  obtain ⟨lf, h1, h2⟩ := Option.bind_eq_some_iff.1 h
  split at h2
  · rename_i hc
    obtain ⟨ls', h3, rfl⟩ := Option.map_eq_some_iff.1 h2
    by_cases hi : i < lf.length
    · rw [List.getElem?_append_left hi] at hl
      obtain ⟨x, hxf⟩ := hx f (by simp)
      have := leaves_take (hg f.type lf _ x h1 hxf).2 i l hl
      rw [hc.1] at this
      exact this
    · rw [List.getElem?_append_right (by omega)] at hl
      have := fields_leaves hg fs (off + lf.length) ls' h3 (fun f' hf' => hx f' (by simp [hf'])) (i - lf.length) l hl
      rw [show off + lf.length + (i - lf.length) = off + i from by omega] at this
      exact this
  · cases h2
theorem open_flat : ∀ (n : Nat) (t : TypeId) (ls : List Leaf) (fuel : Nat) (cs : List Value) (x : DataW H × List MemPlace), flat P n t = some ls → DataW.trod enc P w base spare held fuel t cs = some x → x.2 = [] ∧ Leaves ls cs
 | 0, _, _, _, _, _, h, _ => by simp [flat] at h
 | n + 1, t, ls, fuel, cs, x, h, hd => by
  unfold flat at h
  split at h
  · rename_i k hu
    obtain ⟨v, rfl, rfl, hwf⟩ := DataW.trod_int hu hd
    cases h
    exact ⟨rfl, fun i l hl => by match i, hl with | 0, hl => cases hl; exact ⟨_, rfl, _, rfl, hwf⟩⟩
  · rename_i hu
    obtain ⟨b, rfl, rfl⟩ := DataW.trod_bool hu hd
    cases h
    exact ⟨rfl, fun i l hl => by match i, hl with | 0, hl => cases hl; exact ⟨_, rfl, _, rfl⟩⟩
  · rename_i hu
    obtain ⟨s, rfl, rfl, hs⟩ := DataW.trod_string hu hd
    cases h
    exact ⟨rfl, fun i l hl => by match i, hl with | 0, hl => cases hl; exact ⟨_, rfl, _, rfl, hs⟩⟩
  · rename_i m e hu
    obtain ⟨xs, m', rfl, rfl, hlen, hxl, hx⟩ := DataW.trod_array hu hd
    obtain ⟨le, h1, h2⟩ := Option.bind_eq_some_iff.1 h
    split at h2
    · rename_i hc
      cases h2
      have key : ∀ i, i < m → ∃ y, xs[i]? = some y ∧ y.2 = [] ∧ Leaves le ((cs.drop (i * P.cellsOf e)).take (P.cellsOf e)) := by
       intro i hi
       have he := hx i hi
       rw [List.getElem?_eq_getElem (by omega)] at he
       obtain ⟨a, b⟩ := open_flat n e le m' _ _ h1 he
       exact ⟨_, List.getElem?_eq_getElem (by omega), a, b⟩
      refine ⟨?_, fun i l hl => ?_⟩
      · apply List.flatMap_eq_nil_iff.2
        intro y hy
        obtain ⟨i, hi, rfl⟩ := List.mem_iff_getElem.1 hy
        obtain ⟨y', e1, e2, _⟩ := key i (by omega)
        rw [List.getElem?_eq_getElem hi] at e1
        cases e1
        exact e2
      · obtain ⟨g1, g2⟩ := getElem?_rep hl
        obtain ⟨_, _, _, h3⟩ := key _ g1
        obtain ⟨v, hv, hk⟩ := leaves_take h3 _ l g2
        refine ⟨v, ?_, hk⟩
        have : i / le.length * P.cellsOf e + i % le.length = i := by rw [← hc, Nat.mul_comm]; exact Nat.div_add_mod i le.length
        rw [this] at hv
        exact hv
    · cases h2
  · rename_i fs hu
    obtain ⟨xs, m', rfl, rfl, hlen, hxl, hx⟩ := DataW.trod_struct hu hd
    have hall : ∀ f ∈ fs.toList, ∃ x, DataW.trod enc P w base spare held m' f.type ((cs.drop f.offset).take (P.cellsOf f.type)) = some x := by
     intro f hf
     obtain ⟨i, hi, rfl⟩ := List.mem_iff_getElem.1 hf
     have hi' : i < fs.size := by simpa using hi
     have he := hx i fs[i] (Array.getElem?_eq_getElem hi')
     rw [List.getElem?_eq_getElem (by omega)] at he
     exact ⟨_, he⟩
    refine ⟨?_, fun i l hl => ?_⟩
    · apply List.flatMap_eq_nil_iff.2
      intro y hy
      obtain ⟨i, hi, rfl⟩ := List.mem_iff_getElem.1 hy
      have hi' : i < fs.size := by omega
      have he := hx i fs[i] (Array.getElem?_eq_getElem hi')
      rw [List.getElem?_eq_getElem hi] at he
      have hsome : ∀ (fs' : List Field) (off : Nat) (ls : List Leaf), flatFields P (flat P n) off fs' = some ls → ∀ f ∈ fs', ∃ l, flat P n f.type = some l := by
       intro fs'
       induction fs' with
       | nil => intro _ _ _ f hf; cases hf
       | cons g fs' ih =>
        intro off ls hfl f hf
        unfold flatFields at hfl
        obtain ⟨lf, h1, h2⟩ := Option.bind_eq_some_iff.1 hfl
        split at h2
        · obtain ⟨ls', h3, _⟩ := Option.map_eq_some_iff.1 h2
          rcases List.mem_cons.1 hf with rfl | hf
          · exact ⟨lf, h1⟩
          · exact ih _ _ h3 f hf
        · cases h2
      obtain ⟨l, hl⟩ := hsome _ _ _ h fs[i] (by simp)
      exact (open_flat n _ l m' _ _ hl he).1
    · have := fields_leaves (fun t ls cs x a b => open_flat n t ls m' cs x a b) fs.toList 0 ls h hall i l hl
      rw [Nat.zero_add] at this
      exact this
  · cases h
theorem slice_okWide {t e : TypeId} (ht : P.underlying t = some (.slice e)) {r : Reach} {b0 : Nat} {v : Value} (hval : Value.okWide P w r b0 t v) :
 v = .slice none 0 0 ∨ ∃ a len cap, v = .slice (some a) len cap ∧ a.spot = none ∧ a.block < w.heap.size := by
 unfold Value.okWide Cell.okWide Cell.ok at hval
 simp only [ht] at hval
 split at hval <;> simp_all
 · obtain ⟨_, _, _, hs, row, cells, hsh, _⟩ := hval
   refine ⟨hs, ?_⟩
   unfold World.shape? at hsh
   split at hsh
   · rename_i hh
     exact (Array.getElem?_eq_some_iff.1 hh).1
   · cases hsh
/-- A row of such elements. -/
theorem open_rows {α : Type} {n : Nat} {t e : TypeId} {ls : List Leaf} {k : Nat} (ht : P.underlying t = some (.slice e)) (hf : flat P n e = some ls) (hk : P.cellsOf e = k) (hkl : ls.length = k) (encA : α → List Value) (good : α → Prop)
 (hlen : ∀ x, (encA x).length = k) (hdec : ∀ vs : List Value, vs.length = k → Leaves ls vs → ∃ x, encA x = vs ∧ good x)
 {v : Value} {d : DataW H} {ps : List MemPlace} {r : Reach} {b0 : Nat} (hval : Value.okWide P w r b0 t v) (h : DataW.Trod enc P w 0 (fun _ => true) true t v d ps) (hk0 : 0 < k) :
 ∃ l : List α, ∃ a cap, v = .slice a l.length cap ∧ Elems w v l.length k (rowC encA l) ∧ (∀ x ∈ l, good x) ∧ l.length ≤ maxLen ∧ l.length ≤ cap := by
 obtain ⟨fuel, h⟩ := h
 rcases open_slice ht h with ⟨hcs, _⟩ | ⟨a, len, cap, m, n', D, Pl, hcs, hb, hl, hm, hmm, hx, hi⟩
 · rcases slice_okWide ht hval with rfl | ⟨a, len, cap, rfl, hs, hb⟩
   · exact ⟨[], none, 0, rfl, .inl ⟨rfl, rfl⟩, by simp, by simp, by simp⟩
   · simp [Value.cells] at hcs
 · rcases slice_okWide ht hval with rfl | ⟨a', len', cap', rfl, hspot, hblk⟩
   · simp [Value.cells] at hcs
   simp only [Value.cells, List.cons.injEq, Value.slice.injEq, Option.some.injEq, and_true] at hcs
   obtain ⟨rfl, rfl, rfl⟩ := hcs
   simp only [if_true] at hmm
   subst hmm
   obtain ⟨b, off, spot⟩ := a'
   dsimp only at hspot hblk
   subst hspot
   have hex : ∀ i, i < len' → ∃ x : α, (∀ r u, (encA x)[r]? = some u → w.cell? ⟨b, off + (i * k + r), none⟩ = some u) ∧ good x := fun i hil => by
    obtain ⟨cs', h1, h2⟩ := hi i (by omega)
    obtain ⟨_, hcl, hcg⟩ := World.cells?_some h1
    obtain ⟨x, hx1, hx2⟩ := hdec cs' (by rw [hcl, hk]) (open_flat n e ls n' cs' _ hf h2).2
    refine ⟨x, fun r u hr => ?_, hx2⟩
    rw [hx1] at hr
    have hrl : r < cs'.length := (List.getElem?_eq_some_iff.1 hr).1
    have := hcg r (by omega)
    rw [Go.Deep.add_add, hk, hr] at this
    rwa [show (⟨b, off, none⟩ : Addr).add (i * k + r) = ⟨b, off + (i * k + r), none⟩ from by unfold Addr.add; split <;> simp_all] at this
   obtain ⟨l, hl1, hl2⟩ := list_of_ex len' hex
   subst hl1
   refine ⟨l, some ⟨b, off, none⟩, m, rfl, .inr ⟨b, off, m, rfl, hblk, fun j hj => ?_⟩, fun x hx => ?_, by omega, hl⟩
   · have hdiv : j / k < l.length := Nat.div_lt_of_lt_mul (by rw [Nat.mul_comm]; exact hj)
     have hmod : j % k < k := Nat.mod_lt _ hk0
     have hjk : j / k * k + j % k = j := by rw [Nat.mul_comm]; exact Nat.div_add_mod j k
     have h1 := (hl2 (j / k) hdiv).1 (j % k)
     rw [hjk] at h1
     refine h1 _ ?_
     unfold rowC
     have h2 := flat_get hlen l (j / k) (j % k) hmod
     rw [hjk, List.getElem?_eq_getElem hdiv] at h2
     rw [h2]
     show (encA l[j / k])[j % k]? = some (((encA l[j / k])[j % k]?).getD undef)
     rw [List.getElem?_eq_getElem (by rw [hlen]; exact hmod)]
     rfl
   · obtain ⟨i, hi', rfl⟩ := List.mem_iff_getElem.1 hx
     exact (hl2 i hi').2
/-- Arguments read as they did, behind a call that has only made blocks of its own. -/
theorem args_stay (hl : laidOutB P = true) {W W' : World} {sp : Nat → Bool} (hb : Below W.heap.size W W') : ∀ {ts : List TypeId} {vs : List Value} {ds : List (DataW H)} {ps : List MemPlace},
 DataW.TrodAll enc P W 0 (fun _ => true) true ts vs ds ps → (ts.all fun t => P.readableRec t && decide (t < P.types.size)) = true → (∀ x ∈ ps, x.block < W.heap.size) → (∀ x ∈ ps, sp x.block = true) → DataW.TrodAll enc P W' 0 sp true ts vs ds ps
 | [], vs, ds, ps, h, _, _, _ => by obtain ⟨rfl, rfl, rfl⟩ := trodAll_nil h; exact trodAll_mk0
 | t :: ts, vs, ds, ps, h, hr, hlt, hsp => by
  obtain ⟨v, vs', d, ds', p, q, rfl, rfl, rfl, h1, h2⟩ := trodAll_cons h
  rw [List.all_cons, Bool.and_eq_true, Bool.and_eq_true, decide_eq_true_iff] at hr
  exact trodAll_cons_mk (WideElems.Trod_stays hl hr.1.1 hr.1.2 h1 (fun x hx => hb.same (hlt x (by simp [hx]))) (fun x hx => hsp x (by simp [hx]))) (args_stay hl hb h2 hr.2 (fun x hx => hlt x (by simp [hx])) (fun x hx => hsp x (by simp [hx])))
/-- 'post' of a row that says: true; the arguments as they were. -/
theorem post_true {f : Func} {s : ChangeSpec} {apart fresh handsOn again : Bool} {W W' : World} {args : Array Value} {ds gs : List (DataW H)} {before : List MemPlace} (hl : laidOutB P = true) {tb : TypeId} (hu : P.underlying tb = some .bool) (hc : P.cellsOf tb = 1) (hf : f.resultTypes = #[tb])
 (hr : (f.params.toList.all fun t => P.readableRec t && decide (t < P.types.size)) = true) (hvars : s.vars = [])
 (hspec : s.fn H ds = { results := [.lit (.bool true)], args := ds })
 (hW : DataW.Whole enc P f.params.toList s.vars apart W args.toList ds gs before) (hb : Below W.heap.size W W') : s.post enc P f apart fresh handsOn again W args (.bool true) W' := by
 have hW' := hW
 obtain ⟨p, q, hA, hV, rfl, hz, hn⟩ := hW
 rw [hvars] at hV
 obtain ⟨rfl, rfl⟩ := trodVars_none hV
 have hlt := fun x hx => hW'.lt x hx
 have hs : s.fn H (ds ++ []) = { results := [.lit (.bool true)], args := ds } := by rw [List.append_nil]; exact hspec
 refine post_of_below (pa := p) (pv := []) hW' ?_ ?_ ?_ rfl hb ?_
 · intro b sp hd
   rw [hs, hf]
   exact trodAll_cons_mk (shut_bool hu _) trodAll_mk0
 · intro sp hsp
   rw [hs]
   exact args_stay hl hb hA hr (fun x hx => hlt x (by simp [hx])) (fun x hx => hsp x (by simp [hx]))
 · intro sp hsp
   rw [hs, hvars]
   exact rfl
 · exact ok_one hf rfl (okWide_bool_mk hu _)
end
end Go.Proofs.YtgdcfkbimkclaaaGreatDoor
/- Layer 6: places, spans, boxes; which may be drawn. -/
namespace Go.Proofs.YtgdcfkbimkclaaaGreatDoor
open Go.RowKit Go.Shelf
structure PtT where
 x : Int
 y : Int
deriving DecidableEq
def PtT.val (p : PtT) : Value := .agg #[.int .i64 p.x, .int .i64 p.y]
def encP (p : PtT) : List Value := [.int .i64 p.x, .int .i64 p.y]
theorem encP_len (p : PtT) : (encP p).length = 2 := rfl
structure SpT where
 y : Int
 f : Int
 t : Int
deriving DecidableEq
def SpT.val (s : SpT) : Value := .agg #[.int .i64 s.y, .int .i64 s.f, .int .i64 s.t]
def encS (s : SpT) : List Value := [.int .i64 s.y, .int .i64 s.f, .int .i64 s.t]
theorem encS_len (s : SpT) : (encS s).length = 3 := rfl
structure BxT where
 x : Int
 y : Int
 x2 : Int
 y2 : Int
deriving DecidableEq
def BxT.val (b : BxT) : Value := .agg #[.int .i64 b.x, .int .i64 b.y, .int .i64 b.x2, .int .i64 b.y2]
/-- May it be drawn? -/
def drawnB (p : PtT) : Bool := decide (-64 ≤ p.x ∧ p.x ≤ 127 ∧ -64 ≤ p.y ∧ p.y ≤ 127)
def reachB (n : Int) : Bool := decide (-256 ≤ n ∧ n ≤ 255)
set_option maxRecDepth 100000 in
set_option maxHeartbeats 1000000 in
theorem drawn_any (p : PtT) (w : World) : Calls Tryz.prog 151 #[p.val] w (Gives (.bool (drawnB p)) w) := by
 obtain ⟨x, y⟩ := p
 unfold PtT.val drawnB
 dsimp only
 by_cases h1 : -64 ≤ min x y
 · by_cases h2 : max x y ≤ 127
   · go_enter Tryz.func151, Tryz.ntmps151
     go_wp2_with fail
     go_ret
     exact ⟨ret_bool (by symm; simp; omega), (B7 _ _).alloc (Nat.le_refl _) _⟩
   · go_enter Tryz.func151, Tryz.ntmps151
     go_wp2_with fail
     go_ret
     exact ⟨ret_bool (by symm; simp; omega), (B7 _ _).alloc (Nat.le_refl _) _⟩
 · go_enter Tryz.func151, Tryz.ntmps151
   go_wp2_with fail
   go_ret
   exact ⟨ret_bool (by symm; simp; omega), (B7 _ _).alloc (Nat.le_refl _) _⟩
/-- The way, and its side. -/
def wayN (a b : Int) : Int := if b < a then a - b else b - a
def sideN (a b : Int) : Int := if b < a then -1 else 1
/- Layer 8: a search over a canvas, plain. -/
def ixP (p : PtT) : Nat := (p.y * 32 + p.x).toNat
def onB (W H : Int) (p : PtT) : Bool := decide ((0 ≤ p.x ∧ p.x < W) ∧ (0 ≤ p.y ∧ p.y < H))
theorem onB_iff {W H : Int} {p : PtT} : onB W H p = true ↔ ((0 ≤ p.x ∧ p.x < W) ∧ (0 ≤ p.y ∧ p.y < H)) := by unfold onB; exact decide_eq_true_iff
def nbs (p : PtT) : List PtT := [⟨p.x - 1, p.y⟩, ⟨p.x + 1, p.y⟩, ⟨p.x, p.y - 1⟩, ⟨p.x, p.y + 1⟩]
theorem ixP_inj {W H : Int} {a b : PtT} (hW : W ≤ 32) (ha : onB W H a = true) (hb : onB W H b = true) (h : ixP a = ixP b) : a = b := by
 have ha := onB_iff.1 ha
 have hb := onB_iff.1 hb
 obtain ⟨x, y⟩ := a
 obtain ⟨u, v⟩ := b
 unfold ixP at h
 simp only at ha hb h
 have h1 : y = v := by omega
 have h2 : x = u := by omega
 rw [h1, h2]
theorem ixP_lt {W H : Int} {a : PtT} (hW : W ≤ 32) (hH : H ≤ 32) (ha : onB W H a = true) : ixP a < 1024 := by
 have ha := onB_iff.1 ha
 unfold ixP
 omega
/-- What was met, and in which order. -/
structure Bf where
 m : Nat → Nat
 l : List PtT
def Bf.meet (s : Bf) (p : PtT) (v : Nat) : Bf := if s.m (ixP p) = 0 then ⟨fun i => if i = ixP p then v + 1 else s.m i, s.l ++ [p]⟩ else s
def Bf.look (N : PtT → Bool) (W H : Int) (q : PtT) (s : Bf) (n : PtT) : Bf := if onB W H n && N n then s.meet n (s.m (ixP q)) else s
def Bf.visit (N : PtT → Bool) (W H : Int) (s : Bf) (q : PtT) : Bf := (nbs q).foldl (Bf.look N W H q) s
def goB (N : PtT → Bool) (W H : Int) : Nat → Nat → Bf → Bf
 | 0, _, s => s
 | f + 1, k, s => match s.l[k]? with
  | none => s
  | some q => goB N W H f (k + 1) (s.visit N W H q)
/-- A search from p, of whose places k have been visited. -/
structure BfI (N : PtT → Bool) (W H : Int) (m0 : Nat → Nat) (p : PtT) (k : Nat) (s : Bf) : Prop where
 nodup : s.l.Nodup
 on : ∀ q ∈ s.l, onB W H q = true
 near : ∀ q ∈ s.l, N q = true
 head : s.l[0]? = some p
 new : ∀ q ∈ s.l, m0 (ixP q) = 0
 out : ∀ i, (∀ q ∈ s.l, ixP q ≠ i) → s.m i = m0 i
 val : ∀ (j : Nat) (q : PtT), s.l[j]? = some q → 1 ≤ s.m (ixP q) ∧ s.m (ixP q) ≤ j + 1
 mono : ∀ (i j : Nat) (a b : PtT), i ≤ j → s.l[i]? = some a → s.l[j]? = some b → s.m (ixP a) ≤ s.m (ixP b)
 lead : ∀ q : PtT, s.l[k]? = some q → ∀ a ∈ s.l, s.m (ixP a) ≤ s.m (ixP q) + 1
 par : ∀ a ∈ s.l, a = p ∨ ∃ b ∈ s.l, a ∈ nbs b ∧ s.m (ixP a) = s.m (ixP b) + 1
 clo : ∀ i : Nat, i < k → ∀ q : PtT, s.l[i]? = some q → ∀ n ∈ nbs q, onB W H n = true → N n = true → m0 (ixP n) = 0 → n ∈ s.l ∧ s.m (ixP n) ≤ s.m (ixP q) + 1
 first : s.m (ixP p) = 1
theorem BfI.start (N : PtT → Bool) (W H : Int) (m0 : Nat → Nat) (p : PtT) (hp : onB W H p = true) (hn : N p = true) (h0 : m0 (ixP p) = 0) : BfI N W H m0 p 0 ((Bf.mk m0 []).meet p 0) := by
 unfold Bf.meet
 rw [if_pos h0]
 have e : ∀ j q, ([] ++ [p] : List PtT)[j]? = some q → j = 0 ∧ q = p := fun j q h => by
  match j, h with
  | 0, h => exact ⟨rfl, by simpa using h.symm⟩
  | _ + 1, h => simp at h
 refine ⟨by simp, by simpa using hp, by simpa using hn, rfl, by simpa using h0, fun i hi => ?_, fun j q h => ?_, fun i j a b _ ha hb => ?_, fun q h a ha => ?_, fun a ha => .inl (by simpa using ha), fun i hi => absurd hi (Nat.not_lt_zero _), by simp⟩
 · have h1 := hi p (by simp)
   exact if_neg fun e => h1 e.symm
 · obtain ⟨rfl, rfl⟩ := e j q h; simp
 · obtain ⟨rfl, rfl⟩ := e i a ha; obtain ⟨rfl, rfl⟩ := e j b hb; exact Nat.le_refl _
 · obtain ⟨-, rfl⟩ := e 0 q h
   have : a = q := by simpa using ha
   subst this
   omega
/-- One more is met. -/
theorem BfI.push {N : PtT → Bool} {W H : Int} {m0 : Nat → Nat} {p : PtT} {k : Nat} {s : Bf} (h : BfI N W H m0 p k s) (hW : W ≤ 32) {q n : PtT} (hq : s.l[k]? = some q) (hn : n ∈ nbs q) (ho : onB W H n = true) (hN : N n = true) (h0 : s.m (ixP n) = 0) :
 BfI N W H m0 p k ⟨fun i => if i = ixP n then s.m (ixP q) + 1 else s.m i, s.l ++ [n]⟩ := by
 have hnl : n ∉ s.l := fun hm => by
  obtain ⟨j, hj⟩ := List.mem_iff_getElem?.1 hm
  have := (h.val j n hj).1
  omega
 have hne : ∀ a ∈ s.l, ixP a ≠ ixP n := fun a ha e => hnl (ixP_inj hW (h.on a ha) ho e ▸ ha)
 have hql := List.mem_of_getElem? hq
 have hm : ∀ a ∈ s.l, (if ixP a = ixP n then s.m (ixP q) + 1 else s.m (ixP a)) = s.m (ixP a) := fun a ha => if_neg (hne a ha)
 have hm0 : m0 (ixP n) = 0 := by rw [← h.out (ixP n) fun a ha e => hne a ha e]; exact h0
 have hk : k < s.l.length := (List.getElem?_eq_some_iff.1 hq).1
 have split : ∀ (j : Nat) (a : PtT), (s.l ++ [n])[j]? = some a → s.l[j]? = some a ∨ (j = s.l.length ∧ a = n) := fun j a hj => by
  rcases Nat.lt_or_ge j s.l.length with h1 | h1
  · rw [List.getElem?_append_left h1] at hj; exact .inl hj
  · rw [List.getElem?_append_right h1] at hj
    rcases Nat.eq_or_lt_of_le h1 with e | e
    · rw [← e, Nat.sub_self] at hj; exact .inr ⟨e.symm, by simpa using hj.symm⟩
    · rw [List.getElem?_eq_none (by simp; omega)] at hj; cases hj
 refine ⟨?_, ?_, ?_, ?_, ?_, fun i hi => ?_, fun j a hj => ?_, fun i j a b hij ha hb => ?_, fun a ha b hb => ?_, fun a ha => ?_, fun i hi a ha b hb h1 h2 h3 => ?_, ?_⟩
 · rw [List.nodup_append]
   exact ⟨h.nodup, by simp, fun a ha b hb => by rw [List.mem_singleton.1 hb]; exact fun e => hnl (e ▸ ha)⟩
 · intro a ha; rcases List.mem_append.1 ha with ha | ha
   · exact h.on a ha
   · rw [List.mem_singleton.1 ha]; exact ho
 · intro a ha; rcases List.mem_append.1 ha with ha | ha
   · exact h.near a ha
   · rw [List.mem_singleton.1 ha]; exact hN
 · show (s.l ++ [n])[0]? = some p
   rw [List.getElem?_append_left (by omega)]; exact h.head
 · intro a ha; rcases List.mem_append.1 ha with ha | ha
   · exact h.new a ha
   · rw [List.mem_singleton.1 ha]; exact hm0
 · have h1 := hi n (by simp)
   show (if i = ixP n then s.m (ixP q) + 1 else s.m i) = m0 i
   rw [if_neg fun e => h1 e.symm]
   exact h.out i fun a ha => hi a (List.mem_append.2 (.inl ha))
 · show 1 ≤ (if ixP a = ixP n then s.m (ixP q) + 1 else s.m (ixP a)) ∧ (if ixP a = ixP n then s.m (ixP q) + 1 else s.m (ixP a)) ≤ j + 1
   rcases split j a hj with e | ⟨rfl, rfl⟩
   · rw [hm a (List.mem_of_getElem? e)]; exact h.val j a e
   · rw [if_pos rfl]
     have := (h.val k q hq).2
     omega
 · show (if ixP a = ixP n then s.m (ixP q) + 1 else s.m (ixP a)) ≤ (if ixP b = ixP n then s.m (ixP q) + 1 else s.m (ixP b))
   rcases split i a ha with e1 | ⟨rfl, rfl⟩
   · have hal := List.mem_of_getElem? e1
     rw [hm a hal]
     rcases split j b hb with e2 | ⟨rfl, rfl⟩
     · rw [hm b (List.mem_of_getElem? e2)]; exact h.mono i j a b hij e1 e2
     · rw [if_pos rfl]; exact h.lead q hq a hal
   · rcases split j b hb with e2 | ⟨-, rfl⟩
     · have := (List.getElem?_eq_some_iff.1 e2).1; omega
     · exact Nat.le_refl _
 · show (if ixP b = ixP n then s.m (ixP q) + 1 else s.m (ixP b)) ≤ (if ixP a = ixP n then s.m (ixP q) + 1 else s.m (ixP a)) + 1
   rcases split k a ha with e1 | ⟨e1, -⟩
   · obtain rfl : a = q := by rw [hq] at e1; exact (Option.some.inj e1).symm
     rw [hm a hql]
     rcases List.mem_append.1 hb with hb | hb
     · rw [hm b hb]; exact h.lead a hq b hb
     · rw [List.mem_singleton.1 hb, if_pos rfl]; exact Nat.le_refl _
   · omega
 · show a = p ∨ ∃ b ∈ s.l ++ [n], a ∈ nbs b ∧ (if ixP a = ixP n then s.m (ixP q) + 1 else s.m (ixP a)) = (if ixP b = ixP n then s.m (ixP q) + 1 else s.m (ixP b)) + 1
   rcases List.mem_append.1 ha with ha | ha
   · refine (h.par a ha).imp id fun ⟨b, hb, h1, h2⟩ => ⟨b, List.mem_append.2 (.inl hb), h1, ?_⟩
     rw [hm a ha, hm b hb, h2]
   · rw [List.mem_singleton.1 ha]
     exact .inr ⟨q, List.mem_append.2 (.inl hql), hn, by rw [if_pos rfl, hm q hql]⟩
 · show b ∈ s.l ++ [n] ∧ (if ixP b = ixP n then s.m (ixP q) + 1 else s.m (ixP b)) ≤ (if ixP a = ixP n then s.m (ixP q) + 1 else s.m (ixP a)) + 1
   rcases split i a ha with e1 | ⟨e1, -⟩
   · obtain ⟨h4, h5⟩ := h.clo i hi a e1 b hb h1 h2 h3
     rw [hm b h4, hm a (List.mem_of_getElem? e1)]
     exact ⟨List.mem_append.2 (.inl h4), h5⟩
   · omega
 · show (if ixP p = ixP n then s.m (ixP q) + 1 else s.m (ixP p)) = 1
   rw [hm p (List.mem_of_getElem? h.head)]; exact h.first
/-- What was met stays so. -/
structure BfG (s t : Bf) : Prop where
 l : ∃ e, t.l = s.l ++ e
 m : ∀ q ∈ s.l, t.m (ixP q) = s.m (ixP q)
theorem BfG.refl (s : Bf) : BfG s s := ⟨⟨[], by simp⟩, fun _ _ => rfl⟩
theorem BfG.mem {s t : Bf} (h : BfG s t) {q : PtT} (hq : q ∈ s.l) : q ∈ t.l := by obtain ⟨e, he⟩ := h.l; rw [he]; exact List.mem_append.2 (.inl hq)
theorem BfG.trans {s t u : Bf} (h : BfG s t) (k : BfG t u) : BfG s u := by
 obtain ⟨e, he⟩ := h.l
 obtain ⟨f, hf⟩ := k.l
 exact ⟨⟨e ++ f, by rw [hf, he, List.append_assoc]⟩, fun q hq => (k.m q (h.mem hq)).trans (h.m q hq)⟩
theorem BfG.get {s t : Bf} (h : BfG s t) {k : Nat} {q : PtT} (hq : s.l[k]? = some q) : t.l[k]? = some q := by
 obtain ⟨e, he⟩ := h.l
 rw [he, List.getElem?_append_left (List.getElem?_eq_some_iff.1 hq).1]; exact hq
theorem BfI.look {N : PtT → Bool} {W H : Int} {m0 : Nat → Nat} {p : PtT} {k : Nat} {s : Bf} (h : BfI N W H m0 p k s) (hW : W ≤ 32) {q n : PtT} (hq : s.l[k]? = some q) (hn : n ∈ nbs q) :
 BfI N W H m0 p k (s.look N W H q n) ∧ BfG s (s.look N W H q n) ∧ (onB W H n = true → N n = true → m0 (ixP n) = 0 → n ∈ (s.look N W H q n).l ∧ (s.look N W H q n).m (ixP n) ≤ (s.look N W H q n).m (ixP q) + 1) := by
 have hql := List.mem_of_getElem? hq
 unfold Bf.look
 by_cases hc : onB W H n && N n
 · rw [if_pos hc]
   have hc := Bool.and_eq_true_iff.1 hc
   unfold Bf.meet
   by_cases h0 : s.m (ixP n) = 0
   · rw [if_pos h0]
     have h1 := h.push hW hq hn hc.1 hc.2 h0
     have hne : ∀ a ∈ s.l, ixP a ≠ ixP n := fun a ha e => by
      obtain ⟨j, hj⟩ := List.mem_iff_getElem?.1 ha
      have := (h.val j a hj).1
      rw [e] at this
      omega
     refine ⟨h1, ⟨⟨[n], rfl⟩, fun a ha => if_neg (hne a ha)⟩, fun _ _ _ => ⟨by simp, ?_⟩⟩
     show (if ixP n = ixP n then s.m (ixP q) + 1 else s.m (ixP n)) ≤ (if ixP q = ixP n then s.m (ixP q) + 1 else s.m (ixP q)) + 1
     rw [if_pos rfl, if_neg (hne q hql)]
     exact Nat.le_refl _
   · rw [if_neg h0]
     refine ⟨h, BfG.refl _, fun ho _ hm => ?_⟩
     have hmem : n ∈ s.l := Classical.byContradiction fun hnm => h0 (by
      rw [h.out (ixP n) fun a ha e => hnm (ixP_inj hW (h.on a ha) ho e ▸ ha)]; exact hm)
     exact ⟨hmem, h.lead q hq n hmem⟩
 · rw [if_neg hc]
   refine ⟨h, BfG.refl _, fun h1 h2 _ => absurd (Bool.and_eq_true_iff.2 ⟨h1, h2⟩) hc⟩
theorem BfI.looks {N : PtT → Bool} {W H : Int} {m0 : Nat → Nat} {p : PtT} {k : Nat} (hW : W ≤ 32) {q : PtT} : ∀ (ns : List PtT) {s : Bf}, BfI N W H m0 p k s → s.l[k]? = some q → (∀ n ∈ ns, n ∈ nbs q) →
 BfI N W H m0 p k (ns.foldl (Bf.look N W H q) s) ∧ BfG s (ns.foldl (Bf.look N W H q) s) ∧
  ∀ n ∈ ns, onB W H n = true → N n = true → m0 (ixP n) = 0 → n ∈ (ns.foldl (Bf.look N W H q) s).l ∧ (ns.foldl (Bf.look N W H q) s).m (ixP n) ≤ (ns.foldl (Bf.look N W H q) s).m (ixP q) + 1
 | [], s, h, _, _ => ⟨h, BfG.refl _, fun n hn => absurd hn (by simp)⟩
 | n :: ns, s, h, hq, hns => by
  obtain ⟨h1, h2, h3⟩ := h.look hW hq (hns n (by simp))
  obtain ⟨h4, h5, h6⟩ := BfI.looks hW ns h1 (h2.get hq) fun a ha => hns a (by simp [ha])
  refine ⟨h4, h2.trans h5, fun a ha ho hN hm => ?_⟩
  rcases List.mem_cons.1 ha with rfl | ha
  · obtain ⟨h7, h8⟩ := h3 ho hN hm
    have h9 := h2.mem (List.mem_of_getElem? hq)
    refine ⟨h5.mem h7, ?_⟩
    exact Nat.le_trans (Nat.le_of_eq (h5.m _ h7)) (Nat.le_trans h8 (Nat.le_of_eq (congrArg (· + 1) (h5.m _ h9).symm)))
  · exact h6 a ha ho hN hm
theorem BfI.visit {N : PtT → Bool} {W H : Int} {m0 : Nat → Nat} {p : PtT} {k : Nat} {s : Bf} (h : BfI N W H m0 p k s) (hW : W ≤ 32) {q : PtT} (hq : s.l[k]? = some q) : BfI N W H m0 p (k + 1) (s.visit N W H q) ∧ BfG s (s.visit N W H q) := by
 obtain ⟨h1, h2, h3⟩ := BfI.looks hW (nbs q) h hq fun _ h => h
 refine ⟨⟨h1.nodup, h1.on, h1.near, h1.head, h1.new, h1.out, h1.val, h1.mono, fun a ha b hb => ?_, h1.par, fun i hi a ha n hn ho hN hm => ?_, h1.first⟩, h2⟩
 · have e1 := h1.lead q (h2.get hq) b hb
   have e2 := h1.mono k (k + 1) q a (Nat.le_succ _) (h2.get hq) ha
   exact Nat.le_trans e1 (Nat.succ_le_succ e2)
 · rcases Nat.lt_succ_iff_lt_or_eq.1 hi with e | e
   · exact h1.clo i e a ha n hn ho hN hm
   · subst e
     have e2 := h2.get hq
     obtain rfl : q = a := Option.some.inj (e2.symm.trans ha)
     exact h3 n hn ho hN hm
theorem nodup_lt : ∀ (n : Nat) (l : List Nat), l.Nodup → (∀ i ∈ l, i < n) → l.length ≤ n
 | 0, [], _, _ => Nat.le_refl _
 | 0, i :: l, _, h => absurd (h i (by simp)) (Nat.not_lt_zero _)
 | n + 1, l, hl, h => by
  have h1 := nodup_lt n (l.erase n) (hl.erase n) fun i hi => by
   have h2 := (List.Nodup.mem_erase_iff hl).1 hi
   have h3 := h i h2.2
   have := h2.1
   omega
  rw [List.length_erase] at h1
  split at h1 <;> omega
theorem BfI.len {N : PtT → Bool} {W H : Int} {m0 : Nat → Nat} {p : PtT} {k : Nat} {s : Bf} (h : BfI N W H m0 p k s) (hW : W ≤ 32) (hH : H ≤ 32) : s.l.length ≤ 1024 := by
 have h1 : (s.l.map ixP).Nodup := by
  refine List.pairwise_map.2 ((List.Pairwise.and_mem.1 h.nodup).imp fun {a b} hab e => hab.2.2 (ixP_inj hW (h.on a hab.1) (h.on b hab.2.1) e))
 have h3 := nodup_lt 1024 _ h1 fun i hi => by
  obtain ⟨a, ha, rfl⟩ := List.mem_map.1 hi
  exact ixP_lt hW hH (h.on a ha)
 rwa [List.length_map] at h3
/-- To its end. -/
theorem BfI.goes {N : PtT → Bool} {W H : Int} {m0 : Nat → Nat} {p : PtT} (hW : W ≤ 32) (hH : H ≤ 32) : ∀ (f k : Nat) (s : Bf), 1025 ≤ f + k → k ≤ s.l.length → BfI N W H m0 p k s → BfI N W H m0 p (goB N W H f k s).l.length (goB N W H f k s)
 | 0, k, s, hf, hk, h => by have := h.len hW hH; omega
 | f + 1, k, s, hf, hk, h => by
  unfold goB
  rcases Nat.eq_or_lt_of_le hk with e | e
  · rw [List.getElem?_eq_none (by omega)]
    subst e; exact h
  · rw [List.getElem?_eq_getElem e]
    obtain ⟨h1, h2⟩ := h.visit hW (List.getElem?_eq_getElem e)
    obtain ⟨x, hx⟩ := h2.l
    exact BfI.goes hW hH f (k + 1) _ (by omega) (by rw [hx, List.length_append]; omega) h1
/-- A way of so many steps. -/
inductive Way (N : PtT → Bool) (W H : Int) (m0 : Nat → Nat) (p : PtT) : Nat → PtT → Prop
 | here : Way N W H m0 p 0 p
 | step {d : Nat} {b n : PtT} : Way N W H m0 p d b → n ∈ nbs b → onB W H n = true → N n = true → m0 (ixP n) = 0 → Way N W H m0 p (d + 1) n
theorem BfI.met {N : PtT → Bool} {W H : Int} {m0 : Nat → Nat} {p : PtT} {s : Bf} (h : BfI N W H m0 p s.l.length s) {d : Nat} {q : PtT} (hw : Way N W H m0 p d q) : q ∈ s.l ∧ s.m (ixP q) ≤ d + 1 := by
 induction hw with
 | here => exact ⟨List.mem_of_getElem? h.head, Nat.le_of_eq h.first⟩
 | step hb hn ho hN hm ih =>
  obtain ⟨i, hi⟩ := List.mem_iff_getElem?.1 ih.1
  obtain ⟨h1, h2⟩ := h.clo i (List.getElem?_eq_some_iff.1 hi).1 _ hi _ hn ho hN hm
  exact ⟨h1, Nat.le_trans h2 (Nat.succ_le_succ ih.2)⟩
theorem BfI.way {N : PtT → Bool} {W H : Int} {m0 : Nat → Nat} {p : PtT} {k : Nat} {s : Bf} (h : BfI N W H m0 p k s) : ∀ (d : Nat) (q : PtT), q ∈ s.l → s.m (ixP q) = d + 1 → Way N W H m0 p d q
 | 0, q, hq, hd => by
  rcases h.par q hq with rfl | ⟨b, hb, -, e⟩
  · exact .here
  · obtain ⟨i, hi⟩ := List.mem_iff_getElem?.1 hb
    have := (h.val i b hi).1
    omega
 | d + 1, q, hq, hd => by
  rcases h.par q hq with rfl | ⟨b, hb, hn, e⟩
  · have := h.first; omega
  · exact .step (BfI.way h d b hb (by omega)) hn (h.on q hq) (h.near q hq) (h.new q hq)
/-- Behind its end: how far all is. -/
structure Gone (N : PtT → Bool) (W H : Int) (m0 : Nat → Nat) (p : PtT) (m : Nat → Nat) : Prop where
 in_ : ∀ q, onB W H q = true → m0 (ixP q) = 0 → ∀ d, (m (ixP q) = d + 1 ↔ Way N W H m0 p d q ∧ ∀ e, Way N W H m0 p e q → d ≤ e)
 old : ∀ i, m0 i ≠ 0 → m i = m0 i
 on : ∀ i, m i ≠ 0 → m0 i = 0 → ∃ q, onB W H q = true ∧ ixP q = i
theorem BfI.gone {N : PtT → Bool} {W H : Int} {m0 : Nat → Nat} {p : PtT} {s : Bf} (h : BfI N W H m0 p s.l.length s) (hW : W ≤ 32) : Gone N W H m0 p s.m := by
 have hmem : ∀ q, onB W H q = true → m0 (ixP q) = 0 → s.m (ixP q) ≠ 0 → q ∈ s.l := fun q ho h0 hs => Classical.byContradiction fun hq => hs (by
  rw [h.out (ixP q) fun a ha e => hq (ixP_inj hW (h.on a ha) ho e ▸ ha)]; exact h0)
 refine ⟨fun q ho h0 d => ⟨fun hd => ?_, fun ⟨h1, h2⟩ => ?_⟩, fun i hi => ?_, fun i hi h0 => ?_⟩
 · have hq := hmem q ho h0 (by omega)
   refine ⟨h.way d q hq hd, fun e he => ?_⟩
   have := (h.met he).2
   omega
 · obtain ⟨h3, h4⟩ := h.met h1
   obtain ⟨i, hi⟩ := List.mem_iff_getElem?.1 h3
   have h5 := (h.val i q hi).1
   have h6 := h2 _ (h.way (s.m (ixP q) - 1) q h3 (by omega))
   omega
 · exact h.out i fun a ha e => hi (by rw [← e]; exact h.new a ha)
 · refine Classical.byContradiction fun hn => hi ?_
   rw [h.out i fun a ha e => hn ⟨a, h.on a ha, e⟩]
   exact h0
/- Layers 3, 4: colours, and tiles. -/
structure ColT where
 r : Int
 g : Int
 b : Int
 a : Int
deriving DecidableEq
def ColT.val (c : ColT) : Value := .agg #[.int .u8 c.r, .int .u8 c.g, .int .u8 c.b, .int .u8 c.a]
def encC (c : ColT) : List Value := [.int .u8 c.r, .int .u8 c.g, .int .u8 c.b, .int .u8 c.a]
theorem encC_len (c : ColT) : (encC c).length = 4 := rfl
/-- Its parts are bytes. -/
def okC (c : ColT) : Prop := ((0 ≤ c.r ∧ c.r < 256) ∧ (0 ≤ c.g ∧ c.g < 256)) ∧ ((0 ≤ c.b ∧ c.b < 256) ∧ (0 ≤ c.a ∧ c.a < 256))
def isB (x y : Int) : Bool := decide ((0 ≤ x ∧ x < 8) ∧ (0 ≤ y ∧ y < 8))
set_option maxRecDepth 100000 in
set_option maxHeartbeats 1000000 in
theorem is_any (x y : Int) (w : World) : Calls Tryz.prog 121 #[.int .i64 x, .int .i64 y] w (Gives (.bool (isB x y)) w) := by
 unfold isB
 by_cases h1 : 0 ≤ x <;> by_cases h2 : x < 8 <;> by_cases h3 : 0 ≤ y <;> by_cases h4 : y < 8 <;> (
  go_enter Tryz.func121, Tryz.ntmps121
  go_wp2_with fail
  go_ret
  exact ⟨ret_bool (by symm; simp [h1, h2, h3, h4]), B7 _ _⟩)
theorem colE_run (a b : ColT) (w : World) : (Op.equal 26 a.val b.val).run Tryz.prog w = .ok (decide (a = b)) w := by
 obtain ⟨r, g, b', a'⟩ := a
 obtain ⟨s, h, c, d⟩ := b
 unfold ColT.val
 simp [Op.equal, Op.maxDepth, go_sem]
 by_cases h1 : r = s <;> by_cases h2 : g = h <;> by_cases h3 : b' = c <;> by_cases h4 : a' = d <;> simp [h1, h2, h3, h4]
/-- The cells of a tile at the place of a pixel. -/
theorem tileAt_any (t : List ColT) (ht : t.length = 64) (x y : Nat) (hx : x < 8) (hy : y < 8) (c : ColT) (hc : t[y * 8 + x]? = some c) (w : World) :
 Calls Tryz.prog 76 #[.agg (t.flatMap encC).toArray, .int .i64 x, .int .i64 y] w (Gives (.tuple #[c.val, .int .i64 0]) w) := by
 have his : isB x y = true := by unfold isB; simp; omega
 have cell : ∀ r v, (encC c)[r]? = some v → (t.flatMap encC)[(y * 8 + x) * 4 + r]? = some v := fun r v hv => by
  rw [flat_get encC_len t _ r (by have := (List.getElem?_eq_some_iff.1 hv).1; rwa [encC_len] at this), hc]; exact hv
 obtain ⟨r, g, b, a⟩ := c
 have c0 := cell 0 _ rfl
 have c1 := cell 1 _ rfl
 have c2 := cell 2 _ rfl
 have c3 := cell 3 _ rfl
 have hsz : ((t.flatMap encC).toArray).size = 256 := by simp [flat_length encC_len, ht]
 obtain ⟨cs, hcs⟩ : ∃ cs, (t.flatMap encC).toArray = cs := ⟨_, rfl⟩
 rw [← List.getElem?_toArray, hcs] at c0 c1 c2 c3
 rw [hcs] at hsz ⊢
 clear hcs cell hc ht
 have e1 : wrap64 ((y : Int) * 8) = ((y * 8 : Nat) : Int) := by unfold wrap64; omega
 have e2 : wrap64 (((y * 8 : Nat) : Int) + x) = ((y * 8 + x : Nat) : Int) := by unfold wrap64; omega
 obtain ⟨i, hi⟩ : ∃ i, y * 8 + x = i := ⟨_, rfl⟩
 have hi64 : i < 64 := by omega
 rw [hi] at e2 c0 c1 c2 c3
 rw [Nat.add_zero] at c0
 have HE := H7 (And.intro e1 e2)
 have HC := H7 (And.intro c0 (And.intro c1 (And.intro c2 c3)))
 have HI := H7 hi64
 clear e1 e2 c0 c1 c2 c3 hi64
 have HS := H7 (St.start w)
 go_enter Tryz.func76, Tryz.ntmps76
 go_wp2_with fail
 have hs_ := ((HS.out.alloc (.cells cs 54)).alloc (.cells #[.int .u8 0, .int .u8 0, .int .u8 0, .int .u8 0] 26))
 obtain ⟨w2, hw_⟩ : ∃ w2 : World, ((w.alloc (.cells cs 54)).alloc (.cells #[.int .u8 0, .int .u8 0, .int .u8 0, .int .u8 0] 26)) = w2 := ⟨_, rfl⟩
 rw [hw_] at hs_
 try simp only [World.size_alloc] at hs_
 have HS := H7 hs_
 rw [hw_]
 clear hw_ hs_
 refine (is_any _ _ _).mono ?_
 rintro e w3 ⟨rfl, hb_⟩
 have HS := H7 (HS.out.below hb_)
 clear hb_
 rw [his]
 have e1 := HE.out.1
 have e2 := HE.out.2
 have c0 := c7b (HS.out.blockAt 1 rfl) HC.out.1
 have c1 := c7b (HS.out.blockAt 1 rfl) HC.out.2.1
 have c2 := c7b (HS.out.blockAt 1 rfl) HC.out.2.2.1
 have c3 := c7b (HS.out.blockAt 1 rfl) HC.out.2.2.2
 have f0 := f7b (HS.out.blockAt 0 rfl)
 have k0 := h7c HS 0 0 rfl rfl
 have k1 := h7c HS 0 1 rfl rfl
 have k2 := h7c HS 0 2 rfl rfl
 have k3 := h7c HS 0 3 rfl rfl
 have hi64 := HI.out
 go_wp2_with fail
 refine bodyPost_ret (v := .tuple #[.agg #[.int .u8 r, .int .u8 g, .int .u8 b, .int .u8 a], .int .i64 0]) (by simp [results, Tryz.results76, go_sem, k0, k1, k2, k3]) rfl ⟨rfl, ?_⟩
 have h0 := HS.out.low
 (repeat (first | exact B7 _ _ | assumption | refine Below.alloc ?_ (by first | omega | (simp; done) | (simp; omega)) _ | refine Below.setCell ?_ (by first | omega | (simp; done) | (simp; omega)) _ | refine Below.drew ?_))
end Go.Proofs.YtgdcfkbimkclaaaGreatDoor
/- Layer 3: pixel.Far, pixel.Near. -/
namespace Go.Proofs.YtgdcfkbimkclaaaGreatDoor
open Go.RowKit Go.Shelf
attribute [local go_sem] Oper.semAt_some
/- Layer 5: canvases; what they show. -/
abbrev TileT := { l : List ColT // l.length = 64 }
def encT (t : TileT) : List Value := t.1.flatMap encC
theorem encT_len (t : TileT) : (encT t).length = 256 := by unfold encT; rw [flat_length encC_len, t.2]
def zeroC : ColT := ⟨0, 0, 0, 0⟩
/-- What a canvas shows. -/
structure CanT where
 wide : Nat
 high : Nat
 tiles : List TileT
deriving DecidableEq
structure okCan (C : CanT) : Prop where
 wide : 1 ≤ C.wide ∧ C.wide ≤ 4
 high : 1 ≤ C.high ∧ C.high ≤ 4
 many : C.tiles.length = C.wide * C.high
 cols : ∀ t ∈ C.tiles, ∀ c ∈ t.1, okC c
/-- The colour of a pixel. -/
def colC (C : CanT) (x y : Nat) : ColT := (((C.tiles[y / 8 * C.wide + x / 8]?).map (·.1)).bind fun l => l[y % 8 * 8 + x % 8]?).getD zeroC
def colP (C : CanT) (p : PtT) : ColT := colC C p.x.toNat p.y.toNat
theorem tile_lt {wide high x y : Nat} (hx : x < 8 * wide) (hy : y < 8 * high) : y / 8 * wide + x / 8 < wide * high := by
 have h1 : x / 8 < wide := by omega
 have h2 : y / 8 + 1 ≤ high := by omega
 calc y / 8 * wide + x / 8 < y / 8 * wide + wide := by omega
  _ = (y / 8 + 1) * wide := by rw [Nat.add_mul, Nat.one_mul]
  _ ≤ high * wide := Nat.mul_le_mul_right _ h2
  _ = wide * high := Nat.mul_comm _ _
theorem okCan.len {C : CanT} (h : okCan C) : C.tiles.length ≤ 16 := by
 rw [h.many]
 calc C.wide * C.high ≤ 4 * 4 := Nat.mul_le_mul h.wide.2 h.high.2
  _ = 16 := rfl
theorem okCan.tile {C : CanT} (h : okCan C) {x y : Nat} (hx : x < 8 * C.wide) (hy : y < 8 * C.high) : ∃ t, C.tiles[y / 8 * C.wide + x / 8]? = some t ∧ t.1[y % 8 * 8 + x % 8]? = some (colC C x y) ∧ okC (colC C x y) := by
 have h1 := tile_lt hx hy
 rw [← h.many] at h1
 have h2 : y % 8 * 8 + x % 8 < 64 := by omega
 have h3 : y % 8 * 8 + x % 8 < (C.tiles[y / 8 * C.wide + x / 8]).1.length := by rw [(C.tiles[y / 8 * C.wide + x / 8]).2]; exact h2
 have e : colC C x y = (C.tiles[y / 8 * C.wide + x / 8]).1[y % 8 * 8 + x % 8] := by
  unfold colC
  rw [List.getElem?_eq_getElem h1]
  simp only [Option.map_some, Option.bind_some]
  rw [List.getElem?_eq_getElem h3]
  rfl
 rw [e]
 exact ⟨_, List.getElem?_eq_getElem h1, List.getElem?_eq_getElem h3, h.cols _ (List.getElem_mem _) _ (List.getElem_mem _)⟩
/-- An argument that is what a canvas shows. -/
def CanV (w : World) (C : CanT) (v : Value) : Prop := ∃ a cap, v = .agg #[.int .i64 C.wide, .int .i64 C.high, .slice a C.tiles.length cap] ∧ C.tiles.length ≤ cap ∧ Elems w (.slice a C.tiles.length cap) C.tiles.length 256 (rowC encT C.tiles)
theorem CanV.below {w w' : World} {C : CanT} {v : Value} (h : CanV w C v) (hb : Below w.heap.size w w') : CanV w' C v := by
 obtain ⟨a, cap, h1, h2, h3⟩ := h
 exact ⟨a, cap, h1, h2, h3.below hb⟩
/-- A canvas in memory. -/
structure CanAt (w : World) (p : Nat) (C : CanT) : Prop where
 ok : okCan C
 ex : ∃ (b cap : Nat) (qs : List Nat), w.heap[p]? = some (Obj.cells #[.int .i64 C.wide, .int .i64 C.high, .slice (some ⟨b, 0, none⟩) C.tiles.length cap] 108 (0, 0)) ∧ C.tiles.length ≤ cap ∧ qs.length = C.tiles.length ∧
  (∀ (i q : Nat), qs[i]? = some q → w.cell? ⟨b, i, none⟩ = some (.pointer (some ⟨q, 0, none⟩))) ∧ ∀ (i q : Nat) (t : TileT), qs[i]? = some q → C.tiles[i]? = some t → w.heap[q]? = some (Obj.cells (encT t).toArray 54 (0, 0))
theorem CanAt.below {w w' : World} {p : Nat} {C : CanT} (h : CanAt w p C) (hb : Below w.heap.size w w') : CanAt w' p C := by
 obtain ⟨ok, b, cap, qs, h1, h2, h3, h4, h5⟩ := h
 refine ⟨ok, b, cap, qs, (hb.block p (b7t h1)).trans h1, h2, h3, fun i q hq => ?_, fun i q t hq ht => (hb.block q (b7t (h5 i q t hq ht))).trans (h5 i q t hq ht)⟩
 have h6 := h4 i q hq
 exact (hb.cell (p := ⟨b, i, none⟩) (cell_lt h6)).trans h6
theorem CanAt.lt {w : World} {p : Nat} {C : CanT} (h : CanAt w p C) : p < w.heap.size := by
 obtain ⟨ok, b, cap, qs, h1, -⟩ := h
 exact b7t h1
theorem at_nums {x y wide high qy qx m i j : Nat} (hqy : y / 8 = qy) (hqx : x / 8 = qx) (hm : qy * wide = m) (hi : m + qx = i) (hj : y % 8 * 8 + x % 8 = j) (hx : x < 8 * wide) (hy : y < 8 * high) (hw : wide ≤ 4) (hh : high ≤ 4) :
 wrap64 ((y : Int) / 8) = (qy : Int) ∧ wrap64 ((qy : Int) * wide) = (m : Int) ∧ wrap64 ((x : Int) / 8) = (qx : Int) ∧ wrap64 ((m : Int) + qx) = (i : Int) ∧ ((y : Int) % 8 * 8 + (x : Int) % 8).toNat = j := by
 have hq : qy ≤ 4 := by omega
 have h3 : m ≤ 4 * 4 := by rw [← hm]; exact Nat.mul_le_mul hq hw
 have h4 : (qy : Int) * (wide : Int) = (m : Int) := by rw [← hm, Int.natCast_mul]
 rw [h4]
 clear h4 hm
 refine ⟨?_, ?_, ?_, ?_, ?_⟩
 · unfold wrap64; omega
 · unfold wrap64; omega
 · unfold wrap64; omega
 · unfold wrap64; omega
 · omega
end Go.Proofs.YtgdcfkbimkclaaaGreatDoor
/- Layer 8's rows: a canvas as an argument. -/
namespace Go.Proofs.YtgdcfkbimkclaaaGreatDoor
open Go.ChangeShapes Go.WideShapes Go.ChangeAt Go.RowKit Go.Deep
theorem bounds_u8 {n : Int} (h : (Lit.int .u8 n).wf = true) : 0 ≤ n ∧ n < 256 := by
 simp only [Lit.wf, Bool.and_eq_true, decide_eq_true_eq] at h
 have h1 : IntKind.min .u8 = 0 := by decide
 have h2 : IntKind.max .u8 = 255 := by decide
 omega
theorem cols_of : ∀ (m : Nat) (vs : List Value), vs.length = 4 * m → (∀ k, k < 4 * m → ∃ n : Int, vs[k]? = some (.int .u8 n) ∧ 0 ≤ n ∧ n < 256) → ∃ l : List ColT, l.length = m ∧ l.flatMap encC = vs ∧ ∀ c ∈ l, okC c
 | 0, vs, hl, _ => ⟨[], rfl, by
  cases vs with
  | nil => rfl
  | cons a r => simp at hl, by simp⟩
 | m + 1, vs, hl, h => by
  obtain ⟨n0, e0, b0⟩ := h 0 (by omega)
  obtain ⟨n1, e1, b1⟩ := h 1 (by omega)
  obtain ⟨n2, e2, b2⟩ := h 2 (by omega)
  obtain ⟨n3, e3, b3⟩ := h 3 (by omega)
  rcases vs with _ | ⟨c0, _ | ⟨c1, _ | ⟨c2, _ | ⟨c3, r⟩⟩⟩⟩
  · simp at e0
  · simp at e1
  · simp at e2
  · simp at e3
  · simp at e0 e1 e2 e3
    subst e0 e1 e2 e3
    obtain ⟨l, h1, h2, h3⟩ := cols_of m r (by simp at hl; omega) fun k hk => by
     obtain ⟨n, e, b⟩ := h (k + 4) (by omega)
     exact ⟨n, by simpa using e, b⟩
    refine ⟨⟨n0, n1, n2, n3⟩ :: l, by simp [h1], by simp [h2, encC], fun c hc => ?_⟩
    rcases List.mem_cons.1 hc with rfl | hc
    · exact ⟨⟨b0, b1⟩, b2, b3⟩
    · exact h3 c hc
section
variable {H : Type} {enc : TypeId × Value → H} {P : Program} {w : World} {base : Nat} {spare : Nat → Bool} {held : Bool}
theorem field_okWide {r : Reach} {b0 : Nat} {t u e : TypeId} {ts : List TypeId} (ht : P.cellTypes P.depth t = some ts) {cs : Array Value} (h : Row.okWide P w r b0 t cs) {i : Nat} {v : Value} (hv : cs[i]? = some v) (hu : ts[i % ts.length]? = some u) (hs : P.underlying u = some (.slice e)) : Value.okWide P w r b0 u v := by
 obtain ⟨ts', h1, _, h2⟩ := h
 rw [ht] at h1
 cases h1
 obtain ⟨u', h3, h4⟩ := h2 i v hv
 rw [hu] at h3
 cases h3
 unfold Value.okWide
 rw [hs]
 exact h4
end
end Go.Proofs.YtgdcfkbimkclaaaGreatDoor
/- Rows: arguments of whole numbers. -/
namespace Go.Proofs.YtgdcfkbimkclaaaGreatDoor
open Go.ChangeShapes Go.WideShapes Go.ChangeAt Go.RowKit
/- Rows: a colour as an argument. -/
theorem flatCol : flat Tryz.prog 5 26 = some (List.replicate 4 (.int .u8)) := by kernel_rfl
end Go.Proofs.YtgdcfkbimkclaaaGreatDoor
/- Loads and stores of whole arrays: cells that are never written out. -/
namespace Go.Proofs.YtgdcfkbimkclaaaGreatDoor
open Go.RowKit Go.Shelf
section
variable {F : Fence} {n : Nat} {P : Program} {w : World} {o : Oper} {a : Act} {K : Act → World → Prop} {Q : Exit → Act → World → Prop}
theorem opIn_load (ty : TypeId) (x : Operand) (ho : o.op = .load ty x) (g : Nat) (hx : a.eval x = .pointer (some ⟨g, 0, none⟩)) (t : TypeId) (cs : Array Value) (fr : Nat × Nat) (d : TypeDesc) (hg : w.heap[g]? = some (.cells cs t fr))
 (hu : P.underlying ty = some d) (hd : (match d with | .struct _ | .array _ _ => true | _ => false) = true) (hi : (P.info? ty).map (·.size) = some cs.size) (hK : K (a.put o.dst (.agg cs)) w) : o.wpIn F n P a w K Q := by
 unfold Oper.wpIn
 refine ⟨?_, ?_⟩
 · simp [Oper.about, ho]
 · rw [Oper.semAt_plain F _ _ (by rw [ho]; intro c hc; cases hc)]
   simp only [execOp, ho, hx, Instr.loadAt, Instr.sureAddr, Sem.run_bind, Sem.run_pure, Result.andThen_ok, run_loadVar_row w g t ty cs fr d hg hu hd hi]
   exact hK
theorem opIn_load_mid (ty : TypeId) (x : Operand) (ho : o.op = .load ty x) (g off : Nat) (hx : a.eval x = .pointer (some ⟨g, off, none⟩)) (cs : List Value) (d : TypeDesc) (hc : w.rangeAt g off cs)
 (hu : P.underlying ty = some d) (hd : d.isRow = true) (hi : (P.info? ty).map (·.size) = some cs.length) (hK : K (a.put o.dst (.agg cs.toArray)) w) : o.wpIn F n P a w K Q := by
 unfold Oper.wpIn
 refine ⟨?_, ?_⟩
 · simp [Oper.about, ho]
 · rw [Oper.semAt_plain F _ _ (by rw [ho]; intro c hc; cases hc)]
   simp only [execOp, ho, hx, Instr.loadAt, Instr.sureAddr, Sem.run_bind, Sem.run_pure, Result.andThen_ok, run_loadVar_mid w g off ty cs d hc hu hd hi]
   exact hK
theorem opIn_store (ty : TypeId) (x y : Operand) (ho : o.op = .store ty x y) (g : Nat) (t : TypeId) (old cells : Array Value) (hx : a.eval x = .pointer (some ⟨g, 0, none⟩)) (hy : a.eval y = .agg cells) (hg : w.heap[g]? = some (.cells old t (0, 0)))
 (hi : (P.info? ty).map (·.size) = some cells.size) (hs : old.size = cells.size) (h1 : cells.all (·.oneCell') = true) (hK : K (a.put o.dst undef) (w.setRow g cells)) : o.wpIn F n P a w K Q := by
 unfold Oper.wpIn
 refine ⟨?_, ?_⟩
 · simp [Oper.about, ho]
 · rw [Oper.semAt_plain F _ _ (by rw [ho]; intro c hc; cases hc)]
   simp only [execOp, ho, hx, hy, Instr.storeAt, Instr.sureAddr, Sem.run_bind, Sem.run_pure, Result.andThen_ok, run_storeVar_row w g t ty old cells hg hi hs h1]
   exact hK
end
/-- A whole block is written. -/
theorem St.putRow {w0 x : World} {p : Nat} {c c' : Array Value} {t : TypeId} {f : Nat × Nat} {pre post : List It} (h : St w0 (pre ++ .blk p (.cells c t f) :: post) x) (hpre : ∀ i ∈ pre, ∃ b ob, i = .blk b ob) :
 St w0 (pre ++ .blk p (.cells c' t f) :: post) (x.setRow p c') := by
 have hp : x.heap[p]? = some (.cells c t f) := h.ok (.blk p (.cells c t f)) (List.mem_append.2 (.inr (by simp)))
 exact St.set h hpre (setRow_heap x p c c' t f hp) (fun j hj => setRow_other x p j c' hj) ⟨rfl, rfl, rfl, by simp, fun k hk => setRow_other x p k c' (by omega)⟩
theorem heap_set4 {w : World} {p : Nat} {t : TypeId} {f : Nat × Nat} {a b c d : Value} (x y z u : Value) (hp : w.heap[p]? = some (.cells #[a, b, c, d] t f)) :
 ((((w.setCell ⟨p, 0, none⟩ x).setCell ⟨p, 1, none⟩ y).setCell ⟨p, 2, none⟩ z).setCell ⟨p, 3, none⟩ u).heap[p]? = some (.cells #[x, y, z, u] t f) :=
 h7s (h7s (h7s (h7s hp x) y) z) u
theorem fill4 {n₀ : Nat} {w : World} {p : Nat} {t : TypeId} {f : Nat × Nat} {a b c d x y z u : Value} (hn : n₀ ≤ p) (hx : w.heap[p]? = some (.cells #[a, b, c, d] t f) ∨ w.heap[p]? = some (.cells #[x, y, z, u] t f)) :
 FillC n₀ (.cells #[a, b, c, d] t f) (.cells #[x, y, z, u] t f) w ((((w.setCell ⟨p, 0, none⟩ x).setCell ⟨p, 1, none⟩ y).setCell ⟨p, 2, none⟩ z).setCell ⟨p, 3, none⟩ u) ∧ ((((w.setCell ⟨p, 0, none⟩ x).setCell ⟨p, 1, none⟩ y).setCell ⟨p, 2, none⟩ z).setCell ⟨p, 3, none⟩ u).heap[p]? = some (.cells #[x, y, z, u] t f) := by
 have hs : ((((w.setCell ⟨p, 0, none⟩ x).setCell ⟨p, 1, none⟩ y).setCell ⟨p, 2, none⟩ z).setCell ⟨p, 3, none⟩ u).heap[p]? = some (.cells #[x, y, z, u] t f) := by
  rcases hx with hx | hx
  · exact heap_set4 x y z u hx
  · exact heap_set4 x y z u hx
 exact ⟨FillC.fill (((((B7 _ _).setCell (p := ⟨p, 0, none⟩) hn _).setCell (p := ⟨p, 1, none⟩) hn _).setCell (p := ⟨p, 2, none⟩) hn _).setCell (p := ⟨p, 3, none⟩) hn _) hx hs (fun j ob hj hne => h7o (h7o (h7o (h7o hj (fun e => hne e.symm) _) (fun e => hne e.symm) _) (fun e => hne e.symm) _) (fun e => hne e.symm) _), hs⟩
theorem either4 {w : World} {p : Nat} {t : TypeId} {f : Nat × Nat} {a b c d x y z u : Value} (hx : w.heap[p]? = some (.cells #[a, b, c, d] t f) ∨ w.heap[p]? = some (.cells #[x, y, z, u] t f)) : ∃ k l m n, w.heap[p]? = some (.cells #[k, l, m, n] t f) := by
 rcases hx with hx | hx
 · exact ⟨_, _, _, _, hx⟩
 · exact ⟨_, _, _, _, hx⟩
theorem size_T (T : TileT) : (Tryz.prog.info? 54).map (·.size) = some (encT T).toArray.size := by
 rw [List.size_toArray, encT_len]; kernel_rfl
theorem tileAtT_any (T : TileT) (x y : Nat) (hx : x < 8) (hy : y < 8) (c : ColT) (hc : T.1[y * 8 + x]? = some c) (w : World) :
 Calls Tryz.prog 76 #[.agg (encT T).toArray, .int .i64 x, .int .i64 y] w (Gives (.tuple #[c.val, .int .i64 0]) w) := tileAt_any T.1 T.2 x y hx hy c hc w
end Go.Proofs.YtgdcfkbimkclaaaGreatDoor
