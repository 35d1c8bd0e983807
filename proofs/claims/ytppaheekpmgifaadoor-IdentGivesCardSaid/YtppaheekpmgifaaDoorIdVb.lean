/- Package ident: all, Rising. -/
import Derived.Test.YtppaheekpmgifaaDoorIdVa
import Derived.RangeFuncNested
namespace Go.Proofs.YtppaheekpmgifaaDoor
set_option linter.unusedSimpArgs false
set_option linter.unusedVariables false
open Go.RowKit Go.Shelf
attribute [local go_sem] Oper.semAt_some

set_option maxRecDepth 100000 in
set_option maxHeartbeats 2000000 in
theorem pairs1_zero (n : Nat) (hn : 1 ≤ n) (l Bs : Nat) (a : Option Addr) (cap : Nat) (ids : List IdT) (hz : ids.length = 0) (J Jx : List (Fin (ids.length - 1)) → World → Prop)
    (W : World) (hc : W.cell? ⟨Bs, 0, none⟩ = some (.slice a 0 cap)) (h0 : J [] W) :
    CallsIn Fence.wide n Tryd.prog 72 #[.func (.yield l) #[] #[], .pointer (some ⟨Bs, 0, none⟩)] W fun e W' => (∃ v, e = .returned v) ∧
      ((∃ ys, ys = List.finRange (ids.length - 1) ∧ J ys W') ∨ (∃ pre, pre <+: List.finRange (ids.length - 1) ∧ Jx pre W')) := by
  have e0 : [] = List.finRange (ids.length - 1) := by
    have := firsts_all (ids.length - 1)
    rw [← this]
    simp [firsts, hz]
  have H0 := Lib.hid h0
  have E0 := Lib.hid e0
  clear h0 e0 hz
  refine callsIn_of_wp Tryd.func72 rfl trivial ?_ rfl
  simp only [Tryd.ntmps72, List.size_toArray, List.length_cons, List.length_nil, Nat.reduceAdd, Nat.reduceSub, Array.replicate_succ, Array.replicate_zero, List.push_toArray, List.append_toArray, List.nil_append, List.cons_append]
  gi_wp2
  apply wpIn_scope
  gi_wp2
  apply wpIn_label
  gi_wp2
  gi_loopw [6] (fun i wr => i = .int .i64 0 ∧ wr = W) (fun _ _ => 0)
  case atStart => exact ⟨rfl, rfl⟩
  case round =>
    obtain ⟨rfl, rfl⟩ := hrel
    gi_wp2
    rw [Exit.noGoto_normal]
    go_end0
    exact ⟨⟨_, rfl⟩, .inl ⟨_, E0.out, H0.out⟩⟩

/-- 'for a, b := range pairs' over an iterator's contract: the assignments lay boxes. -/
theorem range_iterH {P : Program} {n : Nat} {g : Operand} {ps : Array Tmp} {assign body : Code} {Q : Exit → Act → World → Prop} {a : Act} {w : World}
    {gf : Nat} {lb : Array Value} {N : Nat} {bs : List Nat} {encs : Fin N → Array Value} {w0 : World} (hit : Iter P gf lb N encs bs w0) (hn : 2 ≤ n)
    (hg : a.eval g = .func (.func gf) #[] lb) (eg : ∀ args w, (callFunc gf args).run P w = .ok (.enter gf args) w)
    (hn0 : ∀ b ∈ bs, b < w.heap.size) (hb0 : Below w0.heap.size w0 w) (hps : ∀ x, (encs x).size = ps.size) (pargs : Fin N → List (Tmp × Value)) (hpa : ∀ x, (ps.zip (encs x)).toList = pargs x)
    (I : List (Fin N) → World → Prop) (Ix : Code → List (Fin N) → World → Prop) (hI : OwnFrom w.heap.size I) (hIx : ∀ c, OwnFrom w.heap.size (Ix c)) (h0 : I [] w)
    (Ax : Fin N → Act → World → Prop) (hAx : ∀ x a', OwnFrom w.heap.size (fun (_ : Unit) W => Ax x a' W))
    (hassign : ∀ (l : Nat) (pre : List (Fin N)) (x : Fin N) (W : World) (K : Act → World → Prop), I pre W → (∀ a' W', KeepsFrom w.heap.size W W' → KeepsAt bs W W' → I pre W' → Ax x a' W' → K a' W') →
      assign.wpIn (Fence.wide.inRound l) (n - 1 - 1) P (Exit.then K (fun _ _ _ => False)) (loopAct a (pargs x)) W)
    (hbody : ∀ (l : Nat) (pre : List (Fin N)) (x : Fin N) (a' : Act) (W : World), I pre W → Ax x a' W → pre.length < N → body.wpIn (Fence.wide.inRound l) (n - 1 - 1) P (ownPostG w.heap.size (KeepsAt bs) I Ix (pre ++ [x]) W) a' W)
    (hdone : ∀ (D : Nat) (W : World), w.heap.size ≤ D → I (List.finRange N) W → W.heap[D]? = some (.deferred (some [])) → Q .normal { a with defers := { target := .collected D, args := #[] } :: a.defers } W)
    (hstop : ∀ (D : Nat) (c : Code) (pre : List (Fin N)) (W : World), w.heap.size ≤ D → pre <+: List.finRange N → Ix c pre W → W.heap[D]? = some (.deferred (some [])) → c.wpIn Fence.wide n P Q { a with defers := { target := .collected D, args := #[] } :: a.defers } W) :
    (Code.rangeFunc g ps assign body).wpIn Fence.wide n P Q a w :=
  wpIn_rangeFunc_ownH rfl (by omega) hg trivial eg (hit (n - 1) (by omega)) (fun h k => h.trans k) (keepsAt_b hn0) hb0 hps I Ix hI hIx h0 Ax hAx (fun l pre x W K hI hK => by
    have h := hassign l pre x W K hI hK
    unfold loopAct at h
    rw [← Array.foldl_toList, hpa x]
    exact h) (fun l pre x a' W _ _ h1 h2 h3 => hbody l pre x a' W h1 h2 h3) (fun D xs W h e => by subst e; exact hdone D W h) hstop

theorem pairs_any (a : Option Addr) (n cap : Nat) (w : World) :
    Calls Tryd.prog 59 #[.slice a n cap] w fun e w' => e = .returned (.func (.func 72) #[] #[.pointer (some ⟨w.heap.size, 0, none⟩)]) ∧ w.alloc (.cells #[.slice a n cap] 22) = w' := by
  go_enter Tryd.func59, Tryd.ntmps59
  go_wp2
  go_ret
  exact ⟨rfl, rfl⟩

/-- Each stands ahead of the next one. -/
def risesB (ids : List IdT) : Bool := (List.finRange (ids.length - 1)).all fun k => idLess (ids[k.1]'(by omega)) (ids[k.1 + 1]'(by omega))

theorem pairs_iter (Bs : Nat) (bs : List Nat) (a : Option Addr) (cap : Nat) (ids : List IdT) (hlen : ids.length ≤ 1000000000) (w : World) (hbs : ∀ c ∈ bs, c < w.heap.size) (hb1 : Bs ∈ bs) (hb2 : ∀ b off, a = some ⟨b, off, none⟩ → b ∈ bs)
    (hc : w.cell? ⟨Bs, 0, none⟩ = some (.slice a ids.length cap)) (hh : Elems w (.slice a ids.length cap) ids.length 3 (rowC encId ids)) :
    Iter Tryd.prog 72 #[.pointer (some ⟨Bs, 0, none⟩)] (ids.length - 1) (pairArgs ids) bs w := by
  intro n hn1 l J Jx W hW hJ _ hY h0
  have hcW := (hW.cell (p := ⟨Bs, 0, none⟩) (hbs Bs hb1)).trans hc
  by_cases hz : ids.length = 0
  · rw [hz] at hcW
    exact pairs1_zero n hn1 l Bs a cap ids hz J Jx W hcW h0
  · rcases hh with ⟨e, h⟩ | ⟨b, off, cap', e, hlt, hcs⟩
    · exact absurd h hz
    · cases e
      refine pairs1_some n hn1 l Bs bs b off cap ids (by omega) hlen J Jx (fun pre x y h hb => hJ pre x y none h (below_grown hb) (by simp)) hb1 (hb2 b off rfl) hY W (fun c hc => Nat.lt_of_lt_of_le (hbs c hc) hW.size) hcW ?_ h0
      exact Elems.below (.inr ⟨b, off, cap, rfl, hlt, hcs⟩) hW

theorem keepsFrom_below {B : Nat} {x y : World} (h : Below x.heap.size x y) : KeepsFrom B x y := (show KeepsOthers x y from ⟨h.size, fun j o hj _ => (h.block j (block_lt hj)).trans hj⟩).from B

set_option maxRecDepth 100000 in
set_option maxHeartbeats 2000000 in
theorem all_any (sv : Value) (ids : List IdT) (hlen : ids.length ≤ 1000000000) (w : World) (h : Elems w sv ids.length 3 (rowC encId ids)) :
    Calls Tryd.prog 49 #[sv, .func (.func 50) #[] #[]] w (Gives (.bool (risesB ids)) w) := by
  obtain ⟨a, cap, rfl, _⟩ := h.shape
  refine (callsIn_wide (n := 10)).1 ?_
  refine callsIn_of_wp_marks Tryd.func49 rfl trivial ?_ rfl
  simp only [Tryd.ntmps49, List.size_toArray, List.length_cons, List.length_nil, Nat.reduceAdd, Nat.reduceSub, Array.replicate_succ, Array.replicate_zero, List.push_toArray, List.append_toArray, List.nil_append, List.cons_append]
  have H := Lib.hid h
  clear h
  gi_wp2_with (gi_at_call 59; refine (callsIn_wide.2 (pairs_any _ _ _ _)).mono ?_; rintro e w' ⟨rfl, rfl⟩)
  obtain ⟨w1, hw1⟩ : ∃ w1 : World, ((w.alloc (.cells #[.func (.func 50) #[] #[]] 63)).alloc (.cells #[.bool false] 4)).alloc (.cells #[.slice a ids.length cap] 22) = w1 := ⟨_, rfl⟩
  have hB : Below w.heap.size w w1 := by rw [← hw1]; (repeat (first | exact Below.refl _ _ | assumption | refine Below.alloc ?_ (by first | omega | (simp; done) | (simp; omega)) _ | refine Below.setCell ?_ (by first | omega | (simp; done) | (simp; omega)) _ | refine Below.drew ?_))
  have hsz : w1.heap.size = w.heap.size + 3 := by rw [← hw1]; simp
  have b3 : w1.heap[w.heap.size]? = some (.cells #[.func (.func 50) #[] #[]] 63 (0, 0)) := by rw [← hw1]; exact heap_alloc_keeps (heap_alloc_keeps (newBlock _ _ _ rfl) _) _
  have b4 : w1.heap[w.heap.size + 1]? = some (.cells #[.bool false] 4 (0, 0)) := by rw [← hw1]; exact heap_alloc_keeps (newBlock _ _ _ (by simp)) _
  have b5 : w1.heap[w.heap.size + 1 + 1]? = some (.cells #[.slice a ids.length cap] 22 (0, 0)) := by rw [← hw1]; exact newBlock _ _ _ (by simp)
  rw [hw1]
  clear hw1
  have h1 := H.out.below hB
  have HB := Lib.hid hB
  have B3 := Lib.hid b3
  have B4 := Lib.hid b4
  have hbk : ∃ bb : Nat, bb < w1.heap.size ∧ ∀ b off, a = some ⟨b, off, none⟩ → b = bb := by
    cases a with
    | none => exact ⟨w.heap.size, by omega, fun _ _ h => by cases h⟩
    | some ad =>
      rcases h1 with ⟨e, _⟩ | ⟨b, off, cap', e, hlt, _⟩
      · cases e
      · cases e; exact ⟨b, hlt, fun b' off' h => by cases h; rfl⟩
  obtain ⟨bb, hbb, hbe⟩ := hbk
  have hit := pairs_iter (w.heap.size + 1 + 1) [w.heap.size + 1 + 1, bb] a cap ids hlen w1 (by intro c hc; simp at hc; omega) (by simp) (fun b off e => by simp [hbe b off e]) (cell_of_block b5 rfl) h1
  refine range_iterH hit (by omega) rfl (enters_of Tryd.func72 (by kernel_rfl) rfl) (by intro c hc; simp at hc; omega) (Below.refl _ _) (fun _ => rfl) (fun x => [(9, (ids[x.1]'(by omega)).val), (10, (ids[x.1 + 1]'(by omega)).val)]) (fun _ => by simp [pairArgs])
    (fun pre W => (∀ k ∈ pre, idLess (ids[k.1]'(by omega)) (ids[k.1 + 1]'(by omega)) = true) ∧ Below w1.heap.size w1 W)
    (fun c _ W => (c = .ret ∧ risesB ids = false) ∧ Below w.heap.size w W ∧ W.cell? ⟨w.heap.size + 1, 0, none⟩ = some (.bool false))
    (OwnFrom.and (ownFrom_pure _ _) (ownFrom_below (Nat.le_refl _) (Nat.le_refl _)))
    (fun c => OwnFrom.and (ownFrom_pure _ _) (OwnFrom.and (ownFrom_below (Nat.le_refl _) (by omega)) (ownFrom_cell _ _)))
    ⟨by simp, Below.refl _ _⟩
    (fun x a' W => ∃ p q : Nat, a' = ⟨#[.slice a ids.length cap, .func (.func 50) #[] #[], undef, .pointer (some ⟨w.heap.size, 0, none⟩), .pointer (some ⟨w.heap.size + 1, 0, none⟩), .pointer (some ⟨p, 0, none⟩), .pointer (some ⟨q, 0, none⟩), .slice a ids.length cap, .func (.func 72) #[] #[.pointer (some ⟨w.heap.size + 1 + 1, 0, none⟩)], (ids[x.1]'(by omega)).val, (ids[x.1 + 1]'(by omega)).val, undef, undef, undef, undef, undef], []⟩ ∧
      (W.cell? ⟨p, 0, none⟩ = some (.int .u64 (ids[x.1]'(by omega)).time) ∧ W.cell? ⟨p, 1, none⟩ = some (.int .i64 (ids[x.1]'(by omega)).site) ∧ W.cell? ⟨p, 2, none⟩ = some (.int .u64 (ids[x.1]'(by omega)).seq)) ∧
      (W.cell? ⟨q, 0, none⟩ = some (.int .u64 (ids[x.1 + 1]'(by omega)).time) ∧ W.cell? ⟨q, 1, none⟩ = some (.int .i64 (ids[x.1 + 1]'(by omega)).site) ∧ W.cell? ⟨q, 2, none⟩ = some (.int .u64 (ids[x.1 + 1]'(by omega)).seq)))
    ?hAx ?assign ?body ?done ?stop
  case hAx =>
    rintro x a' s X Y row ⟨p, q, e, ⟨p0, p1, p2⟩, q0, q1, q2⟩ hg hr
    exact ⟨p, q, e, ⟨ownFrom_cell (β := Unit) _ _ () X Y row p0 hg hr, ownFrom_cell (β := Unit) _ _ () X Y row p1 hg hr, ownFrom_cell (β := Unit) _ _ () X Y row p2 hg hr⟩, ownFrom_cell (β := Unit) _ _ () X Y row q0 hg hr, ownFrom_cell (β := Unit) _ _ () X Y row q1 hg hr, ownFrom_cell (β := Unit) _ _ () X Y row q2 hg hr⟩
  case assign =>
    rintro l pre x W K ⟨hI, hb⟩ hK
    simp only [loopAct, IdT.val, List.foldl, List.cons_append, List.nil_append] at hK ⊢
    have HK := Lib.hid hK
    have HI := Lib.hid hI
    have HB2 := Lib.hid hb
    clear hK hI hb
    gi_wp2
    have hbB : Below W.heap.size W _ := ((Below.refl W.heap.size W).alloc (Nat.le_refl _) (.cells #[.int .u64 (ids[x.1]'(by omega)).time, .int .i64 (ids[x.1]'(by omega)).site, .int .u64 (ids[x.1]'(by omega)).seq] 27)).alloc (by simp) (.cells #[.int .u64 (ids[x.1 + 1]'(by omega)).time, .int .i64 (ids[x.1 + 1]'(by omega)).site, .int .u64 (ids[x.1 + 1]'(by omega)).seq] 27)
    have k1 := heap_alloc_keeps (World.alloc_heap_new W (.cells #[.int .u64 (ids[x.1]'(by omega)).time, .int .i64 (ids[x.1]'(by omega)).site, .int .u64 (ids[x.1]'(by omega)).seq] 27)) (.cells #[.int .u64 (ids[x.1 + 1]'(by omega)).time, .int .i64 (ids[x.1 + 1]'(by omega)).site, .int .u64 (ids[x.1 + 1]'(by omega)).seq] 27)
    have k2 := newBlock (W.alloc (.cells #[.int .u64 (ids[x.1]'(by omega)).time, .int .i64 (ids[x.1]'(by omega)).site, .int .u64 (ids[x.1]'(by omega)).seq] 27)) (.cells #[.int .u64 (ids[x.1 + 1]'(by omega)).time, .int .i64 (ids[x.1 + 1]'(by omega)).site, .int .u64 (ids[x.1 + 1]'(by omega)).seq] 27) (W.heap.size + 1) (by simp)
    have hzW := HB2.out.size
    exact HK.out _ _ (keepsFrom_below hbB) (KeepsAt.of_below hbB (by intro c hc; simp at hc; omega)) ⟨HI.out, HB2.out.trans (hbB.mono hzW)⟩ ⟨W.heap.size, W.heap.size + 1, rfl, ⟨cell_of_block k1 rfl, cell_of_block k1 rfl, cell_of_block k1 rfl⟩, cell_of_block k2 rfl, cell_of_block k2 rfl, cell_of_block k2 rfl⟩
  case body =>
    rintro l pre x a' W ⟨hI, hb⟩ ⟨p, q, rfl, ⟨p0, p1, p2⟩, q0, q1, q2⟩ hlt
    have c3 := cell_of_block (k := 0) ((hb.block _ (block_lt B3.out)).trans B3.out) rfl
    have HI := Lib.hid hI
    have HB2 := Lib.hid hb
    have hr := fun w => risingFn_any (ids[x.1]'(by omega)) (ids[x.1 + 1]'(by omega)) w
    simp only [cmpId_lt] at hr
    have hx : idLess (ids[x.1]'(by omega)) (ids[x.1 + 1]'(by omega)) = false → risesB ids = false := by
      intro hf
      unfold risesB
      rw [List.all_eq_false]
      exact ⟨x, List.mem_finRange _, by simp [hf]⟩
    obtain ⟨ls, hls⟩ : ∃ ls, idLess (ids[x.1]'(by omega)) (ids[x.1 + 1]'(by omega)) = ls := ⟨_, rfl⟩
    rw [hls] at hx
    simp only [hls] at hr
    have HR := Lib.hid hr
    have HX : ls = false → Hid (risesB ids = false) := fun h => Lib.hid (hx h)
    have HLS := Lib.hid hls
    clear hI hb hr hx hls
    unfold IdT.val at *
    gi_wp2_with fail
    refine ((callsIn_wide.2 (HR.out _)).inRound l).mono ?_
    rintro e W2 ⟨rfl, hb2⟩
    have hb3 := HB2.out.trans (hb2.mono HB2.out.size)
    have hzW := HB2.out.size
    have g4 := (hb3.block _ (block_lt B4.out)).trans B4.out
    have c4 := cell_of_block (k := 0) g4 rfl
    have f4 := free_of_block g4 0
    have hka : KeepsAt [w.heap.size + 1 + 1, bb] W W2 := KeepsAt.of_below hb2 (by intro c hc; simp at hc; omega)
    have HB3 := Lib.hid hb3
    have HB22 := Lib.hid hb2
    have HKA := Lib.hid hka
    clear hb2 hb3 g4 hka p0 p1 p2 q0 q1 q2 c3
    cases ls
    · gi_wp2
      refine ⟨((show KeepsOthers W W2 from ⟨HB22.out.size, fun j o hj _ => (HB22.out.block j (block_lt hj)).trans hj⟩).trans (KeepsOthers.setCell _ _ _)).from _, ⟨rfl, (HX trivial).out⟩, ?_, World.cell?_setCell_same _ _ _ c4⟩
      exact (HB.out.trans (HB3.out.mono HB.out.size)).setCell (p := ⟨w.heap.size + 1, 0, none⟩) (by simp) _
    · gi_wp2
      refine ⟨keepsFrom_below HB22.out, HKA.out, ?_, HB3.out⟩
      intro k hk
      rcases List.mem_append.1 hk with hk | hk
      · exact HI.out k hk
      · obtain rfl := List.mem_singleton.1 hk
        exact HLS.out
  case done =>
    rintro D W hD ⟨hI, hb⟩ hK
    have hall : risesB ids = true := by
      unfold risesB
      rw [List.all_eq_true]
      exact fun k hk => hI k hk
    have HALL := Lib.hid hall
    have g4 := (hb.block _ (block_lt B4.out)).trans B4.out
    have c4 := cell_of_block (k := 0) g4 rfl
    have f4 := free_of_block g4 0
    have hK2 := (KeepsOthers.setCell W ⟨w.heap.size + 1, 0, none⟩ (.bool true)).same D _ hK rfl
    have hc2 := World.cell?_setCell_same W ⟨w.heap.size + 1, 0, none⟩ (.bool true) c4
    have HBB := Lib.hid (HB.out.trans (hb.mono HB.out.size))
    clear hI hb g4 hall
    gi_wp2
    refine ret_marked rfl hK2 (v := .bool true) (by simp [results, Tryd.results49, go_sem, putObj_cell hc2 hK2]) ⟨by rw [HALL.out], ?_⟩
    exact below_putObj (HBB.out.setCell (p := ⟨w.heap.size + 1, 0, none⟩) (by simp) _) hK2 (by omega) _
  case stop =>
    rintro D c pre W hD _ ⟨⟨rfl, hI⟩, hb, hc⟩ hK
    rw [hI]
    gi_wp2
    refine ret_marked rfl hK (v := .bool false) (by simp [results, Tryd.results49, go_sem, putObj_cell hc hK]) ⟨rfl, ?_⟩
    exact below_putObj hb hK (by omega) _

set_option maxRecDepth 100000 in
theorem rising_any (sv : Value) (ids : List IdT) (hlen : ids.length ≤ 1000000000) (w : World) (h : Elems w sv ids.length 3 (rowC encId ids)) :
    Calls Tryd.prog 33 #[sv] w (Gives (.bool (risesB ids)) w) := by
  obtain ⟨a, cap, rfl, _⟩ := h.shape
  have H := Lib.hid (all_any _ ids hlen w h)
  clear h
  go_enter Tryd.func33, Tryd.ntmps33
  go_wp2_with fail
  refine H.out.mono ?_
  rintro e w2 ⟨rfl, hb⟩
  have HB := Lib.hid hb
  clear hb H
  go_wp2_with fail
  go_ret
  exact ⟨rfl, HB.out⟩
end Go.Proofs.YtppaheekpmgifaaDoor
