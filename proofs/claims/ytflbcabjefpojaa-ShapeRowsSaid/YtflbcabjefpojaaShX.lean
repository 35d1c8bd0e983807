/- Layer 6: sorted. -/
import Derived.Test.YtflbcabjefpojaaShV
import Derived.Test.YtflbcabjefpojaaSortI
namespace Go.Proofs.Ytflbcabjefpojaa
set_option linter.unusedSimpArgs false
set_option linter.unusedVariables false
open Go.RowKit Go.Shelf Go.Maps

theorem lay_sortI : Go.Proofs.SlLaysM.n5 Try.prog ⟨fun | 5 => 64 | 7 => 67 | 8 => 66 | 10 => 78 | 11 => 79 | 12 => 80 | 13 => 81 | 14 => 82 | 15 => 83 | 16 => 84 | 17 => 85 | 18 => 86 | 19 => 76 | 20 => 77 | 30 => 92 | 31 => 88 | 32 => 89 | 33 => 93 | 34 => 94 | 35 => 62 | 40 => 96 | n => n, fun | 0 => 0 | 3 => 3 | 4 => 4 | 5 => 5 | 9 => 9 | 22 => 99 | 23 => 99 | 25 => 3 | 32 => 107 | 35 => 110 | 36 => 111 | 41 => 115 | 44 => 118 | 46 => 120 | 53 => 126 | 57 => 130 | 63 => 134 | 64 => 94 | n => n, fun | n => n⟩ := {
  mixed := by kernel_rfl
  f5 := ⟨Try.f64.name, by decide, Try.func64.trans (congrArg some (by kernel_rfl))⟩
  f7 := ⟨Try.f67.name, by decide, Try.func67.trans (congrArg some (by kernel_rfl))⟩
  f8 := Try.func66.trans (congrArg some (by kernel_rfl))
  f10 := ⟨Try.f78.name, by decide, Try.func78.trans (congrArg some (by kernel_rfl))⟩
  f11 := ⟨Try.f79.name, by decide, Try.func79.trans (congrArg some (by kernel_rfl))⟩
  f12 := ⟨Try.f80.name, by decide, Try.func80.trans (congrArg some (by kernel_rfl))⟩
  f13 := ⟨Try.f81.name, by decide, Try.func81.trans (congrArg some (by kernel_rfl))⟩
  f14 := ⟨Try.f82.name, by decide, Try.func82.trans (congrArg some (by kernel_rfl))⟩
  f15 := ⟨Try.f83.name, by decide, Try.func83.trans (congrArg some (by kernel_rfl))⟩
  f16 := ⟨Try.f84.name, by decide, Try.func84.trans (congrArg some (by kernel_rfl))⟩
  f17 := ⟨Try.f85.name, by decide, Try.func85.trans (congrArg some (by kernel_rfl))⟩
  f18 := ⟨Try.f86.name, by decide, Try.func86.trans (congrArg some (by kernel_rfl))⟩
  f19 := Try.func76.trans (congrArg some (by kernel_rfl))
  f20 := Try.func77.trans (congrArg some (by kernel_rfl))
  f30 := ⟨Try.f92.name, by decide, Try.func92.trans (congrArg some (by kernel_rfl))⟩
  f31 := Try.func88.trans (congrArg some (by kernel_rfl))
  f32 := Try.func89.trans (congrArg some (by kernel_rfl))
  f33 := ⟨Try.f93.name, by decide, Try.func93.trans (congrArg some (by kernel_rfl))⟩
  f34 := ⟨Try.f94.name, by decide, Try.func94.trans (congrArg some (by kernel_rfl))⟩
  f35 := ⟨Try.f62.name, by decide, Try.func62.trans (congrArg some (by kernel_rfl))⟩
  f40 := ⟨Try.f96.name, by decide, Try.func96.trans (congrArg some (by kernel_rfl))⟩
  t0 := Try.underlying0
  a0 := Try.isAgg0
  z0 := Try.sizeOf0
  v0 := Try.zeroValue0
  t3 := Try.underlying3
  a3 := Try.isAgg3
  z3 := Try.sizeOf3
  v3 := Try.zeroValue3
  t4 := Try.underlying4
  a4 := Try.isAgg4
  z4 := Try.sizeOf4
  v4 := Try.zeroValue4
  t5 := Try.underlying5
  a5 := Try.isAgg5
  z5 := Try.sizeOf5
  v5 := Try.zeroValue5
  t9 := Try.underlying9
  a9 := Try.isAgg9
  z9 := Try.sizeOf9
  v9 := Try.zeroValue9
  t22 := Try.underlying99
  a22 := Try.isAgg99
  z22 := Try.sizeOf99
  v22 := Try.zeroValue99
  t23 := Try.underlying99
  a23 := Try.isAgg99
  z23 := Try.sizeOf99
  v23 := Try.zeroValue99
  t25 := Try.underlying3
  a25 := Try.isAgg3
  z25 := Try.sizeOf3
  v25 := Try.zeroValue3
  t32 := Try.underlying107
  a32 := Try.isAgg107
  z32 := Try.sizeOf107
  v32 := Try.zeroValue107
  t35 := Try.underlying110
  a35 := Try.isAgg110
  z35 := Try.sizeOf110
  v35 := Try.zeroValue110
  t36 := Try.underlying111
  a36 := Try.isAgg111
  z36 := Try.sizeOf111
  v36 := Try.zeroValue111
  t41 := Try.underlying115
  a41 := Try.isAgg115
  z41 := Try.sizeOf115
  v41 := Try.zeroValue115
  t44 := Try.underlying118
  a44 := Try.isAgg118
  z44 := Try.sizeOf118
  v44 := Try.zeroValue118
  t46 := Try.underlying120
  a46 := Try.isAgg120
  z46 := Try.sizeOf120
  v46 := Try.zeroValue120
  t53 := Try.underlying126
  a53 := Try.isAgg126
  z53 := Try.sizeOf126
  v53 := Try.zeroValue126
  t57 := Try.underlying130
  a57 := Try.isAgg130
  z57 := Try.sizeOf130
  v57 := Try.zeroValue130
  t63 := Try.underlying134
  a63 := Try.isAgg134
  z63 := Try.sizeOf134
  v63 := Try.zeroValue134
  t64 := Try.underlying94
  a64 := Try.isAgg94
  z64 := Try.sizeOf94
  v64 := Try.zeroValue94 }

theorem rowI : RowT Try.prog 99 3 1 8 := .of (z := .int .i64 0) Try.underlying99 (by kernel_rfl) rfl (by decide)
def encI (y : Int) : List Value := [.int .i64 y]
theorem encI_len (y : Int) : (encI y).length = 1 := rfl
theorem encI_one (y : Int) : ∀ u ∈ encI y, u.oneCell' = true := by
  intro u hu
  simp [encI] at hu
  subst hu
  rfl
theorem encI_map (l : List Int) : l.flatMap encI = l.map (Value.int .i64) := by
  induction l with
  | nil => rfl
  | cons a l ih => simp [encI, ih]
theorem ownsMap_size {H : Type} {w : World} {P : Program} {k : TypeId} {R : Value → Option (DataW H × List MemPlace)} {b n : Nat} {D : DataW H} (h : w.ownsMap P k R b n D) : Maps.size D ≤ n := by
  obtain ⟨es, clock, _, _, hs, rfl⟩ := h
  have := (Go.WideShapes.sorted_perm (es.toList.map (Go.WideElems.rg P k R))).length_eq
  rw [size_eq, this]
  simpa using hs
/-- Other blocks are written. -/
theorem StO.other {α : Type} {w0 x y : World} {its : List It} {base : Nat} {e : TypeId} {k : Nat} {enc : α → List Value} {v : Value} {L : List α} {r : Nat} (h : StO w0 its base e k enc v L x) (hg : x.grownBy y (some r)) (h0 : w0.heap.size ≤ r) (ht : ∀ i ∈ its, i.top ≤ r) (hv : v.ownBlock ≠ some r) : StO w0 its base e k enc v L y :=
  ⟨h.st.grown (base := r) (fun j e => by cases e; exact Nat.le_refl _) h0 ht hg, h.row.kept hg (.inr hv), h.low, h.top, Nat.le_trans h.hi hg.size⟩
theorem sameKey_int (a b : Int) : (Lit.int .i64 a).sameKey (.int .i64 b) = decide (a = b) := by
  by_cases h : a = b
  · subst h; simp [Lit.sameKey]
  · simp [Lit.sameKey, h]

/-- The keys. -/
structure KeysP (D : DataW Value) (ks : List Int) (left : Lit → Bool) : Prop where
  left_ : ∀ y, left (.int .i64 y) = true ↔ Maps.has D (.int .i64 y) = true ∧ y ∉ ks
  nd : ks.Nodup
  has : ∀ y ∈ ks, Maps.has D (.int .i64 y) = true
theorem KeysP.step {D : DataW Value} {ks : List Int} {left : Lit → Bool} (h : KeysP D ks left) {x : Int} (hx : left (.int .i64 x) = true) : KeysP D (ks ++ [x]) (fun z => left z && !z.sameKey (.int .i64 x)) := by
  obtain ⟨h1, h2⟩ := (h.left_ x).1 hx
  refine ⟨fun y => ?_, List.nodup_append.2 ⟨h.nd, by simp, fun a ha b hb => ?_⟩, fun y hy => ?_⟩
  · rw [Bool.and_eq_true, h.left_ y, sameKey_int]
    simp only [Bool.not_eq_true', decide_eq_false_iff_not, List.mem_append, List.mem_singleton, not_or]
    constructor
    · rintro ⟨⟨a, b⟩, c⟩; exact ⟨a, b, c⟩
    · rintro ⟨a, b, c⟩; exact ⟨⟨a, b⟩, c⟩
  · simp at hb; subst hb; exact fun e => h2 (by rw [← e]; exact ha)
  · rcases List.mem_append.1 hy with hy | hy
    · exact h.has y hy
    · simp at hy; subst hy; exact h1

set_option maxRecDepth 100000 in
set_option maxHeartbeats 1000000 in
theorem sorted_any (b n : Nat) (D : DataW Value) (hn : n < 1000000000) (w : World) (h : w.ownsMap Try.prog 3 heldR b n D) :
    Calls Try.prog 59 #[.map (some b)] w fun e w' => ∃ (v : Value) (ks : List Int), e = .returned v ∧ w'.ownsRow w.heap.size 3 1 v ks.length (ks.map (Value.int .i64)) ∧ Below w.heap.size w w' ∧ ks.length ≤ n ∧
      ks.Pairwise (fun x y => x < y) ∧ ∀ y, y ∈ ks ↔ Maps.has D (.int .i64 y) = true := by
  have HM := Lib.hid h
  have HN := Lib.hid hn
  have HSZ := Lib.hid (ownsMap_size h)
  clear h hn
  go_enter Try.func59, Try.ntmps59
  go_wp2_with (first | (at_range; refine wpList_range_own _ rfl _ _ rfl _ _ keyedI Try.underlying74 heldR b n D rfl HM.out ?_; intro w0 hrg0 hg0 hs0))
  go_frame
  obtain ⟨N1, hN1⟩ : ∃ N1, w0.heap.size = N1 := ⟨_, rfl⟩
  have hb0 : Below w.heap.size w w0 := ⟨hg0.os, hg0.tape, hg0.output, hg0.size, fun k hk => hg0.block k hk (by simp)⟩
  have HO := Lib.hid (StO.start ((St.start w).below hb0) 3 1 encI)
  rw [hN1] at HO
  have HNN := Lib.hid (show w.heap.size < N1 by omega)
  have HK0 := Lib.hid (show KeysP D [] (Maps.has D) from ⟨fun y => by simp, List.nodup_nil, by simp⟩)
  have HRG := Lib.hid hrg0
  have HSZ0 := Lib.hid (show ([] : List Int).length + Maps.size D ≤ n by have := HSZ.out; simpa using this)
  clear hrg0 hg0 hs0 hb0 hN1
  go_loopw [3] (fun v wr => ∃ (ks : List Int) (left : Lit → Bool) (cnt : Nat), wr.ranges Try.prog 3 heldR b w.heap.size n D left cnt ∧ StO w [] N1 3 1 encI v ks wr ∧ KeysP D ks left ∧ ks.length + cnt ≤ n) (fun _ wr => wr.rangeLeft b w.heap.size)
  case atStart => exact ⟨[], _, _, HRG.out, HO.out, HK0.out, HSZ0.out⟩
  case round =>
    obtain ⟨ks, left, cnt, hrg, ho, hk, hcnt⟩ := hrel
    clear HRG HO HK0 HSZ0
    have HRG := Lib.hid hrg
    have HO := Lib.hid ho
    have HK := Lib.hid hk
    have HC := Lib.hid hcnt
    clear ho hk hcnt
    have HBL := Lib.hid (show ks.length < 1000000000 by have := HC.out; have := HN.out; omega)
    have hvr : ∀ j, u3.ownBlock = some j → N1 ≤ j := fun j hj => (HO.out.row.lt j hj).1
    have HVR := Lib.hid hvr
    clear hvr
    go_wp2_with (first | (at_next; refine wpList_next_ranges _ rfl _ rfl _ keyedI heldR (Value.int .i64) (fun v => v) (fun key kl hkey => by obtain ⟨x, hx, _⟩ := Maps.keyOf_int_inv Try.underlying3 hkey; exact ⟨x, hx⟩) (fun v y _ => ⟨v, rfl⟩) b _ n D left cnt rfl hrg ?_ ?_) | fail)
    · intro hc0 hl0
      have hks : ∀ y, y ∈ ks ↔ Maps.has D (.int .i64 y) = true := fun y => ⟨HK.out.has y, fun h => by
        refine Classical.byContradiction fun hn => ?_
        have := (HK.out.left_ y).2 ⟨h, hn⟩
        rw [hl0] at this
        cases this⟩
      have HKS := Lib.hid hks
      have HC0 := Lib.hid hc0
      have hrow := HO.out.row
      rw [encI_map] at hrow
      have HSO := Lib.hid (sortInts lay_sortI u3 ks N1 wr hrow (by have := HBL.out; omega))
      clear hc0 hl0 hks hrow
      go_wp2_with fail
      refine HSO.out.mono ?_
      rintro e w4 ⟨rfl, hr4, hg4⟩
      have HR := Lib.hid (And.intro hr4 hg4)
      clear hr4 hg4 HSO
      go_wp2_with fail
      go_ret
      refine ⟨u3, ks.mergeSort fun x y => decide (x ≤ y), rfl, ?_, ?_, ?_, ?_, ?_⟩
      · rw [List.length_mergeSort]
        exact ownsRow_mono HR.out.1 (Nat.le_of_lt HNN.out)
      · exact HO.out.st.low.grown HR.out.2 HO.out.st.low.size (fun j hj => Nat.le_trans (Nat.le_of_lt HNN.out) (HVR.out j hj))
      · rw [List.length_mergeSort]
        have := HC.out
        omega
      · have h1 := List.pairwise_mergeSort (le := fun x y : Int => decide (x ≤ y)) (fun a b c h1 h2 => by simp at *; omega) (fun a b => by simp; omega) ks
        have h2 : (ks.mergeSort fun x y => decide (x ≤ y)).Nodup := (List.mergeSort_perm ks _).nodup_iff.2 HK.out.nd
        refine (List.Pairwise.and h1 h2).imp fun {a b} h => ?_
        have h3 : a ≤ b := by simpa using h.1
        have h4 : a ≠ b := h.2
        omega
      · intro y
        rw [List.mem_mergeSort]
        exact HKS.out y
    · intro x c kl yD yP w4 cnt' hkey hlk hR hat hrg1 hlt hg1 hs1 hen
      obtain ⟨x', ex, rfl, _⟩ := Maps.keyOf_int_inv Try.underlying3 hkey
      cases ex
      have HK1 := Lib.hid (HK.out.step hlk)
      have HO1 := Lib.hid (HO.out.other hg1 (Nat.le_refl _) (by simp) (fun e => by have := HVR.out _ e; have := HNN.out; omega))
      have HRG1 := Lib.hid hrg1
      have HLT := Lib.hid hlt
      have HM0 := Lib.hid hrg.left_eq
      clear hkey hlk hR hat hrg1 hlt hg1 hs1 HO HK HRG hrg
      go_wp2_with (at_builtin; refine wpList_app1g (enc := encI) (L := ks) rowI encI_len encI_one HO1.out (Below.refl _ _) x ks.length rfl HBL.out (by decide) _ _ rfl rfl rfl _ rfl rfl ?_; intro v' w5 ho5 hsh hg5; have HO5 := Lib.hid ho5; have HG5 := Lib.hid hg5; clear ho5 hsh hg5)
      have hrg5 := HRG1.out.kept HG5.out (by
        intro e
        have h1 := HVR.out _ e.symm
        have h2 := HRG1.out.ne
        have h3 := HNN.out
        have h4 := HM.out.lt
        omega) (by intro e; have := HVR.out _ e.symm; have := HNN.out; omega)
      have HRG5 := Lib.hid hrg5
      clear hrg5 hen
      go_roundw
      case rel => exact ⟨ks ++ [x], _, cnt', HRG5.out, HO5.out, HK1.out, by have := HC.out; have := HLT.out; simp; omega⟩
      case measure => rw [HRG5.out.left_eq, HM0.out]; exact HLT.out
end Go.Proofs.Ytflbcabjefpojaa
